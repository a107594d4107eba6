/- The law HeapNeeds (the second form): for every input of bulk at most 1048576 it answers true, and what came in reads as it did. Its row, from the walk. -/
import Derived.Test.YtinejaganickpaaRows
import Derived.Test.YtinejaganickpaaLawHpNeeds
import Derived.Test.YtinejaganickpaaOpsHp
import Derived.WalkKit
import Derived.ProofKit
import Derived.OpenShut
import Derived.ShutString
import Derived.ChangeOld
import Derived.Below
import Derived.SizedLaws
import Derived.Lib.SmallJoins
import Derived.JoinedCond
namespace Go.Proofs.Ytinejaganickpaa.heapNeeds
open Go.ChangeShapes Go.WideShapes Go.ChangeAt Go.RowKit
open Go.ChangeMaps (open_string shut_string)
set_option linter.unusedVariables false
set_option linter.unusedSimpArgs false
theorem own : ownKnob Try.prog.godebug = none := by kernel_rfl
theorem laidOut : laidOutB Try.prog = true := by kernel_rfl
set_option maxHeartbeats 1000000 in
set_option maxRecDepth 100000 in
theorem lifted (os : Os) (started : os.Started) (H : Type) (enc : TypeId × Value → H) (F : Stop.Interp) :
    ReturnsInHanded {} Try.checked os 4 .any ((Rows.OpenSpec.upto Rows.heapNeedsSpec).pre6 enc Try.prog Try.f4 Rows.heapNeedsUptoRow.domain false) (((Rows.OpenSpec.upto Rows.heapNeedsSpec).at F).post enc Try.prog Try.f4 false true false false) := by
  refine returnsInHanded_of_cond (C := Try.checked) (s := (Rows.OpenSpec.upto Rows.heapNeedsSpec)) (k := Rows.uptoSmall) rfl own started (by kernel_rfl) Try.func4
    (OpenSpec.witness (enc := enc) (C := Try.checked) (s := (Rows.OpenSpec.upto Rows.heapNeedsSpec)) (k := Rows.uptoSmall) rfl false ⟨#[], #[.slice none 0 0, .slice none 0 0, .slice none 0 0], []⟩ 8 (by kernel_rfl) (by kernel_rfl) (by kernel_rfl)
      (x := ([.nil, .nil, .nil], [], [])) (by kernel_rfl) rfl (by kernel_rfl)) ?_
  intro W base args ds gs before hval0 hW hcnd hk0 _
  have hval : ∀ (j : Nat) t v, Try.f4.params[j]? = some t → args[j]? = some v → Value.okWide Try.prog W .any base t v := hval0
  have hW' := hW
  obtain ⟨p, q, hA0, hV, rfl, hfz, hnd⟩ := hW
  have hA : DataW.TrodAll enc Try.prog W 0 (fun _ => true) true Try.f4.params.toList args.toList ds p := hA0
  rw [Try.params4] at hA hval
  obtain ⟨v0, vs0, d0, ds0, p0, q0, hargs, rfl, rfl, h0, r0⟩ := trodAll_cons hA
  obtain ⟨v1, vs1, d1, ds1, p1, q1, rfl, rfl, rfl, h1, r1⟩ := trodAll_cons r0
  obtain ⟨v2, vs2, d2, ds2, p2, q2, rfl, rfl, rfl, h2, r2⟩ := trodAll_cons r1
  obtain ⟨rfl, rfl, rfl⟩ := trodAll_nil r2
  obtain rfl : args = #[v0, v1, v2] := by cases args; simp_all
  obtain ⟨rfl, rfl⟩ := trodVars_none hV
  have hk : Rows.uptoBulkAll ([d0, d1, d2] ++ []) ≤ 1048576 := of_decide_eq_true hk0
  have bd0 : Bd (some 1048576) (Rows.uptoBulk d0) := fun b e => by cases e; exact Nat.le_trans (part_le (by simp)) hk
  have bd1 : Bd (some 1048576) (Rows.uptoBulk d1) := fun b e => by cases e; exact Nat.le_trans (part_le (by simp)) hk
  have bd2 : Bd (some 1048576) (Rows.uptoBulk d2) := fun b e => by cases e; exact Nat.le_trans (part_le (by simp)) hk
  clear hk hk0
  have k0 := h0
  have lt0 : ∀ x ∈ p0, x.block < W.heap.size := by obtain ⟨m, hm⟩ := k0; exact DataW.trod_lt m _ _ _ hm
  obtain ⟨a0, len0, cap0, rfl⟩ := okWide_slice Try.underlying44 (hval 0 44 v0 rfl rfl)
  obtain ⟨fuel0, hf0⟩ := h0
  obtain ⟨⟨sa0, sc0, sl0⟩, hs0, o0⟩ := (opens_u8s W (some 1048576)).2 enc 0 _ true fuel0 _ d0 p0 hf0 bd0
  simp only [Value.cells, Sl.v, List.cons.injEq, Value.slice.injEq, and_true] at hs0
  obtain ⟨rfl, rfl, rfl⟩ := hs0
  have k1 := h1
  have lt1 : ∀ x ∈ p1, x.block < W.heap.size := by obtain ⟨m, hm⟩ := k1; exact DataW.trod_lt m _ _ _ hm
  obtain ⟨a1, len1, cap1, rfl⟩ := okWide_slice Try.underlying45 (hval 1 45 v1 rfl rfl)
  obtain ⟨fuel1, hf1⟩ := h1
  obtain ⟨⟨sa1, sc1, sl1⟩, hs1, o1⟩ := (opens_bools W (some 1048576)).2 enc 0 _ true fuel1 _ d1 p1 hf1 bd1
  simp only [Value.cells, Sl.v, List.cons.injEq, Value.slice.injEq, and_true] at hs1
  obtain ⟨rfl, rfl, rfl⟩ := hs1
  have k2 := h2
  have lt2 : ∀ x ∈ p2, x.block < W.heap.size := by obtain ⟨m, hm⟩ := k2; exact DataW.trod_lt m _ _ _ hm
  obtain ⟨a2, len2, cap2, rfl⟩ := okWide_slice Try.underlying44 (hval 2 44 v2 rfl rfl)
  obtain ⟨fuel2, hf2⟩ := h2
  obtain ⟨⟨sa2, sc2, sl2⟩, hs2, o2⟩ := (opens_u8s W (some 1048576)).2 enc 0 _ true fuel2 _ d2 p2 hf2 bd2
  simp only [Value.cells, Sl.v, List.cons.injEq, Value.slice.injEq, and_true] at hs2
  obtain ⟨rfl, rfl, rfl⟩ := hs2
  clear hA0 hval0
  refine (hneeds_walk a0 cap0 sl0 a1 cap1 sl1 a2 cap2 sl2 W o0.2.2.1 (u8s_bd o0) (u8s_bd o2) ⟨u8s_le o0, bools_le o1, u8s_le o2⟩ o0.1 o1.1 o2.1).mono fun e W' ⟨he, kn⟩ => ?_
  have bel := kn.below
  subst he
  exact ⟨_, rfl, _, _, _, [], _, [], hW', trodAll_mk1 (shut_bool Try.underlying4 _), (trodAll_cons_mk (Below.trod laidOut (by kernel_rfl) (of_decide_eq_true (by kernel_rfl)) k0 bel lt0) (trodAll_cons_mk (Below.trod laidOut (by kernel_rfl) (of_decide_eq_true (by kernel_rfl)) k1 bel lt1) (trodAll_cons_mk (Below.trod laidOut (by kernel_rfl) (of_decide_eq_true (by kernel_rfl)) k2 bel lt2) trodAll_mk0))), rfl, bel.frame _, fun h => by cases h⟩
theorem over : Rows.heapNeedsUptoRow.holds Try.pinned (Rows.OpenSpec.upto Rows.heapNeedsSpec) :=
  OpenClaim.holds_of_cond 4 Try.f4 rfl rfl rfl rfl rfl rfl rfl ⟨rfl, rfl, rfl, rfl, rfl⟩ rfl rfl rfl rfl rfl (by kernel_rfl) Try.func4 (by kernel_rfl)
    (of_decide_eq_true (by kernel_rfl)) (by unfold Func.isWrapper; first | (rw [if_pos (by decide +kernel)]; kernel_rfl) | (rw [if_neg (by decide +kernel)]; exact ⟨rfl, rfl⟩))
    (fun os started H enc _ F => lifted os started H enc F)
theorem proved : Rows.HeapNeedsUptoSaid := over
end Go.Proofs.Ytinejaganickpaa.heapNeeds
namespace Go.Proofs.Ytinejaganickpaa
/-- The law HeapNeeds: the given statement. -/
theorem heapNeeds_holds : Rows.HeapNeedsUptoSaid := heapNeeds.proved
#print axioms heapNeeds_holds
end Go.Proofs.Ytinejaganickpaa
