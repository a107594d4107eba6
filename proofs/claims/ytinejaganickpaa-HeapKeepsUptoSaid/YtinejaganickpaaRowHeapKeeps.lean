/- The law HeapKeeps (the second form): for every input of bulk at most 1048576 it answers true, and what came in reads as it did. Its row, from the walk. -/
import Derived.Test.YtinejaganickpaaRows
import Derived.Test.YtinejaganickpaaLawHpKeeps
import Derived.Test.YtinejaganickpaaOpsHp
import Derived.WalkKit
import Derived.ProofKit
import Derived.OpenShut
import Derived.ShutString
import Derived.ChangeOld
import Derived.Below
import Derived.SizedLaws
import Derived.Lib.SmallJoins
import Derived.JoinedCond
namespace Go.Proofs.Ytinejaganickpaa.heapKeeps
open Go.ChangeShapes Go.WideShapes Go.ChangeAt Go.RowKit
open Go.ChangeMaps (open_string shut_string)
set_option linter.unusedVariables false
set_option linter.unusedSimpArgs false
theorem own : ownKnob Try.prog.godebug = none := by kernel_rfl
theorem laidOut : laidOutB Try.prog = true := by kernel_rfl
set_option maxHeartbeats 1000000 in
set_option maxRecDepth 100000 in
theorem lifted (os : Os) (started : os.Started) (H : Type) (enc : TypeId × Value → H) (F : Stop.Interp) :
    ReturnsInHanded {} Try.checked os 3 .any ((Rows.OpenSpec.upto Rows.heapKeepsSpec).pre6 enc Try.prog Try.f3 Rows.heapKeepsUptoRow.domain false) (((Rows.OpenSpec.upto Rows.heapKeepsSpec).at F).post enc Try.prog Try.f3 false true false false) := by
  refine returnsInHanded_of_cond (C := Try.checked) (s := (Rows.OpenSpec.upto Rows.heapKeepsSpec)) (k := Rows.uptoSmall) rfl own started (by kernel_rfl) Try.func3
    (OpenSpec.witness (enc := enc) (C := Try.checked) (s := (Rows.OpenSpec.upto Rows.heapKeepsSpec)) (k := Rows.uptoSmall) rfl false ⟨#[], #[.int .u8 0, .int .u8 0, .agg #[.int .u8 0, .int .u8 0], .slice none 0 0], []⟩ 8 (by kernel_rfl) (by kernel_rfl) (by kernel_rfl)
      (x := ([.lit (.int .u8 0), .lit (.int .u8 0), .agg [.lit (.int .u8 0), .lit (.int .u8 0)], .nil], [], [])) (by kernel_rfl) rfl (by kernel_rfl)) ?_
  intro W base args ds gs before hval0 hW hcnd hk0 _
  have hval : ∀ (j : Nat) t v, Try.f3.params[j]? = some t → args[j]? = some v → Value.okWide Try.prog W .any base t v := hval0
  have hW' := hW
  obtain ⟨p, q, hA0, hV, rfl, hfz, hnd⟩ := hW
  have hA : DataW.TrodAll enc Try.prog W 0 (fun _ => true) true Try.f3.params.toList args.toList ds p := hA0
  rw [Try.params3] at hA hval
  obtain ⟨v0, vs0, d0, ds0, p0, q0, hargs, rfl, rfl, h0, r0⟩ := trodAll_cons hA
  obtain ⟨v1, vs1, d1, ds1, p1, q1, rfl, rfl, rfl, h1, r1⟩ := trodAll_cons r0
  obtain ⟨v2, vs2, d2, ds2, p2, q2, rfl, rfl, rfl, h2, r2⟩ := trodAll_cons r1
  obtain ⟨v3, vs3, d3, ds3, p3, q3, rfl, rfl, rfl, h3, r3⟩ := trodAll_cons r2
  obtain ⟨rfl, rfl, rfl⟩ := trodAll_nil r3
  obtain rfl : args = #[v0, v1, v2, v3] := by cases args; simp_all
  obtain ⟨rfl, rfl⟩ := trodVars_none hV
  have hk : Rows.uptoBulkAll ([d0, d1, d2, d3] ++ []) ≤ 1048576 := of_decide_eq_true hk0
  have bd0 : Bd (some 1048576) (Rows.uptoBulk d0) := fun b e => by cases e; exact Nat.le_trans (part_le (by simp)) hk
  have bd1 : Bd (some 1048576) (Rows.uptoBulk d1) := fun b e => by cases e; exact Nat.le_trans (part_le (by simp)) hk
  have bd2 : Bd (some 1048576) (Rows.uptoBulk d2) := fun b e => by cases e; exact Nat.le_trans (part_le (by simp)) hk
  have bd3 : Bd (some 1048576) (Rows.uptoBulk d3) := fun b e => by cases e; exact Nat.le_trans (part_le (by simp)) hk
  clear hk hk0
  have k0 := h0
  have lt0 : ∀ x ∈ p0, x.block < W.heap.size := by obtain ⟨m, hm⟩ := k0; exact DataW.trod_lt m _ _ _ hm
  obtain ⟨fuel0, hf0⟩ := h0
  have g0 : DataW.Trod enc Try.prog W 0 (fun _ => true) true 5 v0 d0 p0 := ⟨fuel0, hf0⟩
  obtain ⟨x0, rfl, e0, _, w0⟩ := open_int Try.underlying5 (hval 0 5 v0 rfl rfl) g0
  have k1 := h1
  have lt1 : ∀ x ∈ p1, x.block < W.heap.size := by obtain ⟨m, hm⟩ := k1; exact DataW.trod_lt m _ _ _ hm
  obtain ⟨fuel1, hf1⟩ := h1
  have g1 : DataW.Trod enc Try.prog W 0 (fun _ => true) true 5 v1 d1 p1 := ⟨fuel1, hf1⟩
  obtain ⟨x1, rfl, e1, _, w1⟩ := open_int Try.underlying5 (hval 1 5 v1 rfl rfl) g1
  have k2 := h2
  have lt2 : ∀ x ∈ p2, x.block < W.heap.size := by obtain ⟨m, hm⟩ := k2; exact DataW.trod_lt m _ _ _ hm
  obtain ⟨cs2, rfl, hz2⟩ := okWide_array Try.underlying22 (hval 2 22 v2 rfl rfl)
  obtain ⟨fuel2, hf2⟩ := h2
  obtain ⟨x2, hs2, o2⟩ := (opens_Pair22 W (some 1048576)).2 enc 0 _ true fuel2 _ d2 p2 hf2 bd2
  obtain rfl : cs2 = (Pair22.enc x2).toArray := by rw [← hs2]; simp [Value.cells]
  have k3 := h3
  have lt3 : ∀ x ∈ p3, x.block < W.heap.size := by obtain ⟨m, hm⟩ := k3; exact DataW.trod_lt m _ _ _ hm
  obtain ⟨a3, len3, cap3, rfl⟩ := okWide_slice Try.underlying23 (hval 3 23 v3 rfl rfl)
  obtain ⟨fuel3, hf3⟩ := h3
  obtain ⟨⟨sa3, sc3, sl3⟩, hs3, o3⟩ := (opens_ops16 W (some 1048576)).2 enc 0 _ true fuel3 _ d3 p3 hf3 bd3
  simp only [Value.cells, Sl.v, List.cons.injEq, Value.slice.injEq, and_true] at hs3
  obtain ⟨rfl, rfl, rfl⟩ := hs3
  clear hA0 hval0
  refine (hkeeps_walk x0 x1 x2 a3 cap3 sl3 W (u8_bd w0) (u8_bd w1) (u8_bd o2.1) (u8_bd o2.2) (ops16_le o3) (ops16_sz o3) o3.1).mono fun e W' ⟨he, kn⟩ => ?_
  have bel := kn.below
  subst he
  exact ⟨_, rfl, _, _, _, [], _, [], hW', trodAll_mk1 (shut_bool Try.underlying4 _), (trodAll_cons_mk (Below.trod laidOut (by kernel_rfl) (of_decide_eq_true (by kernel_rfl)) k0 bel lt0) (trodAll_cons_mk (Below.trod laidOut (by kernel_rfl) (of_decide_eq_true (by kernel_rfl)) k1 bel lt1) (trodAll_cons_mk (Below.trod laidOut (by kernel_rfl) (of_decide_eq_true (by kernel_rfl)) k2 bel lt2) (trodAll_cons_mk (Below.trod laidOut (by kernel_rfl) (of_decide_eq_true (by kernel_rfl)) k3 bel lt3) trodAll_mk0)))), rfl, bel.frame _, fun h => by cases h⟩
theorem over : Rows.heapKeepsUptoRow.holds Try.pinned (Rows.OpenSpec.upto Rows.heapKeepsSpec) :=
  OpenClaim.holds_of_cond 3 Try.f3 rfl rfl rfl rfl rfl rfl rfl ⟨rfl, rfl, rfl, rfl, rfl⟩ rfl rfl rfl rfl rfl (by kernel_rfl) Try.func3 (by kernel_rfl)
    (of_decide_eq_true (by kernel_rfl)) (by unfold Func.isWrapper; first | (rw [if_pos (by decide +kernel)]; kernel_rfl) | (rw [if_neg (by decide +kernel)]; exact ⟨rfl, rfl⟩))
    (fun os started H enc _ F => lifted os started H enc F)
theorem proved : Rows.HeapKeepsUptoSaid := over
end Go.Proofs.Ytinejaganickpaa.heapKeeps
namespace Go.Proofs.Ytinejaganickpaa
/-- The law HeapKeeps: the given statement. -/
theorem heapKeeps_holds : Rows.HeapKeepsUptoSaid := heapKeeps.proved
#print axioms heapKeeps_holds
end Go.Proofs.Ytinejaganickpaa
