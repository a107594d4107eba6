/- Epochs: Advance. -/
import Derived.Test.YtinejaganickpaaEpochR
import Derived.Deep.MidRow
import Derived.BigQuiet
import Derived.Deep.DeepCutAuto
import Derived.Deep.DrawnRows
namespace Go.Proofs.Ytinejaganickpaa
set_option linter.unusedVariables false
set_option linter.unusedSimpArgs false
open Go Go.RowKit

theorem Stars.out : ∀ {l : List Asr} {w : World} {F : Nat → Prop} {i : Nat} {A N : Asr}, Stars l w F → l[i]? = some A → N.on w (fun _ => False) → ∃ F1 F2, A.on w F1 ∧ Stars (l.set i N) w F2 ∧ (∀ b, F1 b → ¬ F2 b) ∧ ∀ b, F b ↔ F1 b ∨ F2 b
  | [], _, _, _, _, _, _, h, _ => by simp at h
  | B :: l, w, F, 0, A, N, ⟨F1, F2, h1, h2, hd, hF⟩, h, hN => by
    cases h
    exact ⟨F1, F2, h1, ⟨fun _ => False, F2, hN, h2, fun b h => h.elim, fun b => ⟨.inr, fun h => h.elim False.elim id⟩⟩, hd, hF⟩
  | B :: l, w, F, i + 1, A, N, ⟨F1, F2, h1, h2, hd, hF⟩, h, hN => by
    obtain ⟨F3, F4, a, s, hd', hF'⟩ := Stars.out (i := i) h2 (by simpa using h) hN
    refine ⟨F3, fun b => F1 b ∨ F4 b, a, ⟨F1, F4, h1, s, fun b hb h => hd b hb ((hF' b).2 (.inr h)), fun b => Iff.rfl⟩, fun b hb h => h.elim (fun h => hd b h ((hF' b).2 (.inl hb))) (hd' b hb), fun b => (hF b).trans ?_⟩
    rw [hF' b]
    exact ⟨fun h => h.elim (fun h => .inr (.inl h)) (fun h => h.elim .inl (fun h => .inr (.inr h))), fun h => h.elim (fun h => .inr (.inl h)) (fun h => h.elim .inl (fun h => .inr (.inr h)))⟩
theorem nil_on (w : World) : nilL.row.on w (fun _ => False) := ⟨own_nil 0 _ _ w, by funext b; simp [Value.ownBlock, nilL]⟩
/-- The row at i is taken out. -/
theorem EpO.take {b : Nat} {o : Obj} {ps : List Nat} {xs : List Int} {rs : List Lim} {w : World} {F : Nat → Prop} (h : (EpO b o ps xs rs).on w F) (hl : ps.length = xs.length) {j : Nat} {r : Lim} (hr : rs[j]? = some r) : (All [EpO b o ps xs (rs.set j nilL), r.row]).on w F := by
  have hg : (Blk b o :: (atomsA ps xs ++ rowsA rs))[ps.length + j + 1]? = some r.row := by
    rw [List.getElem?_cons_succ, List.getElem?_append_right (by rw [atoms_len hl]; omega), atoms_len hl, Nat.add_sub_cancel_left]
    unfold rowsA
    rw [List.getElem?_map, hr]
    rfl
  obtain ⟨F1, F2, a, s, hd, hF⟩ := Stars.out h hg (nil_on w)
  rw [List.set_cons_succ, List.set_append_right _ _ (by rw [atoms_len hl]; omega), atoms_len hl, Nat.add_sub_cancel_left] at s
  have e : (rowsA rs).set j nilL.row = rowsA (rs.set j nilL) := by unfold rowsA; rw [List.map_set]
  rw [e] at s
  exact ⟨F2, F1, s, ⟨F1, fun _ => False, a, fun _ h => h, fun _ _ h => h, fun b => ⟨.inl, fun h => h.elim id False.elim⟩⟩, fun b h2 h1 => hd b h1 h2, fun b => (hF b).trans Or.comm⟩
def Eps.held (σ : Eps) : Bool := σ.xs.any fun x => (x != 0) && decide (x < σ.now)
def Eps.advance (σ : Eps) : Eps × List Re × Int := if σ.held then (σ, [], 62) else (⟨σ.now + 1, σ.xs, σ.ls.set ((σ.now + 2) % 3) []⟩, σ.row ((σ.now + 2) % 3), 0)
/-- What Advance leaves. -/
def GaveAdv (b : Nat) (q : Eps × List Re × Int) (F : Nat → Prop) (w : World) (e : Ending) (w' : World) : Prop :=
  ∃ a cap, e = .returned (.tuple #[.slice a q.2.1.length cap, .int .i64 q.2.2]) ∧ Post (All [EpA b q.1, RowA 59 3 (.slice a q.2.1.length cap) q.2.1.length (q.2.1.flatMap Re.enc)]) F w w'
theorem all_one {A B : Asr} {w : World} {F : Nat → Prop} (h : A.on w F) (hB : B.on w (fun _ => False)) : (All [A, B]).on w F :=
  ⟨F, fun _ => False, h, ⟨fun _ => False, fun _ => False, hB, fun _ h => h, fun _ h => h.elim, fun b => ⟨False.elim, fun h => h.elim id id⟩⟩, fun _ _ h => h, fun b => ⟨.inl, fun h => h.elim id False.elim⟩⟩
theorem held_yes {σ : Eps} {i : Nat} {x : Int} (hx : σ.xs[i]? = some x) (h0 : x ≠ 0) (h1 : x < σ.now) : σ.held = true := by
  unfold Eps.held
  rw [List.any_eq_true]
  exact ⟨x, List.mem_of_getElem? hx, by simp [h0, h1]⟩
theorem held_no {σ : Eps} (h : ∀ (i : Nat) x, σ.xs[i]? = some x → x = 0 ∨ (σ.now : Int) ≤ x) : σ.held = false := by
  unfold Eps.held
  rw [List.any_eq_false]
  intro x hx
  obtain ⟨i, hi⟩ := List.getElem?_of_mem hx
  rcases h i x hi with h | h
  · simp [h]
  · simp; intro; omega
/-- 'a[i]' of an array by value whose elements are one cell each. -/
theorem run_index_one {P : Program} (w : World) {t e : TypeId} {n : Nat} {d : TypeDesc} {cs : List Value} {i : Nat} {v : Value} (h : P.underlying t = some (.array n e)) (he : P.underlying e = some d) (hd : d.isRow = false) (hs : (P.info? e).map (·.size) = some 1) (hi : i < n) (hv : cs[i]? = some v) :
    (Instr.index t (.agg cs.toArray) (.int .i64 i)).run P w = .ok v w := by
  obtain ⟨inf, hq, hsz⟩ := Option.map_eq_some_iff.1 hs
  have hr : (0 : Int) ≤ i ∧ (i : Int) < n := by omega
  have ha : (isAgg e).run P w = .ok false w := by
    unfold isAgg
    rw [Sem.run_bind, run_underlying he w]
    cases d <;> first | rfl | (exact absurd hd (by decide)) | simp at hd
  have hso : (sizeOf e).run P w = .ok 1 w := by simp [sizeOf, typeInfo, hq, hsz]
  have hp : (part e cs.toArray i).run P w = .ok v w := by
    unfold part
    rw [Sem.run_bind, ha]
    simp [hv]
  unfold Instr.index
  simp [asIntOf, run_underlying h w, hi, hso, hp, Sem.run_bind]
set_option maxHeartbeats 2000000 in
set_option maxRecDepth 100000 in
theorem advance_a {b : Nat} {σ : Eps} {w : World} {F : Nat → Prop} (h : (EpA b σ).on w F) (hf : σ.Fit) : Calls Try.prog 21 #[.pointer (some ⟨b, 0, none⟩)] w (GaveAdv b σ.advance F w) := by
  have HC := Lib.hid (none_a h hf)
  have hj : (σ.now + 2) % 3 < 3 := Nat.mod_lt _ (by decide)
  obtain ⟨ps, rs, r, h1, h2, hr, hrl, he, c0, cj, fr, hbw⟩ := EpA.lim h hf hj
  have HG := Lib.hid (show w.rangeAt b 1 (ps.map ptrv) from fun j v hv => cell_blk (EpO.blk he).1 (ec_pin hv))
  have HI := Lib.hid (show (Try.prog.info? 82).map (·.size) = some (ps.map ptrv).length by rw [List.length_map, h1]; rfl)
  have HL := Lib.hid (fun (i p : Nat) (x : Int) (hp : ps[i]? = some p) (hx : σ.xs[i]? = some x) => aload (EpO.pin he (by rw [h1, hf.xlen]) hp hx).1)
  have HE := Lib.hid he
  have HR := Lib.hid (And.intro h1 (And.intro h2 (And.intro hrl (And.intro hf.llen hf.xlen))))
  have HF := Lib.hid hf
  have HH := Lib.hid h
  have hr' := Lib.hid hr
  clear h hf he hr h1 h2 hrl hj
  go_enter Try.func21, Try.ntmps21
  go_wp2_with fail
  refine HC.out.mono ?_
  rintro e w' ⟨rfl, rfl⟩
  go_wp2_with (refine wpList_load_mid rfl 82 _ rfl b 1 rfl (ps.map ptrv) _ HG.out Try.underlying82 rfl HI.out ?_)
  go_loop [15] (fun s => ∃ k : Nat, k ≤ 17 ∧ s = .int .i64 k ∧ Hid (∀ (j : Nat) x, j < k → σ.xs[j]? = some x → x = 0 ∨ (σ.now : Int) ≤ x)) (fun s => 17 - (intOf s).toNat)
  case atStart => exact ⟨0, Nat.zero_le _, rfl, Lib.hid (fun j y h => by omega)⟩
  case round =>
    obtain ⟨k, hk, rfl, HM⟩ := hrel
    by_cases hlt : k < 17
    · obtain ⟨p, hp⟩ : ∃ p, ps[k]? = some p := ⟨_, List.getElem?_eq_getElem (by have := HR.out.1; omega)⟩
      obtain ⟨x, hx⟩ : ∃ x, σ.xs[k]? = some x := ⟨_, List.getElem?_eq_getElem (by have := HR.out.2.2.2.2; omega)⟩
      have HX := Lib.hid hx
      have HA := Lib.hid (HL.out k p x hp hx)
      have hpv : (ps.map ptrv)[k]? = some (.pointer (some ⟨p, 0, none⟩)) := by rw [List.getElem?_map, hp]; rfl
      have hlen : (ps.map ptrv).length = 17 := by rw [List.length_map]; exact HR.out.1
      have hz0 : (0 : Int) ≤ (k : Int) := by omega
      have hz1 : (k : Int) < 17 := by omega
      have hix := run_index_one (P := Try.prog) w Try.underlying82 Try.underlying81 rfl (by rfl) hlt hpv
      clear hp hx HL HC
      generalize ps.map ptrv = pv at *
      by_cases h0 : x = 0
      · subst h0
        go_wp2_with fail
        refine HA.out.mono ?_
        rintro e w' ⟨rfl, rfl⟩
        go_wp2_with fail
        go_round
        case rel => exact ⟨k + 1, by omega, by go_num, Lib.hid (fun j y hj hy => by
          by_cases e : j = k
          · subst e; rw [HX.out] at hy; cases hy; exact .inl rfl
          · exact HM.out j y (by omega) hy)⟩
        case measure => simp [intOf]; omega
      · by_cases h1 : x < (σ.now : Int)
        · have HV := Lib.hid (show σ.advance = (σ, [], 62) by unfold Eps.advance; rw [if_pos (held_yes HX.out h0 h1)])
          go_wp2_with fail
          refine HA.out.mono ?_
          rintro e w' ⟨rfl, rfl⟩
          go_wp2_with fail
          go_ret2
          rw [HV.out]
          exact ⟨none, 0, rfl, (Post.same HH.out (Kp.refl _ _)).imp (fun F' h' => all_one h' (nil_on w))⟩
        · go_wp2_with fail
          refine HA.out.mono ?_
          rintro e w' ⟨rfl, rfl⟩
          go_wp2_with fail
          go_round
          case rel => exact ⟨k + 1, by omega, by go_num, Lib.hid (fun j y hj hy => by
            by_cases e : j = k
            · subst e; rw [HX.out] at hy; cases hy; exact .inr (by omega)
            · exact HM.out j y (by omega) hy)⟩
          case measure => simp [intOf]; omega
    · obtain rfl : k = 17 := by omega
      have HV := Lib.hid (show σ.advance = (⟨σ.now + 1, σ.xs, σ.ls.set ((σ.now + 2) % 3) []⟩, σ.row ((σ.now + 2) % 3), 0) by
        unfold Eps.advance
        rw [if_neg (by rw [held_no (fun i x hi => HM.out i x (by have := (List.getElem?_eq_some_iff.1 hi).1; have := HR.out.2.2.2.2; omega) hi)]; simp)])
      clear HL HC HM
      obtain ⟨a, cap, l⟩ := r
      have hm : (σ.now + 1 - 2 + 3 : Int).tmod 3 = (((σ.now + 2) % 3 : Nat) : Int) := by rw [show (σ.now + 1 - 2 + 3 : Int) = ((σ.now + 2 : Nat) : Int) by omega]; exact mod3 _
      have ht := HF.out.top
      generalize hN : σ.now = N at *
      have hjz : (((N + 2) % 3 : Nat) : Int) < 3 := by omega
      have hj0 : (0 : Int) ≤ (((N + 2) % 3 : Nat) : Int) := by omega
      generalize hj : (N + 2) % 3 = j at *
      go_wp2_with fail
      have hfin : Post (All [EpA b σ.advance.1, RowA 59 3 (.slice a l.length cap) l.length (l.flatMap Re.enc)]) F w ((w.setCell ⟨b, 0, none⟩ (.int .i64 ((N : Int) + 1))).setCell ⟨b, 18 + j, none⟩ (.slice none 0 0)) := by
        have hb := (EpO.blk HE.out).1
        have hl17 : ps.length = σ.xs.length := by rw [HR.out.1, HR.out.2.2.2.2]
        have e := setCell_setB (i := 0) (.int .i64 ((N : Int) + 1)) hb
        rw [ec_set_now] at e
        have hb2 := setB_same (EObj ((N : Int) + 1) (ps.map ptrv) (rs.map Lim.v)) (lt_blk hb)
        have e2 := setCell_setB (i := 18 + j) (.slice none 0 0) hb2
        have e3 := ec_set_lim (now := (N : Int) + 1) (vs := ps.map ptrv) (ss := rs.map Lim.v) (j := j) (Lim.v nilL)
        rw [List.length_map, HR.out.1, ← List.map_set] at e3
        rw [e, e2, setB_setB]
        have e4 : (EC ((N : Int) + 1) (ps.map ptrv) (rs.map Lim.v)).toArray.setIfInBounds (18 + j) (.slice none 0 0) = _ := e3
        rw [e4]
        refine (EpO.put HE.out _).imp fun F' h' => ?_
        obtain ⟨F1, F2, h1, h2, hd, hF⟩ := EpO.take h' hl17 hr'.out
        refine ⟨F1, F2, ?_, h2, hd, hF⟩
        rw [HV.out]
        exact ⟨ps, _, HR.out.1, by rw [List.map_set, HR.out.2.1]; rfl, h1⟩
      go_ret2
      rw [HV.out] at hfin
      refine ⟨a, cap, ?_, ?_⟩
      · rw [HV.out]
        show _ = Ending.returned (.tuple #[.slice a (σ.row j).length cap, .int .i64 0])
        rw [← HR.out.2.2.1]; rfl
      · rw [HV.out]
        rw [HR.out.2.2.1] at hfin
        exact hfin
end Go.Proofs.Ytinejaganickpaa

namespace Go.Proofs.Ytinejaganickpaa
set_option linter.unusedVariables false
set_option linter.unusedSimpArgs false
open Go Go.RowKit

def ep0 : Eps := ⟨1, List.replicate 17 0, [[], [], []]⟩
theorem fit0 : ep0.Fit := ⟨by decide, by decide, by decide, by decide, by intro x hx; rw [List.eq_of_mem_replicate hx]; decide⟩
theorem new_a (w : World) : Calls Try.prog 7 #[] w fun e w' => ∃ b, e = .returned (.pointer (some ⟨b, 0, none⟩)) ∧ Post (EpA b ep0) (fun _ => False) w w' := by
  refine (new_ep w).mono ?_
  rintro e w' ⟨b, ps, rfl, h17, hp⟩
  exact ⟨b, rfl, hp.imp fun F' h' => ⟨ps, [nilL, nilL, nilL], h17, rfl, h'⟩⟩
def eqRe (a b : Re) : Bool := a.kind == b.kind && (a.handle.slot == b.handle.slot && a.handle.gen == b.handle.gen)
theorem eqRe_iff {a b : Re} : eqRe a b = true ↔ a = b := by
  obtain ⟨k, ⟨s, g⟩⟩ := a
  obtain ⟨k', ⟨s', g'⟩⟩ := b
  simp [eqRe]
theorem run_eql_ren (a b : Re) (w : World) : (binOp .eql 59 (ren a) (ren b)).run Try.prog w = .ok (.bool (eqRe a b)) w := by
  obtain ⟨k, ⟨s, g⟩⟩ := a
  obtain ⟨k', ⟨s', g'⟩⟩ := b
  unfold eqRe
  by_cases h1 : k = k'
  · by_cases h2 : s = s'
    · by_cases h3 : g = g'
      · subst h1; subst h2; subst h3; go_simp
      · have e3 : (g == g') = false := beq_false_of_ne h3
        go_simp
    · have e2 : (s == s') = false := beq_false_of_ne h2
      go_simp
  · have e1 : (k == k') = false := beq_false_of_ne h1
    go_simp
theorem run_neq_ren (a b : Re) (w : World) : (binOp .neq 59 (ren a) (ren b)).run Try.prog w = .ok (.bool (!eqRe a b)) w := by
  obtain ⟨k, ⟨s, g⟩⟩ := a
  obtain ⟨k', ⟨s', g'⟩⟩ := b
  unfold eqRe
  by_cases h1 : k = k'
  · by_cases h2 : s = s'
    · by_cases h3 : g = g'
      · subst h1; subst h2; subst h3; go_simp
      · have e3 : (g == g') = false := beq_false_of_ne h3
        go_simp
    · have e2 : (s == s') = false := beq_false_of_ne h2
      go_simp
  · have e1 : (k == k') = false := beq_false_of_ne h1
    go_simp
theorem rd3 {w : World} {a : Option Addr} {l : List Re} (h : Rd Re.enc 3 w a l) {i : Nat} {x : Re} (hx : l[i]? = some x) : ∃ b off, a = some ⟨b, off, none⟩ ∧ b < w.heap.size ∧
    w.cell? ⟨b, off + i * 3, none⟩ = some (.int .i64 x.kind) ∧ w.cell? ⟨b, off + i * 3 + 1, none⟩ = some (.int .i64 x.handle.slot) ∧ w.cell? ⟨b, off + i * 3 + 2, none⟩ = some (.int .i64 x.handle.gen) := by
  obtain ⟨b, off, ha, hb, hc⟩ := h.at hx
  exact ⟨b, off, ha, hb, hc 0 (by omega), hc 1 (by omega), hc 2 (by omega)⟩
/-- Advance of what is owned. -/
theorem One.adv {w0 w : World} {A : List Asr} (h : One w0 w A) (i : Nat) {b : Nat} {σ : Eps} (hi : A[i]? = some (EpA b σ)) (hf : σ.Fit) : Calls Try.prog 21 #[.pointer (some ⟨b, 0, none⟩)] w fun e w' => ∃ a cap, e = .returned (.tuple #[.slice a σ.advance.2.1.length cap, .int .i64 σ.advance.2.2]) ∧
    One w0 w' (A.set i (All [EpA b σ.advance.1, RowA 59 3 (.slice a σ.advance.2.1.length cap) σ.advance.2.1.length (σ.advance.2.1.flatMap Re.enc)])) := by
  obtain ⟨F, h1, _, hup⟩ := h.get i hi
  refine (advance_a h1 hf).mono ?_
  rintro e w' ⟨a, cap, he, hp⟩
  exact ⟨a, cap, he, hup hp⟩
theorem One.flat {w0 w : World} {A B : List Asr} (h : One w0 w (All A :: B)) : One w0 w (A ++ B) := One.all.2 h
end Go.Proofs.Ytinejaganickpaa
