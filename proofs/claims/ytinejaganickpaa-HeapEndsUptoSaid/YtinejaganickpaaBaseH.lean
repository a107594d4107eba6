/- Heaps: the plain heap, how it lies in memory, none, looks, holds, Cells, Versions, Stale. -/
import Derived.Test.YtinejaganickpaaArenaWOC
import Derived.Test.YtinejaganickpaaArenaWON
import Derived.Test.YtinejaganickpaaBaseV
import Derived.Test.YtinejaganickpaaBaseA
import Derived.Deep.MidRow
import Derived.StillTailTactics
namespace Go.Proofs.Ytinejaganickpaa
set_option linter.unusedVariables false
set_option linter.unusedSimpArgs false
open Go Go.RowKit

structure Rsv where
  on : Bool
  cells : Int
  versions : Int
def Rsv.enc (r : Rsv) : List Value := [.bool r.on, .int .i64 r.cells, .int .i64 r.versions]
/-- A heap: its cells, its versions (each an arena, with its count of stale handles), what is reserved. -/
structure Hps where
  L : List (Slot Cl)
  sl : Int
  V : List (Slot No)
  sv : Int
  rs : List Rsv
def hpCells (c v e : Nat) (rs : List Rsv) : Array Value := ([Value.pointer (some ⟨c, 0, none⟩), .pointer (some ⟨v, 0, none⟩), .pointer (some ⟨e, 0, none⟩)] ++ rs.flatMap Rsv.enc).toArray
def HpL (b c v e : Nat) (σ : Hps) : List Asr := [Blk b (.cells (hpCells c v e σ.rs) 70), ArC c σ.L σ.sl, ArN v σ.V σ.sv]
/-- The heap at b, over the epoch at e. -/
def HpA (b e : Nat) (σ : Hps) : Asr where
  on := fun w F => ∃ c v, (All (HpL b c v e σ)).on w F
  keep := fun h k hS => by
    obtain ⟨c, v, h⟩ := h
    exact ⟨c, v, (All _).keep h k hS⟩
  lt := fun h => by
    obtain ⟨c, v, h⟩ := h
    exact (All _).lt h
/-- Its bounds. -/
structure Hps.Fit (k : Nat) (σ : Hps) : Prop where
  cells : ArFit k σ.L σ.sl
  versions : ArFit k σ.V σ.sv
  rs : σ.rs.length = 17
section
variable {b c v e : Nat} {σ : Hps} {w w' : World} {F : Nat → Prop}
theorem hp_here (h : (HpA b e σ).on w F) : ∃ c v, Pw F w w (HpL b c v e σ) := by
  obtain ⟨c, v, h⟩ := h
  exact ⟨c, v, Pw.start h⟩
theorem Pw.hp (h : Pw F w w' (HpL b c v e σ)) : Post (HpA b e σ) F w w' := Post.imp h fun F' h' => ⟨c, v, h'⟩
theorem hp_ptrs (h : Pw F w w' (HpL b c v e σ)) : w'.cell? ⟨b, 0, none⟩ = some (.pointer (some ⟨c, 0, none⟩)) ∧ w'.cell? ⟨b, 1, none⟩ = some (.pointer (some ⟨v, 0, none⟩)) ∧ w'.cell? ⟨b, 2, none⟩ = some (.pointer (some ⟨e, 0, none⟩)) ∧ ∀ j, w'.frozen? ⟨b, j, none⟩ = false := by
  have h0 := h.blk 0 rfl
  exact ⟨cell_blk h0 (by simp [hpCells]), cell_blk h0 (by simp [hpCells]), cell_blk h0 (by simp [hpCells]), fun j => free_blk h0⟩
theorem rsv_get : ∀ (l : List Rsv) (i : Nat) (r : Rsv), l[i]? = some r → ∀ (j : Nat) (u : Value), (Rsv.enc r)[j]? = some u → (l.flatMap Rsv.enc)[i * 3 + j]? = some u
  | [], i, r, h, _, _, _ => by simp at h
  | x :: l, 0, r, h, j, u, hu => by
    simp at h; subst h
    rw [List.flatMap_cons, Nat.zero_mul, Nat.zero_add, List.getElem?_append_left (List.getElem?_eq_some_iff.1 hu).1]
    exact hu
  | x :: l, i + 1, r, h, j, u, hu => by
    rw [List.flatMap_cons, List.getElem?_append_right (by show (Rsv.enc x).length ≤ _; simp [Rsv.enc]; omega)]
    have e : (i + 1) * 3 + j - (Rsv.enc x).length = i * 3 + j := by simp [Rsv.enc]; omega
    rw [e]
    exact rsv_get l i r (by simpa using h) j u hu
theorem hp_rsv (h : Pw F w w' (HpL b c v e σ)) {i : Nat} {r : Rsv} (hr : σ.rs[i]? = some r) : w'.cell? ⟨b, 3 + i * 3, none⟩ = some (.bool r.on) ∧ w'.cell? ⟨b, 3 + i * 3 + 1, none⟩ = some (.int .i64 r.cells) ∧ w'.cell? ⟨b, 3 + i * 3 + 2, none⟩ = some (.int .i64 r.versions) := by
  have h0 := h.blk 0 rfl
  have q : ∀ (j : Nat) (u : Value), (Rsv.enc r)[j]? = some u → (hpCells c v e σ.rs)[3 + i * 3 + j]? = some u := fun j u hu => by
    have := rsv_get σ.rs i r hr j u hu
    unfold hpCells
    rw [List.getElem?_toArray, List.getElem?_append_right (by simp; omega)]
    rw [show 3 + i * 3 + j - [Value.pointer (some ⟨c, 0, none⟩), .pointer (some ⟨v, 0, none⟩), .pointer (some ⟨e, 0, none⟩)].length = i * 3 + j by simp; omega]
    exact this
  exact ⟨cell_blk h0 (q 0 _ rfl), cell_blk h0 (q 1 _ rfl), cell_blk h0 (q 2 _ rfl)⟩
theorem none_h (h : Pw F w w' (HpL b c v e σ)) : Calls Try.prog 49 #[.pointer (some ⟨b, 0, none⟩)] w' fun e w'' => e = .returned (.bool false) ∧ w' = w'' := by
  obtain ⟨c0, _⟩ := hp_ptrs h
  clear h
  go_enter Try.func49, Try.ntmps49
  go_wp2
  go_ret
  exact ⟨rfl, rfl⟩
def looksH (s : Int) : Int := if 0 ≤ s ∧ s ≤ 16 then 0 else 1
theorem looks_h (h : Pw F w w' (HpL b c v e σ)) (s : Int) : Calls Try.prog 33 #[.pointer (some ⟨b, 0, none⟩), .int .i64 s] w' fun e w'' => e = .returned (.int .i64 (looksH s)) ∧ w' = w'' := by
  have HC := Lib.hid (none_h h)
  clear h
  unfold looksH
  by_cases h1 : s < 0
  · rw [if_neg (by omega)]
    go_enter Try.func33, Try.ntmps33
    go_wp2_with (go_at_call 49; refine HC.out.mono ?_; rintro e w3 ⟨rfl, rfl⟩)
    go_ret
    exact ⟨rfl, rfl⟩
  · by_cases h2 : 16 < s
    · rw [if_neg (by omega)]
      go_enter Try.func33, Try.ntmps33
      go_wp2_with (go_at_call 49; refine HC.out.mono ?_; rintro e w3 ⟨rfl, rfl⟩)
      go_ret
      exact ⟨rfl, rfl⟩
    · rw [if_pos (by omega)]
      go_enter Try.func33, Try.ntmps33
      go_wp2_with (go_at_call 49; refine HC.out.mono ?_; rintro e w3 ⟨rfl, rfl⟩)
      go_ret
      exact ⟨rfl, rfl⟩
def Hps.has (σ : Hps) (s : Int) : Option Rsv := if 0 ≤ s ∧ s ≤ 16 then (σ.rs[s.toNat]?).filter (·.on) else none
def Hps.holds (σ : Hps) (s : Int) : Int := if looksH s = 0 then (if (σ.has s).isSome then 0 else 161) else 1
theorem holds_h (h : Pw F w w' (HpL b c v e σ)) (hr : σ.rs.length = 17) (s : Int) : Calls Try.prog 34 #[.pointer (some ⟨b, 0, none⟩), .int .i64 s] w' fun e w'' => e = .returned (.int .i64 (σ.holds s)) ∧ w' = w'' := by
  have HC := Lib.hid (looks_h h s)
  unfold Hps.holds
  by_cases h1 : 0 ≤ s ∧ s ≤ 16
  · obtain ⟨i, rfl⟩ : ∃ i : Nat, s = i := ⟨s.toNat, by omega⟩
    have hl : looksH (i : Int) = 0 := by unfold looksH; rw [if_pos h1]
    rw [hl] at HC
    rw [if_pos hl]
    obtain ⟨r, hri⟩ : ∃ r, σ.rs[i]? = some r := ⟨_, List.getElem?_eq_getElem (by omega)⟩
    have hh : (σ.has (i : Int)).isSome = r.on := by
      unfold Hps.has
      rw [if_pos h1, Int.toNat_natCast, hri]
      cases hq : r.on <;> simp [hq]
    rw [hh]
    obtain ⟨q0, q1, q2⟩ := hp_rsv h hri
    obtain ⟨_, _, _, hf⟩ := hp_ptrs h
    have hz0 : (0 : Int) ≤ (i : Int) := by omega
    have hz1 : (i : Int) < 17 := by omega
    clear h hl hh hri hr hf
    cases hq : r.on with
    | true =>
      rw [hq] at q0
      go_enter Try.func34, Try.ntmps34
      go_wp2_with (go_at_call 33; refine HC.out.mono ?_; rintro e w3 ⟨rfl, rfl⟩)
      go_ret
      exact ⟨rfl, rfl⟩
    | false =>
      rw [hq] at q0
      go_enter Try.func34, Try.ntmps34
      go_wp2_with (go_at_call 33; refine HC.out.mono ?_; rintro e w3 ⟨rfl, rfl⟩)
      go_ret
      exact ⟨rfl, rfl⟩
  · have hl : looksH s = 1 := by unfold looksH; rw [if_neg h1]
    rw [hl] at HC
    rw [hl, if_neg (by decide)]
    clear h
    go_enter Try.func34, Try.ntmps34
    go_wp2_with (go_at_call 33; refine HC.out.mono ?_; rintro e w3 ⟨rfl, rfl⟩)
    go_ret
    exact ⟨rfl, rfl⟩
end
end Go.Proofs.Ytinejaganickpaa

namespace Go.Proofs.Ytinejaganickpaa
set_option linter.unusedVariables false
set_option linter.unusedSimpArgs false
open Go Go.RowKit Go.Sort

section
variable {b c v e : Nat} {σ : Hps} {w w' : World} {F : Nat → Prop}
def liveOf {α : Type} (l : List (Slot α)) : Int := (l.length : Int) - (freeOf l).length
theorem cells_h (h : Pw F w w' (HpL b c v e σ)) (hm : σ.L.length ≤ 65536) : Calls Try.prog 19 #[.pointer (some ⟨b, 0, none⟩)] w' fun e w'' => e = .returned (.int .i64 (liveOf σ.L)) ∧ KN w' w'' := by
  have HC := Lib.hid (none_h h)
  obtain ⟨F1, h1, _⟩ := h.get 1 rfl
  have HL := Lib.hid (live_C h1 hm)
  obtain ⟨c0, c1, c2, _⟩ := hp_ptrs h
  clear h h1
  go_enter Try.func19, Try.ntmps19
  go_wp2_with (first | (go_at_call 49; refine HC.out.mono ?_; rintro e w3 ⟨rfl, rfl⟩) | (go_at_call 53; refine HL.out.mono ?_; rintro e w3 ⟨rfl, hk⟩))
  go_ret
  exact ⟨rfl, hk⟩
theorem versions_h (h : Pw F w w' (HpL b c v e σ)) (hm : σ.V.length ≤ 65536) : Calls Try.prog 20 #[.pointer (some ⟨b, 0, none⟩)] w' fun e w'' => e = .returned (.int .i64 (liveOf σ.V)) ∧ KN w' w'' := by
  have HC := Lib.hid (none_h h)
  obtain ⟨F1, h1, _⟩ := h.get 2 rfl
  have HL := Lib.hid (live_N h1 hm)
  obtain ⟨c0, c1, c2, _⟩ := hp_ptrs h
  clear h h1
  go_enter Try.func20, Try.ntmps20
  go_wp2_with (first | (go_at_call 49; refine HC.out.mono ?_; rintro e w3 ⟨rfl, rfl⟩) | (go_at_call 54; refine HL.out.mono ?_; rintro e w3 ⟨rfl, hk⟩))
  go_ret
  exact ⟨rfl, hk⟩
theorem reserved_h (h : Pw F w w' (HpL b c v e σ)) (hr : σ.rs.length = 17) (s : Int) : Calls Try.prog 27 #[.pointer (some ⟨b, 0, none⟩), .int .i64 s] w' fun e w'' =>
    e = .returned (match σ.has s with | some r => .tuple #[.int .i64 r.cells, .int .i64 r.versions, .bool true] | none => .tuple #[.int .i64 0, .int .i64 0, .bool false]) ∧ KN w' w'' := by
  have HC := Lib.hid (holds_h h hr s)
  cases hh : σ.has s with
  | none =>
    have hn : σ.holds s ≠ 0 := by
      unfold Hps.holds
      rw [hh]
      unfold looksH
      split <;> simp
    have HN := Lib.hid hn
    clear h hh hn
    generalize σ.holds s = q at *
    have hq : (q != 0) = true := by simpa using HN.out
    go_enter Try.func27, Try.ntmps27
    go_wp2_with (go_at_call 34; refine HC.out.mono ?_; rintro e w3 ⟨rfl, rfl⟩)
    exact bodyPost_ret (v := .tuple #[.int .i64 0, .int .i64 0, .bool false]) (by simp [results, Try.results27, go_sem]) rfl ⟨rfl, Kp.refl _ _⟩
  | some r =>
    have hs : 0 ≤ s ∧ s ≤ 16 := by
      unfold Hps.has at hh
      split at hh
      · assumption
      · cases hh
    obtain ⟨i, rfl⟩ : ∃ i : Nat, s = i := ⟨s.toNat, by omega⟩
    have hn : σ.holds (i : Int) = 0 := by
      unfold Hps.holds
      rw [hh]
      unfold looksH
      rw [if_pos hs]; rfl
    rw [hn] at HC
    have hri : σ.rs[i]? = some r := by
      unfold Hps.has at hh
      rw [if_pos hs, Int.toNat_natCast] at hh
      exact (Option.filter_eq_some_iff.1 hh).1
    obtain ⟨q0, q1, q2⟩ := hp_rsv h hri
    have hz0 : (0 : Int) ≤ (i : Int) := by omega
    have hz1 : (i : Int) < 17 := by omega
    clear h hh hn hri
    go_enter Try.func27, Try.ntmps27
    go_wp2_with (go_at_call 34; refine HC.out.mono ?_; rintro e w3 ⟨rfl, rfl⟩)
    go_quiet (fail)
    go_wp2_with fail
    exact bodyPost_ret (v := .tuple #[.int .i64 r.cells, .int .i64 r.versions, .bool true]) (by simp [results, Try.results27, go_sem]) rfl ⟨rfl, (Kp.refl _ _).drewN _⟩
theorem stale_h (h : Pw F w w' (HpL b c v e σ)) (hs : 0 ≤ σ.sl ∧ σ.sl ≤ 4611686018427387903 ∧ 0 ≤ σ.sv ∧ σ.sv ≤ 4611686018427387903) : Calls Try.prog 16 #[.pointer (some ⟨b, 0, none⟩)] w' fun e w'' => e = .returned (.int .i64 (σ.sl + σ.sv)) ∧ KN w' w'' := by
  have HC := Lib.hid (none_h h)
  have HSC : Hid (∀ d os, Calls Try.prog 50 #[.pointer (some ⟨c, 0, none⟩)] (grow (redrawn w' d) os) fun e w'' => e = .returned (.int .i64 σ.sl) ∧ ∃ p : Regrown, w'' = grow (redrawn w' p.d) p.os) := Lib.hid (fun d os => by
    obtain ⟨F1, h1, _⟩ := (h.kn (kn_regrown w' d os)).get 1 rfl
    exact quiet_same (stale_C h1))
  have HSN : Hid (∀ d os, Calls Try.prog 51 #[.pointer (some ⟨v, 0, none⟩)] (grow (redrawn w' d) os) fun e w'' => e = .returned (.int .i64 σ.sv) ∧ ∃ p : Regrown, w'' = grow (redrawn w' p.d) p.os) := Lib.hid (fun d os => by
    obtain ⟨F1, h1, _⟩ := (h.kn (kn_regrown w' d os)).get 2 rfl
    exact quiet_same (stale_N h1))
  obtain ⟨c0, c1, c2, _⟩ := hp_ptrs h
  have m0 := fun d os => cell_regrown (d := d) (os := os) c0
  have m1 := fun d os => cell_regrown (d := d) (os := os) c1
  have hwr : IntKind.i64.wrap (σ.sl + σ.sv) = σ.sl + σ.sv := Go.IntWalk.i64_in _ (by omega)
  clear h c0 c1 c2
  generalize σ.sl = sa at *
  generalize σ.sv = sb at *
  go_enter Try.func16, Try.ntmps16
  go_wp2_with (go_at_call 49; refine HC.out.mono ?_; rintro e w3 ⟨rfl, rfl⟩)
  refine wp_region_quiet_below (by kernel_rfl) (by kernel_rfl) ?_
  repeat (go_big_quiet_step (first | (go_at_call 50; with_reducible exact HSC.out _ _) | (go_at_call 51; with_reducible exact HSN.out _ _)))
  refine wpQuiet_nil ?_
  intro _ hw'
  obtain ⟨⟨dq, osq⟩, hw''⟩ := hw'
  subst hw''
  go_wp2_with fail
  go_ret
  exact ⟨rfl, kn_regrown _ dq osq⟩
/-- One row of what is reserved is written. -/
theorem rsv_set (c v e : Nat) (rs : List Rsv) {i : Nat} (r : Rsv) (hi : i < rs.length) :
    (((hpCells c v e rs).setIfInBounds (3 + i * 3) (.bool r.on)).setIfInBounds (3 + i * 3 + 1) (.int .i64 r.cells)).setIfInBounds (3 + i * 3 + 2) (.int .i64 r.versions) = hpCells c v e (rs.set i r) := by
  unfold hpCells
  apply Array.ext'
  simp only [Array.toList_setIfInBounds, List.cons_append, List.nil_append]
  show _ = Value.pointer (some ⟨c, 0, none⟩) :: Value.pointer (some ⟨v, 0, none⟩) :: Value.pointer (some ⟨e, 0, none⟩) :: (rs.set i r).flatMap Rsv.enc
  have hs : ∀ (n : Nat) (x : Value) (l : List Value), (Value.pointer (some ⟨c, 0, none⟩) :: Value.pointer (some ⟨v, 0, none⟩) :: Value.pointer (some ⟨e, 0, none⟩) :: l).set (3 + n) x = Value.pointer (some ⟨c, 0, none⟩) :: Value.pointer (some ⟨v, 0, none⟩) :: Value.pointer (some ⟨e, 0, none⟩) :: l.set n x := fun n x l => by
    rw [show 3 + n = n + 1 + 1 + 1 by omega]; rfl
  rw [hs, show 3 + i * 3 + 1 = 3 + (i * 3 + 1) by omega, hs, show 3 + i * 3 + 2 = 3 + (i * 3 + 2) by omega, hs]
  congr 3
  clear hs
  induction rs generalizing i with
  | nil => simp at hi
  | cons q rs ih =>
    cases i with
    | zero => simp [Rsv.enc]
    | succ i =>
      have hi' : i < rs.length := by simpa using hi
      rw [List.set_cons_succ, List.flatMap_cons, List.flatMap_cons, ← ih hi']
      simp [Rsv.enc, Nat.add_mul]
end
end Go.Proofs.Ytinejaganickpaa

namespace Go.Proofs.Ytinejaganickpaa
set_option linter.unusedVariables false
set_option linter.unusedSimpArgs false
open Go Go.RowKit Go.Sort

def Hps.setRsv (σ : Hps) (i : Nat) (r : Rsv) : Hps := { σ with rs := σ.rs.set i r }
def Hps.release (σ : Hps) (s : Int) : Hps := if σ.holds s = 0 then σ.setRsv s.toNat ⟨false, 0, 0⟩ else σ
section
variable {b c v e : Nat} {σ : Hps} {w w' : World} {F : Nat → Prop}
theorem holds_cases (hr : σ.rs.length = 17) (s : Int) : (σ.holds s ≠ 0 ∧ σ.has s = none) ∨ ∃ (i : Nat) (r : Rsv), s = i ∧ i < 17 ∧ σ.rs[i]? = some r ∧ r.on = true ∧ σ.has s = some r ∧ σ.holds s = 0 := by
  cases hh : σ.has s with
  | none =>
    refine .inl ⟨?_, rfl⟩
    unfold Hps.holds
    rw [hh]
    unfold looksH
    split <;> simp
  | some r =>
    have hs : 0 ≤ s ∧ s ≤ 16 := by
      unfold Hps.has at hh
      split at hh
      · assumption
      · cases hh
    obtain ⟨i, rfl⟩ : ∃ i : Nat, s = i := ⟨s.toNat, by omega⟩
    have hn : σ.holds (i : Int) = 0 := by
      unfold Hps.holds
      rw [hh]
      unfold looksH
      rw [if_pos hs]; rfl
    unfold Hps.has at hh
    rw [if_pos hs, Int.toNat_natCast] at hh
    have h2 := Option.filter_eq_some_iff.1 hh
    exact .inr ⟨i, r, rfl, by omega, h2.1, h2.2, rfl, hn⟩
/-- One row of what is reserved is written. -/
theorem Pw.rsv (h : Pw F w w' (HpL b c v e σ)) {i : Nat} (r : Rsv) (hi : i < σ.rs.length) :
    Pw F w (((w'.setCell ⟨b, 3 + i * 3, none⟩ (.bool r.on)).setCell ⟨b, 3 + i * 3 + 1, none⟩ (.int .i64 r.cells)).setCell ⟨b, 3 + i * 3 + 2, none⟩ (.int .i64 r.versions)) (HpL b c v e (σ.setRsv i r)) := by
  have h1 := ((h.setC 0 rfl (j := 3 + i * 3) (.bool r.on)).setC 0 rfl (j := 3 + i * 3 + 1) (.int .i64 r.cells)).setC 0 rfl (j := 3 + i * 3 + 2) (.int .i64 r.versions)
  simp only [List.set_cons_zero, HpL] at h1
  rw [rsv_set c v e σ.rs r hi] at h1
  exact h1
theorem release_h (h : (HpA b e σ).on w F) (hr : σ.rs.length = 17) (s : Int) : Calls Try.prog 11 #[.pointer (some ⟨b, 0, none⟩), .int .i64 s] w fun e' w' => e' = .returned (.int .i64 (σ.holds s)) ∧ Post (HpA b e (σ.release s)) F w w' := by
  obtain ⟨c, v, hp⟩ := hp_here h
  have HC := Lib.hid (holds_h hp hr s)
  unfold Hps.release
  rcases holds_cases hr s with ⟨hn, _⟩ | ⟨i, r, rfl, hi, hri, _, _, hn⟩
  · rw [if_neg hn]
    have HP := Lib.hid hp
    have HN := Lib.hid hn
    clear h hp hn
    generalize σ.holds s = q at *
    have hq : (q == 0) = false := by simpa using HN.out
    go_enter Try.func11, Try.ntmps11
    go_wp2_with (go_at_call 34; refine HC.out.mono ?_; rintro e w3 ⟨rfl, rfl⟩)
    go_ret
    exact ⟨rfl, HP.out.hp⟩
  · rw [if_pos hn, hn]
    rw [hn] at HC
    obtain ⟨q0, q1, q2⟩ := hp_rsv hp hri
    obtain ⟨_, _, _, hf⟩ := hp_ptrs hp
    have HP := Lib.hid (hp.rsv (⟨false, 0, 0⟩ : Rsv) (i := i) (by omega))
    have hz0 : (0 : Int) ≤ (i : Int) := by omega
    have hz1 : (i : Int) < 17 := by omega
    clear h hp hn hri
    go_enter Try.func11, Try.ntmps11
    go_wp2_with (go_at_call 34; refine HC.out.mono ?_; rintro e w3 ⟨rfl, rfl⟩)
    go_ret
    exact ⟨rfl, by rw [Int.toNat_natCast]; exact HP.out.hp⟩
def roomOf (n live : Int) (f : Rsv → Int) (l : List Rsv) : Int := l.foldl (fun x r => x - f r) (n - live)
theorem run_index_row (w : World) {l : List Rsv} {i : Nat} {r : Rsv} (hi : i < 17) (hr : l[i]? = some r) : (Instr.index 68 (.agg (l.flatMap Rsv.enc).toArray) (.int .i64 i)).run Try.prog w = .ok (.agg #[.bool r.on, .int .i64 r.cells, .int .i64 r.versions]) w := by
  have hr2 : (0 : Int) ≤ i ∧ (i : Int) < 17 := by omega
  have ha : (isAgg 67).run Try.prog w = .ok true w := by kernel_rfl
  have hso : (sizeOf 67).run Try.prog w = .ok 3 w := by kernel_rfl
  have he : ((l.flatMap Rsv.enc).toArray.extract (i * 3) (i * 3 + 3)) = #[.bool r.on, .int .i64 r.cells, .int .i64 r.versions] := by
    have g0 := rsv_get l i r hr 0 _ rfl
    have g1 := rsv_get l i r hr 1 _ rfl
    have g2 := rsv_get l i r hr 2 _ rfl
    have hlen : i * 3 + 2 < (l.flatMap Rsv.enc).length := (List.getElem?_eq_some_iff.1 g2).1
    apply Array.ext
    · rw [Array.size_extract, List.size_toArray]
      show min (i * 3 + 3) (l.flatMap Rsv.enc).length - i * 3 = 3
      omega
    · intro j h1 h2
      have hj : j < 3 := h2
      rw [Array.getElem_extract]
      match j, hj with
      | 0, _ => exact (List.getElem?_eq_some_iff.1 g0).2
      | 1, _ => exact (List.getElem?_eq_some_iff.1 g1).2
      | 2, _ => exact (List.getElem?_eq_some_iff.1 g2).2
  have hp : (part 67 (l.flatMap Rsv.enc).toArray (i * 3)).run Try.prog w = .ok (.agg #[.bool r.on, .int .i64 r.cells, .int .i64 r.versions]) w := by
    unfold part
    rw [Sem.run_bind, ha]
    simp only [Result.andThen_ok, if_true, Sem.run_bind, hso, Sem.run_pure, he]
  unfold Instr.index
  simp [asIntOf, run_underlying Try.underlying68 w, hi, hso, hp, Sem.run_bind]
set_option maxHeartbeats 2000000 in
set_option maxRecDepth 100000 in
theorem room_h (h : Pw F w w' (HpL b c v e σ)) (hr : σ.rs.length = 17) (hm : σ.L.length ≤ 65536 ∧ σ.V.length ≤ 65536) (hb : ∀ r ∈ σ.rs, 0 ≤ r.cells ∧ r.cells ≤ 65536 ∧ 0 ≤ r.versions ∧ r.versions ≤ 65536) : Calls Try.prog 23 #[.pointer (some ⟨b, 0, none⟩)] w' fun e w'' =>
    e = .returned (.tuple #[.int .i64 (roomOf σ.L.length (liveOf σ.L) (·.cells) σ.rs), .int .i64 (roomOf σ.V.length (liveOf σ.V) (·.versions) σ.rs)]) ∧ KN w' w'' := by
  have HC := Lib.hid (none_h h)
  have HLC : Hid (∀ d os, Calls Try.prog 53 #[.pointer (some ⟨c, 0, none⟩)] (grow (redrawn w' d) os) fun e w'' => e = .returned (.int .i64 (liveOf σ.L)) ∧ ∃ p : Regrown, w'' = grow (redrawn w' p.d) p.os) := Lib.hid (fun d os => by
    obtain ⟨F1, h1, _⟩ := (h.kn (kn_regrown w' d os)).get 1 rfl
    exact quiet_kn (live_C h1 hm.1))
  have HLN : Hid (∀ d os, Calls Try.prog 54 #[.pointer (some ⟨v, 0, none⟩)] (grow (redrawn w' d) os) fun e w'' => e = .returned (.int .i64 (liveOf σ.V)) ∧ ∃ p : Regrown, w'' = grow (redrawn w' p.d) p.os) := Lib.hid (fun d os => by
    obtain ⟨F1, h1, _⟩ := (h.kn (kn_regrown w' d os)).get 2 rfl
    exact quiet_kn (live_N h1 hm.2))
  have HSC : Hid (∀ d os, Calls Try.prog 59 #[.pointer (some ⟨c, 0, none⟩)] (grow (redrawn w' d) os) fun e w'' => e = .returned (.int .i64 σ.L.length) ∧ ∃ p : Regrown, w'' = grow (redrawn w' p.d) p.os) := Lib.hid (fun d os => by
    obtain ⟨F1, h1, _⟩ := (h.kn (kn_regrown w' d os)).get 1 rfl
    exact quiet_same (slots_C h1))
  have HSN : Hid (∀ d os, Calls Try.prog 60 #[.pointer (some ⟨v, 0, none⟩)] (grow (redrawn w' d) os) fun e w'' => e = .returned (.int .i64 σ.V.length) ∧ ∃ p : Regrown, w'' = grow (redrawn w' p.d) p.os) := Lib.hid (fun d os => by
    obtain ⟨F1, h1, _⟩ := (h.kn (kn_regrown w' d os)).get 2 rfl
    exact quiet_same (slots_N h1))
  obtain ⟨c0, c1, c2, _⟩ := hp_ptrs h
  have m0 := fun d os => cell_regrown (d := d) (os := os) c0
  have m1 := fun d os => cell_regrown (d := d) (os := os) c1
  have hlL : 0 ≤ liveOf σ.L ∧ liveOf σ.L ≤ 65536 := by have := free_len σ.L; unfold liveOf; omega
  have hlV : 0 ≤ liveOf σ.V ∧ liveOf σ.V ≤ 65536 := by have := free_len σ.V; unfold liveOf; omega
  have hw1 : IntKind.i64.wrap ((σ.L.length : Int) - liveOf σ.L) = (σ.L.length : Int) - liveOf σ.L := Go.IntWalk.i64_in _ (by omega)
  have hw2 : IntKind.i64.wrap ((σ.V.length : Int) - liveOf σ.V) = (σ.V.length : Int) - liveOf σ.V := Go.IntWalk.i64_in _ (by omega)
  have HP := Lib.hid h
  have HB := Lib.hid hb
  clear h c0 c1 c2 hb
  go_enter Try.func23, Try.ntmps23
  go_wp2_with (go_at_call 49; refine HC.out.mono ?_; rintro e w3 ⟨rfl, rfl⟩)
  refine wp_region_quiet_below (by kernel_rfl) (by kernel_rfl) ?_
  repeat (go_big_quiet_step (first | (go_at_call 53; with_reducible exact HLC.out _ _) | (go_at_call 54; with_reducible exact HLN.out _ _) | (go_at_call 59; with_reducible exact HSC.out _ _) | (go_at_call 60; with_reducible exact HSN.out _ _)))
  refine wpQuiet_nil ?_
  intro _ hw'
  obtain ⟨⟨dq, osq⟩, hw''⟩ := hw'
  subst hw''
  have HK := Lib.hid (kn_regrown w' dq osq)
  have HP2 := Lib.hid (HP.out.kn HK.out)
  clear m0 m1 HP HC HLC HLN HSC HSN
  generalize grow (redrawn w' dq) osq = w2 at *
  have HG := Lib.hid (show w2.rangeAt b 3 (σ.rs.flatMap Rsv.enc) from fun j u hu => by
    have h0 := HP2.out.blk 0 rfl
    refine cell_blk h0 ?_
    unfold hpCells
    rw [List.getElem?_toArray, List.getElem?_append_right (by simp), show 3 + j - [Value.pointer (some ⟨c, 0, none⟩), .pointer (some ⟨v, 0, none⟩), .pointer (some ⟨e, 0, none⟩)].length = j by simp]
    exact hu)
  have hfl : (σ.rs.flatMap Rsv.enc).length = 51 := by
    rw [flat_len (sz := 3) (fun _ => rfl), hr]
  have HI := Lib.hid (show (Try.prog.info? 68).map (·.size) = some (σ.rs.flatMap Rsv.enc).length by rw [hfl]; rfl)
  obtain ⟨h0, _⟩ := hp_ptrs HP2.out
  clear hfl
  go_wp2_with (refine wpList_load_mid rfl 68 _ rfl b 3 rfl (σ.rs.flatMap Rsv.enc) _ HG.out Try.underlying68 rfl HI.out ?_)
  have hrm := hr
  go_loopw [4, 5, 36] (fun s4 s5 s36 wr => ∃ (k : Nat) (x y : Int), k ≤ 17 ∧ s36 = .int .i64 k ∧ s4 = .int .i64 x ∧ s5 = .int .i64 y ∧
    Hid (x = roomOf σ.L.length (liveOf σ.L) (·.cells) (σ.rs.take k) ∧ y = roomOf σ.V.length (liveOf σ.V) (·.versions) (σ.rs.take k)) ∧ (-65536 * ((k : Int) + 1) ≤ x ∧ x ≤ 65536 ∧ -65536 * ((k : Int) + 1) ≤ y ∧ y ≤ 65536) ∧ Hid (KN w' wr)) (fun _ _ s36 _ => 17 - (intOf s36).toNat)
  case atStart => exact ⟨0, _, _, Nat.zero_le _, rfl, rfl, rfl, Lib.hid ⟨rfl, rfl⟩, by omega, HK⟩
  case round =>
    obtain ⟨k, x, y, hk, rfl, rfl, rfl, HXY, hbd, HKr⟩ := hrel
    clear HK h0 hw1 hw2
    by_cases hlt : k < 17
    · obtain ⟨r, hri⟩ : ∃ r, σ.rs[k]? = some r := ⟨_, List.getElem?_eq_getElem (by omega)⟩
      have hrb := HB.out r (List.mem_of_getElem? hri)
      have hix := run_index_row wr hlt hri
      have hwx : IntKind.i64.wrap (x - r.cells) = x - r.cells := Go.IntWalk.i64_in _ (by omega)
      have hwy : IntKind.i64.wrap (y - r.versions) = y - r.versions := Go.IntWalk.i64_in _ (by omega)
      have HT := Lib.hid (show σ.rs.take (k + 1) = σ.rs.take k ++ [r] by rw [List.take_add_one, hri]; rfl)
      clear hri
      go_wp2_with fail
      go_roundw
      case rel =>
        refine ⟨k + 1, x - r.cells, y - r.versions, by omega, by go_num, rfl, rfl, Lib.hid ?_, by omega, Lib.hid (HKr.out.alloc _)⟩
        rw [HT.out, HXY.out.1, HXY.out.2]
        unfold roomOf
        rw [List.foldl_append, List.foldl_append]
        exact ⟨rfl, rfl⟩
      case measure => simp [intOf]; omega
    · obtain rfl : k = 17 := by omega
      rw [List.take_of_length_le (by omega)] at HXY
      go_wp2_with fail
      go_ret2
      exact ⟨by rw [← HXY.out.1, ← HXY.out.2]; rfl, HKr.out⟩
end
end Go.Proofs.Ytinejaganickpaa

namespace Go.Proofs.Ytinejaganickpaa
set_option linter.unusedVariables false
set_option linter.unusedSimpArgs false
open Go Go.RowKit Go.Sort

def Hps.room (σ : Hps) : Int × Int := (roomOf σ.L.length (liveOf σ.L) (·.cells) σ.rs, roomOf σ.V.length (liveOf σ.V) (·.versions) σ.rs)
def Hps.isOn (σ : Hps) (s : Int) : Bool := ((σ.rs[s.toNat]?).map (·.on)).getD false
/-- What is wrong with a reservation. -/
def Hps.mayReserve (σ : Hps) (s x y : Int) : Int := if looksH s = 0 then (if x < 0 ∨ y < 0 then 1 else if σ.isOn s = true then 161 else if σ.room.1 < x ∨ σ.room.2 < y then 5 else 0) else 1
def Hps.reserve (σ : Hps) (s x y : Int) : Hps := if σ.mayReserve s x y = 0 then σ.setRsv s.toNat ⟨true, x, y⟩ else σ
section
variable {b c v e : Nat} {σ : Hps} {w w' : World} {F : Nat → Prop}
set_option maxHeartbeats 2000000 in
theorem reserve_h (h : (HpA b e σ).on w F) (hr : σ.rs.length = 17) (hm : σ.L.length ≤ 65536 ∧ σ.V.length ≤ 65536) (hb : ∀ r ∈ σ.rs, 0 ≤ r.cells ∧ r.cells ≤ 65536 ∧ 0 ≤ r.versions ∧ r.versions ≤ 65536) (s x y : Int) :
    Calls Try.prog 10 #[.pointer (some ⟨b, 0, none⟩), .int .i64 s, .int .i64 x, .int .i64 y] w fun e' w' => e' = .returned (.int .i64 (σ.mayReserve s x y)) ∧ Post (HpA b e (σ.reserve s x y)) F w w' := by
  obtain ⟨c, v, hp⟩ := hp_here h
  have HC := Lib.hid (looks_h hp s)
  have HR := Lib.hid (show Calls Try.prog 23 #[.pointer (some ⟨b, 0, none⟩)] w fun e w'' => e = .returned (.tuple #[.int .i64 σ.room.1, .int .i64 σ.room.2]) ∧ KN w w'' from room_h hp hr hm hb)
  have HP := Lib.hid hp
  unfold Hps.reserve Hps.mayReserve
  by_cases hs : 0 ≤ s ∧ s ≤ 16
  · obtain ⟨i, rfl⟩ : ∃ i : Nat, s = i := ⟨s.toNat, by omega⟩
    have hl : looksH (i : Int) = 0 := by unfold looksH; rw [if_pos hs]
    rw [hl] at HC
    rw [hl, if_pos rfl]
    by_cases hx : x < 0
    · have e1 : (if x < 0 ∨ y < 0 then (1 : Int) else if σ.isOn (i : Int) = true then 161 else if σ.room.1 < x ∨ σ.room.2 < y then 5 else 0) = 1 := if_pos (.inl hx)
      rw [e1, if_neg (by decide)]
      clear h hp hl e1 HR
      go_enter Try.func10, Try.ntmps10
      go_wp2_with (go_at_call 33; refine HC.out.mono ?_; rintro e w3 ⟨rfl, rfl⟩)
      go_ret
      exact ⟨rfl, HP.out.hp⟩
    · by_cases hy : y < 0
      · have e1 : (if x < 0 ∨ y < 0 then (1 : Int) else if σ.isOn (i : Int) = true then 161 else if σ.room.1 < x ∨ σ.room.2 < y then 5 else 0) = 1 := if_pos (.inr hy)
        rw [e1, if_neg (by decide)]
        clear h hp hl e1 HR
        go_enter Try.func10, Try.ntmps10
        go_wp2_with (go_at_call 33; refine HC.out.mono ?_; rintro e w3 ⟨rfl, rfl⟩)
        go_ret
        exact ⟨rfl, HP.out.hp⟩
      · have e0 : ¬ (x < 0 ∨ y < 0) := by omega
        rw [if_neg e0]
        obtain ⟨r, hri⟩ : ∃ r, σ.rs[i]? = some r := ⟨_, List.getElem?_eq_getElem (by omega)⟩
        have ho : σ.isOn (i : Int) = r.on := by unfold Hps.isOn; rw [Int.toNat_natCast, hri]; rfl
        rw [ho]
        obtain ⟨q0, q1, q2⟩ := hp_rsv hp hri
        obtain ⟨_, _, _, hf⟩ := hp_ptrs hp
        have hz0 : (0 : Int) ≤ (i : Int) := by omega
        have hz1 : (i : Int) < 17 := by omega
        cases hon : r.on with
        | true =>
          rw [hon] at q0
          rw [if_pos rfl, if_neg (by decide)]
          clear h hp hl e0 hf ho hri HR q1 q2
          go_enter Try.func10, Try.ntmps10
          go_wp2_with (go_at_call 33; refine HC.out.mono ?_; rintro e w3 ⟨rfl, rfl⟩)
          go_ret
          exact ⟨rfl, HP.out.hp⟩
        | false =>
          rw [hon] at q0
          rw [if_neg (by decide)]
          have HRI := Lib.hid hri
          clear h hp hl e0 ho hri q1 q2 hf
          by_cases hr1 : σ.room.1 < x
          · rw [if_pos (.inl hr1), if_neg (by decide)]
            generalize σ.room.1 = R1 at *
            generalize σ.room.2 = R2 at *
            go_enter Try.func10, Try.ntmps10
            go_wp2_with (first | (go_at_call 33; refine HC.out.mono ?_; rintro e w3 ⟨rfl, rfl⟩) | (go_at_call 23; refine HR.out.mono ?_; rintro e w3 ⟨rfl, hk⟩))
            go_ret
            exact ⟨rfl, (HP.out.kn hk).hp⟩
          · by_cases hr2 : σ.room.2 < y
            · rw [if_pos (.inr hr2), if_neg (by decide)]
              generalize σ.room.1 = R1 at *
              generalize σ.room.2 = R2 at *
              go_enter Try.func10, Try.ntmps10
              go_wp2_with (first | (go_at_call 33; refine HC.out.mono ?_; rintro e w3 ⟨rfl, rfl⟩) | (go_at_call 23; refine HR.out.mono ?_; rintro e w3 ⟨rfl, hk⟩))
              go_ret
              exact ⟨rfl, (HP.out.kn hk).hp⟩
            · rw [if_neg (by omega), if_pos rfl]
              generalize σ.room.1 = R1 at *
              generalize σ.room.2 = R2 at *
              have hir : i < σ.rs.length := by omega
              go_enter Try.func10, Try.ntmps10
              go_wp2_with (go_at_call 33; refine HC.out.mono ?_; rintro e w3 ⟨rfl, rfl⟩)
              refine HR.out.mono ?_
              rintro e w3 ⟨rfl, hk⟩
              have HP3 := Lib.hid (HP.out.kn hk)
              obtain ⟨q0, q1, q2⟩ := hp_rsv HP3.out HRI.out
              obtain ⟨_, _, _, hf⟩ := hp_ptrs HP3.out
              clear hk HP HR
              go_wp2_with fail
              go_ret
              exact ⟨rfl, by rw [Int.toNat_natCast]; exact (HP3.out.rsv (⟨true, x, y⟩ : Rsv) hir).hp⟩
  · have hl : looksH s = 1 := by unfold looksH; rw [if_neg hs]
    rw [hl] at HC
    rw [hl, if_neg (by decide), if_neg (by decide)]
    clear h hp HR
    go_enter Try.func10, Try.ntmps10
    go_wp2_with (go_at_call 33; refine HC.out.mono ?_; rintro e w3 ⟨rfl, rfl⟩)
    go_ret
    exact ⟨rfl, HP.out.hp⟩
end
end Go.Proofs.Ytinejaganickpaa

namespace Go.Proofs.Ytinejaganickpaa
set_option linter.unusedVariables false
set_option linter.unusedSimpArgs false
open Go Go.RowKit Go.Sort

abbrev clV (x : Cl) : Value := .agg #[.string x.key, .int .i64 x.newest.slot, .int .i64 x.newest.gen, .bool x.closed, .bool x.retired]
section
variable {b c v e : Nat} {σ : Hps} {w w' : World} {F : Nat → Prop}
set_option maxHeartbeats 2000000 in
theorem get_good_h {i : Nat} {s : Slot Cl} (h : Pw F w w' (HpL b c v e σ)) (hs : σ.L[i]? = some s) (hg : s.given = true) : Calls Try.prog 42 #[.pointer (some ⟨b, 0, none⟩), .agg #[.int .i64 i, .int .i64 s.gen]] w' fun e' w'' => e' = .returned (.tuple #[clV s.has, .int .i64 0]) ∧ KN w' w'' := by
  have hk : KN w' ((w'.alloc (.cells #[.int .i64 i, .int .i64 s.gen] 36)).alloc (.cells #[.string ⟨#[]⟩, .int .i64 0, .int .i64 0, .bool false, .bool false] 94)) := (kn_alloc _ _).alloc _
  obtain ⟨x0, x1, _, _⟩ := cells2 (blk_alloc (.cells #[.string ⟨#[]⟩, .int .i64 0, .int .i64 0, .bool false, .bool false] 94) (heap_alloc_same w' (.cells #[.int .i64 i, .int .i64 s.gen] 36)))
  have hz := heap_alloc_same (w'.alloc (.cells #[.int .i64 i, .int .i64 s.gen] 36)) (.cells #[.string ⟨#[]⟩, .int .i64 0, .int .i64 0, .bool false, .bool false] 94)
  rw [show (w'.alloc (.cells #[.int .i64 i, .int .i64 s.gen] 36)).heap.size = w'.heap.size + 1 by simp] at hz
  have HZ := Lib.hid hz
  have HC := Lib.hid (none_h (h.kn hk))
  have HG := Lib.hid (fun (W : World) (k : KN w' W) => show Calls Try.prog 37 #[.pointer (some ⟨c, 0, none⟩), .agg #[.int .i64 i, .int .i64 s.gen]] W (fun e w'' => e = .returned (.tuple #[clV s.has, .int .i64 0]) ∧ KN W w'') from by
    obtain ⟨F1, h1, _⟩ := (h.kn k).get 1 rfl
    exact get_good_C h1 hs hg)
  obtain ⟨c0, _⟩ := hp_ptrs (h.kn hk)
  have HK := Lib.hid hk
  have hbl : b < w'.heap.size := lt_blk (h.blk 0 rfl)
  have hne1 : b ≠ w'.heap.size + 1 := by omega
  have hne2 : ¬ w'.heap.size + 1 = b := by omega
  have hne3 : ¬ b = w'.heap.size + 1 := by omega
  clear h hs hg hz hk
  go_enter Try.func42, Try.ntmps42
  go_wp2_with (go_at_call 49; refine HC.out.mono ?_; rintro e w3 ⟨rfl, rfl⟩)
  generalize (w'.alloc (.cells #[.int .i64 i, .int .i64 s.gen] 36)).alloc (.cells #[.string ⟨#[]⟩, .int .i64 0, .int .i64 0, .bool false, .bool false] 94) = w2 at *
  clear HC
  go_region_held3 (fun W => W.cell? ⟨b, 0, none⟩ = some (.pointer (some ⟨c, 0, none⟩)) ∧ W.cell? ⟨w'.heap.size, 0, none⟩ = some (.int .i64 (i : Int)) ∧ W.cell? ⟨w'.heap.size, 1, none⟩ = some (.int .i64 s.gen)) (first | with_reducible exact s7 | go_keep) ((go_at_call 37; refine (HG.out _ (HK.out.drew)).mono ?_; rintro e w7 ⟨rfl, hk7⟩; have s7 : w7.cell? ⟨b, 0, none⟩ = some (.pointer (some ⟨c, 0, none⟩)) ∧ w7.cell? ⟨w'.heap.size, 0, none⟩ = some (.int .i64 (i : Int)) ∧ w7.cell? ⟨w'.heap.size, 1, none⟩ = some (.int .i64 s.gen) := ⟨cell_kp hk7 id c0, cell_kp hk7 id x0, cell_kp hk7 id x1⟩; have hb7 := hk7.blk HZ.out id; have z0 := cell_blk hb7 (i := 0) (v := .string ⟨#[]⟩) rfl; have z1 := cell_blk hb7 (i := 1) (v := .int .i64 0) rfl; have z2 := cell_blk hb7 (i := 2) (v := .int .i64 0) rfl; have z3 := cell_blk hb7 (i := 3) (v := .bool false) rfl; have z4 := cell_blk hb7 (i := 4) (v := .bool false) rfl; have zf : ∀ j, w7.frozen? ⟨w'.heap.size + 1, j, none⟩ = false := (fun j => free_blk hb7)))
  have hk8 := kn_row (g := w'.heap.size + 1) (base := 0) (by omega) [(0, .string s.has.key), (1, .int .i64 s.has.newest.slot), (2, .int .i64 s.has.newest.gen), (3, .bool s.has.closed), (4, .bool s.has.retired)] (HK.out.drew.trans hk7 (fun _ h => h.elim))
  simp only [List.foldl_cons, List.foldl_nil, Nat.zero_add] at hk8
  have hb8 := blk_row (base := 0) [(0, .string s.has.key), (1, .int .i64 s.has.newest.slot), (2, .int .i64 s.has.newest.gen), (3, .bool s.has.closed), (4, .bool s.has.retired)] hb7
  simp only [List.foldl_cons, List.foldl_nil, Nat.zero_add] at hb8
  clear z0 z1 z2 z3 z4 zf hb7 hk7 s7 c0 x0 x1 HG HK HZ
  generalize (((((w7.setCell ⟨w'.heap.size + 1, 0, none⟩ (.string s.has.key)).setCell ⟨w'.heap.size + 1, 1, none⟩ (.int .i64 s.has.newest.slot)).setCell ⟨w'.heap.size + 1, 2, none⟩ (.int .i64 s.has.newest.gen)).setCell ⟨w'.heap.size + 1, 3, none⟩ (.bool s.has.closed)).setCell ⟨w'.heap.size + 1, 4, none⟩ (.bool s.has.retired)) = w8 at *
  have r0 := cell_blk hb8 (i := 0) (v := .string s.has.key) rfl
  have r1 := cell_blk hb8 (i := 1) (v := .int .i64 s.has.newest.slot) rfl
  have r2 := cell_blk hb8 (i := 2) (v := .int .i64 s.has.newest.gen) rfl
  have r3 := cell_blk hb8 (i := 3) (v := .bool s.has.closed) rfl
  have r4 := cell_blk hb8 (i := 4) (v := .bool s.has.retired) rfl
  clear hb8
  go_wp2_with fail
  exact bodyPost_ret (v := .tuple #[clV s.has, .int .i64 0]) (by simp [results, Try.results42, go_sem, r0, r1, r2, r3, r4]) rfl ⟨rfl, hk8⟩
set_option maxHeartbeats 2000000 in
theorem get_bad_h {s g : Int} (h : Pw F w w' (HpL b c v e σ)) (hb : goodAt σ.L s g = none) (hst : 0 ≤ σ.sl ∧ σ.sl ≤ 4611686018427387904) : Calls Try.prog 42 #[.pointer (some ⟨b, 0, none⟩), .agg #[.int .i64 s, .int .i64 g]] w' fun e' w'' => e' = .returned (.tuple #[clV ⟨⟨#[]⟩, ⟨0, 0⟩, false, false⟩, .int .i64 7]) ∧ Pw F w w'' (HpL b c v e ⟨σ.L, σ.sl + 1, σ.V, σ.sv, σ.rs⟩) := by
  have hk : KN w' ((w'.alloc (.cells #[.int .i64 s, .int .i64 g] 36)).alloc (.cells #[.string ⟨#[]⟩, .int .i64 0, .int .i64 0, .bool false, .bool false] 94)) := (kn_alloc _ _).alloc _
  obtain ⟨x0, x1, _, _⟩ := cells2 (blk_alloc (.cells #[.string ⟨#[]⟩, .int .i64 0, .int .i64 0, .bool false, .bool false] 94) (heap_alloc_same w' (.cells #[.int .i64 s, .int .i64 g] 36)))
  have hq := (h.alloc (.cells #[.int .i64 s, .int .i64 g] 36)).alloc (.cells #[.string ⟨#[]⟩, .int .i64 0, .int .i64 0, .bool false, .bool false] 94)
  rw [show (w'.alloc (.cells #[.int .i64 s, .int .i64 g] 36)).heap.size = w'.heap.size + 1 by simp] at hq
  have HC := Lib.hid (none_h (h.kn hk))
  have HG := Lib.hid (fun (W : World) (k : KN ((w'.alloc (.cells #[.int .i64 s, .int .i64 g] 36)).alloc (.cells #[.string ⟨#[]⟩, .int .i64 0, .int .i64 0, .bool false, .bool false] 94)) W) => show Calls Try.prog 37 #[.pointer (some ⟨c, 0, none⟩), .agg #[.int .i64 s, .int .i64 g]] W (fun e' w'' => e' = .returned (.tuple #[clV ⟨⟨#[]⟩, ⟨0, 0⟩, false, false⟩, .int .i64 7]) ∧ Pw F w w'' (Blk (w'.heap.size + 1) (.cells #[.string ⟨#[]⟩, .int .i64 0, .int .i64 0, .bool false, .bool false] 94) :: Blk w'.heap.size (.cells #[.int .i64 s, .int .i64 g] 36) :: HpL b c v e ⟨σ.L, σ.sl + 1, σ.V, σ.sv, σ.rs⟩)) from by
    obtain ⟨F1, h1, _, hup⟩ := (hq.kn k).get 3 rfl
    exact (get_bad_C h1 hb hst).mono fun e' w'' ⟨he, hp'⟩ => ⟨he, hup hp'⟩)
  obtain ⟨c0, _⟩ := hp_ptrs (h.kn hk)
  have hbl : b < w'.heap.size := lt_blk (h.blk 0 rfl)
  have hne1 : b ≠ w'.heap.size + 1 := by omega
  have hne2 : ¬ w'.heap.size + 1 = b := by omega
  have hne3 : ¬ b = w'.heap.size + 1 := by omega
  clear h hb hst hq hk
  go_enter Try.func42, Try.ntmps42
  go_wp2_with (go_at_call 49; refine HC.out.mono ?_; rintro e w3 ⟨rfl, rfl⟩)
  generalize (w'.alloc (.cells #[.int .i64 s, .int .i64 g] 36)).alloc (.cells #[.string ⟨#[]⟩, .int .i64 0, .int .i64 0, .bool false, .bool false] 94) = w2 at *
  clear HC
  go_region_held3 (fun W => W.cell? ⟨b, 0, none⟩ = some (.pointer (some ⟨c, 0, none⟩)) ∧ W.cell? ⟨w'.heap.size, 0, none⟩ = some (.int .i64 s) ∧ W.cell? ⟨w'.heap.size, 1, none⟩ = some (.int .i64 g)) (first | with_reducible exact s7 | go_keep) ((go_at_call 37; refine (HG.out _ (Kp.refl _ _).drew).mono ?_; rintro e w7 ⟨rfl, hp7⟩; have HP7 := Lib.hid hp7; have s7 : w7.cell? ⟨b, 0, none⟩ = some (.pointer (some ⟨c, 0, none⟩)) ∧ w7.cell? ⟨w'.heap.size, 0, none⟩ = some (.int .i64 s) ∧ w7.cell? ⟨w'.heap.size, 1, none⟩ = some (.int .i64 g) := ⟨(hp_ptrs hp7.drop.drop).1, (cells2 (hp7.blk 1 rfl)).1, (cells2 (hp7.blk 1 rfl)).2.1⟩; have hb7 := hp7.blk 0 rfl; have z0 := cell_blk hb7 (i := 0) (v := .string ⟨#[]⟩) rfl; have z1 := cell_blk hb7 (i := 1) (v := .int .i64 0) rfl; have z2 := cell_blk hb7 (i := 2) (v := .int .i64 0) rfl; have z3 := cell_blk hb7 (i := 3) (v := .bool false) rfl; have z4 := cell_blk hb7 (i := 4) (v := .bool false) rfl; have zf : ∀ j, w7.frozen? ⟨w'.heap.size + 1, j, none⟩ = false := (fun j => free_blk hb7); clear hp7))
  have HP8 := HP7.out.setRow (i := 0) (base := 0) [(0, .string ⟨#[]⟩), (1, .int .i64 0), (2, .int .i64 0), (3, .bool false), (4, .bool false)] rfl
  simp only [List.foldl_cons, List.foldl_nil, Nat.zero_add, List.set_cons_zero] at HP8
  clear z0 z1 z2 z3 z4 zf hb7 s7 c0 x0 x1 HG HP7
  generalize (((((w7.setCell ⟨w'.heap.size + 1, 0, none⟩ (.string ⟨#[]⟩)).setCell ⟨w'.heap.size + 1, 1, none⟩ (.int .i64 0)).setCell ⟨w'.heap.size + 1, 2, none⟩ (.int .i64 0)).setCell ⟨w'.heap.size + 1, 3, none⟩ (.bool false)).setCell ⟨w'.heap.size + 1, 4, none⟩ (.bool false)) = w8 at *
  have hb8 := HP8.blk 0 rfl
  have r0 := cell_blk hb8 (i := 0) (v := .string ⟨#[]⟩) rfl
  have r1 := cell_blk hb8 (i := 1) (v := .int .i64 0) rfl
  have r2 := cell_blk hb8 (i := 2) (v := .int .i64 0) rfl
  have r3 := cell_blk hb8 (i := 3) (v := .bool false) rfl
  have r4 := cell_blk hb8 (i := 4) (v := .bool false) rfl
  clear hb8
  go_wp2_with fail
  exact bodyPost_ret (v := .tuple #[clV ⟨⟨#[]⟩, ⟨0, 0⟩, false, false⟩, .int .i64 7]) (by simp [results, Try.results42, go_sem, r0, r1, r2, r3, r4]) rfl ⟨rfl, HP8.drop.drop⟩
end
end Go.Proofs.Ytinejaganickpaa

namespace Go.Proofs.Ytinejaganickpaa
set_option linter.unusedVariables false
set_option linter.unusedSimpArgs false
open Go Go.RowKit Go.Sort

theorem goodAt_some {α : Type} {l : List (Slot α)} {s g : Int} {x : Slot α} (h : goodAt l s g = some x) : ∃ i : Nat, s = i ∧ l[i]? = some x ∧ x.given = true ∧ x.gen = g := by
  unfold goodAt at h
  split at h
  · rename_i hs
    obtain ⟨i, rfl⟩ : ∃ i : Nat, s = i := ⟨s.toNat, by omega⟩
    rw [Int.toNat_natCast] at h
    cases hx : l[i]? with
    | none => rw [hx] at h; cases h
    | some y =>
      rw [hx] at h
      simp only at h
      split at h
      · rename_i hq
        have e := Option.some.inj h
        subst e
        simp at hq
        exact ⟨i, rfl, hx, hq.1, hq.2⟩
      · cases h
  · cases h
/-- What Free leaves: the slots, the count of stale handles, the error. -/
def freeA {α : Type} (z : α) (l : List (Slot α)) (st s g : Int) : List (Slot α) × Int × Int := match goodAt l s g with
  | some x => (l.set s.toNat ⟨z, x.gen, false⟩, st, 0)
  | none => (l, st + 1, 7)
theorem free_C {t : Nat} {l : List (Slot Cl)} {st : Int} {w : World} {F : Nat → Prop} (h : (ArC t l st).on w F) (hm : l.length ≤ 65536) (hst : 0 ≤ st ∧ st ≤ 4611686018427387904) (s g : Int) :
    Calls Try.prog 58 #[.pointer (some ⟨t, 0, none⟩), .agg #[.int .i64 s, .int .i64 g]] w fun e w' => e = .returned (.int .i64 (freeA zC.has l st s g).2.2) ∧ Post (ArC t (freeA zC.has l st s g).1 (freeA zC.has l st s g).2.1) F w w' := by
  unfold freeA
  cases hg : goodAt l s g with
  | none => exact free_bad_C h hg hst
  | some x =>
    obtain ⟨i, rfl, hx, h1, rfl⟩ := goodAt_some hg
    exact free_good_C h hx h1 hm
theorem free_N {t : Nat} {l : List (Slot No)} {st : Int} {w : World} {F : Nat → Prop} (h : (ArN t l st).on w F) (hm : l.length ≤ 65536) (hst : 0 ≤ st ∧ st ≤ 4611686018427387904) (s g : Int) :
    Calls Try.prog 57 #[.pointer (some ⟨t, 0, none⟩), .agg #[.int .i64 s, .int .i64 g]] w fun e w' => e = .returned (.int .i64 (freeA zN.has l st s g).2.2) ∧ Post (ArN t (freeA zN.has l st s g).1 (freeA zN.has l st s g).2.1) F w w' := by
  unfold freeA
  cases hg : goodAt l s g with
  | none => exact free_bad_N h hg hst
  | some x =>
    obtain ⟨i, rfl, hx, h1, rfl⟩ := goodAt_some hg
    exact free_good_N h hx h1 hm
def Hps.free (σ : Hps) (kind s g : Int) : Hps × Int :=
  if kind = 3 then (⟨σ.L, σ.sl, (freeA zN.has σ.V σ.sv s g).1, (freeA zN.has σ.V σ.sv s g).2.1, σ.rs⟩, (freeA zN.has σ.V σ.sv s g).2.2)
  else if kind = 4 then (⟨(freeA zC.has σ.L σ.sl s g).1, (freeA zC.has σ.L σ.sl s g).2.1, σ.V, σ.sv, σ.rs⟩, (freeA zC.has σ.L σ.sl s g).2.2)
  else (σ, 1)
section
variable {b c v e : Nat} {σ : Hps} {w w' : World} {F : Nat → Prop}
set_option maxHeartbeats 2000000 in
theorem free_h (h : (HpA b e σ).on w F) (hm : σ.L.length ≤ 65536 ∧ σ.V.length ≤ 65536) (hst : (0 ≤ σ.sl ∧ σ.sl ≤ 4611686018427387904) ∧ (0 ≤ σ.sv ∧ σ.sv ≤ 4611686018427387904)) (kind s g : Int) :
    Calls Try.prog 22 #[.pointer (some ⟨b, 0, none⟩), .agg #[.int .i64 kind, .int .i64 s, .int .i64 g]] w fun e' w' => e' = .returned (.int .i64 (σ.free kind s g).2) ∧ Post (HpA b e (σ.free kind s g).1) F w w' := by
  obtain ⟨c, v, hp⟩ := hp_here h
  have hq := hp.alloc (.cells #[.int .i64 kind, .int .i64 s, .int .i64 g] 59)
  have HN := Lib.hid (none_h (hp.kn (kn_alloc w (.cells #[.int .i64 kind, .int .i64 s, .int .i64 g] 59))))
  have HQ := Lib.hid hq
  have HFC := Lib.hid (fun (W : World) (k : KN (w.alloc (.cells #[.int .i64 kind, .int .i64 s, .int .i64 g] 59)) W) => show Calls Try.prog 58 #[.pointer (some ⟨c, 0, none⟩), .agg #[.int .i64 s, .int .i64 g]] W (fun e' w'' => e' = .returned (.int .i64 (freeA zC.has σ.L σ.sl s g).2.2) ∧ Pw F w w'' (Blk w.heap.size (.cells #[.int .i64 kind, .int .i64 s, .int .i64 g] 59) :: HpL b c v e ⟨(freeA zC.has σ.L σ.sl s g).1, (freeA zC.has σ.L σ.sl s g).2.1, σ.V, σ.sv, σ.rs⟩)) from by
    obtain ⟨F1, h1, _, hup⟩ := (hq.kn k).get 2 rfl
    exact (free_C h1 hm.1 hst.1 s g).mono fun e' w'' ⟨he, hp'⟩ => ⟨he, hup hp'⟩)
  have HFN := Lib.hid (fun (W : World) (k : KN (w.alloc (.cells #[.int .i64 kind, .int .i64 s, .int .i64 g] 59)) W) => show Calls Try.prog 57 #[.pointer (some ⟨v, 0, none⟩), .agg #[.int .i64 s, .int .i64 g]] W (fun e' w'' => e' = .returned (.int .i64 (freeA zN.has σ.V σ.sv s g).2.2) ∧ Pw F w w'' (Blk w.heap.size (.cells #[.int .i64 kind, .int .i64 s, .int .i64 g] 59) :: HpL b c v e ⟨σ.L, σ.sl, (freeA zN.has σ.V σ.sv s g).1, (freeA zN.has σ.V σ.sv s g).2.1, σ.rs⟩)) from by
    obtain ⟨F1, h1, _, hup⟩ := (hq.kn k).get 3 rfl
    exact (free_N h1 hm.2 hst.2 s g).mono fun e' w'' ⟨he, hp'⟩ => ⟨he, hup hp'⟩)
  obtain ⟨c0, c1, _⟩ := hp_ptrs (hp.kn (kn_alloc w (.cells #[.int .i64 kind, .int .i64 s, .int .i64 g] 59)))
  obtain ⟨k0, k1, k2, _⟩ := cells3 (heap_alloc_same w (.cells #[.int .i64 kind, .int .i64 s, .int .i64 g] 59))
  clear h hp hq
  unfold Hps.free
  by_cases h3 : kind = 3
  · subst h3
    rw [if_pos rfl]
    go_enter Try.func22, Try.ntmps22
    go_wp2_with (go_at_call 49; refine HN.out.mono ?_; rintro e w3 ⟨rfl, rfl⟩)
    generalize w.alloc (.cells #[.int .i64 3, .int .i64 s, .int .i64 g] 59) = w2 at *
    generalize w.heap.size = gx at *
    go_region_held3 (fun W => W.cell? ⟨b, 1, none⟩ = some (.pointer (some ⟨v, 0, none⟩)) ∧ W.cell? ⟨gx, 1, none⟩ = some (.int .i64 s) ∧ W.cell? ⟨gx, 2, none⟩ = some (.int .i64 g)) (first | with_reducible exact s7 | go_keep) ((go_at_call 57; refine (HFN.out _ (Kp.refl _ _).drew).mono ?_; rintro e w7 ⟨rfl, hp7⟩; have HP7 := Lib.hid hp7; have s7 : w7.cell? ⟨b, 1, none⟩ = some (.pointer (some ⟨v, 0, none⟩)) ∧ w7.cell? ⟨gx, 1, none⟩ = some (.int .i64 s) ∧ w7.cell? ⟨gx, 2, none⟩ = some (.int .i64 g) := ⟨(hp_ptrs hp7.drop).2.1, (cells3 (hp7.blk 0 rfl)).2.1, (cells3 (hp7.blk 0 rfl)).2.2.1⟩; clear hp7))
    go_wp2_with fail
    go_ret
    exact ⟨rfl, HP7.out.drop.hp⟩
  · rw [if_neg h3]
    by_cases h4 : kind = 4
    · subst h4
      rw [if_pos rfl]
      go_enter Try.func22, Try.ntmps22
      go_wp2_with (go_at_call 49; refine HN.out.mono ?_; rintro e w3 ⟨rfl, rfl⟩)
      generalize w.alloc (.cells #[.int .i64 4, .int .i64 s, .int .i64 g] 59) = w2 at *
      generalize w.heap.size = gx at *
      go_region_held3 (fun W => W.cell? ⟨b, 0, none⟩ = some (.pointer (some ⟨c, 0, none⟩)) ∧ W.cell? ⟨gx, 1, none⟩ = some (.int .i64 s) ∧ W.cell? ⟨gx, 2, none⟩ = some (.int .i64 g)) (first | with_reducible exact s7 | go_keep) ((go_at_call 58; refine (HFC.out _ (Kp.refl _ _).drew).mono ?_; rintro e w7 ⟨rfl, hp7⟩; have HP7 := Lib.hid hp7; have s7 : w7.cell? ⟨b, 0, none⟩ = some (.pointer (some ⟨c, 0, none⟩)) ∧ w7.cell? ⟨gx, 1, none⟩ = some (.int .i64 s) ∧ w7.cell? ⟨gx, 2, none⟩ = some (.int .i64 g) := ⟨(hp_ptrs hp7.drop).1, (cells3 (hp7.blk 0 rfl)).2.1, (cells3 (hp7.blk 0 rfl)).2.2.1⟩; clear hp7))
      go_wp2_with fail
      go_ret
      exact ⟨rfl, HP7.out.drop.hp⟩
    · rw [if_neg h4]
      have e3 : (kind == 3) = false := by simpa using h3
      have e4 : (kind == 4) = false := by simpa using h4
      clear h3 h4
      go_enter Try.func22, Try.ntmps22
      go_wp2_with (go_at_call 49; refine HN.out.mono ?_; rintro e w3 ⟨rfl, rfl⟩)
      go_ret
      exact ⟨rfl, HQ.out.drop.hp⟩
end
end Go.Proofs.Ytinejaganickpaa

namespace Go.Proofs.Ytinejaganickpaa
set_option linter.unusedVariables false
set_option linter.unusedSimpArgs false
open Go Go.RowKit Go.Sort

section
variable {b c v e : Nat} {σ : Hps} {w w' : World} {F : Nat → Prop}
theorem key_good_h {i : Nat} {s : Slot Cl} (h : Pw F w w' (HpL b c v e σ)) (hs : σ.L[i]? = some s) (hg : s.given = true) : Calls Try.prog 25 #[.pointer (some ⟨b, 0, none⟩), .agg #[.int .i64 i, .int .i64 s.gen]] w' fun e' w'' => e' = .returned (.tuple #[.string s.has.key, .int .i64 0]) ∧ KN w' w'' := by
  have HG := Lib.hid (get_good_h (h.kn (kn_alloc w' (.cells #[.int .i64 i, .int .i64 s.gen] 36))) hs hg)
  obtain ⟨x0, x1, _, _⟩ := cells2 (heap_alloc_same w' (.cells #[.int .i64 i, .int .i64 s.gen] 36))
  have hk := kn_alloc w' (.cells #[.int .i64 i, .int .i64 s.gen] 36)
  clear h hs hg
  go_enter Try.func25, Try.ntmps25
  go_wp2_with (go_at_call 42; refine HG.out.mono ?_; rintro e w3 ⟨rfl, hk3⟩)
  go_ret2
  exact ⟨rfl, (hk.trans hk3 (fun _ h => h.elim)).alloc _⟩
theorem key_bad_h {s g : Int} (h : Pw F w w' (HpL b c v e σ)) (hb : goodAt σ.L s g = none) (hst : 0 ≤ σ.sl ∧ σ.sl ≤ 4611686018427387904) : Calls Try.prog 25 #[.pointer (some ⟨b, 0, none⟩), .agg #[.int .i64 s, .int .i64 g]] w' fun e' w'' => e' = .returned (.tuple #[.string ⟨#[]⟩, .int .i64 7]) ∧ Pw F w w'' (HpL b c v e ⟨σ.L, σ.sl + 1, σ.V, σ.sv, σ.rs⟩) := by
  have HG := Lib.hid (get_bad_h (h.kn (kn_alloc w' (.cells #[.int .i64 s, .int .i64 g] 36))) hb hst)
  obtain ⟨x0, x1, _, _⟩ := cells2 (heap_alloc_same w' (.cells #[.int .i64 s, .int .i64 g] 36))
  clear h hb hst
  go_enter Try.func25, Try.ntmps25
  go_wp2_with (go_at_call 42; refine HG.out.mono ?_; rintro e w3 ⟨rfl, hp3⟩)
  go_ret2
  exact ⟨rfl, hp3.kn (kn_alloc _ _)⟩
/-- What Reopen leaves of a cell, and its error. -/
def reopenC (x : Cl) : Cl × Int := if x.closed = false ∨ x.retired = true then (x, 162) else (⟨x.key, x.newest, false, x.retired⟩, 0)
set_option maxHeartbeats 2000000 in
theorem reopen_good_h {i : Nat} {s : Slot Cl} (h : Pw F w w' (HpL b c v e σ)) (hs : σ.L[i]? = some s) (hg : s.given = true) : Calls Try.prog 17 #[.pointer (some ⟨b, 0, none⟩), .agg #[.int .i64 i, .int .i64 s.gen]] w' fun e' w'' =>
    e' = .returned (.int .i64 (reopenC s.has).2) ∧ Pw F w w'' (HpL b c v e ⟨σ.L.set i ⟨(reopenC s.has).1, s.gen, s.given⟩, σ.sl, σ.V, σ.sv, σ.rs⟩) := by
  have hil := (List.getElem?_eq_some_iff.1 hs).1
  have hsame : σ.L.set i ⟨s.has, s.gen, s.given⟩ = σ.L := by
    obtain ⟨_, e⟩ := List.getElem?_eq_some_iff.1 hs
    have : (⟨s.has, s.gen, s.given⟩ : Slot Cl) = σ.L[i] := by rw [e]
    rw [this]; simp
  have HS := Lib.hid hsame
  have hq := h.alloc (.cells #[.int .i64 i, .int .i64 s.gen] 36)
  have HG := Lib.hid (get_good_h (h.kn (kn_alloc w' (.cells #[.int .i64 i, .int .i64 s.gen] 36))) hs hg)
  have HQ := Lib.hid hq
  have HSG := Lib.hid (And.intro hs hg)
  obtain ⟨x0, x1, _, _⟩ := cells2 (heap_alloc_same w' (.cells #[.int .i64 i, .int .i64 s.gen] 36))
  clear h hs hg hsame hq
  obtain ⟨⟨key, nw, closed, retired⟩, gen, given⟩ := s
  unfold reopenC
  simp only at HS HSG HG x0 x1 HQ ⊢
  cases closed with
  | false =>
    rw [if_pos (.inl rfl)]
    rw [HS.out]
    go_enter Try.func17, Try.ntmps17
    go_wp2_with (go_at_call 42; refine HG.out.mono ?_; rintro e w3 ⟨rfl, hk3⟩)
    go_ret
    exact ⟨rfl, ((HQ.out.kn hk3).kn (kn_alloc _ _)).drop⟩
  | true =>
    cases retired with
    | true =>
      rw [if_pos (.inr rfl)]
      rw [HS.out]
      go_enter Try.func17, Try.ntmps17
      go_wp2_with (go_at_call 42; refine HG.out.mono ?_; rintro e w3 ⟨rfl, hk3⟩)
      go_ret
      exact ⟨rfl, ((HQ.out.kn hk3).kn (kn_alloc _ _)).drop⟩
    | false =>
      rw [if_neg (by simp)]
      go_enter Try.func17, Try.ntmps17
      go_wp2_with (go_at_call 42; refine HG.out.mono ?_; rintro e w3 ⟨rfl, hk3⟩)
      have hq4 := (HQ.out.kn hk3).alloc (.cells #[.string key, .int .i64 nw.slot, .int .i64 nw.gen, .bool false, .bool false] 94)
      have HQ4 := Lib.hid hq4
      clear hq4 hk3 HQ HG x0 x1 HS
      generalize w3.alloc (.cells #[.string key, .int .i64 nw.slot, .int .i64 nw.gen, .bool false, .bool false] 94) = w4 at *
      generalize w3.heap.size = gx at *
      have HSt := Lib.hid (fun (W : World) (k : KN w4 W) => show Calls Try.prog 41 #[.pointer (some ⟨c, 0, none⟩), .agg #[.int .i64 i, .int .i64 gen], clV ⟨key, nw, false, false⟩] W (fun e' w'' => e' = .returned (.int .i64 0) ∧ Pw F w w'' (Blk gx (.cells #[.string key, .int .i64 nw.slot, .int .i64 nw.gen, .bool false, .bool false] 94) :: Blk w'.heap.size (.cells #[.int .i64 i, .int .i64 gen] 36) :: HpL b c v e ⟨σ.L.set i ⟨⟨key, nw, false, false⟩, gen, given⟩, σ.sl, σ.V, σ.sv, σ.rs⟩)) from by
        obtain ⟨F1, h1, _, hup⟩ := (HQ4.out.kn k).get 3 rfl
        exact (set_good_C h1 HSG.out.1 HSG.out.2 ⟨key, nw, false, false⟩).mono fun e' w'' ⟨he, hp'⟩ => ⟨he, hup hp'⟩)
      have s4 : w4.cell? ⟨b, 0, none⟩ = some (.pointer (some ⟨c, 0, none⟩)) ∧ w4.cell? ⟨w'.heap.size, 0, none⟩ = some (.int .i64 (i : Int)) ∧ w4.cell? ⟨w'.heap.size, 1, none⟩ = some (.int .i64 gen) ∧ w4.cell? ⟨gx, 0, none⟩ = some (.string key) ∧ w4.cell? ⟨gx, 1, none⟩ = some (.int .i64 nw.slot) ∧ w4.cell? ⟨gx, 2, none⟩ = some (.int .i64 nw.gen) ∧ w4.cell? ⟨gx, 3, none⟩ = some (.bool false) ∧ w4.cell? ⟨gx, 4, none⟩ = some (.bool false) := ⟨(hp_ptrs HQ4.out.drop.drop).1, (cells2 (HQ4.out.blk 1 rfl)).1, (cells2 (HQ4.out.blk 1 rfl)).2.1, cell_blk (HQ4.out.blk 0 rfl) rfl, cell_blk (HQ4.out.blk 0 rfl) rfl, cell_blk (HQ4.out.blk 0 rfl) rfl, cell_blk (HQ4.out.blk 0 rfl) rfl, cell_blk (HQ4.out.blk 0 rfl) rfl⟩
      obtain ⟨c0, x0, x1, y0, y1, y2, y3, y4⟩ := s4
      clear HSG
      go_region_held3 (fun W => W.cell? ⟨b, 0, none⟩ = some (.pointer (some ⟨c, 0, none⟩)) ∧ W.cell? ⟨w'.heap.size, 0, none⟩ = some (.int .i64 (i : Int)) ∧ W.cell? ⟨w'.heap.size, 1, none⟩ = some (.int .i64 gen) ∧ W.cell? ⟨gx, 0, none⟩ = some (.string key) ∧ W.cell? ⟨gx, 1, none⟩ = some (.int .i64 nw.slot) ∧ W.cell? ⟨gx, 2, none⟩ = some (.int .i64 nw.gen) ∧ W.cell? ⟨gx, 3, none⟩ = some (.bool false) ∧ W.cell? ⟨gx, 4, none⟩ = some (.bool false)) (first | with_reducible exact s7 | go_keep) ((go_at_call 41; refine (HSt.out _ (Kp.refl _ _).drew).mono ?_; rintro e w7 ⟨rfl, hp7⟩; have HP7 := Lib.hid hp7; have s7 : w7.cell? ⟨b, 0, none⟩ = some (.pointer (some ⟨c, 0, none⟩)) ∧ w7.cell? ⟨w'.heap.size, 0, none⟩ = some (.int .i64 (i : Int)) ∧ w7.cell? ⟨w'.heap.size, 1, none⟩ = some (.int .i64 gen) ∧ w7.cell? ⟨gx, 0, none⟩ = some (.string key) ∧ w7.cell? ⟨gx, 1, none⟩ = some (.int .i64 nw.slot) ∧ w7.cell? ⟨gx, 2, none⟩ = some (.int .i64 nw.gen) ∧ w7.cell? ⟨gx, 3, none⟩ = some (.bool false) ∧ w7.cell? ⟨gx, 4, none⟩ = some (.bool false) := ⟨(hp_ptrs hp7.drop.drop).1, (cells2 (hp7.blk 1 rfl)).1, (cells2 (hp7.blk 1 rfl)).2.1, cell_blk (hp7.blk 0 rfl) rfl, cell_blk (hp7.blk 0 rfl) rfl, cell_blk (hp7.blk 0 rfl) rfl, cell_blk (hp7.blk 0 rfl) rfl, cell_blk (hp7.blk 0 rfl) rfl⟩; clear hp7))
      go_wp2_with fail
      go_ret
      exact ⟨rfl, HP7.out.drop.drop⟩
theorem reopen_bad_h {s g : Int} (h : Pw F w w' (HpL b c v e σ)) (hb : goodAt σ.L s g = none) (hst : 0 ≤ σ.sl ∧ σ.sl ≤ 4611686018427387904) : Calls Try.prog 17 #[.pointer (some ⟨b, 0, none⟩), .agg #[.int .i64 s, .int .i64 g]] w' fun e' w'' => e' = .returned (.int .i64 7) ∧ Pw F w w'' (HpL b c v e ⟨σ.L, σ.sl + 1, σ.V, σ.sv, σ.rs⟩) := by
  have HG := Lib.hid (get_bad_h (h.kn (kn_alloc w' (.cells #[.int .i64 s, .int .i64 g] 36))) hb hst)
  obtain ⟨x0, x1, _, _⟩ := cells2 (heap_alloc_same w' (.cells #[.int .i64 s, .int .i64 g] 36))
  clear h hb hst
  go_enter Try.func17, Try.ntmps17
  go_wp2_with (go_at_call 42; refine HG.out.mono ?_; rintro e w3 ⟨rfl, hp3⟩)
  go_ret
  exact ⟨rfl, hp3.kn (kn_alloc _ _)⟩
end
end Go.Proofs.Ytinejaganickpaa

namespace Go.Proofs.Ytinejaganickpaa
set_option linter.unusedVariables false
set_option linter.unusedSimpArgs false
open Go Go.RowKit Go.Sort

/-- How many cells a row has left is written. -/
theorem rsv_set1 (c v e : Nat) (rs : List Rsv) {i : Nat} {r : Rsv} (hr : rs[i]? = some r) (x : Int) :
    (hpCells c v e rs).setIfInBounds (3 + i * 3 + 1) (.int .i64 x) = hpCells c v e (rs.set i ⟨r.on, x, r.versions⟩) := by
  unfold hpCells
  apply Array.ext'
  simp only [Array.toList_setIfInBounds, List.cons_append, List.nil_append]
  show _ = Value.pointer (some ⟨c, 0, none⟩) :: Value.pointer (some ⟨v, 0, none⟩) :: Value.pointer (some ⟨e, 0, none⟩) :: (rs.set i ⟨r.on, x, r.versions⟩).flatMap Rsv.enc
  have hs : ∀ (n : Nat) (x : Value) (l : List Value), (Value.pointer (some ⟨c, 0, none⟩) :: Value.pointer (some ⟨v, 0, none⟩) :: Value.pointer (some ⟨e, 0, none⟩) :: l).set (3 + n) x = Value.pointer (some ⟨c, 0, none⟩) :: Value.pointer (some ⟨v, 0, none⟩) :: Value.pointer (some ⟨e, 0, none⟩) :: l.set n x := fun n x l => by
    rw [show 3 + n = n + 1 + 1 + 1 by omega]; rfl
  rw [show 3 + i * 3 + 1 = 3 + (i * 3 + 1) by omega, hs]
  congr 3
  clear hs
  induction rs generalizing i with
  | nil => simp at hr
  | cons q rs ih =>
    cases i with
    | zero =>
      simp at hr; subst hr
      simp [Rsv.enc]
    | succ i =>
      have hr' : rs[i]? = some r := by simpa using hr
      rw [List.set_cons_succ, List.flatMap_cons, List.flatMap_cons, ← ih hr']
      simp [Rsv.enc, Nat.add_mul]
section
variable {b e : Nat} {σ : Hps} {w w' : World} {F : Nat → Prop}
theorem holds_on {i : Nat} {r : Rsv} (hi : i < 17) (hr : σ.rs[i]? = some r) (hon : r.on = true) : σ.holds (i : Int) = 0 := by
  have hs : 0 ≤ (i : Int) ∧ (i : Int) ≤ 16 := by omega
  unfold Hps.holds Hps.has looksH
  rw [if_pos hs, if_pos rfl, if_pos hs, Int.toNat_natCast, hr]
  simp [hon]
set_option maxHeartbeats 2000000 in
set_option maxRecDepth 100000 in
theorem cell_ok_h {i j : Nat} {r : Rsv} {fr : List Int} {s : Slot Cl} {key : ByteArray} (h : (HpA b e σ).on w F) (hl : σ.rs.length = 17) (hi : i < 17) (hri : σ.rs[i]? = some r) (hon : r.on = true) (hkey : keyOk key = 0) (hks : key.size ≤ maxLen) (hc : 1 ≤ r.cells ∧ r.cells ≤ 65536)
    (hfr : freeOf σ.L = (j : Int) :: fr) (hs : σ.L[j]? = some s) (hg : 0 ≤ s.gen ∧ s.gen ≤ 9000000) (hm : σ.L.length ≤ 65536) :
    Calls Try.prog 12 #[.pointer (some ⟨b, 0, none⟩), .int .i64 i, .string key] w fun e' w' => e' = .returned (.tuple #[.agg #[.int .i64 j, .int .i64 (s.gen + 1)], .int .i64 0]) ∧
      Post (HpA b e ⟨σ.L.set j ⟨⟨key, ⟨0, 0⟩, false, false⟩, s.gen + 1, true⟩, σ.sl, σ.V, σ.sv, σ.rs.set i ⟨r.on, r.cells - 1, r.versions⟩⟩) F w w' := by
  obtain ⟨c, v, hp⟩ := hp_here h
  have HH := Lib.hid (holds_h (hp.kn (kn_alloc w (.cells #[.int .i64 0, .int .i64 0] 36))) hl (i : Int))
  rw [holds_on hi hri hon] at HH
  have HKy := Lib.hid (fun w => key_r key hks w)
  rw [hkey] at HKy
  have hq := hp.alloc (.cells #[.int .i64 0, .int .i64 0] 36)
  obtain ⟨q0, q1, q2⟩ := hp_rsv hq.drop hri
  obtain ⟨_, _, _, hf⟩ := hp_ptrs hq.drop
  have hz0 : (0 : Int) ≤ (i : Int) := by omega
  have hz1 : (i : Int) < 17 := by omega
  have hwr : IntKind.i64.wrap (r.cells - 1) = r.cells - 1 := Go.IntWalk.i64_in _ (by omega)
  have hc0 : (r.cells == 0) = false := by simp; omega
  have HQ := Lib.hid hq
  have HRI := Lib.hid hri
  have HA := Lib.hid (And.intro hfr (And.intro hs (And.intro hg hm)))
  clear h hp hq hfr hs hg hm hon hkey hks hc hri hl
  go_enter Try.func12, Try.ntmps12
  go_wp2_with (first | (go_at_call 34; refine HH.out.mono ?_; rintro e w3 ⟨rfl, rfl⟩) | (go_at_call 35; refine (HKy.out _).mono ?_; rintro e w3 ⟨rfl, rfl⟩))
  have m1 := fun d os => cell_regrown (d := d) (os := os) q1
  refine wp_region_below_tail 12 (by kernel_rfl) (by kernel_rfl) ?_
  simp only [List.take_succ_cons, List.take_zero, List.drop_succ_cons, List.drop_zero]
  repeat (go_big_quiet_step (fail))
  refine wpQuiet_nil ?_
  intro _ hw'
  obtain ⟨⟨dq, osq⟩, hw''⟩ := hw'
  subst hw''
  have HQ3 := Lib.hid (HQ.out.kn (kn_regrown (w.alloc (.cells #[.int .i64 0, .int .i64 0] 36)) dq osq))
  clear q0 q1 q2 hf HQ HH HKy m1
  generalize grow (redrawn (w.alloc (.cells #[.int .i64 0, .int .i64 0] 36)) dq) osq = w3 at *
  generalize w.heap.size = gx at *
  obtain ⟨q0, q1, q2⟩ := hp_rsv HQ3.out.drop HRI.out
  obtain ⟨_, _, _, hf⟩ := hp_ptrs HQ3.out.drop
  go_upto_region 10 with fail
  have h4 := HQ3.out.setC 1 rfl (j := 3 + i * 3 + 1) (.int .i64 (r.cells - 1))
  rw [rsv_set1 c v e σ.rs HRI.out] at h4
  have H4 : Hid (Pw F w (w3.setCell ⟨b, 3 + i * 3 + 1, none⟩ (.int .i64 (r.cells - 1))) (Blk gx (.cells #[.int .i64 0, .int .i64 0] 36) :: HpL b c v e ⟨σ.L, σ.sl, σ.V, σ.sv, σ.rs.set i ⟨r.on, r.cells - 1, r.versions⟩⟩)) := Lib.hid h4
  clear h4 q0 q1 q2 hf HQ3
  generalize w3.setCell ⟨b, 3 + i * 3 + 1, none⟩ (.int .i64 (r.cells - 1)) = w4 at *
  obtain ⟨c0, _⟩ := hp_ptrs H4.out.drop
  have HPut := Lib.hid (show Calls Try.prog 36 #[.pointer (some ⟨c, 0, none⟩), clV ⟨key, ⟨0, 0⟩, false, false⟩] w4 (fun e' w'' => e' = .returned (.tuple #[.agg #[.int .i64 j, .int .i64 (s.gen + 1)], .int .i64 0]) ∧ Pw F w w'' (Blk gx (.cells #[.int .i64 0, .int .i64 0] 36) :: HpL b c v e ⟨σ.L.set j ⟨⟨key, ⟨0, 0⟩, false, false⟩, s.gen + 1, true⟩, σ.sl, σ.V, σ.sv, σ.rs.set i ⟨r.on, r.cells - 1, r.versions⟩⟩)) from by
    obtain ⟨F1, h1, _, hup⟩ := H4.out.get 2 rfl
    exact (put_ok_C h1 HA.out.1 HA.out.2.1 HA.out.2.2.1 HA.out.2.2.2 ⟨key, ⟨0, 0⟩, false, false⟩).mono fun e' w'' ⟨he, hp'⟩ => ⟨he, hup hp'⟩)
  clear HA H4
  go_wp2_with fail
  refine HPut.out.mono ?_
  rintro e5 w5 ⟨rfl, hp5⟩
  have HP5 := Lib.hid hp5
  obtain ⟨g0, g1, gf0, gf1⟩ := cells2 (hp5.blk 0 rfl)
  clear hp5 HPut
  go_wp2_with fail
  have HP6 := Lib.hid ((HP5.out.setC 0 rfl (j := 0) (.int .i64 (j : Int))).setC 0 rfl (j := 1) (.int .i64 (s.gen + 1)))
  obtain ⟨r0, r1, _, _⟩ := cells2 (HP6.out.blk 0 rfl)
  exact bodyPost_ret (v := .tuple #[.agg #[.int .i64 j, .int .i64 (s.gen + 1)], .int .i64 0]) (by simp [results, Try.results12, go_sem, r0, r1]) rfl ⟨rfl, HP6.out.drop.hp⟩
end
end Go.Proofs.Ytinejaganickpaa
