/- The reference's table: in memory; its methods. -/
import Derived.Test.YtkjkaliblkihmaaTabAll2
import Derived.Test.YtkjkaliblkihmaaPostL
import Derived.RegionTactic
import Derived.Deep.RegionHeld3
import Derived.StillTailTactics
import Derived.Deep.CutBlock
namespace Go.Proofs.Ytkjkaliblkihmaa
set_option linter.unusedVariables false
set_option linter.unusedSimpArgs false
open Go Go.RowKit

def encR (a : AP) : List Value := [.int .i64 a.2.1, .int .i64 a.2.2]
theorem encR2 (a : AP) : (encR a).length = 2 := rfl
def stArr (R : List AP) : Array Value := (R.map fun a => Value.int .i64 a.1).toArray
abbrev RtL (u s h : Nat) (R : List AP) (arr : Array Value) (x : Int) : List Asr :=
  [Blk u (.cells #[.slice (some ⟨s, 0, none⟩) R.length R.length, .slice (some ⟨h, 0, none⟩) R.length R.length, .int .i64 x] 79), Blk s (.cells (stArr R) 3), Blk h (.cells arr 23)]
/-- The reference's table. -/
def RfT (u : Nat) (R : List AP) (x : Int) : Asr where
  on := fun w F => ∃ s h arr, Arr encR 2 arr R ∧ (All (RtL u s h R arr x)).on w F
  keep := fun h k hS => by
    obtain ⟨s, h', arr, ha, h⟩ := h
    exact ⟨s, h', arr, ha, (All _).keep h k hS⟩
  lt := fun h => by
    obtain ⟨s, h', arr, ha, h⟩ := h
    exact (All _).lt h
section
variable {u s h : Nat} {R : List AP} {arr : Array Value} {x : Int} {w w' : World} {F : Nat → Prop}
theorem rt_here (hh : (RfT u R x).on w F) : ∃ s h arr, Arr encR 2 arr R ∧ Pw F w w (RtL u s h R arr x) := let ⟨s, h, arr, ha, hh⟩ := hh; ⟨s, h, arr, ha, Pw.start hh⟩
theorem Pw.rt (hp : Pw F w w' (RtL u s h R arr x)) (ha : Arr encR 2 arr R) : Post (RfT u R x) F w w' := Post.imp hp fun F' h' => ⟨s, h, arr, ha, h'⟩
theorem Pw.atT (hp : Pw F w w' (RtL u s h R arr x)) : (w'.cell? ⟨u, 0, none⟩ = some (.slice (some ⟨s, 0, none⟩) R.length R.length) ∧ w'.cell? ⟨u, 1, none⟩ = some (.slice (some ⟨h, 0, none⟩) R.length R.length) ∧ w'.cell? ⟨u, 2, none⟩ = some (.int .i64 x)) ∧ w'.frozen? ⟨u, 2, none⟩ = false := by
  have h0 := hp.blk 0 rfl
  exact ⟨⟨cell_blk h0 rfl, cell_blk h0 rfl, cell_blk h0 rfl⟩, free_blk h0⟩
theorem Pw.slotT (hp : Pw F w w' (RtL u s h R arr x)) (ha : Arr encR 2 arr R) {i : Nat} {a : AP} (hx : R[i]? = some a) : (w'.cell? ⟨s, i, none⟩ = some (.int .i64 a.1) ∧ w'.cell? ⟨h, i * 2, none⟩ = some (.int .i64 a.2.1) ∧ w'.cell? ⟨h, i * 2 + 1, none⟩ = some (.int .i64 a.2.2)) ∧ w'.frozen? ⟨s, i, none⟩ = false ∧ w'.frozen? ⟨h, i * 2, none⟩ = false ∧ w'.frozen? ⟨h, i * 2 + 1, none⟩ = false := by
  have h1 := hp.blk 1 rfl
  have h2 := hp.blk 2 rfl
  exact ⟨⟨cell_blk h1 (by simp [stArr, hx]), cell_blk h2 (ha.cell hx (j := 0) (by omega)), cell_blk h2 (ha.cell hx (j := 1) (by omega))⟩, free_blk h1, free_blk h2, free_blk h2⟩
theorem rt_st (hp : Pw F w w' (RtL u s h R arr x)) (ha : Arr encR 2 arr R) {i : Nat} {a : AP} (hx : R[i]? = some a) (v : Int) : Pw F w (w'.setCell ⟨s, i, none⟩ (.int .i64 v)) (RtL u s h (R.set i (v, a.2)) arr x) ∧ Arr encR 2 arr (R.set i (v, a.2)) := by
  have hi := (List.getElem?_eq_some_iff.1 hx).1
  have h1 := hp.setC 1 rfl (j := i) (.int .i64 v)
  have e1 : stArr (R.set i (v, a.2)) = (stArr R).setIfInBounds i (.int .i64 v) := by simp [stArr, List.map_set]
  have e4 : (R.set i (v, a.2)).length = R.length := by simp
  refine ⟨?_, by rw [e4]; exact ha.1, fun j y hy m hm => ?_⟩
  · unfold RtL
    rw [e1, e4]
    exact h1
  · by_cases e : i = j
    · subst e
      rw [List.getElem?_set_self hi] at hy
      cases hy
      exact ha.2 i a hx m hm
    · rw [List.getElem?_set_ne e] at hy
      exact ha.2 j y hy m hm
theorem rt_hd (hp : Pw F w w' (RtL u s h R arr x)) (ha : Arr encR 2 arr R) {i : Nat} {a : AP} (hx : R[i]? = some a) (g : Int × Int) :
    ∃ arr', Pw F w ((w'.setCell ⟨h, i * 2, none⟩ (.int .i64 g.1)).setCell ⟨h, i * 2 + 1, none⟩ (.int .i64 g.2)) (RtL u s h (R.set i (a.1, g)) arr' x) ∧ Arr encR 2 arr' (R.set i (a.1, g)) := by
  have hi := (List.getElem?_eq_some_iff.1 hx).1
  have h1 := (hp.setC 2 rfl (j := i * 2) (.int .i64 g.1)).setC 2 rfl (j := i * 2 + 1) (.int .i64 g.2)
  have a1 := ha.set hx (j := 0) (x' := (a.1, (g.1, a.2.2))) (v := .int .i64 g.1) (by omega) (encR2 a) rfl
  have a2 := a1.set (List.getElem?_set_self hi) (j := 1) (x' := (a.1, g)) (v := .int .i64 g.2) (by omega) (encR2 _) rfl
  rw [List.set_set] at a2
  have e1 : stArr (R.set i (a.1, g)) = stArr R := by
    unfold stArr
    congr 1
    apply List.ext_getElem?
    intro j
    rw [List.getElem?_map, List.getElem?_map]
    by_cases e : i = j
    · subst e; rw [List.getElem?_set_self hi, hx]; rfl
    · rw [List.getElem?_set_ne e]
  have e4 : (R.set i (a.1, g)).length = R.length := by simp
  refine ⟨_, ?_, a2⟩
  unfold RtL
  rw [e1, e4]
  exact h1
theorem rt_ms (hp : Pw F w w' (RtL u s h R arr x)) (y : Int) : Pw F w (w'.setCell ⟨u, 2, none⟩ (.int .i64 y)) (RtL u s h R arr y) := hp.setC 0 rfl (j := 2) (.int .i64 y)
theorem pages_r (hh : (RfT u R x).on w F) : Calls Try.prog 40 #[.pointer (some ⟨u, 0, none⟩)] w fun e w' => e = .returned (.int .i64 R.length) ∧ w = w' := by
  obtain ⟨s, h, arr, ha, hp⟩ := rt_here hh
  obtain ⟨⟨c0, c1, c2⟩, _⟩ := hp.atT
  clear hh hp ha
  go_enter Try.func40, Try.ntmps40
  go_wp2
  go_ret
  exact ⟨rfl, rfl⟩
theorem missed_r (hh : (RfT u R x).on w F) : Calls Try.prog 19 #[.pointer (some ⟨u, 0, none⟩)] w fun e w' => e = .returned (.int .i64 x) ∧ w = w' := by
  obtain ⟨s, h, arr, ha, hp⟩ := rt_here hh
  obtain ⟨⟨c0, c1, c2⟩, _⟩ := hp.atT
  clear hh hp ha
  go_enter Try.func19, Try.ntmps19
  go_wp2
  go_ret
  exact ⟨rfl, rfl⟩
theorem state_r (n : Int) (hh : (RfT u R x).on w F) (hm : R.length ≤ 65536) : Calls Try.prog 41 #[.pointer (some ⟨u, 0, none⟩), .int .i64 n] w fun e w' => e = .returned (.int .i64 (stOf R n)) ∧ w = w' := by
  obtain ⟨s, h, arr, ha, hp⟩ := rt_here hh
  obtain ⟨⟨c0, c1, c2⟩, _⟩ := hp.atT
  by_cases h0 : n < 0
  · have e : stOf R n = 0 := by unfold stOf; rw [if_neg (by omega)]
    rw [e]
    clear hh hp ha e
    go_enter Try.func41, Try.ntmps41
    go_wp2
    go_ret
    exact ⟨rfl, rfl⟩
  · obtain ⟨i, rfl⟩ : ∃ i : Nat, n = i := ⟨n.toNat, by omega⟩
    by_cases hi : i < R.length
    · obtain ⟨a, hx⟩ : ∃ a, R[i]? = some a := ⟨_, List.getElem?_eq_getElem hi⟩
      obtain ⟨⟨s0, s1, s2⟩, _⟩ := hp.slotT ha hx
      have e : stOf R i = a.1 := by unfold stOf; rw [if_pos (by omega), Int.toNat_natCast, hx]; rfl
      rw [e]
      have hi1 : ¬ ((R.length : Int) ≤ (i : Int)) := by omega
      clear hh hp ha e hx
      go_enter Try.func41, Try.ntmps41
      go_wp2
      go_ret
      exact ⟨rfl, rfl⟩
    · have e : stOf R i = 0 := by
        unfold stOf
        rw [if_pos (by omega), Int.toNat_natCast, List.getElem?_eq_none (by omega)]
        rfl
      rw [e]
      have hi1 : ((R.length : Int) ≤ (i : Int)) := by omega
      clear hh hp ha e
      go_enter Try.func41, Try.ntmps41
      go_wp2
      go_ret
      exact ⟨rfl, rfl⟩
end
end Go.Proofs.Ytkjkaliblkihmaa
