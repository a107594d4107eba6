/- Epochs: New, none, Now. -/
import Derived.Test.YtghmgmchfcbodaaEpochA
import Derived.WalkKit
import Derived.LoopTactic
import Derived.Lib.Hide
namespace Go.Proofs.Ytghmgmchfcbodaa
set_option linter.unusedVariables false
set_option linter.unusedSimpArgs false
open Go Go.RowKit

theorem One.setC {w0 w : World} {l : List Asr} (h : One w0 w l) (i : Nat) {g j : Nat} {cs : Array Value} {T : TypeId} {fr : Nat × Nat} (hi : l[i]? = some (Blk g (.cells cs T fr))) (v : Value) : One w0 (w.setCell ⟨g, j, none⟩ v) (l.set i (Blk g (.cells (cs.setIfInBounds j v) T fr))) := by
  rw [setCell_setB v (h.blk i hi).1]
  exact h.setB i hi _
section
variable {b : Nat} {now : Int} {ps : List Nat} {xs : List Int} {ls : List Lim} {w w' : World} {F : Nat → Prop}
theorem none_ep (h : (Ep b now ps xs ls).on w F) (hn : now ≠ 0) : Calls Try.prog 27 #[.pointer (some ⟨b, 0, none⟩)] w fun e w' => e = .returned (.bool false) ∧ w = w' := by
  have h0 : w.cell? ⟨b, 0, none⟩ = some (.int .i64 now) := cell_blk (EpO.blk h).1 ec_now
  have h1 : (now == 0) = false := beq_false_of_ne hn
  clear h
  go_enter Try.func27, Try.ntmps27
  go_wp2
  go_ret
  exact ⟨rfl, rfl⟩
theorem now_ep (h : (Ep b now ps xs ls).on w F) (hn : now ≠ 0) : Calls Try.prog 19 #[.pointer (some ⟨b, 0, none⟩)] w fun e w' => e = .returned (.int .i64 now) ∧ w = w' := by
  have HC := Lib.hid (none_ep h hn)
  have h0 : w.cell? ⟨b, 0, none⟩ = some (.int .i64 now) := cell_blk (EpO.blk h).1 ec_now
  clear h
  go_enter Try.func19, Try.ntmps19
  go_wp2_with fail
  refine HC.out.mono ?_
  rintro e w' ⟨rfl, rfl⟩
  go_wp2
  go_ret
  exact ⟨rfl, rfl⟩
end
def nilL : Lim := (none, 0, [])
def GaveNew (w : World) (e : Ending) (w' : World) : Prop := ∃ b ps, e = .returned (.pointer (some ⟨b, 0, none⟩)) ∧ ps.length = 17 ∧ Post (Ep b 1 ps (List.replicate 17 0) [nilL, nilL, nilL]) (fun _ => False) w w'
theorem atoms_snoc (ps : List Nat) (xs : List Int) (h : ps.length = xs.length) (p : Nat) (x : Int) : atomsA (ps ++ [p]) (xs ++ [x]) = atomsA ps xs ++ [Blk p (atom x)] := by
  unfold atomsA
  rw [List.zipWith_append h]
  rfl
def ptrsTo (ps : List Nat) : List Value := ps.map ptrv ++ List.replicate (17 - ps.length) (.pointer none)
theorem ptrs_len {ps : List Nat} (h : ps.length ≤ 17) : (ptrsTo ps).length = 17 := by unfold ptrsTo; simp; omega
theorem ptrs_at {ps : List Nat} (h : ps.length < 17) : (ptrsTo ps)[ps.length]? = some (.pointer none) := by
  unfold ptrsTo
  rw [List.getElem?_append_right (by simp), List.length_map, Nat.sub_self, List.getElem?_replicate, if_pos (by omega)]
theorem ptrs_set {ps : List Nat} (h : ps.length < 17) (p : Nat) : (ptrsTo ps).set ps.length (ptrv p) = ptrsTo (ps ++ [p]) := by
  unfold ptrsTo
  rw [List.set_append_right _ _ (by simp)]
  obtain ⟨m, hm⟩ : ∃ m, 17 - ps.length = m + 1 := ⟨17 - ps.length - 1, by omega⟩
  rw [hm, List.length_map, Nat.sub_self, List.replicate_succ, List.set_cons_zero, List.map_append, List.length_append]
  simp only [List.map_cons, List.map_nil, List.length_cons, List.length_nil, List.append_assoc, List.cons_append, List.nil_append]
  rw [show 17 - (ps.length + (0 + 1)) = m by omega]
set_option maxHeartbeats 1000000 in
theorem new_ep (w : World) : Calls Try.prog 8 #[] w (GaveNew w) := by
  have HO := Lib.hid ((One.nil w).alloc (EObj 1 (ptrsTo []) [.slice none 0 0, .slice none 0 0, .slice none 0 0]))
  go_enter Try.func8, Try.ntmps8
  go_wp2_with fail
  go_loopw [5] (fun s wr => ∃ ps : List Nat, ps.length ≤ 17 ∧ s = .int .i64 ps.length ∧ Hid (One w wr (Blk w.heap.size (EObj 1 (ptrsTo ps) [.slice none 0 0, .slice none 0 0, .slice none 0 0]) :: atomsA ps (List.replicate ps.length 0)))) (fun s _ => 17 - (intOf s).toNat)
  case atStart => exact ⟨[], by simp, rfl, HO⟩
  case round =>
    obtain ⟨ps, hk, rfl, HW⟩ := hrel
    by_cases hlt : ps.length < 17
    · have hb := (HW.out.blk 0 rfl).1
      have c0 : wr.cell? ⟨w.heap.size, 1 + ps.length, none⟩ = some (.pointer none) := cell_blk hb (ec_pin (ptrs_at hlt))
      have f0 : ∀ j, wr.frozen? ⟨w.heap.size, j, none⟩ = false := fun j => free_blk hb
      have hne : w.heap.size < wr.heap.size := lt_blk hb
      have hz : (ps.length : Int) < 17 := by omega
      clear hb
      go_wp2_with fail
      have HX := Lib.hid ((HW.out.setC 0 rfl (j := 1 + ps.length) (ptrv wr.heap.size)).alloc (atom 0))
      go_roundw
      case rel => exact ⟨ps ++ [wr.heap.size], by rw [List.length_append]; simp only [List.length_cons, List.length_nil]; omega, by rw [List.length_append]; go_num, Lib.hid (by
        have h := HX.out
        rw [show (wr.setCell ⟨w.heap.size, 1 + ps.length, none⟩ (ptrv wr.heap.size)).heap.size = wr.heap.size by simp] at h
        simp only [List.set_cons_succ, List.set_cons_zero] at h
        rw [ec_set_pin _ (by rw [ptrs_len (by omega)]; exact hlt), ptrs_set hlt] at h
        have h2 := h.perm ((List.Perm.swap _ _ _).trans (List.Perm.cons _ (List.perm_append_singleton _ _).symm))
        rw [List.length_append, show List.replicate (ps.length + [wr.heap.size].length) (0 : Int) = List.replicate ps.length 0 ++ [0] from by rw [List.length_singleton, List.replicate_succ'], atoms_snoc _ _ (by simp)]
        exact h2)⟩
      case measure => simp [intOf]; omega
    · have hl : ps.length = 17 := by omega
      have hp : ptrsTo ps = ps.map ptrv := by unfold ptrsTo; rw [hl]; simp
      have HZ := Lib.hid (show One w wr [Ep w.heap.size 1 ps (List.replicate 17 0) [nilL, nilL, nilL]] from by
        have h := ((HW.out.nilRow 31 3).nilRow 31 3).nilRow 31 3
        rw [hp, hl] at h
        have h2 := h.perm (l' := (Blk w.heap.size (EObj 1 (ps.map ptrv) [.slice none 0 0, .slice none 0 0, .slice none 0 0]) :: (atomsA ps (List.replicate 17 0) ++ rowsA [nilL, nilL, nilL])) ++ []) (by
          rw [List.append_nil]
          exact (List.perm_append_comm (l₁ := [RowA 31 3 (.slice none 0 0) 0 [], RowA 31 3 (.slice none 0 0) 0 [], RowA 31 3 (.slice none 0 0) 0 []]) (l₂ := Blk w.heap.size (EObj 1 (ps.map ptrv) [.slice none 0 0, .slice none 0 0, .slice none 0 0]) :: atomsA ps (List.replicate 17 0))))
        exact One.all.1 h2)
      have hz : (ps.length : Int) = 17 := by omega
      clear HW
      go_wp2
      go_ret
      exact ⟨w.heap.size, ps, rfl, hl, HZ.out.post 0 rfl⟩
end Go.Proofs.Ytghmgmchfcbodaa
