/- The walks of the mapping table: its state, one contract a method. -/
import Derived.Test.YtkjkaliblkihmaaCellsH
import Derived.Test.YtkjkaliblkihmaaArrs
import Derived.Test.YtkjkaliblkihmaaAtomics
import Derived.Test.YtkjkaliblkihmaaOwn
namespace Go.Proofs.Ytkjkaliblkihmaa
set_option linter.unusedVariables false
set_option linter.unusedSimpArgs false
open Go Go.RowKit

/-- A page in memory: its state, its head's block. -/
structure Pg where
  st : Int
  hd : Option Nat
def Pg.enc (p : Pg) : List Value := [.int .i64 p.st, .pointer (p.hd.map fun b => ⟨b, 0, none⟩)]
theorem elt_pg : Elt Try.prog 54 70 (.agg #[.int .i64 0, .pointer none]) 2 16 := ⟨Try.underlying54, by kernel_rfl, rfl, by decide⟩
/-- A page as it is meant: its state, its head (of a live one). -/
abbrev AP := Int × (Int × Int)

/-- A table at block t; F: the blocks that it owns. -/
structure IsTab (w : World) (t : Nat) (F : Nat → Prop) (p m : Nat) (pgs : List Pg) (aps : List AP) (x : Int) : Prop where
  tb : w.heap[t]? = some (.cells #[.slice (some ⟨p, 0, none⟩) pgs.length pgs.length, .pointer (some ⟨m, 0, none⟩)] 57)
  pg : ∃ arr, w.heap[p]? = some (Obj.cells arr 70) ∧ Arr Pg.enc 2 arr pgs
  ms : w.heap[m]? = some (atom x)
  len : pgs.length = aps.length
  most : pgs.length ≤ 65536
  rd : ∀ (i : Nat) (q : Pg) (a : AP), pgs[i]? = some q → aps[i]? = some a → q.st = a.1 ∧ (a.1 = 1 → ∃ b n, q.hd = some b ∧ F b ∧ w.heap[b]? = some (cellH a.2 n))
  inj : ∀ (i j : Nat) (q r : Pg) (b : Nat), pgs[i]? = some q → pgs[j]? = some r → q.st = 1 → r.st = 1 → q.hd = some b → r.hd = some b → i = j
  ft : F t
  fp : F p
  fm : F m
  lt : ∀ b, F b → b < w.heap.size

theorem kp_drewN' (w : World) (n : Nat) : Kp (fun _ => False) w (w.drewN n) := ⟨rfl, rfl, rfl, Nat.le_refl _, fun _ _ _ => rfl⟩
theorem IsTab.kept {w w' : World} {t p m : Nat} {F S : Nat → Prop} {pgs : List Pg} {aps : List AP} {x : Int} (h : IsTab w t F p m pgs aps x) (k : Kp S w w') (hS : ∀ b, F b → ¬ S b) : IsTab w' t F p m pgs aps x where
  tb := k.blk h.tb (hS _ h.ft)
  pg := let ⟨arr, h1, h2⟩ := h.pg; ⟨arr, k.blk h1 (hS _ h.fp), h2⟩
  ms := k.blk h.ms (hS _ h.fm)
  len := h.len
  most := h.most
  rd := fun i q a hq ha => ⟨(h.rd i q a hq ha).1, fun h1 => let ⟨b, n, h2, h3, h4⟩ := (h.rd i q a hq ha).2 h1; ⟨b, n, h2, h3, k.blk h4 (hS _ h3)⟩⟩
  inj := h.inj
  ft := h.ft
  fp := h.fp
  fm := h.fm
  lt := fun b hb => Nat.lt_of_lt_of_le (h.lt b hb) k.size
/-- What a state asks of a page that is not there: free. -/
def stOf (aps : List AP) (n : Int) : Int := if 0 ≤ n then ((aps[n.toNat]?).map (·.1)).getD 0 else 0

section
variable {w : World} {t p m : Nat} {F : Nat → Prop} {pgs : List Pg} {aps : List AP} {x : Int}
theorem IsTab.page (h : IsTab w t F p m pgs aps x) {i : Nat} {q : Pg} (hq : pgs[i]? = some q) : w.cell? ⟨p, i * 2, none⟩ = some (.int .i64 q.st) ∧ w.cell? ⟨p, i * 2 + 1, none⟩ = some (.pointer (q.hd.map fun b => ⟨b, 0, none⟩)) := by
  obtain ⟨arr, h1, h2⟩ := h.pg
  exact ⟨cell_blk h1 (h2.cell hq (j := 0) (by omega)), cell_blk h1 (h2.cell hq (j := 1) (by omega))⟩
theorem IsTab.free (h : IsTab w t F p m pgs aps x) (i : Nat) : w.frozen? ⟨p, i, none⟩ = false := by
  obtain ⟨arr, h1, h2⟩ := h.pg
  exact free_blk h1
theorem none_tab (h : IsTab w t F p m pgs aps x) : Calls Try.prog 25 #[.pointer (some ⟨t, 0, none⟩)] w fun e w' => e = .returned (.bool false) ∧ w = w' := by
  obtain ⟨h0, h1, _, _⟩ := cells2 h.tb
  clear h
  go_enter Try.func25, Try.ntmps25
  go_wp2
  go_ret
  exact ⟨rfl, rfl⟩
theorem state_tab (h : IsTab w t F p m pgs aps x) (n : Int) : Calls Try.prog 21 #[.pointer (some ⟨t, 0, none⟩), .int .i64 n] w fun e w' => e = .returned (.int .i64 (stOf aps n)) ∧ w = w' := by
  obtain ⟨h0, h1, _, _⟩ := cells2 h.tb
  have HT := Lib.hid h
  have hm := h.most
  have hlen := h.len
  by_cases h0n : n < 0
  · have e : stOf aps n = 0 := by unfold stOf; rw [if_neg (by omega)]
    rw [e]
    clear h e hlen hm
    go_enter Try.func21, Try.ntmps21
    go_wp2_with (go_at_call 25; refine (none_tab HT.out).mono ?_; rintro e w' ⟨rfl, rfl⟩)
    go_ret
    exact ⟨rfl, rfl⟩
  · obtain ⟨i, rfl⟩ : ∃ i : Nat, n = i := ⟨n.toNat, by omega⟩
    by_cases hi : i < pgs.length
    · obtain ⟨g0, g1⟩ := h.page (List.getElem?_eq_getElem hi)
      have hst := (h.rd i _ (aps[i]'(by omega)) (List.getElem?_eq_getElem hi) (List.getElem?_eq_getElem (by omega))).1
      have e : stOf aps i = (pgs[i]).st := by
        unfold stOf
        rw [if_pos (by omega), Int.toNat_natCast, List.getElem?_eq_getElem (by omega)]
        simpa using hst.symm
      rw [e]
      generalize pgs[i] = q at *
      clear h e hst hlen g1 h0n
      go_enter Try.func21, Try.ntmps21
      go_wp2_with (go_at_call 25; refine (none_tab HT.out).mono ?_; rintro e w' ⟨rfl, rfl⟩)
      go_ret
      exact ⟨rfl, rfl⟩
    · have e : stOf aps i = 0 := by
        unfold stOf
        rw [if_pos (by omega), Int.toNat_natCast, List.getElem?_eq_none (by omega)]
        rfl
      rw [e]
      clear h e hlen h0n
      go_enter Try.func21, Try.ntmps21
      go_wp2_with (go_at_call 25; refine (none_tab HT.out).mono ?_; rintro e w' ⟨rfl, rfl⟩)
      go_ret
      exact ⟨rfl, rfl⟩
/-- What is wrong, if a page is not in a state. -/
def looksOf (aps : List AP) (n st : Int) : Int := if 0 ≤ n ∧ n < aps.length ∧ stOf aps n = st then 0 else 4
theorem looks_tab (h : IsTab w t F p m pgs aps x) (n st : Int) : Calls Try.prog 27 #[.pointer (some ⟨t, 0, none⟩), .int .i64 n, .int .i64 st] w fun e w' => e = .returned (.int .i64 (looksOf aps n st)) ∧ w = w' := by
  obtain ⟨h0, h1, _, _⟩ := cells2 h.tb
  have HT := Lib.hid h
  have hm := h.most
  have hlen := h.len
  clear h
  unfold looksOf
  rw [← hlen]
  clear hlen
  by_cases hs : stOf aps n = st
  · have hs' : (stOf aps n != st) = false := by simpa using hs
    by_cases hn : n < 0
    · rw [if_neg (by omega)]
      clear hs
      go_enter Try.func27, Try.ntmps27
      go_wp2_with (first | (go_at_call 25; refine (none_tab HT.out).mono ?_; rintro e w' ⟨rfl, rfl⟩) | (go_at_call 21; refine (state_tab HT.out n).mono ?_; rintro e w' ⟨rfl, rfl⟩))
      go_ret
      exact ⟨rfl, rfl⟩
    · by_cases hn2 : n < pgs.length
      · rw [if_pos ⟨by omega, hn2, hs⟩]
        have hn3 : ¬ ((pgs.length : Int) ≤ n) := by omega
        clear hs
        go_enter Try.func27, Try.ntmps27
        go_wp2_with (first | (go_at_call 25; refine (none_tab HT.out).mono ?_; rintro e w' ⟨rfl, rfl⟩) | (go_at_call 21; refine (state_tab HT.out n).mono ?_; rintro e w' ⟨rfl, rfl⟩))
        go_ret
        exact ⟨rfl, rfl⟩
      · rw [if_neg (by omega)]
        have hn3 : ((pgs.length : Int) ≤ n) := by omega
        clear hs
        go_enter Try.func27, Try.ntmps27
        go_wp2_with (first | (go_at_call 25; refine (none_tab HT.out).mono ?_; rintro e w' ⟨rfl, rfl⟩) | (go_at_call 21; refine (state_tab HT.out n).mono ?_; rintro e w' ⟨rfl, rfl⟩))
        go_ret
        exact ⟨rfl, rfl⟩
  · have hs' : (stOf aps n != st) = true := by simpa using hs
    rw [if_neg (by simp [hs])]
    clear hs
    go_enter Try.func27, Try.ntmps27
    go_wp2_with (first | (go_at_call 25; refine (none_tab HT.out).mono ?_; rintro e w' ⟨rfl, rfl⟩) | (go_at_call 21; refine (state_tab HT.out n).mono ?_; rintro e w' ⟨rfl, rfl⟩))
    go_ret
    exact ⟨rfl, rfl⟩
theorem missed_tab (h : IsTab w t F p m pgs aps x) : Calls Try.prog 11 #[.pointer (some ⟨t, 0, none⟩)] w fun e w' => e = .returned (.int .i64 x) ∧ w = w' := by
  obtain ⟨h0, h1, _, _⟩ := cells2 h.tb
  have HT := Lib.hid h
  have HM := Lib.hid h.ms
  clear h
  go_enter Try.func11, Try.ntmps11
  go_wp2_with (first | (go_at_call 25; refine (none_tab HT.out).mono ?_; rintro e w' ⟨rfl, rfl⟩) | (go_at_call 30; refine (aload HM.out).mono ?_; rintro e w' ⟨rfl, rfl⟩))
  go_ret
  exact ⟨rfl, rfl⟩
end
/-- A new table. -/
def NewTab (w : World) (n : Nat) (e : Ending) (w' : World) : Prop := ∃ t F p m, e = .returned (.tuple #[.pointer (some ⟨t, 0, none⟩), .int .i64 0]) ∧
    IsTab w' t F p m (List.replicate n ⟨0, none⟩) (List.replicate n (0, (0, 0))) 0 ∧ KN w w' ∧ ∀ b, F b → w.heap.size ≤ b
theorem new_tab (n : Nat) (h0 : 1 ≤ n) (h1 : n ≤ 65536) (w : World) : Calls Try.prog 7 #[.int .i64 (n : Int)] w (NewTab w n) := by
  have hmk := fun w => run_mk (w := w) elt_pg n (by omega) (by omega)
  have h2 : ¬ (n : Int) < 1 := by omega
  have h3 : ¬ 65536 < (n : Int) := by omega
  go_enter Try.func7, Try.ntmps7
  go_wp2
  go_ret2
  have HB := heap_alloc_same w (.cells (madeCells #[.int .i64 0, .pointer none] (n * 2)) 70)
  have HM := heap_alloc_same (w.alloc (.cells (madeCells #[.int .i64 0, .pointer none] (n * 2)) 70)) (atom 0)
  refine ⟨w.heap.size + 1 + 1, fun b => w.heap.size ≤ b ∧ b < w.heap.size + 3, w.heap.size, w.heap.size + 1, rfl, ⟨?_, ?_, ?_, by simp, by simpa using h1, ?_, ?_, by constructor <;> omega, by constructor <;> omega, by constructor <;> omega, fun b hb => by simp; omega⟩, ((kn_alloc _ _).alloc _).alloc _, fun b h => h.1⟩
  · have := heap_alloc_same ((w.alloc (.cells (madeCells #[.int .i64 0, .pointer none] (n * 2)) 70)).alloc (atom 0)) (.cells #[.slice (some ⟨w.heap.size, 0, none⟩) n n, .pointer (some ⟨w.heap.size + 1, 0, none⟩)] 57)
    simpa using this
  · exact ⟨_, blk_alloc _ (blk_alloc _ HB), Arr.made (enc := Pg.enc) (n := 2) (z := #[.int .i64 0, .pointer none]) (x := ⟨0, none⟩) rfl (by omega) rfl n⟩
  · refine blk_alloc _ ?_
    simpa using HM
  · intro i q a hq ha
    rw [List.getElem?_replicate] at hq ha
    split at hq
    · rename_i hi
      rw [if_pos hi] at ha
      cases hq; cases ha
      exact ⟨rfl, fun h => by simp at h⟩
    · cases hq
  · intro i j q r b hq hr h1
    rw [List.getElem?_replicate] at hq
    split at hq
    · cases hq; simp at h1
    · cases hq

section
variable {w : World} {t p m : Nat} {F : Nat → Prop} {pgs : List Pg} {aps : List AP} {x : Int}
theorem Pg.len (q : Pg) : (Pg.enc q).length = 2 := rfl
theorem IsTab.ne (h : IsTab w t F p m pgs aps x) {b : Nat} {hh : Int × Int} {n : Int} (hb : w.heap[b]? = some (cellH hh n)) : t ≠ b ∧ p ≠ b ∧ m ≠ b ∧ t ≠ p ∧ t ≠ m ∧ p ≠ m := by
  obtain ⟨arr, h1, _⟩ := h.pg
  refine ⟨ne_blk h.tb hb (by simp), ne_blk h1 hb (by simp), ne_blk h.ms hb (by simp), ne_blk h.tb h1 (by simp), ne_blk h.tb h.ms (by simp), ne_blk h1 h.ms (by simp)⟩
theorem IsTab.ne3 (h : IsTab w t F p m pgs aps x) : t ≠ p ∧ t ≠ m ∧ p ≠ m := by
  obtain ⟨arr, h1, _⟩ := h.pg
  exact ⟨ne_blk h.tb h1 (by simp), ne_blk h.tb h.ms (by simp), ne_blk h1 h.ms (by simp)⟩
/-- A page is written. -/
theorem IsTab.setpg (h : IsTab w t F p m pgs aps x) {i : Nat} {q : Pg} (hq : pgs[i]? = some q) (q' : Pg) (a' : AP) (hst : q'.st = a'.1)
    (hhd : a'.1 = 1 → ∃ b n, q'.hd = some b ∧ w.heap[b]? = some (cellH a'.2 n) ∧ ∀ (j : Nat) (r : Pg), pgs[j]? = some r → j ≠ i → r.st = 1 → r.hd ≠ some b) :
    IsTab ((w.setCell ⟨p, i * 2, none⟩ (.int .i64 q'.st)).setCell ⟨p, i * 2 + 1, none⟩ (.pointer (q'.hd.map fun b => ⟨b, 0, none⟩))) t (fun b => F b ∨ (a'.1 = 1 ∧ q'.hd = some b)) p m (pgs.set i q') (aps.set i a') x ∧
    Kp (· = p) w ((w.setCell ⟨p, i * 2, none⟩ (.int .i64 q'.st)).setCell ⟨p, i * 2 + 1, none⟩ (.pointer (q'.hd.map fun b => ⟨b, 0, none⟩))) := by
  obtain ⟨arr, h1, h2⟩ := h.pg
  have hi : i < pgs.length := (List.getElem?_eq_some_iff.1 hq).1
  rw [set2 h1]
  have hk : Kp (· = p) w (setB w p (.cells ((arr.setIfInBounds (i * 2) (.int .i64 q'.st)).setIfInBounds (i * 2 + 1) (.pointer (q'.hd.map fun b => ⟨b, 0, none⟩))) 70)) := (Kp.refl (· = p) w).setB (.inl rfl) _
  have a1 := h2.set hq (j := 0) (x' := ⟨q'.st, q.hd⟩) (v := .int .i64 q'.st) (by omega) (Pg.len q) rfl
  have a2 := a1.set (i := i) (x := ⟨q'.st, q.hd⟩) (j := 1) (x' := q') (v := .pointer (q'.hd.map fun b => ⟨b, 0, none⟩)) (List.getElem?_set_self hi) (by omega) (Pg.len _) rfl
  rw [List.set_set] at a2
  refine ⟨⟨?_, ⟨_, setB_same _ (lt_blk h1), a2⟩, ?_, by simp [h.len], by simpa using h.most, ?_, ?_, .inl h.ft, .inl h.fp, .inl h.fm, ?_⟩, hk⟩
  · rw [List.length_set]; exact hk.blk h.tb h.ne3.1
  · exact hk.blk h.ms (Ne.symm h.ne3.2.2)
  · intro j r a hr ha
    by_cases hj : i = j
    · subst hj
      rw [List.getElem?_set_self hi] at hr
      rw [List.getElem?_set_self (by rw [← h.len]; exact hi)] at ha
      cases hr; cases ha
      refine ⟨hst, fun h1' => ?_⟩
      obtain ⟨b, n, e1, e2, _⟩ := hhd h1'
      exact ⟨b, n, e1, .inr ⟨h1', e1⟩, hk.blk e2 (Ne.symm (h.ne e2).2.1)⟩
    · rw [List.getElem?_set_ne hj] at hr ha
      obtain ⟨g1, g2⟩ := h.rd j r a hr ha
      exact ⟨g1, fun h1' => let ⟨b, n, e1, e2, e3⟩ := g2 h1'; ⟨b, n, e1, .inl e2, hk.blk e3 (Ne.symm (h.ne e3).2.1)⟩⟩
  · intro j k r s b hr hs h1r h1s hbr hbs
    by_cases hj : i = j
    · by_cases hk' : i = k
      · omega
      · subst hj
        rw [List.getElem?_set_self hi] at hr
        rw [List.getElem?_set_ne hk'] at hs
        cases hr
        obtain ⟨b', n, e1, e2, e3⟩ := hhd (by rw [← hst]; exact h1r)
        rw [hbr] at e1; cases e1
        exact absurd hbs (e3 k s hs (Ne.symm hk') h1s)
    · rw [List.getElem?_set_ne hj] at hr
      by_cases hk' : i = k
      · subst hk'
        rw [List.getElem?_set_self hi] at hs
        cases hs
        obtain ⟨b', n, e1, e2, e3⟩ := hhd (by rw [← hst]; exact h1s)
        rw [hbs] at e1; cases e1
        exact absurd hbr (e3 j r hr (Ne.symm hj) h1r)
      · rw [List.getElem?_set_ne hk'] at hs
        exact h.inj j k r s b hr hs h1r h1s hbr hbs
  · intro b hb
    rw [size_setB]
    rcases hb with hb | ⟨h1', hb⟩
    · exact h.lt b hb
    · obtain ⟨b', n, e1, e2, _⟩ := hhd h1'
      rw [hb] at e1; cases e1
      exact lt_blk e2
/-- A live page's head has turned. -/
theorem IsTab.sethead {w' : World} (h : IsTab w t F p m pgs aps x) {i b : Nat} {q : Pg} {a : AP} (hq : pgs[i]? = some q) (ha : aps[i]? = some a) (h1 : a.1 = 1) (hb : q.hd = some b) {hh : Int × Int} {n0 n : Int} (h' : Int × Int)
    (hold : w.heap[b]? = some (cellH hh n0)) (hnew : w'.heap[b]? = some (cellH h' n)) (k : Kp (· = b) w w') : IsTab w' t F p m pgs (aps.set i (1, h')) x := by
  obtain ⟨n1, n2, n3, _⟩ := h.ne hold
  have hi : i < pgs.length := (List.getElem?_eq_some_iff.1 hq).1
  obtain ⟨arr, g1, g2⟩ := h.pg
  refine ⟨k.blk h.tb n1, ⟨arr, k.blk g1 n2, g2⟩, k.blk h.ms n3, by simp [h.len], h.most, ?_, h.inj, h.ft, h.fp, h.fm, fun b hb => Nat.lt_of_lt_of_le (h.lt b hb) k.size⟩
  intro j r c hr hc
  by_cases hj : i = j
  · subst hj
    rw [List.getElem?_set_self (by rw [← h.len]; exact hi)] at hc
    rw [hq] at hr
    cases hr; cases hc
    obtain ⟨e1, e2⟩ := h.rd i q a hq ha
    obtain ⟨b', n', e3, e4, e5⟩ := e2 h1
    rw [hb] at e3; cases e3
    exact ⟨by rw [e1, h1], fun _ => ⟨b, n, hb, e4, hnew⟩⟩
  · rw [List.getElem?_set_ne hj] at hc
    obtain ⟨e1, e2⟩ := h.rd j r c hr hc
    refine ⟨e1, fun h1' => ?_⟩
    obtain ⟨b', n', e3, e4, e5⟩ := e2 h1'
    refine ⟨b', n', e3, e4, k.blk e5 (fun e => ?_)⟩
    subst e
    exact hj (h.inj i j q r b' hq hr (by rw [(h.rd i q a hq ha).1, h1]) (by rw [e1, h1']) hb e3)
theorem IsTab.setmiss (h : IsTab w t F p m pgs aps x) (y : Int) : IsTab (setB w m (atom y)) t F p m pgs aps y ∧ Kp (· = m) w (setB w m (atom y)) := by
  have k : Kp (· = m) w (setB w m (atom y)) := (Kp.refl (· = m) w).setB (.inl rfl) _
  obtain ⟨n1, n2, n3⟩ := h.ne3
  obtain ⟨arr, g1, g2⟩ := h.pg
  refine ⟨⟨k.blk h.tb n2, ⟨arr, k.blk g1 n3, g2⟩, setB_same _ (lt_blk h.ms), h.len, h.most, ?_, h.inj, h.ft, h.fp, h.fm, fun b hb => Nat.lt_of_lt_of_le (h.lt b hb) k.size⟩, k⟩
  intro j r c hr hc
  obtain ⟨e1, e2⟩ := h.rd j r c hr hc
  exact ⟨e1, fun h1 => let ⟨b, n, e3, e4, e5⟩ := e2 h1; ⟨b, n, e3, e4, k.blk e5 (Ne.symm (h.ne e5).2.2.1)⟩⟩
theorem IsTab.mono (h : IsTab w t F p m pgs aps x) {F' : Nat → Prop} (hF : ∀ b, F b → F' b) (hl : ∀ b, F' b → b < w.heap.size) : IsTab w t F' p m pgs aps x :=
  ⟨h.tb, h.pg, h.ms, h.len, h.most, fun i q a hq ha => ⟨(h.rd i q a hq ha).1, fun h1 => let ⟨b, n, e3, e4, e5⟩ := (h.rd i q a hq ha).2 h1; ⟨b, n, e3, hF _ e4, e5⟩⟩, h.inj, hF _ h.ft, hF _ h.fp, hF _ h.fm, hl⟩
theorem IsTab.drewN (h : IsTab w t F p m pgs aps x) (n : Nat) : IsTab (w.drewN n) t F p m pgs aps x := h.kept (kp_drewN' w n) (fun _ _ h => h)
theorem IsTab.live (h : IsTab w t F p m pgs aps x) {i : Nat} {a : AP} (ha : aps[i]? = some a) (h1 : a.1 = 1) : ∃ q b n, pgs[i]? = some q ∧ q.hd = some b ∧ F b ∧ w.heap[b]? = some (cellH a.2 n) := by
  have hi : i < pgs.length := by rw [h.len]; exact (List.getElem?_eq_some_iff.1 ha).1
  obtain ⟨e1, e2⟩ := h.rd i _ a (List.getElem?_eq_getElem hi) ha
  obtain ⟨b, n, e3, e4, e5⟩ := e2 h1
  exact ⟨_, b, n, List.getElem?_eq_getElem hi, e3, e4, e5⟩
theorem looks_ok {aps : List AP} {n st : Int} (h : looksOf aps n st = 0) : ∃ (i : Nat) (a : AP), n = i ∧ aps[i]? = some a ∧ a.1 = st := by
  unfold looksOf at h
  split at h
  · rename_i hc
    obtain ⟨c1, c2, c3⟩ := hc
    have hlt : n.toNat < aps.length := by omega
    refine ⟨n.toNat, aps[n.toNat], by omega, List.getElem?_eq_getElem hlt, ?_⟩
    unfold stOf at c3
    rw [if_pos c1, List.getElem?_eq_getElem hlt] at c3
    simpa using c3
  · cases h
end
end Go.Proofs.Ytkjkaliblkihmaa
