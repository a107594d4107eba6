/- The types of epochs are among the heap's. -/
import Derived.Test.YtinejaganickpaaTypesHp
import Derived.Test.YtinejaganickpaaBaseA
import Derived.WalkKit
import Derived.LoopTactic
import Derived.Lib.Hide
import Derived.Deep.RegionHeld3

namespace Go.Proofs.Ytinejaganickpaa
set_option linter.unusedVariables false
set_option linter.unusedSimpArgs false
open Go Go.RowKit

theorem enc3 (x : Re) : (Re.enc x).length = 3 := rfl
theorem re_one (x : Re) : ∀ u ∈ Re.enc x, u.oneCell' = true := by
  intro u hu
  simp only [Re.enc, Hd.enc, List.mem_append, List.mem_cons, List.not_mem_nil, or_false] at hu
  rcases hu with h | h | h <;> subst h <;> rfl
theorem elt_Re : Elt Try.prog 55 59 (.agg #[.int .i64 0, .int .i64 0, .int .i64 0]) 3 24 := ⟨Try.underlying55, by kernel_rfl, rfl, by decide⟩
/-- A list that waits: where, how much room, what. -/
abbrev Lim := Option Addr × Nat × List Re
def Lim.v (r : Lim) : Value := .slice r.1 r.2.2.length r.2.1
abbrev Lim.row (r : Lim) : Asr := RowA 59 3 (.slice r.1 r.2.2.length r.2.1) r.2.2.length (r.2.2.flatMap Re.enc)
def ptrv (b : Nat) : Value := .pointer (some ⟨b, 0, none⟩)
/-- The epoch's own cells. -/
def EC (now : Int) (vs ss : List Value) : List Value := .int .i64 now :: (vs ++ ss)
abbrev EObj (now : Int) (vs ss : List Value) : Obj := .cells (EC now vs ss).toArray 85
def atomsA (ps : List Nat) (xs : List Int) : List Asr := List.zipWith (fun p x => Blk p (atom x)) ps xs
def rowsA (ls : List Lim) : List Asr := ls.map Lim.row
/-- An epoch whose block holds o. -/
def EpO (b : Nat) (o : Obj) (ps : List Nat) (xs : List Int) (ls : List Lim) : Asr := All (Blk b o :: (atomsA ps xs ++ rowsA ls))
/-- An epoch. -/
abbrev Ep (b : Nat) (now : Int) (ps : List Nat) (xs : List Int) (ls : List Lim) : Asr := EpO b (EObj now (ps.map ptrv) (ls.map Lim.v)) ps xs ls
section
variable {b : Nat} {o : Obj} {ps : List Nat} {xs : List Int} {ls : List Lim} {w w' : World} {F : Nat → Prop}
theorem atoms_get {i p : Nat} {x : Int} (hp : ps[i]? = some p) (hx : xs[i]? = some x) : (atomsA ps xs)[i]? = some (Blk p (atom x)) := by
  unfold atomsA
  rw [List.getElem?_zipWith, hp, hx]
theorem atoms_len (h : ps.length = xs.length) : (atomsA ps xs).length = ps.length := by unfold atomsA; rw [List.length_zipWith, h, Nat.min_self]
theorem atoms_set : ∀ {ps : List Nat} {xs : List Int} {i p : Nat} {y : Int}, ps[i]? = some p → (atomsA ps xs).set i (Blk p (atom y)) = atomsA ps (xs.set i y)
  | [], xs, i, p, y, h => by simp at h
  | q :: ps, [], i, p, y, h => by simp [atomsA]
  | q :: ps, x :: xs, 0, p, y, h => by
    simp only [List.getElem?_cons_zero, Option.some.injEq] at h
    subst h
    rfl
  | q :: ps, x :: xs, i + 1, p, y, h => by
    have := atoms_set (xs := xs) (y := y) (by simpa using h : ps[i]? = some p)
    simp only [atomsA, List.zipWith_cons_cons, List.set_cons_succ] at this ⊢
    rw [this]
theorem EpO.blk (h : (EpO b o ps xs ls).on w F) : w.heap[b]? = some o ∧ F b := by
  obtain ⟨F1, F2, ⟨h1, e⟩, _, _, hF⟩ := h
  exact ⟨h1, (hF b).2 (.inl (by rw [e]))⟩
theorem EpO.put (h : (EpO b o ps xs ls).on w F) (o' : Obj) : Post (EpO b o' ps xs ls) F w (setB w b o') := by
  obtain ⟨F1, h1, _, hup⟩ := Stars.get (i := 0) h rfl
  exact hup _ _ (post_setB o' h1)
theorem EpO.pin (h : (EpO b o ps xs ls).on w F) (hl : ps.length = xs.length) {i p : Nat} {x : Int} (hp : ps[i]? = some p) (hx : xs[i]? = some x) : w.heap[p]? = some (atom x) ∧ F p ∧ ∀ y, Post (EpO b o ps (xs.set i y) ls) F w (setB w p (atom y)) := by
  have hi := (List.getElem?_eq_some_iff.1 hp).1
  have hg : (Blk b o :: (atomsA ps xs ++ rowsA ls))[i + 1]? = some (Blk p (atom x)) := by
    rw [List.getElem?_cons_succ, List.getElem?_append_left (by rw [atoms_len hl]; exact hi)]
    exact atoms_get hp hx
  obtain ⟨F1, h1, hs, hup⟩ := Stars.get h hg
  refine ⟨h1.1, hs p (by rw [h1.2]), fun y => ?_⟩
  have := hup _ _ (post_setB (atom y) h1)
  rw [List.set_cons_succ, List.set_append_left _ _ (by rw [atoms_len hl]; exact hi), atoms_set hp] at this
  exact this
theorem EpO.row (h : (EpO b o ps xs ls).on w F) (hl : ps.length = xs.length) {j : Nat} {r : Lim} (hr : ls[j]? = some r) : ∃ F1, r.row.on w F1 ∧ (∀ x, F1 x → F x) ∧ ∀ w' (r' : Lim), Post r'.row F1 w w' → Post (EpO b o ps xs (ls.set j r')) F w w' := by
  have hg : (Blk b o :: (atomsA ps xs ++ rowsA ls))[ps.length + j + 1]? = some r.row := by
    rw [List.getElem?_cons_succ, List.getElem?_append_right (by rw [atoms_len hl]; omega), atoms_len hl, Nat.add_sub_cancel_left]
    unfold rowsA
    rw [List.getElem?_map, hr]
    rfl
  obtain ⟨F1, h1, hs, hup⟩ := Stars.get h hg
  refine ⟨F1, h1, hs, fun w' r' hp => ?_⟩
  have := hup _ _ hp
  rw [List.set_cons_succ, List.set_append_right _ _ (by rw [atoms_len hl]; omega), atoms_len hl, Nat.add_sub_cancel_left] at this
  have e : (rowsA ls).set j r'.row = rowsA (ls.set j r') := by unfold rowsA; rw [List.map_set]
  rw [e] at this
  exact this
/-- The cells of the block. -/
theorem ec_now {now : Int} {vs ss : List Value} : (EC now vs ss).toArray[0]? = some (.int .i64 now) := rfl
theorem ec_pin {now : Int} {vs ss : List Value} {i : Nat} {v : Value} (h : vs[i]? = some v) : (EC now vs ss).toArray[1 + i]? = some v := by
  have hi := (List.getElem?_eq_some_iff.1 h).1
  simp only [EC, List.getElem?_toArray]
  rw [Nat.add_comm, List.getElem?_cons_succ, List.getElem?_append_left hi]
  exact h
theorem ec_lim {now : Int} {vs ss : List Value} {j : Nat} {v : Value} (h : ss[j]? = some v) : (EC now vs ss).toArray[1 + vs.length + j]? = some v := by
  simp only [EC, List.getElem?_toArray]
  rw [show 1 + vs.length + j = (vs.length + j) + 1 by omega, List.getElem?_cons_succ, List.getElem?_append_right (by omega), Nat.add_sub_cancel_left]
  exact h
theorem ec_set_now {now n : Int} {vs ss : List Value} : (EC now vs ss).toArray.setIfInBounds 0 (.int .i64 n) = (EC n vs ss).toArray := by simp [EC]
theorem ec_set_pin {now : Int} {vs ss : List Value} {i : Nat} (v : Value) (h : i < vs.length) : (EC now vs ss).toArray.setIfInBounds (1 + i) v = (EC now (vs.set i v) ss).toArray := by
  simp only [EC, List.setIfInBounds_toArray]
  rw [Nat.add_comm, List.set_cons_succ, List.set_append_left _ _ h]
theorem ec_set_lim {now : Int} {vs ss : List Value} {j : Nat} (v : Value) : (EC now vs ss).toArray.setIfInBounds (1 + vs.length + j) v = (EC now vs (ss.set j v)).toArray := by
  simp only [EC, List.setIfInBounds_toArray]
  rw [show 1 + vs.length + j = (vs.length + j) + 1 by omega, List.set_cons_succ, List.set_append_right _ _ (by omega), Nat.add_sub_cancel_left]
end
end Go.Proofs.Ytinejaganickpaa

namespace Go.Proofs.Ytinejaganickpaa
set_option linter.unusedVariables false
set_option linter.unusedSimpArgs false
open Go Go.RowKit

theorem One.setC {w0 w : World} {l : List Asr} (h : One w0 w l) (i : Nat) {g j : Nat} {cs : Array Value} {T : TypeId} {fr : Nat × Nat} (hi : l[i]? = some (Blk g (.cells cs T fr))) (v : Value) : One w0 (w.setCell ⟨g, j, none⟩ v) (l.set i (Blk g (.cells (cs.setIfInBounds j v) T fr))) := by
  rw [setCell_setB v (h.blk i hi).1]
  exact h.setB i hi _
section
variable {b : Nat} {now : Int} {ps : List Nat} {xs : List Int} {ls : List Lim} {w w' : World} {F : Nat → Prop}
theorem none_ep (h : (Ep b now ps xs ls).on w F) (hn : now ≠ 0) : Calls Try.prog 55 #[.pointer (some ⟨b, 0, none⟩)] w fun e w' => e = .returned (.bool false) ∧ w = w' := by
  have h0 : w.cell? ⟨b, 0, none⟩ = some (.int .i64 now) := cell_blk (EpO.blk h).1 ec_now
  have h1 : (now == 0) = false := beq_false_of_ne hn
  clear h
  go_enter Try.func55, Try.ntmps55
  go_wp2
  go_ret
  exact ⟨rfl, rfl⟩
theorem now_ep (h : (Ep b now ps xs ls).on w F) (hn : now ≠ 0) : Calls Try.prog 30 #[.pointer (some ⟨b, 0, none⟩)] w fun e w' => e = .returned (.int .i64 now) ∧ w = w' := by
  have HC := Lib.hid (none_ep h hn)
  have h0 : w.cell? ⟨b, 0, none⟩ = some (.int .i64 now) := cell_blk (EpO.blk h).1 ec_now
  clear h
  go_enter Try.func30, Try.ntmps30
  go_wp2_with fail
  refine HC.out.mono ?_
  rintro e w' ⟨rfl, rfl⟩
  go_wp2
  go_ret
  exact ⟨rfl, rfl⟩
end
def nilL : Lim := (none, 0, [])
def GaveNew (w : World) (e : Ending) (w' : World) : Prop := ∃ b ps, e = .returned (.pointer (some ⟨b, 0, none⟩)) ∧ ps.length = 17 ∧ Post (Ep b 1 ps (List.replicate 17 0) [nilL, nilL, nilL]) (fun _ => False) w w'
theorem atoms_snoc (ps : List Nat) (xs : List Int) (h : ps.length = xs.length) (p : Nat) (x : Int) : atomsA (ps ++ [p]) (xs ++ [x]) = atomsA ps xs ++ [Blk p (atom x)] := by
  unfold atomsA
  rw [List.zipWith_append h]
  rfl
def ptrsTo (ps : List Nat) : List Value := ps.map ptrv ++ List.replicate (17 - ps.length) (.pointer none)
theorem ptrs_len {ps : List Nat} (h : ps.length ≤ 17) : (ptrsTo ps).length = 17 := by unfold ptrsTo; simp; omega
theorem ptrs_at {ps : List Nat} (h : ps.length < 17) : (ptrsTo ps)[ps.length]? = some (.pointer none) := by
  unfold ptrsTo
  rw [List.getElem?_append_right (by simp), List.length_map, Nat.sub_self, List.getElem?_replicate, if_pos (by omega)]
theorem ptrs_set {ps : List Nat} (h : ps.length < 17) (p : Nat) : (ptrsTo ps).set ps.length (ptrv p) = ptrsTo (ps ++ [p]) := by
  unfold ptrsTo
  rw [List.set_append_right _ _ (by simp)]
  obtain ⟨m, hm⟩ : ∃ m, 17 - ps.length = m + 1 := ⟨17 - ps.length - 1, by omega⟩
  rw [hm, List.length_map, Nat.sub_self, List.replicate_succ, List.set_cons_zero, List.map_append, List.length_append]
  simp only [List.map_cons, List.map_nil, List.length_cons, List.length_nil, List.append_assoc, List.cons_append, List.nil_append]
  rw [show 17 - (ps.length + (0 + 1)) = m by omega]
set_option maxHeartbeats 1000000 in
theorem new_ep (w : World) : Calls Try.prog 7 #[] w (GaveNew w) := by
  have HO := Lib.hid ((One.nil w).alloc (EObj 1 (ptrsTo []) [.slice none 0 0, .slice none 0 0, .slice none 0 0]))
  go_enter Try.func7, Try.ntmps7
  go_wp2_with fail
  go_loopw [5] (fun s wr => ∃ ps : List Nat, ps.length ≤ 17 ∧ s = .int .i64 ps.length ∧ Hid (One w wr (Blk w.heap.size (EObj 1 (ptrsTo ps) [.slice none 0 0, .slice none 0 0, .slice none 0 0]) :: atomsA ps (List.replicate ps.length 0)))) (fun s _ => 17 - (intOf s).toNat)
  case atStart => exact ⟨[], by simp, rfl, HO⟩
  case round =>
    obtain ⟨ps, hk, rfl, HW⟩ := hrel
    by_cases hlt : ps.length < 17
    · have hb := (HW.out.blk 0 rfl).1
      have c0 : wr.cell? ⟨w.heap.size, 1 + ps.length, none⟩ = some (.pointer none) := cell_blk hb (ec_pin (ptrs_at hlt))
      have f0 : ∀ j, wr.frozen? ⟨w.heap.size, j, none⟩ = false := fun j => free_blk hb
      have hne : w.heap.size < wr.heap.size := lt_blk hb
      have hz : (ps.length : Int) < 17 := by omega
      clear hb
      go_wp2_with fail
      have HX := Lib.hid ((HW.out.setC 0 rfl (j := 1 + ps.length) (ptrv wr.heap.size)).alloc (atom 0))
      go_roundw
      case rel => exact ⟨ps ++ [wr.heap.size], by rw [List.length_append]; simp only [List.length_cons, List.length_nil]; omega, by rw [List.length_append]; go_num, Lib.hid (by
        have h := HX.out
        rw [show (wr.setCell ⟨w.heap.size, 1 + ps.length, none⟩ (ptrv wr.heap.size)).heap.size = wr.heap.size by simp] at h
        simp only [List.set_cons_succ, List.set_cons_zero] at h
        rw [ec_set_pin _ (by rw [ptrs_len (by omega)]; exact hlt), ptrs_set hlt] at h
        have h2 := h.perm ((List.Perm.swap _ _ _).trans (List.Perm.cons _ (List.perm_append_singleton _ _).symm))
        rw [List.length_append, show List.replicate (ps.length + [wr.heap.size].length) (0 : Int) = List.replicate ps.length 0 ++ [0] from by rw [List.length_singleton, List.replicate_succ'], atoms_snoc _ _ (by simp)]
        exact h2)⟩
      case measure => simp [intOf]; omega
    · have hl : ps.length = 17 := by omega
      have hp : ptrsTo ps = ps.map ptrv := by unfold ptrsTo; rw [hl]; simp
      have HZ := Lib.hid (show One w wr [Ep w.heap.size 1 ps (List.replicate 17 0) [nilL, nilL, nilL]] from by
        have h := ((HW.out.nilRow 59 3).nilRow 59 3).nilRow 59 3
        rw [hp, hl] at h
        have h2 := h.perm (l' := (Blk w.heap.size (EObj 1 (ps.map ptrv) [.slice none 0 0, .slice none 0 0, .slice none 0 0]) :: (atomsA ps (List.replicate 17 0) ++ rowsA [nilL, nilL, nilL])) ++ []) (by
          rw [List.append_nil]
          exact (List.perm_append_comm (l₁ := [RowA 59 3 (.slice none 0 0) 0 [], RowA 59 3 (.slice none 0 0) 0 [], RowA 59 3 (.slice none 0 0) 0 []]) (l₂ := Blk w.heap.size (EObj 1 (ps.map ptrv) [.slice none 0 0, .slice none 0 0, .slice none 0 0]) :: atomsA ps (List.replicate 17 0))))
        exact One.all.1 h2)
      have hz : (ps.length : Int) = 17 := by omega
      clear HW
      go_wp2
      go_ret
      exact ⟨w.heap.size, ps, rfl, hl, HZ.out.post 0 rfl⟩
end Go.Proofs.Ytinejaganickpaa

namespace Go.Proofs.Ytinejaganickpaa
set_option linter.unusedVariables false
set_option linter.unusedSimpArgs false
open Go Go.RowKit

/-- The plain epoch: the epoch, the pins, what waits in each row. -/
structure Eps where
  now : Nat
  xs : List Int
  ls : List (List Re)
/-- It is one: its sizes, and its number is neither nothing nor too great. -/
structure Eps.Fit (σ : Eps) : Prop where
  pos : 0 < σ.now
  top : σ.now < 4611686018427387904
  xlen : σ.xs.length = 17
  llen : σ.ls.length = 3
  inx : ∀ x ∈ σ.xs, 0 ≤ x ∧ x < 4611686018427387904
def EpA (b : Nat) (σ : Eps) : Asr where
  on := fun w F => ∃ ps rs, ps.length = 17 ∧ rs.map (fun r : Lim => r.2.2) = σ.ls ∧ (Ep b σ.now ps σ.xs rs).on w F
  keep := fun h k hS => by
    obtain ⟨ps, rs, h1, h2, h⟩ := h
    exact ⟨ps, rs, h1, h2, (Ep b _ ps _ rs).keep h k hS⟩
  lt := fun h => by
    obtain ⟨ps, rs, _, _, h⟩ := h
    exact (Ep b _ ps _ rs).lt h
theorem Post.some {α : Type} {A : Asr} {w w' : World} {F : Nat → Prop} {B : Asr} (h : Post A F w w') (hi : ∀ F', A.on w' F' → B.on w' F') : Post B F w w' := h.imp hi
def inS (s : Int) : Bool := decide (0 ≤ s) && decide (s ≤ 16)
def Eps.at (σ : Eps) (s : Int) : Int := σ.xs.getD s.toNat 0
def Eps.put (σ : Eps) (s x : Int) : Eps := ⟨σ.now, σ.xs.set s.toNat x, σ.ls⟩
def Eps.looks (s : Int) : Int := if inS s then 0 else 1
def Eps.pin (σ : Eps) (s : Int) : Eps × Int := if inS s then (if σ.at s = 0 then (σ.put s σ.now, 0) else (σ, 60)) else (σ, 1)
def Eps.unpin (σ : Eps) (s : Int) : Eps × Int := if inS s then (σ.put s 0, if σ.at s = 0 then 61 else 0) else (σ, 1)
def Eps.pinned (σ : Eps) (s : Int) : Int × Bool := if inS s then (σ.at s, σ.at s != 0) else (0, false)
section
variable {b : Nat} {σ : Eps} {w w' : World} {F : Nat → Prop}
theorem none_a (h : (EpA b σ).on w F) (hf : σ.Fit) : Calls Try.prog 55 #[.pointer (some ⟨b, 0, none⟩)] w fun e w' => e = .returned (.bool false) ∧ w = w' := by
  obtain ⟨ps, rs, _, _, h⟩ := h
  exact none_ep h (by have := hf.pos; omega)
theorem now_a (h : (EpA b σ).on w F) (hf : σ.Fit) : Calls Try.prog 30 #[.pointer (some ⟨b, 0, none⟩)] w fun e w' => e = .returned (.int .i64 σ.now) ∧ w = w' := by
  obtain ⟨ps, rs, _, _, h⟩ := h
  exact now_ep h (by have := hf.pos; omega)
end
theorem inS_lt {s : Int} (h : inS s = true) : ∃ i : Nat, s = i ∧ i < 17 := by
  simp only [inS, Bool.and_eq_true, decide_eq_true_eq] at h
  exact ⟨s.toNat, by omega, by omega⟩
/-- What is known of a session's cell. -/
theorem EpA.pin {b : Nat} {σ : Eps} {w : World} {F : Nat → Prop} (h : (EpA b σ).on w F) (hf : σ.Fit) {i : Nat} (hi : i < 17) : ∃ p, w.cell? ⟨b, 0, none⟩ = some (.int .i64 σ.now) ∧ w.cell? ⟨b, 1 + i, none⟩ = some (.pointer (some ⟨p, 0, none⟩)) ∧ w.heap[p]? = some (atom (σ.at i)) ∧ ∀ y, Post (EpA b (σ.put i y)) F w (setB w p (atom y)) := by
  obtain ⟨ps, rs, h1, h2, h⟩ := h
  have hp : ps[i]? = some ps[i] := List.getElem?_eq_getElem (by omega)
  have hx : σ.xs[i]? = some (σ.xs[i]'(by have := hf.xlen; omega)) := List.getElem?_eq_getElem (by have := hf.xlen; omega)
  have ha : σ.at i = σ.xs[i]'(by have := hf.xlen; omega) := by simp [Eps.at, List.getD, hx]
  obtain ⟨c1, c2, c3⟩ := EpO.pin h (by rw [h1, hf.xlen]) hp hx
  exact ⟨ps[i], cell_blk (EpO.blk h).1 ec_now, cell_blk (EpO.blk h).1 (ec_pin (by rw [List.getElem?_map, hp]; rfl)), by rw [ha]; exact c1, fun y => (c3 y).imp fun F' h' => ⟨ps, rs, h1, h2, h'⟩⟩
theorem EpA.pin2 {b : Nat} {σ : Eps} {w : World} {F : Nat → Prop} (h : (EpA b σ).on w F) (hf : σ.Fit) {i : Nat} (hi : i < 17) : ∃ p, w.cell? ⟨b, 0, none⟩ = some (.int .i64 σ.now) ∧ w.cell? ⟨b, 1 + i, none⟩ = some (.pointer (some ⟨p, 0, none⟩)) ∧ w.heap[p]? = some (atom (σ.at i)) ∧ p ≠ b ∧ ∀ w0, KN w w0 → ∀ y, Post (EpA b (σ.put i y)) F w (setB w0 p (atom y)) := by
  obtain ⟨p, c0, ci, hp, _⟩ := EpA.pin h hf hi
  refine ⟨p, c0, ci, hp, ?_, fun w0 k y => ?_⟩
  · obtain ⟨ps, rs, h1, h2, h⟩ := h
    exact ne_blk hp (EpO.blk h).1 (by intro e; injection e with e1 e2; exact absurd e2 (by decide))
  · obtain ⟨p', c0', ci', hp', hu⟩ := EpA.pin ((EpA b σ).kn h k) hf hi
    have e : p' = p := by
      have h1 := (World.cell?_of_block (w := w) (w' := w0) (a := ⟨b, 1 + i, none⟩) (k.block b (World.block_lt_of_cell? w _ ci) id)).trans ci
      rw [ci'] at h1
      cases h1; rfl
    rw [e] at hu
    exact (hu y).pre k
theorem looks_in {s : Int} (h : inS s = true) : Eps.looks s = 0 := by simp [Eps.looks, h]
theorem looks_out {s : Int} (h : inS s = false) : Eps.looks s = 1 := by simp [Eps.looks, h]
section
variable {b : Nat} {σ : Eps} {w w' : World} {F : Nat → Prop}
end
end Go.Proofs.Ytinejaganickpaa
