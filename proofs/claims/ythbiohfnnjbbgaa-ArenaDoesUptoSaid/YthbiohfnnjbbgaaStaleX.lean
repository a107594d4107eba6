/- ArenaStale: steps of its walk. -/
import Derived.Test.YthbiohfnnjbbgaaHandL
import Derived.Test.YthbiohfnnjbbgaaStaleLaw
import Derived.Test.YthbiohfnnjbbgaaTypesAr
import Derived.Test.YthbiohfnnjbbgaaStepX
namespace Go.Proofs.Ythbiohfnnjbbgaa
set_option linter.unusedVariables false
set_option linter.unusedSimpArgs false
open Go Go.RowKit

theorem cells5x {w : World} {b : Nat} {d us os og : Int} {tx : ByteArray} (h : w.heap[b]? = some (.cells #[.int .i64 d, .int .i64 us, .string tx, .int .i64 os, .int .i64 og] 42)) : w.cell? ⟨b, 0, none⟩ = some (.int .i64 d) ∧ w.cell? ⟨b, 1, none⟩ = some (.int .i64 us) ∧ w.cell? ⟨b, 2, none⟩ = some (.string tx) ∧ w.cell? ⟨b, 3, none⟩ = some (.int .i64 os) ∧ w.cell? ⟨b, 4, none⟩ = some (.int .i64 og) :=
  ⟨cell_blk h rfl, cell_blk h rfl, cell_blk h rfl, cell_blk h rfl, cell_blk h rfl⟩
theorem cellU {w : World} {a : Addr} {v : Value} (h : w.cell? a = some v) (o : Obj) : (w.alloc o).cell? a = some v := cell_kp ((Kp.refl (fun _ => False) w).alloc o) id h
theorem heap_at {w : World} {o : Obj} {n : Nat} (h : n = w.heap.size) : (w.alloc o).heap[n]? = some o := by subst h; exact heap_alloc_same _ _
theorem rd_op4 {w : World} {a : Option Addr} {l : List Op4} (h : Rd Op4.enc 5 w a l) {i : Nat} {x : Op4} (hx : l[i]? = some x) : ∃ b off, a = some ⟨b, off, none⟩ ∧ b < w.heap.size ∧
    w.cell? ⟨b, off + i * 5, none⟩ = some (.int .i64 x.do_) ∧ w.cell? ⟨b, off + i * 5 + 1, none⟩ = some (.int .i64 x.use) ∧ w.cell? ⟨b, off + i * 5 + 2, none⟩ = some (.string x.text) ∧ w.cell? ⟨b, off + i * 5 + 3, none⟩ = some (.int .i64 x.odd.slot) ∧ w.cell? ⟨b, off + i * 5 + 4, none⟩ = some (.int .i64 x.odd.gen) := by
  obtain ⟨b, off, ha, hb, hc⟩ := h.at hx
  exact ⟨b, off, ha, hb, hc 0 (by omega), hc 1 (by omega), hc 2 (by omega), hc 3 (by omega), hc 4 (by omega)⟩
theorem rows_up {w0 w : World} {R : Asr} {S : Asr} {a a' : Option Addr} {c c' : Nat} {hs : List (Int × Int)} {h : Int × Int} {ts : List ByteArray} {t : ByteArray}
    (H : One w0 w [R, RowA 30 2 (.slice a (hs.length + 1) c) (hs.length + 1) ((hs ++ [h]).flatMap encHn), RowA 9 1 (.slice a' (ts.length + 1) c') (ts.length + 1) ((ts ++ [t]).flatMap encTx), S]) (htl : ts.length = hs.length) :
    One w0 w [R, RH a c (hs ++ [h]), RS a' c' (ts ++ [t]), S] := by
  have e1 : (hs ++ [h]).length = hs.length + 1 := by simp
  have e2 : (ts ++ [t]).length = ts.length + 1 := by simp
  unfold RH RS
  rw [e1, e2]
  exact H
theorem row_gs {w0 w : World} {a : Option Addr} {c : Nat} {gs : List (Int × Int)} {g : Int × Int} {A : List Asr} (H : One w0 w (RowA 30 2 (.slice a (gs.length + 1) c) (gs.length + 1) (gs.flatMap encHn ++ [g].flatMap encHn) :: A)) :
    One w0 w (RH a c (gs ++ [g]) :: A) := by
  have e1 : (gs ++ [g]).length = gs.length + 1 := by simp
  unfold RH
  rw [e1, List.flatMap_append]
  exact H
theorem rows_free {w0 w : World} {A B D E F G : Asr} (h : One w0 w [A, B, D, E, F, G]) : One w0 w [D, A, B, G] := by
  have p1 : [A, B, D, E, F, G].Perm [D, E, F, A, B, G] := (List.perm_append_comm (l₁ := [A, B]) (l₂ := [D, E, F])).append_right [G]
  have p2 : [D, E, F, A, B, G].Perm [E, F, D, A, B, G] := (List.Perm.swap E D _).trans (List.Perm.cons E (List.Perm.swap F D _))
  exact (h.perm (p1.trans p2)).drop.drop
theorem q_of (us : Int) {n : Nat} (h : 0 < n) (h2 : n ≤ 65536) : ∃ q : Nat, (wrap64 (us.tmod n + n)).tmod n = q ∧ q < n := by
  have hn : (0 : Int) < n := by omega
  have h3 := Int.tmod_lt_of_pos us hn
  have h4 : -(n : Int) < us.tmod n := by
    have := Int.lt_tmod_of_pos us hn
    omega
  rw [show wrap64 (us.tmod n + n) = us.tmod n + n by unfold wrap64; omega]
  have h5 := Int.tmod_nonneg (n : Int) (show 0 ≤ us.tmod n + n by omega)
  have h6 := Int.tmod_lt_of_pos (us.tmod n + n) hn
  exact ⟨((us.tmod n + n).tmod n).toNat, by omega, by omega⟩
theorem One.rl {α : Type} {enc : α → List Value} {E sz n : Nat} {a : Option Addr} {c : Nat} {w0 w : World} {A : List Asr} {l : List α} (h : One w0 w A) (i : Nat) (hi : A[i]? = some (RowA E sz (.slice a n c) n (l.flatMap enc))) (hl : ∀ x, (enc x).length = sz) (hn : l.length = n) : Rd enc sz w a l ∧ l.length ≤ c := by
  obtain ⟨F, h1, _⟩ := h.get i hi
  obtain ⟨a', c', e, hc, hr⟩ := Rl.of_own hl hn h1.1
  cases e
  exact ⟨hr, hc⟩
theorem One.tx {w0 w : World} {A : List Asr} {a : Option Addr} {c : Nat} {l : List ByteArray} (h : One w0 w A) (i : Nat) (hi : A[i]? = some (RS a c l)) {q : Nat} (hq : q < l.length) :
    ∃ g, a = some ⟨g, 0, none⟩ ∧ w.frozen? ⟨g, q, none⟩ = false ∧ (∃ u : ByteArray, w.cell? ⟨g, q, none⟩ = some (.string u)) ∧ ∀ x, One w0 (w.setCell ⟨g, q, none⟩ (.string x)) (A.set i (RS a c (l.set q x))) := by
  obtain ⟨F, ⟨h1, rfl⟩, _, h3⟩ := h.get i hi
  have hfl : ∀ (l : List ByteArray), l.flatMap encTx = l.map Value.string := fun l => by induction l with
    | nil => rfl
    | cons x l ih => rw [List.flatMap_cons, ih]; rfl
  have h4 := h1.2
  rcases h4 with ⟨e, h0⟩ | ⟨g, cap, cur, e, _⟩
  · exact absurd h0 (by simp; intro e; subst e; simp at hq)
  · injection e with e1 e2 e3
    subst e1; subst e3
    have hx : (l.flatMap encTx)[q]? = some (.string l[q]) := by rw [hfl, List.getElem?_map, List.getElem?_eq_getElem hq]; rfl
    obtain ⟨b, off, cap', e, _, _, hc⟩ := (Sr.of_own h1).cells (by omega)
    injection e with e
    injection e with e
    injection e with e1 e2
    subst e1; subst e2
    have hcq := hc q _ hx
    rw [Nat.zero_add] at hcq
    refine ⟨g, rfl, h1.frozenAt q, ⟨_, hcq⟩, fun x => h3 ⟨_, ⟨?_, rfl⟩, (Kp.refl (fun b => (Value.slice (some ⟨g, 0, none⟩) l.length c).ownBlock = some b) w).setCell (p := ⟨g, q, none⟩) (.inl rfl) _, fun b hb => .inl hb⟩⟩
    have h5 := (h1.stored q (.string x)).1
    have e5 : (l.flatMap encTx).set q (.string x) = (l.set q x).flatMap encTx := by rw [hfl, hfl, List.map_set]
    have e6 : (l.set q x).length = l.length := by simp
    rw [e5] at h5
    rw [e6]
    exact h5
section
variable {α : Type} {enc : α → List Value} {P : Program} {E sz t bytes : Nat} {z : Value} {w0 w : World} {A : List Asr} {l : List α} {q : Nat}
theorem One.cut1 (el : Elt P t E z sz bytes) (ty : TypeId) (h : One w0 w A) (i : Nat) (hi : A[i]? = some (RowA E sz (.slice none 0 0) 0 [])) (hq : q ≤ l.length) (hn : l.length ≤ 65536) (hl : ∀ x, (enc x).length = sz) (h1 : ∀ x, ∀ u ∈ enc x, u.oneCell' = true) (hb : bytes ≤ 1000) {s : Value} (hs : Rl enc sz w s (l.take q)) :
    ∃ r w', (Builtin.append_ #[t, t] ty #[.slice none 0 0, s]).run P w = .ok r w' ∧ ∃ a1 cap, r = .slice a1 q cap ∧ One w0 w' (A.set i (RowA E sz (.slice a1 q cap) q ((l.take q).flatMap enc))) := by
  have e : (l.take q).length = q := by rw [List.length_take]; omega
  obtain ⟨r, w', hr, a1, cap, h2, h3, _⟩ := h.grow (B := w.heap.size) (m := l.take q) (l := ([] : List α)) el ty i hi hl hs h1 (by omega) hb (fun b hb => by cases hb)
  rw [e, Nat.zero_add] at h2 h3
  exact ⟨r, w', hr, a1, cap, h2, h3⟩
theorem One.cut2 (el : Elt P t E z sz bytes) (ty : TypeId) (h : One w0 w A) (i : Nat) {a : Option Addr} {c : Nat} (hi : A[i]? = some (RowA E sz (.slice a q c) q ((l.take q).flatMap enc))) (hq : q < l.length) (hn : l.length ≤ 65536) (hl : ∀ x, (enc x).length = sz) (h1 : ∀ x, ∀ u ∈ enc x, u.oneCell' = true) (hb : bytes ≤ 1000) {s : Value} (hs : Rl enc sz w s (l.drop (q + 1))) {l2 : List α} (he : l2 = l.take q ++ l.drop (q + 1)) :
    ∃ r w', (Builtin.append_ #[t, t] ty #[.slice a q c, s]).run P w = .ok r w' ∧ ∃ a1 cap, r = .slice a1 l2.length cap ∧ One w0 w' (A.set i (RowA E sz (.slice a1 l2.length cap) l2.length (l2.flatMap enc))) := by
  have e : q + (l.drop (q + 1)).length = l2.length := by rw [he, List.length_append, List.length_take]; omega
  have e2 : l2.length ≤ l.length := by rw [← e, List.length_drop]; omega
  obtain ⟨F, h0, _⟩ := h.get i hi
  obtain ⟨r, w', hr, a1, cap, h2, h3, _⟩ := h.grow (B := w.heap.size) (m := l.drop (q + 1)) (l := l.take q) el ty i hi hl hs h1 (by omega) hb (h.low i hi)
  rw [e, ← he] at h3
  rw [e] at h2
  exact ⟨r, w', hr, a1, cap, h2, h3⟩
end
end Go.Proofs.Ythbiohfnnjbbgaa
