/- Lists of deltas: how long, how they read. -/
import Derived.Test.YtkdlodjpambelaaDeltaL
import Derived.Test.YtkdlodjpambelaaDeltaC
namespace Go.Proofs.Ytkdlodjpambelaa
set_option linter.unusedVariables false
set_option linter.unusedSimpArgs false
open Go Go.RowKit

theorem putAt_len' (l : List En) (e : En) : (putAt l e).length ≤ l.length + 1 := by
  unfold putAt
  split
  · rename_i i hi
    have hlt := (List.findIdx?_eq_some_iff_getElem.1 hi).1
    simp only [List.length_append, List.length_take, List.length_cons, List.length_drop]
    omega
  · simp only [List.length_append, List.length_take, List.length_cons, List.length_drop]
    omega
theorem applyD_len (p : Pg) (d : Dl) : (applyD p d).1.list.length ≤ p.list.length + d.right.list.length + 1 := by
  unfold applyD
  split
  · exact Nat.zero_le _
  split
  · unfold putP; split
    · exact Nat.le_trans (putAt_len' _ _) (by omega)
    · exact Nat.zero_le _
  split
  · split
    · exact Nat.zero_le _
    · split
      · unfold removeP; split
        · simp only [List.length_append, List.length_take, List.length_drop]; omega
        · exact Nat.zero_le _
      · show p.list.length ≤ _; omega
  split
  · split
    · exact Nat.zero_le _
    · exact Nat.le_trans (List.length_filter_le _ _) (by omega)
  split
  · unfold mergeP; split
    · simp only [List.length_append]; omega
    · exact Nat.zero_le _
  · exact Nat.zero_le _
def sumD (l : List Dl) : Nat := (l.map (fun d => d.right.list.length + 1)).sum
theorem sumD_cons (d : Dl) (l : List Dl) : sumD (d :: l) = d.right.list.length + 1 + sumD l := by simp [sumD]
theorem foldD_len (p : Pg) : ∀ l : List Dl, (foldD p l).1.list.length ≤ p.list.length + sumD l
  | [] => by show p.list.length ≤ _; omega
  | d :: l => by
    rw [foldD_cons, sumD_cons]
    split
    · exact Nat.zero_le _
    · have := foldD_len p l
      have := applyD_len (foldD p l).1 d
      omega
theorem sumD_drop (l : List Dl) (m : Nat) : sumD (l.drop m) ≤ sumD l := by
  induction l generalizing m with
  | nil => simp
  | cons d l ih =>
    cases m with
    | zero => exact Nat.le_refl _
    | succ m => rw [List.drop_succ_cons, sumD_cons]; have := ih m; omega
theorem len_sumD (l : List Dl) : l.length ≤ sumD l := by
  induction l with
  | nil => exact Nat.zero_le _
  | cons d l ih => rw [sumD_cons, List.length_cons]; omega
theorem right_sumD {l : List Dl} {d : Dl} (h : d ∈ l) : d.right.list.length + 1 ≤ sumD l := by
  induction l with
  | nil => cases h
  | cons e l ih =>
    rw [sumD_cons]
    cases h with
    | head => omega
    | tail _ h => have := ih h; omega
theorem foldD_drop_bad {p : Pg} {l : List Dl} {m : Nat} (h : (foldD p (l.drop m)).2 ≠ 0) : foldD p l = (zeroPg, (foldD p (l.drop m)).2) := by
  induction m generalizing l with
  | zero => rw [List.drop_zero] at h ⊢; exact Prod.ext (foldD_bad h) rfl
  | succ m ih =>
    cases l with
    | nil => rw [List.drop_nil] at h; exact absurd rfl h
    | cons d l =>
      rw [List.drop_succ_cons] at h ⊢
      have h2 := ih h
      rw [foldD_cons, if_pos (by rw [h2]; exact h), h2]
theorem foldD_step {p : Pg} {l : List Dl} {m : Nat} {d : Dl} {q : Pg} (hd : l[m]? = some d) (h : foldD p (l.drop (m + 1)) = (q, 0)) : foldD p (l.drop m) = applyD q d := by
  have hm := (List.getElem?_eq_some_iff.1 hd).1
  rw [List.drop_eq_getElem_cons hm, foldD_cons, h, (List.getElem?_eq_some_iff.1 hd).2]
  simp
/-- A delta's cells. -/
def dlc (x : Dl × Value) : List Value := [.int .i64 x.1.kind, .string x.1.entry.key, .int .i64 x.1.entry.ref.slot, .int .i64 x.1.entry.ref.gen, .int .i64 x.1.entry.child, .string x.1.key, .int .i64 x.1.page, .bool x.1.right.leaf, .string x.1.right.low, .string x.1.right.high, .int .i64 x.1.right.right, x.2]
/-- A slice value that reads as a list of deltas. -/
def RlD (w : World) (v : Value) (l : List Dl) : Prop := ∃ xs : List (Dl × Value), xs.map (·.1) = l ∧ Rl dlc 12 w v xs ∧ ∀ x ∈ xs, Rl En.enc 4 w x.2 x.1.right.list
theorem RlD.kn {w w' : World} {v : Value} {l : List Dl} (h : RlD w v l) (k : KN w w') : RlD w' v l :=
  let ⟨xs, h1, h2, h3⟩ := h; ⟨xs, h1, h2.kn k, fun x hx => (h3 x hx).kn k⟩
theorem RlD.form {w : World} {v : Value} {l : List Dl} (h : RlD w v l) : ∃ a cap, v = .slice a l.length cap ∧ l.length ≤ cap := by
  obtain ⟨xs, rfl, ⟨a, cap, rfl, hc, _⟩, _⟩ := h
  rw [List.length_map]
  exact ⟨a, cap, rfl, hc⟩
theorem RlD.at {w : World} {a : Option Addr} {n cap : Nat} {l : List Dl} (h : RlD w (.slice a n cap) l) {i : Nat} {d : Dl} (hd : l[i]? = some d) : ∃ b off ua un uc, a = some ⟨b, off, none⟩ ∧ b < w.heap.size ∧ Rl En.enc 4 w (.slice ua un uc) d.right.list ∧ w.cell? ⟨b, off + i * 12, none⟩ = some (.int .i64 d.kind) ∧ w.cell? ⟨b, off + i * 12 + 1, none⟩ = some (.string d.entry.key) ∧ w.cell? ⟨b, off + i * 12 + 2, none⟩ = some (.int .i64 d.entry.ref.slot) ∧ w.cell? ⟨b, off + i * 12 + 3, none⟩ = some (.int .i64 d.entry.ref.gen) ∧ w.cell? ⟨b, off + i * 12 + 4, none⟩ = some (.int .i64 d.entry.child) ∧ w.cell? ⟨b, off + i * 12 + 5, none⟩ = some (.string d.key) ∧ w.cell? ⟨b, off + i * 12 + 6, none⟩ = some (.int .i64 d.page) ∧ w.cell? ⟨b, off + i * 12 + 7, none⟩ = some (.bool d.right.leaf) ∧ w.cell? ⟨b, off + i * 12 + 8, none⟩ = some (.string d.right.low) ∧ w.cell? ⟨b, off + i * 12 + 9, none⟩ = some (.string d.right.high) ∧ w.cell? ⟨b, off + i * 12 + 10, none⟩ = some (.int .i64 d.right.right) ∧ w.cell? ⟨b, off + i * 12 + 11, none⟩ = some (.slice ua un uc) := by
  obtain ⟨xs, rfl, ⟨a', cap', e, hc, hr⟩, h3⟩ := h
  cases e
  rw [List.getElem?_map] at hd
  obtain ⟨x, hx, rfl⟩ := Option.map_eq_some_iff.1 hd
  obtain ⟨b, off, rfl, hb, hcell⟩ := hr.at hx
  have hr2 := h3 x (List.mem_of_getElem? hx)
  obtain ⟨d, u⟩ := x
  obtain ⟨ua, uc, hu, hcu⟩ := hr2.form
  simp only at hu hr2
  subst hu
  exact ⟨b, off, ua, _, uc, rfl, hb, hr2, hcell 0 (by decide), hcell 1 (by decide), hcell 2 (by decide), hcell 3 (by decide), hcell 4 (by decide), hcell 5 (by decide), hcell 6 (by decide), hcell 7 (by decide), hcell 8 (by decide), hcell 9 (by decide), hcell 10 (by decide), hcell 11 (by decide)⟩
end Go.Proofs.Ytkdlodjpambelaa
