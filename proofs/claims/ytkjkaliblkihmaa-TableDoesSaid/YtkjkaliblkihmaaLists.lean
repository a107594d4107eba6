/- Slices that read as lists of data: readings, cuts, appends, buildSlice; owned rows. -/
import Derived.Test.YtkjkaliblkihmaaOwnRow
import Derived.Test.YtkjkaliblkihmaaOpen
import Derived.Great.BuildSlice
import Derived.Lib.AppendZerosOnto
import Derived.Lib.SliceRun
namespace Go.Proofs.Ytkjkaliblkihmaa
set_option linter.unusedVariables false
set_option linter.unusedSimpArgs false
open Go Go.RowKit

/-- A slice value that reads as the list l. -/
def Rl {α : Type} (enc : α → List Value) (sz : Nat) (w : World) (v : Value) (l : List α) : Prop :=
  ∃ a cap, v = .slice a l.length cap ∧ l.length ≤ cap ∧ Rd enc sz w a l

theorem flat_len {α : Type} {enc : α → List Value} {sz : Nat} (hl : ∀ x, (enc x).length = sz) (l : List α) : (l.flatMap enc).length = l.length * sz := by
  induction l with
  | nil => simp
  | cons x l ih => rw [List.flatMap_cons, List.length_append, hl, ih, List.length_cons, Nat.succ_mul]; omega
theorem flat_at {α : Type} {enc : α → List Value} {sz : Nat} (hl : ∀ x, (enc x).length = sz) : ∀ (l : List α) (i : Nat) (x : α), l[i]? = some x → ∀ (j : Nat), j < sz → (l.flatMap enc)[i * sz + j]? = (enc x)[j]?
  | [], i, x, h, j, hj => by simp at h
  | y :: l, 0, x, h, j, hj => by
    simp at h; subst h
    rw [List.flatMap_cons, Nat.zero_mul, Nat.zero_add, List.getElem?_append_left (by rw [hl]; exact hj)]
  | y :: l, i + 1, x, h, j, hj => by
    rw [List.flatMap_cons, List.getElem?_append_right (by rw [hl, Nat.succ_mul]; omega), hl, show (i + 1) * sz + j - sz = i * sz + j by rw [Nat.succ_mul]; omega]
    exact flat_at hl l i x (by simpa using h) j hj

section
variable {α : Type} {enc : α → List Value} {sz : Nat} {w w' : World} {v : Value} {l : List α}
theorem Rd.kn {a : Option Addr} (h : Rd enc sz w a l) (k : KN w w') : Rd enc sz w' a l := by
  rcases h with h | ⟨b, off, ha, hb, hc⟩
  · exact .inl h
  · refine .inr ⟨b, off, ha, Nat.lt_of_lt_of_le hb k.size, fun i x hx j hj => ?_⟩
    rw [← hc i x hx j hj, World.cell?_of_block (w := w) (k.block b hb id)]
theorem Rl.kn (h : Rl enc sz w v l) (k : KN w w') : Rl enc sz w' v l :=
  let ⟨a, cap, hv, hc, hr⟩ := h; ⟨a, cap, hv, hc, hr.kn k⟩
theorem Rl.nil (enc : α → List Value) (sz : Nat) (w : World) : Rl enc sz w (.slice none 0 0) [] := ⟨none, 0, rfl, Nat.le_refl _, .inl rfl⟩
theorem Rl.of_rd {a : Option Addr} {cap : Nat} (h : Rd enc sz w a l) (hc : l.length ≤ cap) : Rl enc sz w (.slice a l.length cap) l := ⟨a, cap, rfl, hc, h⟩
theorem Rl.of_own {E n : Nat} {base : Nat} (hl : ∀ x, (enc x).length = sz) (hn : l.length = n) (h : w.ownsRow base E sz v n (l.flatMap enc)) : Rl enc sz w v l := by
  subst hn
  obtain ⟨_, h⟩ := h
  rcases h with ⟨rfl, h0⟩ | ⟨g, cap, cur, rfl, _, hb, hc, hm, hs, ht⟩
  · exact ⟨none, 0, by rw [h0], by omega, .inl (List.length_eq_zero_iff.1 h0)⟩
  · refine ⟨_, cap, rfl, hc, .inr ⟨g, 0, rfl, lt_blk hb, fun i x hx j hj => ?_⟩⟩
    have hi := (List.getElem?_eq_some_iff.1 hx).1
    have h1 := flat_at hl l i x hx j hj
    rw [← h1, ← ht]
    have h3 : i * sz + j < (l.flatMap enc).length := by
      rw [flat_len hl]
      have : (i + 1) * sz ≤ l.length * sz := Nat.mul_le_mul_right _ hi
      rw [Nat.succ_mul] at this; omega
    rw [List.getElem?_take, if_pos (by rw [← flat_len hl]; exact h3)]
    simp [World.cell?, hb]
theorem Rl.of_row {E n : Nat} {F : Nat → Prop} (hl : ∀ x, (enc x).length = sz) (hn : l.length = n) (h : (RowA E sz v n (l.flatMap enc)).on w F) : Rl enc sz w v l := Rl.of_own hl hn h.1
theorem Rl.form (h : Rl enc sz w v l) : ∃ a cap, v = .slice a l.length cap ∧ l.length ≤ cap := let ⟨a, cap, hv, hc, _⟩ := h; ⟨a, cap, hv, hc⟩
/-- An element's cells. -/
theorem Rd.at {a : Option Addr} (h : Rd enc sz w a l) {i : Nat} {x : α} (hx : l[i]? = some x) : ∃ b off, a = some ⟨b, off, none⟩ ∧ b < w.heap.size ∧ ∀ j, j < sz → w.cell? ⟨b, off + (i * sz + j), none⟩ = (enc x)[j]? := by
  rcases h with h0 | ⟨b, off, ha, hb, hc⟩
  · rw [h0] at hx; simp at hx
  · exact ⟨b, off, ha, hb, fun j hj => hc i x hx j hj⟩
theorem Rd.take {a : Option Addr} (h : Rd enc sz w a l) (k : Nat) : Rd enc sz w a (l.take k) := by
  rcases h with h | ⟨b, off, ha, hb, hc⟩
  · exact .inl (by rw [h]; simp)
  · refine .inr ⟨b, off, ha, hb, fun i x hx j hj => hc i x ?_ j hj⟩
    rw [List.getElem?_take] at hx
    split at hx
    · exact hx
    · cases hx
theorem Rd.drop {a : Option Addr} (h : Rd enc sz w a l) (k m : Nat) (hm : l.length ≤ m) : Rd enc sz w (if m = k then a else a.map (·.add (k * sz))) (l.drop k) := by
  by_cases e : m = k
  · rw [if_pos e]; exact .inl (List.drop_eq_nil_of_le (by omega))
  · rw [if_neg e]
    rcases h with h | ⟨b, off, ha, hb, hc⟩
    · exact .inl (by rw [h]; simp)
    · refine .inr ⟨b, off + k * sz, by subst ha; by_cases hz : k * sz = 0 <;> simp [Addr.add, hz], hb, fun i x hx j hj => ?_⟩
      have := hc (k + i) x (by simpa using hx) j hj
      rwa [Nat.add_mul, Nat.add_assoc (k * sz), ← Nat.add_assoc off] at this
end

/-- append(v, s...): v is owned, s reads as a list. -/
theorem run_appL {α : Type} {enc : α → List Value} {P : Program} {w : World} {t E sz bytes : Nat} {z : Value} (el : Elt P t E z sz bytes) (ty : TypeId) {v s : Value} {n : Nat} {xs : List Value} {l : List α} (hown : w.ownsRow 0 E sz v n xs)
    (hl : ∀ x, (enc x).length = sz) (hs : Rl enc sz w s l) (h1 : ∀ x, ∀ u ∈ enc x, u.oneCell' = true) (h63 : n + l.length ≤ maxLen) (hbytes : (n + l.length) * bytes ≤ 140737488355328) :
    ∃ v' w', (Builtin.append_ #[t, t] ty #[v, s]).run P w = .ok v' w' ∧ w'.ownsRow 0 E sz v' (n + l.length) (xs ++ l.flatMap enc) ∧ Kp (fun k => v.ownBlock = some k) w w' ∧ (v'.ownBlock = v.ownBlock ∨ v'.ownBlock = some w.heap.size) := by
  obtain ⟨i, hi, hi2⟩ := Option.map_eq_some_iff.1 el.hi
  simp only [Prod.mk.injEq] at hi2
  obtain ⟨hz, hsz, hb⟩ := hi2
  obtain ⟨a, cap, rfl, hc, h⟩ := hs
  cases a with
  | none =>
    have : l = [] := by
      rcases h with h | ⟨b, off, ha, _⟩
      · exact h
      · cases ha
    subst this
    exact ⟨v, w, run_append_nil el hown cap, by simpa using hown, Kp.refl _ w, .inl rfl⟩
  | some ad =>
    obtain ⟨v', w', hr, ho, hg, _, hbk⟩ := run_append_own_at (P := P) w 0 t ty E i z sz bytes el.ht hi hz hsz hb el.hz el.pos v n xs hown ad l.length cap (l.flatMap enc) (flat_len hl l) (by
      intro j u hj
      rcases h with h | ⟨b, off, ha, hbk, hx⟩
      · subst h; simp at hj
      · cases ha
        have hj2 := (List.getElem?_eq_some_iff.1 hj).1
        rw [flat_len hl] at hj2
        have hq : j / sz < l.length := (Nat.div_lt_iff_lt_mul el.pos).2 hj2
        have hm : j % sz < sz := Nat.mod_lt _ el.pos
        have hjj : j = (j / sz) * sz + j % sz := by rw [Nat.mul_comm]; exact (Nat.div_add_mod j sz).symm
        have h1 := hx (j / sz) _ (List.getElem?_eq_getElem hq) (j % sz) hm
        have h2 := flat_at hl l (j / sz) _ (List.getElem?_eq_getElem hq) (j % sz) hm
        rw [← hjj] at h1 h2
        rw [← h2, hj] at h1
        by_cases h0 : j = 0
        · subst h0; simpa [Addr.add] using h1
        · simpa [Addr.add, h0] using h1) (fun u hu => by
          obtain ⟨x, _, hx⟩ := List.mem_flatMap.1 hu
          exact h1 x u hx) h63 hbytes (Nat.zero_le _)
    exact ⟨v', w', hr, ho, kp_grown hg, hbk⟩

section
variable {α : Type} {enc : α → List Value} {P : Program} {E sz n : Nat} {v : Value} {w0 w w' : World} {F : Nat → Prop} {xs : List Value} {A : List Asr}
theorem post_appL {t bytes : Nat} {z : Value} (el : Elt P t E z sz bytes) (ty : TypeId) {s : Value} {l : List α} (h : (RowA E sz v n xs).on w F) (hl : ∀ x, (enc x).length = sz) (hs : Rl enc sz w s l) (h1 : ∀ x, ∀ u ∈ enc x, u.oneCell' = true)
    (h63 : n + l.length ≤ maxLen) (hbytes : (n + l.length) * bytes ≤ 140737488355328) :
    ∃ a cap w', (Builtin.append_ #[t, t] ty #[v, s]).run P w = .ok (.slice a (n + l.length) cap) w' ∧ Post (RowA E sz (.slice a (n + l.length) cap) (n + l.length) (xs ++ l.flatMap enc)) F w w' := by
  obtain ⟨ho, rfl⟩ := h
  obtain ⟨v', w', hr, ho', hk, hb⟩ := run_appL el ty ho hl hs h1 h63 hbytes
  obtain ⟨a, cap, rfl, _⟩ := (Sr.of_own ho').form
  refine ⟨a, cap, w', hr, _, ⟨ho', rfl⟩, hk, fun b hb' => ?_⟩
  rcases hb with e | e
  · rw [e] at hb'; exact .inl hb'
  · rw [e] at hb'; cases hb'; exact .inr (Nat.le_refl _)
/-- append(v, s...), where v's cells are item i of what is owned, s reads as l. -/
theorem wpList_appL {ops : Array Oper} {rest : List Oper} {o : Oper} {a : Act} {Q : Exit → Act → World → Prop} (d : Tmp) (hd : o.dst = some d) (hgd : o.guard = none) {so xo : Operand} {t ty : TypeId}
    (ho : o.op = .call { callee := .builtin .append, args := #[so, xo], argTypes := #[t, t] }) (hty : o.type = ty) {bytes : Nat} {z : Value} (el : Elt P t E z sz bytes) (h : One w0 w A) (i : Nat) (hi : A[i]? = some (RowA E sz v n xs)) {s : Value} {l : List α}
    (hv : a.eval so = v) (hs : a.eval xo = s) (hl : ∀ x, (enc x).length = sz) (hr : Rl enc sz w s l) (h1 : ∀ x, ∀ u ∈ enc x, u.oneCell' = true) (h63 : n + l.length ≤ maxLen) (hbytes : (n + l.length) * bytes ≤ 140737488355328)
    (hK : ∀ a1 cap w', One w0 w' (A.set i (RowA E sz (.slice a1 (n + l.length) cap) (n + l.length) (xs ++ l.flatMap enc))) → wpList P ops Q rest (a.put (some d) (.slice a1 (n + l.length) cap)) w') : wpList P ops Q (o :: rest) a w := by
  obtain ⟨F, hF, _, h3⟩ := h.get i hi
  obtain ⟨a1, cap, w', hrun, hp⟩ := post_appL el ty hF hl hr h1 h63 hbytes
  exact wpList_app d hd hgd ho hty (by rw [hv, hs]; exact hrun) (hK a1 cap w' (h3 hp))
/-- A row that is cut to nothing. -/
theorem own_none {base : Nat} {a : Option Addr} {cap : Nat} (h : w.ownsRow base E sz (.slice a n cap) n xs) (ha : a ≠ none) : w.ownsRow base E sz (.slice a 0 cap) 0 [] := by
  obtain ⟨_, h⟩ := h
  rcases h with ⟨h1, _⟩ | ⟨g, cap', cur, h1, hg, hb, hc, hm, hs, ht⟩
  · injection h1 with h1; exact absurd h1 ha
  · injection h1 with h1 h2 h3
    subst h1; subst h3
    exact ⟨by simp, .inr ⟨g, cap, cur, rfl, hg, hb, Nat.zero_le _, hm, hs, by simp⟩⟩
end
/-- What is owned is new. -/
theorem One.post {w0 w : World} {l : List Asr} (h : One w0 w l) (i : Nat) {A : Asr} (hi : l[i]? = some A) : Post A (fun _ => False) w0 w := let ⟨F, a, b, _⟩ := h.get i hi; ⟨F, a, h.old, fun x hx => .inr (b x hx)⟩
theorem Post.knf {A : Asr} {w w' : World} (h : Post A (fun _ => False) w w') : KN w w' := h.kp
theorem Post.rl {α : Type} {enc : α → List Value} {E sz : Nat} {v : Value} {l : List α} {w w' : World} {F : Nat → Prop} (hl : ∀ x, (enc x).length = sz) (h : Post (RowA E sz v l.length (l.flatMap enc)) F w w') : Rl enc sz w' v l := let ⟨_, a, _, _⟩ := h; Rl.of_row hl rfl a
/-- A new block of n elements, as a row. -/
theorem post_newrow (E sz : Nat) (w : World) (cs : List Value) (n : Nat) (hl : cs.length = n * sz) (hn : n ≤ maxLen) : Post (RowA E sz (.slice (some ⟨w.heap.size, 0, none⟩) n n) n cs) (fun _ => False) w (w.alloc (.cells cs.toArray E)) := by
  refine ⟨_, ⟨⟨hl, .inr ⟨w.heap.size, n, cs.toArray, rfl, Nat.zero_le _, heap_alloc_same _ _, Nat.le_refl _, hn, by simpa using hl, ?_⟩⟩, rfl⟩, kn_alloc _ _, fun b hb => .inr (by cases hb; exact Nat.le_refl _)⟩
  rw [← hl]; exact List.take_length
/-- slices.Grow of nothing. -/
theorem post_zeros {P : Program} (w : World) {t tn E sz bytes : Nat} {z : Value} (el : Elt P t E z sz bytes) (ty : TypeId) (htn : P.underlying tn = some (.int .i64)) (n : Nat) (h0 : 0 < n) (h63 : n ≤ maxLen) (hbytes : n * bytes ≤ 140737488355328) :
    ∃ g cap w' xs, (Builtin.append_ #[t, tn] ty #[.slice none 0 0, .int .i64 n]).run P w = .ok (.slice (some ⟨g, 0, none⟩) n cap) w' ∧ n ≤ cap ∧ Post (RowA E sz (.slice (some ⟨g, 0, none⟩) n cap) n xs) (fun _ => False) w w' := by
  obtain ⟨i, hi, hi2⟩ := Option.map_eq_some_iff.1 el.hi
  simp only [Prod.mk.injEq] at hi2
  obtain ⟨hz, hsz, hb⟩ := hi2
  have h63' : (n : Int) ≤ 9223372036854775807 := by unfold maxLen at h63; omega
  have hr := Go.Lib.run_append_nil_zeros (P := P) w t tn ty E i z .i64 .i64 el.ht htn hi hz n h0 (by rw [hsz]; exact el.pos) h63' (by rw [hb]; omega)
  have hge := grownCap_ge w n 0 E
  have hcm := grownCap_le_maxLen w n 0 E h63
  have hk : KN w (w.drew.alloc (.cells (Builtin.zeroCells z.cells n ++ Builtin.zeroCells z.cells (grownCap w n 0 E - n)) E)) := ((Kp.refl _ w).drew).alloc _
  refine ⟨w.heap.size, grownCap w n 0 E, _, (Builtin.zeroCells z.cells n).toList, hr, hge, _, ⟨⟨?_, .inr ⟨w.heap.size, _, _, rfl, Nat.zero_le _, heap_alloc_same w.drew _, hge, hcm, ?_, ?_⟩⟩, rfl⟩, hk, fun b hb => .inr (by cases hb; exact Nat.le_refl _)⟩
  · simp [size_zeroCells, el.hz]
  · simp only [Array.size_append, size_zeroCells, el.hz, ← Nat.add_mul]; congr 1; omega
  · rw [Array.toList_append, List.take_left' (by simp [size_zeroCells, el.hz])]
end Go.Proofs.Ytkjkaliblkihmaa
