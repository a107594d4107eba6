/- Windows: slices of numbers that stand anywhere in a block that is owned; slices.Insert and slices.BinarySearch of them. -/
import Derived.Test.YthbiohfnnjbbgaaLays
import Derived.Test.YthbiohfnnjbbgaaPostL
import Derived.Laws.AppendOwn
namespace Go.Proofs.Ythbiohfnnjbbgaa
set_option linter.unusedVariables false
set_option linter.unusedSimpArgs false
open Go Go.RowKit

/-- A row of values is written into cells. -/
def putAt (cs : Array Value) (o : Nat) : List Value → Array Value
  | [] => cs
  | v :: r => putAt (cs.setIfInBounds o v) (o + 1) r
theorem putAt_size : ∀ (vs : List Value) (cs : Array Value) (o : Nat), (putAt cs o vs).size = cs.size
  | [], _, _ => rfl
  | v :: r, cs, o => by show (putAt (cs.setIfInBounds o v) (o + 1) r).size = _; rw [putAt_size r]; simp
theorem putAt_at : ∀ (vs : List Value) (cs : Array Value) (o k : Nat), o + vs.length ≤ cs.size → (putAt cs o vs)[k]? = if o ≤ k ∧ k < o + vs.length then vs[k - o]? else cs[k]?
  | [], cs, o, k, h => by
    rw [if_neg (by simp only [List.length_nil]; omega)]
    rfl
  | v :: r, cs, o, k, h => by
    simp only [List.length_cons] at h
    show (putAt (cs.setIfInBounds o v) (o + 1) r)[k]? = _
    rw [putAt_at r _ _ _ (by simp; omega)]
    by_cases h1 : o + 1 ≤ k ∧ k < o + 1 + r.length
    · rw [if_pos h1, if_pos (by simp; omega), show k - o = (k - (o + 1)) + 1 by omega]; simp
    · rw [if_neg h1]
      by_cases h2 : k = o
      · subst h2
        rw [if_pos (by simp), Nat.sub_self, Array.getElem?_setIfInBounds_self_of_lt (by omega)]
        rfl
      · rw [if_neg (by simp; omega)]
        rw [Array.getElem?_setIfInBounds_ne (Ne.symm h2)]
theorem setCells_setB {b : Nat} {T : TypeId} {fr : Nat × Nat} : ∀ (vs : List Value) {w : World} {cs : Array Value} (o : Nat), w.heap[b]? = some (.cells cs T fr) → w.setCells b o vs = setB w b (.cells (putAt cs o vs) T fr)
  | [], w, cs, o, h => (setB_self h).symm
  | v :: r, w, cs, o, h => by
    show (w.setCell ⟨b, o, none⟩ v).setCells b (o + 1) r = _
    rw [setCell_setB v h, setCells_setB r (o + 1) (setB_same _ (lt_blk h)), setB_setB]
    rfl
/-- A slice of numbers in a block that is owned. -/
def WinA (E : TypeId) (v : Value) (l : List Int) : Asr where
  on := fun w F => (v = .slice none 0 0 ∧ l = [] ∧ F = fun _ => False) ∨ ∃ (b off cap : Nat) (cs : Array Value), v = .slice (some ⟨b, off, none⟩) l.length cap ∧ l.length ≤ cap ∧ cap ≤ 9223372036854775807 ∧ off + cap ≤ cs.size ∧ w.heap[b]? = some (.cells cs E (0, 0)) ∧ (∀ j x, l[j]? = some x → cs[off + j]? = some (.int .i64 x)) ∧ F = (· = b)
  keep := fun h k hS => by
    rcases h with h | ⟨b, off, cap, cs, h1, h2, h3, h4, h5, h6, e⟩
    · exact .inl h
    · exact .inr ⟨b, off, cap, cs, h1, h2, h3, h4, k.blk h5 (hS b (by rw [e])), h6, e⟩
  lt := fun h b hb => by
    rcases h with ⟨_, _, e⟩ | ⟨b', off, cap, cs, h1, h2, h3, h4, h5, h6, e⟩
    · rw [e] at hb; exact hb.elim
    · rw [e] at hb; subst hb; exact lt_blk h5
section
variable {E : TypeId} {v : Value} {l : List Int} {w w' : World} {F : Nat → Prop}
theorem WinA.form (h : (WinA E v l).on w F) : ∃ a cap, v = .slice a l.length cap ∧ l.length ≤ cap := by
  rcases h with ⟨h, h0, _⟩ | ⟨b, off, cap, cs, h1, h2, _⟩
  · exact ⟨none, 0, by rw [h, h0]; rfl, by rw [h0]; exact Nat.le_refl _⟩
  · exact ⟨_, cap, h1, h2⟩
theorem WinA.nil (E : TypeId) (w : World) : Post (WinA E (.slice none 0 0) []) (fun _ => False) w w := ⟨_, .inl ⟨rfl, rfl, rfl⟩, Kp.refl _ _, fun b hb => .inl hb⟩
/-- Its first number, and where it stands. -/
theorem WinA.head {x : Int} (h : (WinA E v (x :: l)).on w F) : ∃ b off cap, v = .slice (some ⟨b, off, none⟩) (l.length + 1) cap ∧ 1 ≤ cap ∧ cap ≤ 9223372036854775807 ∧ w.cell? ⟨b, off, none⟩ = some (.int .i64 x) ∧ F b := by
  rcases h with ⟨_, h, _⟩ | ⟨b, off, cap, cs, h1, h2, h3, h4, h5, h6, e⟩
  · cases h
  · simp only [List.length_cons] at h1 h2
    exact ⟨b, off, cap, h1, by omega, h3, cell_blk h5 (h6 0 x rfl), by rw [e]⟩
/-- v[1:]. -/
theorem WinA.tail {x : Int} {b off cap : Nat} (h : (WinA E (.slice (some ⟨b, off, none⟩) (l.length + 1) cap) (x :: l)).on w F) : (WinA E (.slice (some (if cap = 1 then ⟨b, off, none⟩ else ⟨b, off + 1, none⟩)) l.length (cap - 1)) l).on w F := by
  rcases h with ⟨_, h, _⟩ | ⟨b', off', cap', cs, h1, h2, h3, h4, h5, h6, e⟩
  · cases h
  · injection h1 with e1 e2 e3
    injection e1 with e1
    injection e1 with e4 e5
    subst e4; subst e5; subst e3
    simp only [List.length_cons] at h2
    by_cases hc : cap = 1
    · rw [if_pos hc]
      refine .inr ⟨b, off, cap - 1, cs, rfl, by omega, by omega, by omega, h5, fun j y hj => ?_, e⟩
      have := (List.getElem?_eq_some_iff.1 hj).1
      omega
    · rw [if_neg hc]
      refine .inr ⟨b, off + 1, cap - 1, cs, rfl, by omega, by omega, by omega, h5, fun j y hj => ?_, e⟩
      rw [show off + 1 + j = off + (j + 1) by omega]
      exact h6 (j + 1) y (by simpa using hj)
end
def insAt (l : List Int) (i : Nat) (x : Int) : List Int := l.take i ++ x :: l.drop i
theorem insAt_len (l : List Int) {i : Nat} (h : i ≤ l.length) (x : Int) : (insAt l i x).length = l.length + 1 := by
  unfold insAt
  rw [List.length_append, List.length_cons, List.length_take, List.length_drop]; omega
theorem insAt_at (l : List Int) {i : Nat} (h : i ≤ l.length) (x : Int) (j : Nat) : (insAt l i x)[j]? = if j < i then l[j]? else if j = i then some x else l[j - 1]? := by
  unfold insAt
  by_cases h1 : j < i
  · rw [if_pos h1, List.getElem?_append_left (by rw [List.length_take]; omega), List.getElem?_take, if_pos h1]
  · rw [if_neg h1, List.getElem?_append_right (by rw [List.length_take]; omega), List.length_take, Nat.min_eq_left h]
    by_cases h2 : j = i
    · rw [if_pos h2, h2, Nat.sub_self]; rfl
    · rw [if_neg h2]
      obtain ⟨m, hm⟩ : ∃ m, j - i = m + 1 := ⟨j - i - 1, by omega⟩
      rw [hm, List.getElem?_cons_succ, List.getElem?_drop, show i + m = j - 1 by omega]
/-- What Insert gives. -/
def GaveIns (E : TypeId) (l : List Int) (F : Nat → Prop) (w : World) (e : Ending) (w' : World) : Prop := ∃ v', e = .returned v' ∧ Post (WinA E v' l) F w w'
theorem kp_setB_drew {w : World} {b : Nat} (o : Obj) : Kp (· = b) w (setB w.drew b o) := ((Kp.refl (· = b) w).drew).setB (.inl rfl) o
theorem int_one (l : List Int) : ∀ u ∈ l.map (Value.int .i64), u.oneCell' = true := by
  intro u hu
  obtain ⟨x, _, rfl⟩ := List.mem_map.1 hu
  rfl
theorem map_at {l : List Int} {j : Nat} {v : Value} (h : (l.map (Value.int .i64))[j]? = some v) : ∃ x, l[j]? = some x ∧ v = .int .i64 x := by
  rw [List.getElem?_map] at h
  cases hx : l[j]? with
  | none => rw [hx] at h; cases h
  | some x => rw [hx] at h; exact ⟨x, rfl, by cases h; rfl⟩
theorem zc1 (n : Nat) : (Builtin.zeroCells (Value.int .i64 0).cells n).size = n := by rw [size_zeroCells, show (Value.int .i64 0).cells.size = 1 from rfl, Nat.mul_one]
theorem insert_w {v : Value} {l : List Int} {w : World} {F : Nat → Prop} {i vb vc : Nat} {x : Int} {T : TypeId} (h : (WinA 3 v l).on w F) (hi : i ≤ l.length) (hb : w.heap[vb]? = some (.cells #[.int .i64 x] T (0, 0))) (hF : ¬ F vb) (hbig : l.length ≤ 9000000) :
    Calls Try.prog 31 #[v, .int .i64 i, .slice (some ⟨vb, 0, none⟩) 1 vc] w (GaveIns 3 (insAt l i x) F w) := by
  have hvs : ∀ j u, [Value.int .i64 x][j]? = some u → w.cell? ⟨vb, 0 + j, none⟩ = some u := by
    intro j u hj
    match j, hj with
    | 0, hj => cases hj; exact cell_blk hb rfl
  have h1v : ∀ u ∈ [Value.int .i64 x], u.oneCell' = true := by intro u hu; simp at hu; subst hu; rfl
  have hlen := insAt_len l hi x
  rcases h with ⟨rfl, rfl, rfl⟩ | ⟨b, off, cap, cs, rfl, h2, h3, h4, h5, h6, rfl⟩
  · obtain rfl : i = 0 := by simpa using hi
    refine (Any2.slices_Insert_int_end_grow Try.laysNm221 none 0 0 vb 0 1 vc [] [.int .i64 x] w (by decide) (Nat.le_refl _) (by decide) (by decide) rfl rfl (fun _ => rfl) (fun a ha => by cases ha) hvs h1v).mono ?_
    rintro e w' ⟨rfl, rfl⟩
    have hge := grownCap_ge w (0 + 1) 0 3
    have hcm := grownCap_le_maxLen w (0 + 1) 0 3 (by decide)
    refine ⟨_, rfl, _, .inr ⟨w.heap.size, 0, _, _, rfl, ?_, ?_, ?_, heap_alloc_same w.drew _, fun j y hj => ?_, rfl⟩, ?_, fun b hb => .inr (by subst hb; exact Nat.le_refl _)⟩
    · exact hge
    · exact hcm
    · simp only [Array.size_append, zc1, List.size_toArray, List.length_append, List.length_nil, List.length_singleton]
      show 0 + grownCap w (0 + 1) 0 3 ≤ 0 + 1 + (grownCap w (0 + 1) 0 3 - (0 + 1))
      omega
    · have := (List.getElem?_eq_some_iff.1 hj).1
      simp only [insAt, List.take_nil, List.drop_nil, List.nil_append, List.length_singleton] at this hj
      obtain rfl : j = 0 := by omega
      cases hj
      rw [Array.getElem?_append_left (by simp)]
      rfl
    · exact ((Kp.refl _ w).drew).alloc _
  · have hvb : vb ≠ b := fun e => hF e
    have hcs : ∀ j u, (l.map (Value.int .i64))[j]? = some u → w.cell? ⟨b, off + j, none⟩ = some u := fun j u hj => by
      obtain ⟨y, hy, rfl⟩ := map_at hj
      exact cell_blk h5 (h6 j y hy)
    have hsome : ∀ k, k < cs.size → (w.cell? ⟨b, k, none⟩).isSome = true := fun k hk => by
      rw [cell_blk h5 (Array.getElem?_eq_getElem hk)]; rfl
    by_cases he : i = l.length
    · subst he
      by_cases hr : l.length + 1 ≤ cap
      · refine (Any2.slices_Insert_int_end_room Try.laysNm221 b off l.length cap vb 0 1 vc [.int .i64 x] w (by decide) hr h3 rfl (fun j hj => hsome _ (by omega)) (fun j hj => free_blk h5) hvs h1v).mono ?_
        rintro e w' ⟨rfl, rfl⟩
        rw [setCells_setB _ _ h5]
        refine ⟨_, rfl, _, .inr ⟨b, off, cap, _, by rw [hlen], by omega, h3, by rw [putAt_size]; exact h4, setB_same _ (lt_blk h5), fun j y hj => ?_, rfl⟩, (Kp.refl (fun x => x = b) w).setB (.inl rfl) _, fun b hb => .inl hb⟩
        have hjl := (List.getElem?_eq_some_iff.1 hj).1
        rw [insAt_at l hi] at hj
        rw [putAt_at _ _ _ _ (by simp; omega)]
        by_cases h7 : j < l.length
        · rw [if_pos h7] at hj
          rw [if_neg (by omega)]
          exact h6 j y hj
        · have : j = l.length := by omega
          subst this
          rw [if_neg h7, if_pos rfl] at hj
          cases hj
          rw [if_pos (by simp), Nat.sub_self]; rfl
      · refine (Any2.slices_Insert_int_end_grow Try.laysNm221 (some ⟨b, off, none⟩) l.length cap vb 0 1 vc (l.map (Value.int .i64)) [.int .i64 x] w (by decide) h2 (by omega) (by omega) (by simp) rfl (fun h => by cases h) (fun a ha j u hj => by
          cases ha
          have := hcs j u hj
          by_cases h0 : j = 0
          · subst h0; simpa [Addr.add] using this
          · simpa [Addr.add, h0] using this) hvs h1v).mono ?_
        rintro e w' ⟨rfl, rfl⟩
        have hge := grownCap_ge w (l.length + 1) cap 3
        have hcm := grownCap_le_maxLen w (l.length + 1) cap 3 (by unfold maxLen; omega)
        refine ⟨_, rfl, _, .inr ⟨w.heap.size, 0, _, _, by rw [hlen]; rfl, by rw [hlen]; exact hge, hcm, ?_, heap_alloc_same w.drew _, fun j y hj => ?_, rfl⟩, ((Kp.refl _ w).drew).alloc _, fun b hb => .inr (by subst hb; exact Nat.le_refl _)⟩
        · simp only [Array.size_append, zc1, List.size_toArray, List.length_append, List.length_map, List.length_singleton]
          show 0 + grownCap w (l.length + 1) cap 3 ≤ l.length + 1 + (grownCap w (l.length + 1) cap 3 - (l.length + 1))
          omega
        · have hjl := (List.getElem?_eq_some_iff.1 hj).1
          rw [insAt_at l hi] at hj
          rw [Nat.zero_add, Array.getElem?_append_left (by simp; omega), List.getElem?_toArray]
          by_cases h7 : j < l.length
          · rw [if_pos h7] at hj
            rw [List.getElem?_append_left (by simpa using h7), List.getElem?_map, hj]; rfl
          · have : j = l.length := by omega
            subst this
            rw [if_neg h7, if_pos rfl] at hj
            cases hj
            rw [List.getElem?_append_right (by simp)]; simp
    · have hlt : i < l.length := by omega
      by_cases hr : l.length + 1 ≤ cap
      · refine (Any2.slices_Insert_int_shift Try.laysNm221 b off l.length cap i vb 0 1 vc (l.map (Value.int .i64)) [.int .i64 x] w hlt (by decide) hr h3 hvb (by simp) rfl hcs (fun j hj => hsome _ (by omega)) (fun j hj => free_blk h5) hvs (int_one l) h1v T 3 1 cs.size (by simp [World.shape?, hb]) (by simp [World.shape?, h5]) (by omega) (free_blk hb) (free_blk hb)).mono ?_
        rintro e w' ⟨rfl, rfl⟩
        rw [setCells_setB (w := w.drew) _ _ h5, setCells_setB (w := setB w.drew b _) _ _ (setB_same (w := w.drew) _ (lt_blk h5)), setB_setB]
        refine ⟨_, rfl, _, .inr ⟨b, off, cap, _, by rw [hlen], by omega, h3, by rw [putAt_size, putAt_size]; exact h4, setB_same _ (lt_blk h5), fun j y hj => ?_, rfl⟩, kp_setB_drew _, fun b hb => .inl hb⟩
        have hjl := (List.getElem?_eq_some_iff.1 hj).1
        rw [insAt_at l hi] at hj
        have hdl : ((l.map (Value.int .i64)).drop i).length = l.length - i := by simp
        rw [putAt_at _ _ _ _ (by rw [putAt_size]; simp; omega), putAt_at _ _ _ _ (by rw [hdl]; omega)]
        simp only [List.length_singleton, hdl]
        by_cases h7 : j < i
        · rw [if_pos h7] at hj
          rw [if_neg (by omega), if_neg (by omega)]
          exact h6 j y hj
        · rw [if_neg h7] at hj
          by_cases h8 : j = i
          · subst h8
            rw [if_pos rfl] at hj
            cases hj
            rw [if_pos (by omega), Nat.sub_self]; rfl
          · rw [if_neg h8] at hj
            rw [if_neg (by omega), if_pos (by omega), List.getElem?_drop, List.getElem?_map, show i + (off + j - (off + (i + 1))) = j - 1 by omega, hj]; rfl
      · refine (Any2.slices_Insert_int_grow Try.laysNm221 b off l.length cap i vb 0 1 vc (l.map (Value.int .i64)) [.int .i64 x] w hlt (by decide) h2 (by omega) (by omega) (by simp) rfl hcs hvs (int_one l) h1v).mono ?_
        rintro e w' ⟨rfl, rfl⟩
        have hge := grownCap_ge w (l.length + 1) cap 3
        have hcm := grownCap_le_maxLen w (l.length + 1) cap 3 (by unfold maxLen; omega)
        have hti : Try.laysNm221_ren.t 3 = 3 := rfl
        rw [hti]
        generalize hcell : ((l.map (Value.int .i64)).take i).toArray ++ Builtin.zeroCells (Value.int .i64 0).cells (l.length + 1 - i) ++ Builtin.zeroCells (Value.int .i64 0).cells (grownCap w (l.length + 1) cap 3 - (l.length + 1)) = c0
        have hsz : c0.size = grownCap w (l.length + 1) cap 3 := by
          rw [← hcell]
          simp only [Array.size_append, zc1, List.size_toArray, List.length_take, List.length_map]
          omega
        rw [setCells_setB (w := (w.alloc (.cells c0 3)).drew) _ _ (heap_alloc_same w _), setCells_setB (w := (setB (w.alloc (.cells c0 3)).drew w.heap.size _).drew) _ _ (setB_same (w := (w.alloc (.cells c0 3)).drew) _ (show w.heap.size < (w.alloc (.cells c0 3)).heap.size by simp))]
        have hk : KN w (setB (setB (w.alloc (.cells c0 3)).drew w.heap.size (.cells (putAt c0 i [.int .i64 x]) 3)).drew w.heap.size (.cells (putAt (putAt c0 i [.int .i64 x]) (i + 1) ((l.map (Value.int .i64)).drop i)) 3)) :=
          (((((Kp.refl _ w).alloc _).drew).setB (.inr (Nat.le_refl _)) _).drew).setB (.inr (Nat.le_refl _)) _
        refine ⟨_, rfl, _, .inr ⟨w.heap.size, 0, _, _, by rw [hlen], by rw [hlen]; exact hge, hcm, by rw [putAt_size, putAt_size, hsz]; omega, setB_same _ (show w.heap.size < (setB (w.alloc (.cells c0 3)).drew w.heap.size (.cells (putAt c0 i [.int .i64 x]) 3)).heap.size by rw [size_setB]; show w.heap.size < (w.alloc (.cells c0 3)).heap.size; simp), fun j y hj => ?_, rfl⟩, hk.mono (fun _ h => h.elim), fun b hb => .inr (by subst hb; exact Nat.le_refl _)⟩
        have hjl := (List.getElem?_eq_some_iff.1 hj).1
        rw [insAt_at l hi] at hj
        have hdl : ((l.map (Value.int .i64)).drop i).length = l.length - i := by simp
        rw [Nat.zero_add, putAt_at _ _ _ _ (by rw [putAt_size, hdl, hsz]; omega), putAt_at _ _ _ _ (by rw [hsz]; simp; omega)]
        simp only [List.length_singleton, hdl]
        by_cases h7 : j < i
        · rw [if_pos h7] at hj
          rw [if_neg (by omega), if_neg (by omega), ← hcell, Array.append_assoc, Array.getElem?_append_left (by simp; omega), List.getElem?_toArray, List.getElem?_take, if_pos h7, List.getElem?_map, hj]; rfl
        · rw [if_neg h7] at hj
          by_cases h8 : j = i
          · subst h8
            rw [if_pos rfl] at hj
            cases hj
            rw [if_neg (by omega), if_pos (by omega), Nat.sub_self]; rfl
          · rw [if_neg h8] at hj
            rw [if_pos (by omega), List.getElem?_drop, List.getElem?_map, show i + (j - (i + 1)) = j - 1 by omega, hj]; rfl
/-- BinarySearch. -/
theorem search_w {v : Value} {l : List Int} {w : World} {F : Nat → Prop} (h : (WinA 3 v l).on w F) (x : Int) (hs : l.Pairwise (· ≤ ·)) (hbig : l.length ≤ 9000000) :
    Calls Try.prog 30 #[v, .int .i64 x] w fun e w' => e = .returned (.tuple #[.int .i64 (l.countP (· < x) : Nat), .bool (l.contains x)]) ∧ ∃ q, w' = w.drewN q := by
  rcases h with ⟨rfl, rfl, rfl⟩ | ⟨b, off, cap, cs, rfl, h2, h3, h4, h5, h6, rfl⟩
  · exact (Any.slices_BinarySearch_int_empty Try.laysNm225 none 0 x w).mono fun e w' ⟨he, hw⟩ => ⟨he, 0, hw⟩
  · have := Any.slices_BinarySearch_int Try.laysNm225 b off l.length cap l x w (Nat.le_refl _) (by omega) (fun j hj => cell_blk h5 (h6 j _ (by rw [List.getD_eq_getElem?_getD, List.getElem?_eq_getElem hj]; rfl))) (by rw [List.take_length]; exact hs)
    rw [List.take_length] at this
    exact this
end Go.Proofs.Ythbiohfnnjbbgaa
