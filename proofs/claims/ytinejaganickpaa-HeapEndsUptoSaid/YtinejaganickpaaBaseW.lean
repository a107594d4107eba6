/- The bodies of slices.Insert and slices.BinarySearch of ints are those that the contracts of the library were proved of. -/
import Derived.Ground.Names2Prog
import Derived.Shelf.Slices.SearchI
import Derived.Shelf.Slices.Empties
import Derived.Shelf.Spec.SlicesInsert
import Derived.Shelf.Spec.SlicesInsertGrow
import Derived.Test.YtinejaganickpaaProg
import Derived.Test.YtinejaganickpaaBaseA
import Derived.Laws.AppendOwn
namespace Go.Proofs
open Go.Shelf
def Try.laysNm225_ren : Go.Shelf.Ren := ⟨fun | 25 => 73 | 31 => 81 | 32 => 82 | 37 => 87 | n => n, fun | 22 => 126 | 3 => 3 | 4 => 4 | 40 => 160 | 0 => 0 | n => n, fun | n => n⟩
theorem Try.laysNm225 : Go.Proofs.Lays2.n25 Try.prog Try.laysNm225_ren := {
  mixed := by kernel_rfl
  f25 := Try.func73.trans (congrArg some (by kernel_rfl))
  f31 := Try.func81.trans (congrArg some (by kernel_rfl))
  f32 := Try.func82.trans (congrArg some (by kernel_rfl))
  f37 := Try.func87.trans (congrArg some (by kernel_rfl))
  t0 := Try.underlying0
  a0 := Try.isAgg0
  z0 := Try.sizeOf0
  v0 := Try.zeroValue0
  t3 := Try.underlying3
  a3 := Try.isAgg3
  z3 := Try.sizeOf3
  v3 := Try.zeroValue3
  t4 := Try.underlying4
  a4 := Try.isAgg4
  z4 := Try.sizeOf4
  v4 := Try.zeroValue4
  t22 := Try.underlying126
  a22 := Try.isAgg126
  z22 := Try.sizeOf126
  v22 := Try.zeroValue126
  t40 := Try.underlying160
  a40 := Try.isAgg160
  z40 := Try.sizeOf160
  v40 := Try.zeroValue160 }
def Try.laysNm221_ren : Go.Shelf.Ren := ⟨fun | 21 => 74 | 27 => 83 | 28 => 84 | 35 => 88 | 39 => 89 | n => n, fun | 22 => 126 | 3 => 3 | 4 => 4 | 0 => 0 | n => n, fun | n => n⟩
theorem Try.laysNm221 : Go.Proofs.Lays2.n21 Try.prog Try.laysNm221_ren := {
  mixed := by kernel_rfl
  f21 := Try.func74.trans (congrArg some (by kernel_rfl))
  f27 := Try.func83.trans (congrArg some (by kernel_rfl))
  f28 := Try.func84.trans (congrArg some (by kernel_rfl))
  f35 := Try.func88.trans (congrArg some (by kernel_rfl))
  f39 := Try.func89.trans (congrArg some (by kernel_rfl))
  t0 := Try.underlying0
  a0 := Try.isAgg0
  z0 := Try.sizeOf0
  v0 := Try.zeroValue0
  t3 := Try.underlying3
  a3 := Try.isAgg3
  z3 := Try.sizeOf3
  v3 := Try.zeroValue3
  t4 := Try.underlying4
  a4 := Try.isAgg4
  z4 := Try.sizeOf4
  v4 := Try.zeroValue4
  t22 := Try.underlying126
  a22 := Try.isAgg126
  z22 := Try.sizeOf126
  v22 := Try.zeroValue126
  i3 := by kernel_rfl }
end Go.Proofs

namespace Go.Proofs.Ytinejaganickpaa
set_option linter.unusedVariables false
set_option linter.unusedSimpArgs false
open Go Go.RowKit

/-- A row of values is written into cells. -/
def putAt (cs : Array Value) (o : Nat) : List Value → Array Value
  | [] => cs
  | v :: r => putAt (cs.setIfInBounds o v) (o + 1) r
theorem putAt_size : ∀ (vs : List Value) (cs : Array Value) (o : Nat), (putAt cs o vs).size = cs.size
  | [], _, _ => rfl
  | v :: r, cs, o => by show (putAt (cs.setIfInBounds o v) (o + 1) r).size = _; rw [putAt_size r]; simp
theorem putAt_at : ∀ (vs : List Value) (cs : Array Value) (o k : Nat), o + vs.length ≤ cs.size → (putAt cs o vs)[k]? = if o ≤ k ∧ k < o + vs.length then vs[k - o]? else cs[k]?
  | [], cs, o, k, h => by
    rw [if_neg (by simp only [List.length_nil]; omega)]
    rfl
  | v :: r, cs, o, k, h => by
    simp only [List.length_cons] at h
    show (putAt (cs.setIfInBounds o v) (o + 1) r)[k]? = _
    rw [putAt_at r _ _ _ (by simp; omega)]
    by_cases h1 : o + 1 ≤ k ∧ k < o + 1 + r.length
    · rw [if_pos h1, if_pos (by simp; omega), show k - o = (k - (o + 1)) + 1 by omega]; simp
    · rw [if_neg h1]
      by_cases h2 : k = o
      · subst h2
        rw [if_pos (by simp), Nat.sub_self, Array.getElem?_setIfInBounds_self_of_lt (by omega)]
        rfl
      · rw [if_neg (by simp; omega)]
        rw [Array.getElem?_setIfInBounds_ne (Ne.symm h2)]
theorem setCells_setB {b : Nat} {T : TypeId} {fr : Nat × Nat} : ∀ (vs : List Value) {w : World} {cs : Array Value} (o : Nat), w.heap[b]? = some (.cells cs T fr) → w.setCells b o vs = setB w b (.cells (putAt cs o vs) T fr)
  | [], w, cs, o, h => (setB_self h).symm
  | v :: r, w, cs, o, h => by
    show (w.setCell ⟨b, o, none⟩ v).setCells b (o + 1) r = _
    rw [setCell_setB v h, setCells_setB r (o + 1) (setB_same _ (lt_blk h)), setB_setB]
    rfl
/-- A slice of numbers in a block that is owned. -/
def WinA (E : TypeId) (v : Value) (l : List Int) : Asr where
  on := fun w F => (v = .slice none 0 0 ∧ l = [] ∧ F = fun _ => False) ∨ ∃ (b off cap : Nat) (cs : Array Value), v = .slice (some ⟨b, off, none⟩) l.length cap ∧ l.length ≤ cap ∧ cap ≤ 9223372036854775807 ∧ off + cap ≤ cs.size ∧ w.heap[b]? = some (.cells cs E (0, 0)) ∧ (∀ j x, l[j]? = some x → cs[off + j]? = some (.int .i64 x)) ∧ F = (· = b)
  keep := fun h k hS => by
    rcases h with h | ⟨b, off, cap, cs, h1, h2, h3, h4, h5, h6, e⟩
    · exact .inl h
    · exact .inr ⟨b, off, cap, cs, h1, h2, h3, h4, k.blk h5 (hS b (by rw [e])), h6, e⟩
  lt := fun h b hb => by
    rcases h with ⟨_, _, e⟩ | ⟨b', off, cap, cs, h1, h2, h3, h4, h5, h6, e⟩
    · rw [e] at hb; exact hb.elim
    · rw [e] at hb; subst hb; exact lt_blk h5
section
variable {E : TypeId} {v : Value} {l : List Int} {w w' : World} {F : Nat → Prop}
theorem WinA.form (h : (WinA E v l).on w F) : ∃ a cap, v = .slice a l.length cap ∧ l.length ≤ cap := by
  rcases h with ⟨h, h0, _⟩ | ⟨b, off, cap, cs, h1, h2, _⟩
  · exact ⟨none, 0, by rw [h, h0]; rfl, by rw [h0]; exact Nat.le_refl _⟩
  · exact ⟨_, cap, h1, h2⟩
theorem WinA.nil (E : TypeId) (w : World) : Post (WinA E (.slice none 0 0) []) (fun _ => False) w w := ⟨_, .inl ⟨rfl, rfl, rfl⟩, Kp.refl _ _, fun b hb => .inl hb⟩
/-- Its first number, and where it stands. -/
theorem WinA.head {x : Int} (h : (WinA E v (x :: l)).on w F) : ∃ b off cap, v = .slice (some ⟨b, off, none⟩) (l.length + 1) cap ∧ 1 ≤ cap ∧ cap ≤ 9223372036854775807 ∧ w.cell? ⟨b, off, none⟩ = some (.int .i64 x) ∧ F b := by
  rcases h with ⟨_, h, _⟩ | ⟨b, off, cap, cs, h1, h2, h3, h4, h5, h6, e⟩
  · cases h
  · simp only [List.length_cons] at h1 h2
    exact ⟨b, off, cap, h1, by omega, h3, cell_blk h5 (h6 0 x rfl), by rw [e]⟩
/-- v[1:]. -/
theorem WinA.tail {x : Int} {b off cap : Nat} (h : (WinA E (.slice (some ⟨b, off, none⟩) (l.length + 1) cap) (x :: l)).on w F) : (WinA E (.slice (some (if cap = 1 then ⟨b, off, none⟩ else ⟨b, off + 1, none⟩)) l.length (cap - 1)) l).on w F := by
  rcases h with ⟨_, h, _⟩ | ⟨b', off', cap', cs, h1, h2, h3, h4, h5, h6, e⟩
  · cases h
  · injection h1 with e1 e2 e3
    injection e1 with e1
    injection e1 with e4 e5
    subst e4; subst e5; subst e3
    simp only [List.length_cons] at h2
    by_cases hc : cap = 1
    · rw [if_pos hc]
      refine .inr ⟨b, off, cap - 1, cs, rfl, by omega, by omega, by omega, h5, fun j y hj => ?_, e⟩
      have := (List.getElem?_eq_some_iff.1 hj).1
      omega
    · rw [if_neg hc]
      refine .inr ⟨b, off + 1, cap - 1, cs, rfl, by omega, by omega, by omega, h5, fun j y hj => ?_, e⟩
      rw [show off + 1 + j = off + (j + 1) by omega]
      exact h6 (j + 1) y (by simpa using hj)
end
def insAt (l : List Int) (i : Nat) (x : Int) : List Int := l.take i ++ x :: l.drop i
theorem insAt_len (l : List Int) {i : Nat} (h : i ≤ l.length) (x : Int) : (insAt l i x).length = l.length + 1 := by
  unfold insAt
  rw [List.length_append, List.length_cons, List.length_take, List.length_drop]; omega
theorem insAt_at (l : List Int) {i : Nat} (h : i ≤ l.length) (x : Int) (j : Nat) : (insAt l i x)[j]? = if j < i then l[j]? else if j = i then some x else l[j - 1]? := by
  unfold insAt
  by_cases h1 : j < i
  · rw [if_pos h1, List.getElem?_append_left (by rw [List.length_take]; omega), List.getElem?_take, if_pos h1]
  · rw [if_neg h1, List.getElem?_append_right (by rw [List.length_take]; omega), List.length_take, Nat.min_eq_left h]
    by_cases h2 : j = i
    · rw [if_pos h2, h2, Nat.sub_self]; rfl
    · rw [if_neg h2]
      obtain ⟨m, hm⟩ : ∃ m, j - i = m + 1 := ⟨j - i - 1, by omega⟩
      rw [hm, List.getElem?_cons_succ, List.getElem?_drop, show i + m = j - 1 by omega]
/-- What Insert gives. -/
def GaveIns (E : TypeId) (l : List Int) (F : Nat → Prop) (w : World) (e : Ending) (w' : World) : Prop := ∃ v', e = .returned v' ∧ Post (WinA E v' l) F w w'
theorem kp_setB_drew {w : World} {b : Nat} (o : Obj) : Kp (· = b) w (setB w.drew b o) := ((Kp.refl (· = b) w).drew).setB (.inl rfl) o
theorem int_one (l : List Int) : ∀ u ∈ l.map (Value.int .i64), u.oneCell' = true := by
  intro u hu
  obtain ⟨x, _, rfl⟩ := List.mem_map.1 hu
  rfl
theorem map_at {l : List Int} {j : Nat} {v : Value} (h : (l.map (Value.int .i64))[j]? = some v) : ∃ x, l[j]? = some x ∧ v = .int .i64 x := by
  rw [List.getElem?_map] at h
  cases hx : l[j]? with
  | none => rw [hx] at h; cases h
  | some x => rw [hx] at h; exact ⟨x, rfl, by cases h; rfl⟩
theorem zc1 (n : Nat) : (Builtin.zeroCells (Value.int .i64 0).cells n).size = n := by rw [size_zeroCells, show (Value.int .i64 0).cells.size = 1 from rfl, Nat.mul_one]
theorem insert_w {v : Value} {l : List Int} {w : World} {F : Nat → Prop} {i vb vc : Nat} {x : Int} {T : TypeId} (h : (WinA 3 v l).on w F) (hi : i ≤ l.length) (hb : w.heap[vb]? = some (.cells #[.int .i64 x] T (0, 0))) (hF : ¬ F vb) (hbig : l.length ≤ 9000000) :
    Calls Try.prog 74 #[v, .int .i64 i, .slice (some ⟨vb, 0, none⟩) 1 vc] w (GaveIns 3 (insAt l i x) F w) := by
  have hvs : ∀ j u, [Value.int .i64 x][j]? = some u → w.cell? ⟨vb, 0 + j, none⟩ = some u := by
    intro j u hj
    match j, hj with
    | 0, hj => cases hj; exact cell_blk hb rfl
  have h1v : ∀ u ∈ [Value.int .i64 x], u.oneCell' = true := by intro u hu; simp at hu; subst hu; rfl
  have hlen := insAt_len l hi x
  rcases h with ⟨rfl, rfl, rfl⟩ | ⟨b, off, cap, cs, rfl, h2, h3, h4, h5, h6, rfl⟩
  · obtain rfl : i = 0 := by simpa using hi
    refine (Any2.slices_Insert_int_end_grow Try.laysNm221 none 0 0 vb 0 1 vc [] [.int .i64 x] w (by decide) (Nat.le_refl _) (by decide) (by decide) rfl rfl (fun _ => rfl) (fun a ha => by cases ha) hvs h1v).mono ?_
    rintro e w' ⟨rfl, rfl⟩
    have hge := grownCap_ge w (0 + 1) 0 3
    have hcm := grownCap_le_maxLen w (0 + 1) 0 3 (by decide)
    refine ⟨_, rfl, _, .inr ⟨w.heap.size, 0, _, _, rfl, ?_, ?_, ?_, heap_alloc_same w.drew _, fun j y hj => ?_, rfl⟩, ?_, fun b hb => .inr (by subst hb; exact Nat.le_refl _)⟩
    · exact hge
    · exact hcm
    · simp only [Array.size_append, zc1, List.size_toArray, List.length_append, List.length_nil, List.length_singleton]
      show 0 + grownCap w (0 + 1) 0 3 ≤ 0 + 1 + (grownCap w (0 + 1) 0 3 - (0 + 1))
      omega
    · have := (List.getElem?_eq_some_iff.1 hj).1
      simp only [insAt, List.take_nil, List.drop_nil, List.nil_append, List.length_singleton] at this hj
      obtain rfl : j = 0 := by omega
      cases hj
      rw [Array.getElem?_append_left (by simp)]
      rfl
    · exact ((Kp.refl _ w).drew).alloc _
  · have hvb : vb ≠ b := fun e => hF e
    have hcs : ∀ j u, (l.map (Value.int .i64))[j]? = some u → w.cell? ⟨b, off + j, none⟩ = some u := fun j u hj => by
      obtain ⟨y, hy, rfl⟩ := map_at hj
      exact cell_blk h5 (h6 j y hy)
    have hsome : ∀ k, k < cs.size → (w.cell? ⟨b, k, none⟩).isSome = true := fun k hk => by
      rw [cell_blk h5 (Array.getElem?_eq_getElem hk)]; rfl
    by_cases he : i = l.length
    · subst he
      by_cases hr : l.length + 1 ≤ cap
      · refine (Any2.slices_Insert_int_end_room Try.laysNm221 b off l.length cap vb 0 1 vc [.int .i64 x] w (by decide) hr h3 rfl (fun j hj => hsome _ (by omega)) (fun j hj => free_blk h5) hvs h1v).mono ?_
        rintro e w' ⟨rfl, rfl⟩
        rw [setCells_setB _ _ h5]
        refine ⟨_, rfl, _, .inr ⟨b, off, cap, _, by rw [hlen], by omega, h3, by rw [putAt_size]; exact h4, setB_same _ (lt_blk h5), fun j y hj => ?_, rfl⟩, (Kp.refl (fun x => x = b) w).setB (.inl rfl) _, fun b hb => .inl hb⟩
        have hjl := (List.getElem?_eq_some_iff.1 hj).1
        rw [insAt_at l hi] at hj
        rw [putAt_at _ _ _ _ (by simp; omega)]
        by_cases h7 : j < l.length
        · rw [if_pos h7] at hj
          rw [if_neg (by omega)]
          exact h6 j y hj
        · have : j = l.length := by omega
          subst this
          rw [if_neg h7, if_pos rfl] at hj
          cases hj
          rw [if_pos (by simp), Nat.sub_self]; rfl
      · refine (Any2.slices_Insert_int_end_grow Try.laysNm221 (some ⟨b, off, none⟩) l.length cap vb 0 1 vc (l.map (Value.int .i64)) [.int .i64 x] w (by decide) h2 (by omega) (by omega) (by simp) rfl (fun h => by cases h) (fun a ha j u hj => by
          cases ha
          have := hcs j u hj
          by_cases h0 : j = 0
          · subst h0; simpa [Addr.add] using this
          · simpa [Addr.add, h0] using this) hvs h1v).mono ?_
        rintro e w' ⟨rfl, rfl⟩
        have hge := grownCap_ge w (l.length + 1) cap 3
        have hcm := grownCap_le_maxLen w (l.length + 1) cap 3 (by unfold maxLen; omega)
        refine ⟨_, rfl, _, .inr ⟨w.heap.size, 0, _, _, by rw [hlen]; rfl, by rw [hlen]; exact hge, hcm, ?_, heap_alloc_same w.drew _, fun j y hj => ?_, rfl⟩, ((Kp.refl _ w).drew).alloc _, fun b hb => .inr (by subst hb; exact Nat.le_refl _)⟩
        · simp only [Array.size_append, zc1, List.size_toArray, List.length_append, List.length_map, List.length_singleton]
          show 0 + grownCap w (l.length + 1) cap 3 ≤ l.length + 1 + (grownCap w (l.length + 1) cap 3 - (l.length + 1))
          omega
        · have hjl := (List.getElem?_eq_some_iff.1 hj).1
          rw [insAt_at l hi] at hj
          rw [Nat.zero_add, Array.getElem?_append_left (by simp; omega), List.getElem?_toArray]
          by_cases h7 : j < l.length
          · rw [if_pos h7] at hj
            rw [List.getElem?_append_left (by simpa using h7), List.getElem?_map, hj]; rfl
          · have : j = l.length := by omega
            subst this
            rw [if_neg h7, if_pos rfl] at hj
            cases hj
            rw [List.getElem?_append_right (by simp)]; simp
    · have hlt : i < l.length := by omega
      by_cases hr : l.length + 1 ≤ cap
      · refine (Any2.slices_Insert_int_shift Try.laysNm221 b off l.length cap i vb 0 1 vc (l.map (Value.int .i64)) [.int .i64 x] w hlt (by decide) hr h3 hvb (by simp) rfl hcs (fun j hj => hsome _ (by omega)) (fun j hj => free_blk h5) hvs (int_one l) h1v T 3 1 cs.size (by simp [World.shape?, hb]) (by simp [World.shape?, h5]) (by omega) (free_blk hb) (free_blk hb)).mono ?_
        rintro e w' ⟨rfl, rfl⟩
        rw [setCells_setB (w := w.drew) _ _ h5, setCells_setB (w := setB w.drew b _) _ _ (setB_same (w := w.drew) _ (lt_blk h5)), setB_setB]
        refine ⟨_, rfl, _, .inr ⟨b, off, cap, _, by rw [hlen], by omega, h3, by rw [putAt_size, putAt_size]; exact h4, setB_same _ (lt_blk h5), fun j y hj => ?_, rfl⟩, kp_setB_drew _, fun b hb => .inl hb⟩
        have hjl := (List.getElem?_eq_some_iff.1 hj).1
        rw [insAt_at l hi] at hj
        have hdl : ((l.map (Value.int .i64)).drop i).length = l.length - i := by simp
        rw [putAt_at _ _ _ _ (by rw [putAt_size]; simp; omega), putAt_at _ _ _ _ (by rw [hdl]; omega)]
        simp only [List.length_singleton, hdl]
        by_cases h7 : j < i
        · rw [if_pos h7] at hj
          rw [if_neg (by omega), if_neg (by omega)]
          exact h6 j y hj
        · rw [if_neg h7] at hj
          by_cases h8 : j = i
          · subst h8
            rw [if_pos rfl] at hj
            cases hj
            rw [if_pos (by omega), Nat.sub_self]; rfl
          · rw [if_neg h8] at hj
            rw [if_neg (by omega), if_pos (by omega), List.getElem?_drop, List.getElem?_map, show i + (off + j - (off + (i + 1))) = j - 1 by omega, hj]; rfl
      · refine (Any2.slices_Insert_int_grow Try.laysNm221 b off l.length cap i vb 0 1 vc (l.map (Value.int .i64)) [.int .i64 x] w hlt (by decide) h2 (by omega) (by omega) (by simp) rfl hcs hvs (int_one l) h1v).mono ?_
        rintro e w' ⟨rfl, rfl⟩
        have hge := grownCap_ge w (l.length + 1) cap 3
        have hcm := grownCap_le_maxLen w (l.length + 1) cap 3 (by unfold maxLen; omega)
        have hti : Try.laysNm221_ren.t 3 = 3 := rfl
        rw [hti]
        generalize hcell : ((l.map (Value.int .i64)).take i).toArray ++ Builtin.zeroCells (Value.int .i64 0).cells (l.length + 1 - i) ++ Builtin.zeroCells (Value.int .i64 0).cells (grownCap w (l.length + 1) cap 3 - (l.length + 1)) = c0
        have hsz : c0.size = grownCap w (l.length + 1) cap 3 := by
          rw [← hcell]
          simp only [Array.size_append, zc1, List.size_toArray, List.length_take, List.length_map]
          omega
        rw [setCells_setB (w := (w.alloc (.cells c0 3)).drew) _ _ (heap_alloc_same w _), setCells_setB (w := (setB (w.alloc (.cells c0 3)).drew w.heap.size _).drew) _ _ (setB_same (w := (w.alloc (.cells c0 3)).drew) _ (show w.heap.size < (w.alloc (.cells c0 3)).heap.size by simp))]
        have hk : KN w (setB (setB (w.alloc (.cells c0 3)).drew w.heap.size (.cells (putAt c0 i [.int .i64 x]) 3)).drew w.heap.size (.cells (putAt (putAt c0 i [.int .i64 x]) (i + 1) ((l.map (Value.int .i64)).drop i)) 3)) :=
          (((((Kp.refl _ w).alloc _).drew).setB (.inr (Nat.le_refl _)) _).drew).setB (.inr (Nat.le_refl _)) _
        refine ⟨_, rfl, _, .inr ⟨w.heap.size, 0, _, _, by rw [hlen], by rw [hlen]; exact hge, hcm, by rw [putAt_size, putAt_size, hsz]; omega, setB_same _ (show w.heap.size < (setB (w.alloc (.cells c0 3)).drew w.heap.size (.cells (putAt c0 i [.int .i64 x]) 3)).heap.size by rw [size_setB]; show w.heap.size < (w.alloc (.cells c0 3)).heap.size; simp), fun j y hj => ?_, rfl⟩, hk.mono (fun _ h => h.elim), fun b hb => .inr (by subst hb; exact Nat.le_refl _)⟩
        have hjl := (List.getElem?_eq_some_iff.1 hj).1
        rw [insAt_at l hi] at hj
        have hdl : ((l.map (Value.int .i64)).drop i).length = l.length - i := by simp
        rw [Nat.zero_add, putAt_at _ _ _ _ (by rw [putAt_size, hdl, hsz]; omega), putAt_at _ _ _ _ (by rw [hsz]; simp; omega)]
        simp only [List.length_singleton, hdl]
        by_cases h7 : j < i
        · rw [if_pos h7] at hj
          rw [if_neg (by omega), if_neg (by omega), ← hcell, Array.append_assoc, Array.getElem?_append_left (by simp; omega), List.getElem?_toArray, List.getElem?_take, if_pos h7, List.getElem?_map, hj]; rfl
        · rw [if_neg h7] at hj
          by_cases h8 : j = i
          · subst h8
            rw [if_pos rfl] at hj
            cases hj
            rw [if_neg (by omega), if_pos (by omega), Nat.sub_self]; rfl
          · rw [if_neg h8] at hj
            rw [if_pos (by omega), List.getElem?_drop, List.getElem?_map, show i + (j - (i + 1)) = j - 1 by omega, hj]; rfl
/-- BinarySearch. -/
theorem search_w {v : Value} {l : List Int} {w : World} {F : Nat → Prop} (h : (WinA 3 v l).on w F) (x : Int) (hs : l.Pairwise (· ≤ ·)) (hbig : l.length ≤ 9000000) :
    Calls Try.prog 73 #[v, .int .i64 x] w fun e w' => e = .returned (.tuple #[.int .i64 (l.countP (· < x) : Nat), .bool (l.contains x)]) ∧ ∃ q, w' = w.drewN q := by
  rcases h with ⟨rfl, rfl, rfl⟩ | ⟨b, off, cap, cs, rfl, h2, h3, h4, h5, h6, rfl⟩
  · exact (Any.slices_BinarySearch_int_empty Try.laysNm225 none 0 x w).mono fun e w' ⟨he, hw⟩ => ⟨he, 0, hw⟩
  · have := Any.slices_BinarySearch_int Try.laysNm225 b off l.length cap l x w (Nat.le_refl _) (by omega) (fun j hj => cell_blk h5 (h6 j _ (by rw [List.getD_eq_getElem?_getD, List.getElem?_eq_getElem hj]; rfl))) (by rw [List.take_length]; exact hs)
    rw [List.take_length] at this
    exact this
end Go.Proofs.Ytinejaganickpaa

namespace Go.Proofs.Ytinejaganickpaa
set_option linter.unusedVariables false
set_option linter.unusedSimpArgs false
open Go Go.RowKit

structure Slot (α : Type) where
  has : α
  gen : Int
  given : Bool
section
variable {α : Type}
def givenAt (l : List (Slot α)) (i : Nat) : Bool := ((l[i]?).map (·.given)).getD true
def freeN (l : List (Slot α)) : List Nat := (List.range l.length).filter fun i => !givenAt l i
/-- The free slots, rising. -/
def freeOf (l : List (Slot α)) : List Int := (freeN l).map fun i : Nat => (i : Int)
theorem mem_freeN {l : List (Slot α)} {i : Nat} : i ∈ freeN l ↔ i < l.length ∧ givenAt l i = false := by
  unfold freeN
  rw [List.mem_filter, List.mem_range]
  simp
theorem freeN_lt (l : List (Slot α)) : (freeN l).Pairwise (· < ·) := List.Pairwise.sublist List.filter_sublist List.pairwise_lt_range
theorem free_sorted (l : List (Slot α)) : (freeOf l).Pairwise (· ≤ ·) := by
  unfold freeOf
  rw [List.pairwise_map]
  exact (freeN_lt l).imp fun h => by omega
theorem freeN_len (l : List (Slot α)) : (freeN l).length ≤ l.length := by
  unfold freeN
  exact Nat.le_trans (List.length_filter_le _ _) (by simp)
theorem free_len (l : List (Slot α)) : (freeOf l).length ≤ l.length := by
  unfold freeOf
  rw [List.length_map]; exact freeN_len l
theorem given_set {l : List (Slot α)} {i : Nat} {s : Slot α} (hi : i < l.length) (j : Nat) : givenAt (l.set i s) j = if i = j then s.given else givenAt l j := by
  unfold givenAt
  rw [List.getElem?_set]
  by_cases e : i = j
  · subst e; rw [if_pos rfl, if_pos hi, if_pos rfl]; rfl
  · rw [if_neg e, if_neg e]
theorem given_of {l : List (Slot α)} {i : Nat} {s : Slot α} (h : l[i]? = some s) : givenAt l i = s.given := by unfold givenAt; rw [h]; rfl
theorem freeN_same {l : List (Slot α)} {i : Nat} {s s' : Slot α} (h : l[i]? = some s) (hg : s'.given = s.given) : freeN (l.set i s') = freeN l := by
  have hi := (List.getElem?_eq_some_iff.1 h).1
  unfold freeN
  rw [List.length_set]
  refine List.filter_congr fun j hj => ?_
  rw [given_set hi]
  by_cases e : i = j
  · subst e; rw [if_pos rfl, hg, given_of h]
  · rw [if_neg e]
theorem free_same {l : List (Slot α)} {i : Nat} {s s' : Slot α} (h : l[i]? = some s) (hg : s'.given = s.given) : freeOf (l.set i s') = freeOf l := by unfold freeOf; rw [freeN_same h hg]
theorem range_cut {i n : Nat} (h : i < n) : List.range n = List.range i ++ i :: List.range' (i + 1) (n - i - 1) := by
  rw [List.range_eq_range', List.range_eq_range']
  have h1 : List.range' 0 n = List.range' 0 i ++ List.range' (0 + 1 * i) (n - i) := by rw [List.range'_append]; congr 1; omega
  rw [h1, show n - i = (n - i - 1) + 1 by omega, List.range'_succ]
  simp
/-- The free slots below i, and those above. -/
theorem freeN_cut {l : List (Slot α)} {i : Nat} (hi : i < l.length) : freeN l = (List.range i).filter (fun j => !givenAt l j) ++ ((if givenAt l i then [] else [i]) ++ (List.range' (i + 1) (l.length - i - 1)).filter (fun j => !givenAt l j)) := by
  unfold freeN
  rw [range_cut hi, List.filter_append, List.filter_cons]
  cases givenAt l i <;> rfl
theorem freeN_set {l : List (Slot α)} {i : Nat} (s : Slot α) (hi : i < l.length) : freeN (l.set i s) = (List.range i).filter (fun j => !givenAt l j) ++ ((if s.given then [] else [i]) ++ (List.range' (i + 1) (l.length - i - 1)).filter (fun j => !givenAt l j)) := by
  have h2 : ∀ j, j ≠ i → givenAt (l.set i s) j = givenAt l j := fun j hj => by rw [given_set hi, if_neg (fun e => hj e.symm)]
  rw [freeN_cut (by simpa using hi), given_set hi, if_pos rfl, List.length_set]
  congr 1
  · exact List.filter_congr fun j hj => by rw [h2 j (by have := List.mem_range.1 hj; omega)]
  · congr 1
    exact List.filter_congr fun j hj => by rw [h2 j (by have := List.mem_range'_1.1 hj; omega)]
theorem below_all (l : List (Slot α)) (i : Nat) : ∀ x ∈ (List.range i).filter (fun j => !givenAt l j), x < i := fun x hx => List.mem_range.1 (List.mem_filter.1 hx).1
theorem above_all (l : List (Slot α)) (i n : Nat) : ∀ x ∈ (List.range' (i + 1) n).filter (fun j => !givenAt l j), i < x := fun x hx => by have := List.mem_range'_1.1 (List.mem_filter.1 hx).1; omega
/-- The lowest one is given. -/
theorem free_put {l : List (Slot α)} {i : Nat} {fr : List Int} {s : Slot α} (h : freeOf l = (i : Int) :: fr) (hg : s.given = true) : i < l.length ∧ givenAt l i = false ∧ freeOf (l.set i s) = fr := by
  unfold freeOf at h
  cases hN : freeN l with
  | nil => rw [hN] at h; cases h
  | cons a r =>
    rw [hN] at h
    simp only [List.map_cons, List.cons.injEq] at h
    obtain ⟨h1, h2⟩ := h
    obtain rfl : a = i := by omega
    have hm := mem_freeN.1 (show a ∈ freeN l by rw [hN]; exact List.mem_cons_self)
    refine ⟨hm.1, hm.2, ?_⟩
    have hc := freeN_cut hm.1
    have hs := freeN_set s hm.1
    rw [hm.2] at hc
    have hnil : (List.range a).filter (fun j => !givenAt l j) = [] := by
      cases hq : (List.range a).filter (fun j => !givenAt l j) with
      | nil => rfl
      | cons b q =>
        have hb := below_all l a b (by rw [hq]; exact List.mem_cons_self)
        rw [hN, hq] at hc
        simp at hc
        omega
    rw [hnil, hN] at hc
    simp at hc
    unfold freeOf
    rw [hs, hnil, hg]
    simp only [List.nil_append, if_true]
    rw [← hc, h2]
/-- One is taken back. -/
theorem free_back {l : List (Slot α)} {i : Nat} {s s' : Slot α} (h : l[i]? = some s) (hg : s.given = true) (hg' : s'.given = false) : freeOf (l.set i s') = insAt (freeOf l) ((freeOf l).countP (· < (i : Int))) i ∧ (freeOf l).countP (· < (i : Int)) ≤ (freeOf l).length := by
  have hi := (List.getElem?_eq_some_iff.1 h).1
  refine ⟨?_, List.countP_le_length⟩
  have hc := freeN_cut hi
  have hs := freeN_set s' hi
  rw [given_of h, hg] at hc
  rw [hg'] at hs
  have hb := below_all l i
  have ha := above_all l i (l.length - i - 1)
  generalize (List.range i).filter (fun j => !givenAt l j) = A at *
  generalize (List.range' (i + 1) (l.length - i - 1)).filter (fun j => !givenAt l j) = B at *
  simp only [Bool.false_eq_true, if_false, if_true, List.nil_append] at hc hs
  unfold freeOf
  rw [hc, hs]
  have h1 : ((A ++ B).map fun i : Nat => (i : Int)).countP (· < (i : Int)) = A.length := by
    rw [List.map_append, List.countP_append]
    have e1 : (A.map fun i : Nat => (i : Int)).countP (· < (i : Int)) = A.length := by
      rw [List.countP_map]
      rw [List.countP_eq_length.2]
      intro x hx
      have := hb x hx
      simp; omega
    have e2 : (B.map fun i : Nat => (i : Int)).countP (· < (i : Int)) = 0 := by
      rw [List.countP_map]
      rw [List.countP_eq_zero]
      intro x hx
      have := ha x hx
      simp; omega
    rw [e1, e2]; rfl
  rw [h1]
  unfold insAt
  rw [List.map_append, List.map_append, List.map_append, List.take_left' (by simp), List.drop_left' (by simp)]
  simp
/-- Nothing is given. -/
theorem free_new (n : Nat) (s : Slot α) (hg : s.given = false) : freeOf (List.replicate n s) = (List.range n).map fun i : Nat => (i : Int) := by
  unfold freeOf freeN
  rw [List.filter_eq_self.2, List.length_replicate]
  intro i hi
  have := List.mem_range.1 hi
  rw [List.length_replicate] at this
  unfold givenAt
  rw [List.getElem?_replicate, if_pos this]
  simp [hg]
end
theorem One.al4 {w0 w : World} {l : List Asr} (h : One w0 w l) (o1 o2 o3 o4 : Obj) : One w0 ((((w.alloc o1).alloc o2).alloc o3).alloc o4) (Blk (w.heap.size + 1 + 1 + 1) o4 :: Blk (w.heap.size + 1 + 1) o3 :: Blk (w.heap.size + 1) o2 :: Blk w.heap.size o1 :: l) := by
  have := (((h.alloc o1).alloc o2).alloc o3).alloc o4
  simpa using this
theorem One.setCA {w0 w : World} {l : List Asr} (h : One w0 w l) (i : Nat) {g j : Nat} {cs : Array Value} {T : TypeId} {fr : Nat × Nat} (hi : l[i]? = some (Blk g (.cells cs T fr))) (v : Value) : One w0 (w.setCell ⟨g, j, none⟩ v) (l.set i (Blk g (.cells (cs.setIfInBounds j v) T fr))) := by
  rw [setCell_setB v (h.blk i hi).1]
  exact h.setB i hi _
/-- A row of what is owned grows: its run. -/
theorem One.appP {α : Type} {enc : α → List Value} {P : Program} {E sz n t bytes : Nat} {z : Value} (el : Elt P t E z sz bytes) (ty : TypeId) {w0 w : World} {l : List Asr} {v s : Value} {xs : List Value} {m : List α} (h : One w0 w l) (i : Nat) (hi : l[i]? = some (RowA E sz v n xs))
    (hl : ∀ x, (enc x).length = sz) (hs : Rl enc sz w s m) (h1 : ∀ x, ∀ u ∈ enc x, u.oneCell' = true) (h63 : n + m.length ≤ maxLen) (hbytes : (n + m.length) * bytes ≤ 140737488355328) :
    ∃ r w', (Builtin.append_ #[t, t] ty #[v, s]).run P w = .ok r w' ∧ ∃ a1 cap, r = .slice a1 (n + m.length) cap ∧ One w0 w' (l.set i (RowA E sz (.slice a1 (n + m.length) cap) (n + m.length) (xs ++ m.flatMap enc))) := by
  obtain ⟨F, hF, _, h3⟩ := h.get i hi
  obtain ⟨a1, cap, w', hrun, hp⟩ := post_appL el ty hF hl hs h1 h63 hbytes
  exact ⟨_, w', hrun, a1, cap, rfl, h3 hp⟩
theorem perm5 {α : Type} (x y z : α) : [x, y, z].Perm [y, z, x] := (List.Perm.swap _ _ _).trans (.cons _ (.swap _ _ _))
theorem perm6 {α : Type} (x y z : α) : [x, y, z].Perm [z, x, y] := (List.Perm.cons _ (.swap _ _ _)).trans (.swap _ _ _)
theorem perm4 {α : Type} (x y z : α) : [x, y, z].Perm [z, y, x] := (List.reverse_perm [x, y, z]).symm
/-- The first k numbers, zeros behind. -/
def upTo (k n : Nat) : Array Value := (((List.range k).map fun i : Nat => Value.int .i64 (i : Int)) ++ List.replicate (n - k) (Value.int .i64 0)).toArray
theorem upTo_set {k n : Nat} (h : k < n) : (upTo k n).setIfInBounds k (.int .i64 (k : Int)) = upTo (k + 1) n := by
  unfold upTo
  rw [List.setIfInBounds_toArray, List.set_append_right _ _ (by simp), List.length_map, List.length_range, Nat.sub_self]
  obtain ⟨m, hm⟩ : ∃ m, n - k = m + 1 := ⟨n - k - 1, by omega⟩
  rw [hm, List.replicate_succ, List.set_cons_zero, List.range_succ, List.map_append, show n - (k + 1) = m by omega]
  simp
theorem upTo_zero (n : Nat) : (madeCells (Value.int .i64 0).cells (n * 1)) = upTo 0 n := by
  unfold upTo madeCells
  apply Array.ext
  · simp
  · intro i h1 h2
    simp [show (Value.int .i64 0).cells = #[.int .i64 0] from rfl, Nat.mod_one]
theorem upTo_at {k n : Nat} (h : k < n) : ∃ u, (upTo k n)[k]? = some u := ⟨_, Array.getElem?_eq_getElem (by simp [upTo]; omega)⟩
/-- An arena's parts. -/
def ArL {α : Type} (TAR TSL : TypeId) (t sb m cx : Nat) (v : Value) (arr : Array Value) (l : List (Slot α)) (st : Int) : List Asr :=
  [Blk t (.cells #[.slice (some ⟨sb, 0, none⟩) l.length (l.length + cx), v, .pointer (some ⟨m, 0, none⟩)] TAR), Blk sb (.cells arr TSL), WinA 3 v (freeOf l), Blk m (atom st)]
/-- An arena: its slots, and how many calls met a stale handle. -/
def ArA {α : Type} (TAR TSL : TypeId) (enc : Slot α → List Value) (n : Nat) (t : Nat) (l : List (Slot α)) (st : Int) : Asr where
  on := fun w F => ∃ sb m cx v arr, Arr enc n arr l ∧ (All (ArL TAR TSL t sb m cx v arr l st)).on w F
  keep := fun h k hS => by
    obtain ⟨sb, m, cx, v, arr, ha, h⟩ := h
    exact ⟨sb, m, cx, v, arr, ha, (All _).keep h k hS⟩
  lt := fun h => by
    obtain ⟨sb, m, cx, v, arr, ha, h⟩ := h
    exact (All _).lt h
/-- Its bounds. -/
structure ArFit {α : Type} (k : Nat) (l : List (Slot α)) (st : Int) : Prop where
  pos : 0 < l.length
  most : l.length ≤ 65536
  gen : ∀ s ∈ l, 0 ≤ s.gen ∧ s.gen ≤ k
  stale : 0 ≤ st ∧ st ≤ 10 * k
  small : k ≤ 9000000
/-- The slot of a good handle. -/
def goodAt {α : Type} (l : List (Slot α)) (s g : Int) : Option (Slot α) := if 0 ≤ s then (match l[s.toNat]? with | some x => if x.given && x.gen == g then some x else none | none => none) else none
end Go.Proofs.Ytinejaganickpaa

namespace Go.Proofs.Ytinejaganickpaa
set_option linter.unusedVariables false
set_option linter.unusedSimpArgs false
open Go Go.RowKit

section
variable {α : Type} {enc : α → List Value} {n : Nat} {arr : Array Value} {l : List α}
theorem Arr.raw (h : Arr enc n arr l) : Arr (fun r : List Value => r) n arr (l.map enc) :=
  ⟨by simpa using h.1, fun i r hr j hj => by
    rw [List.getElem?_map] at hr
    cases hx : l[i]? with
    | none => rw [hx] at hr; cases hr
    | some x => rw [hx] at hr; cases hr; exact h.2 i x hx j hj⟩
theorem Arr.of_raw (h : Arr (fun r : List Value => r) n arr (l.map enc)) : Arr enc n arr l :=
  ⟨by simpa using h.1, fun i x hx j hj => h.2 i (enc x) (by rw [List.getElem?_map, hx]; rfl) j hj⟩
theorem raw_sets {i : Nat} : ∀ (ps : List (Nat × Value)) {arr : Array Value} {rows : List (List Value)} {r : List Value}, Arr (fun r : List Value => r) n arr rows → rows[i]? = some r → r.length = n → (∀ p ∈ ps, p.1 < n) →
    Arr (fun r : List Value => r) n (ps.foldl (fun a p => a.setIfInBounds (i * n + p.1) p.2) arr) (rows.set i (ps.foldl (fun r p => r.set p.1 p.2) r)) := by
  intro ps
  induction ps with
  | nil =>
    intro arr rows r h hr _ _
    have : rows.set i r = rows := by
      obtain ⟨hi, rfl⟩ := List.getElem?_eq_some_iff.1 hr
      simp
    rw [List.foldl_nil, List.foldl_nil, this]
    exact h
  | cons p ps ih =>
    intro arr rows r h hr hlen hb
    have hi := (List.getElem?_eq_some_iff.1 hr).1
    have h1 := Arr.set (x' := r.set p.1 p.2) h hr (hb p List.mem_cons_self) hlen rfl
    have h2 := ih (r := r.set p.1 p.2) h1 (List.getElem?_set_self hi) (by simpa using hlen) (fun q hq => hb q (List.mem_cons_of_mem _ hq))
    rw [List.set_set] at h2
    exact h2
/-- Some cells of one record are written. -/
theorem Arr.sets {i : Nat} {x x' : α} (ps : List (Nat × Value)) (h : Arr enc n arr l) (hx : l[i]? = some x) (hlen : (enc x).length = n) (hb : ps.all (fun p => decide (p.1 < n)) = true) (he : ps.foldl (fun r p => r.set p.1 p.2) (enc x) = enc x') :
    Arr enc n (ps.foldl (fun a p => a.setIfInBounds (i * n + p.1) p.2) arr) (l.set i x') := by
  refine Arr.of_raw ?_
  rw [List.map_set, ← he]
  exact raw_sets ps h.raw (by rw [List.getElem?_map, hx]; rfl) hlen (fun p hp => by simpa using List.all_eq_true.1 hb p hp)
end
theorem Pw.setRow {F : Nat → Prop} {w : World} {i g base : Nat} {T : TypeId} {fr : Nat × Nat} : ∀ (ps : List (Nat × Value)) {w' : World} {l : List Asr} {cs : Array Value} (h : Pw F w w' l) (hi : l[i]? = some (Blk g (.cells cs T fr))),
    Pw F w (ps.foldl (fun W p => W.setCell ⟨g, base + p.1, none⟩ p.2) w') (l.set i (Blk g (.cells (ps.foldl (fun a p => a.setIfInBounds (base + p.1) p.2) cs) T fr))) := by
  intro ps
  induction ps with
  | nil =>
    intro w' l cs h hi
    have : l.set i (Blk g (.cells cs T fr)) = l := by
      obtain ⟨hl, e⟩ := List.getElem?_eq_some_iff.1 hi
      rw [← e]; simp
    rw [List.foldl_nil, List.foldl_nil, this]
    exact h
  | cons p ps ih =>
    intro w' l cs h hi
    have h1 := h.setC i hi (j := base + p.1) p.2
    have hl := (List.getElem?_eq_some_iff.1 hi).1
    have h2 := ih h1 (List.getElem?_set_self hl)
    rw [List.set_set] at h2
    exact h2
theorem kp_row {S : Nat → Prop} {g base : Nat} {w : World} (hg : S g ∨ w.heap.size ≤ g) : ∀ (ps : List (Nat × Value)) {w' : World}, Kp S w w' → Kp S w (ps.foldl (fun W p => W.setCell ⟨g, base + p.1, none⟩ p.2) w') := by
  intro ps
  induction ps with
  | nil => exact fun k => k
  | cons p ps ih => exact fun k => ih (Kp.setCell (p := ⟨g, base + p.1, none⟩) k hg p.2)
theorem kn_row {g base : Nat} {w : World} (hg : w.heap.size ≤ g) (ps : List (Nat × Value)) {w' : World} (k : KN w w') : KN w (ps.foldl (fun W p => W.setCell ⟨g, base + p.1, none⟩ p.2) w') := kp_row (.inr hg) ps k
theorem blk_row {g base : Nat} {T : TypeId} {fr : Nat × Nat} : ∀ (ps : List (Nat × Value)) {w : World} {cs : Array Value}, w.heap[g]? = some (.cells cs T fr) →
    (ps.foldl (fun W p => W.setCell ⟨g, base + p.1, none⟩ p.2) w).heap[g]? = some (.cells (ps.foldl (fun a p => a.setIfInBounds (base + p.1) p.2) cs) T fr) := by
  intro ps
  induction ps with
  | nil => exact fun h => h
  | cons p ps ih => exact fun {w cs} h => ih (show (w.setCell ⟨g, base + p.1, none⟩ p.2).heap[g]? = some (.cells (cs.setIfInBounds (base + p.1) p.2) T fr) by rw [setCell_setB p.2 h]; exact setB_same _ (lt_blk h))
/-- A call, and stores into a block of its caller's behind it. -/
theorem Post.aside {A : Asr} {F : Nat → Prop} {w w1 w2 w3 : World} {g : Nat} (k0 : KN w w1) (h : Post A F w1 w2) (hg1 : w.heap.size ≤ g) (hg2 : g < w1.heap.size) (hF : ¬ F g) (k : Kp (· = g) w2 w3) : Post A F w w3 := by
  obtain ⟨F', a, kp, s⟩ := h
  refine ⟨F', A.keep a k (fun b hb e => ?_), ((k0.mono (fun _ h => h.elim)).trans kp (fun i h => .inl h)).trans k (fun i h => .inr (by omega)), fun b hb => (s b hb).imp id (fun h => Nat.le_trans k0.size h)⟩
  have e' : b = g := e
  subst e'
  rcases s _ hb with h | h
  · exact hF h
  · omega
end Go.Proofs.Ytinejaganickpaa
