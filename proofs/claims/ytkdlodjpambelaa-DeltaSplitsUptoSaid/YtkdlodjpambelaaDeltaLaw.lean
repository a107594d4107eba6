/- Plain laws of deltas: splits, changes that are taken back, changes that change places. -/
import Derived.Test.YtkdlodjpambelaaSoundLaw
import Derived.Test.YtkdlodjpambelaaDeltaM
import Derived.Test.YtkdlodjpambelaaLookP
namespace Go.Proofs.Ytkdlodjpambelaa
set_option linter.unusedVariables false
set_option linter.unusedSimpArgs false
open Go Go.RowKit

/-! Splits. -/
theorem check_bare {d : Dl} (h : checkD d = 0) : badD d = false ∧ d = bareD d := by
  unfold checkD at h
  cases hb : badD d with
  | true => rw [hb] at h; simp at h
  | false =>
    cases hs : sameD d (bareD d) with
    | false => rw [hb, hs] at h; simp at h
    | true => exact ⟨rfl, sameD_iff.1 hs⟩
theorem check_of {d : Dl} (h1 : badD d = false) (h2 : bareD d = d) : checkD d = 0 := by
  unfold checkD
  rw [h1, h2, sameD_iff.2 rfl]
  rfl
def dSplit (sep : ByteArray) (id : Int) : Dl := ⟨3, zeroEn, sep, id, zeroPg⟩
theorem split_form {p : Pg} {sep : ByteArray} {id : Int} (h : (applyD p (dSplit sep id)).2 = 0) :
    applyD p (dSplit sep id) = (⟨p.leaf, p.low, sep, id, p.list.filter (fun x => ltS x.key sep)⟩, 0) ∧ ltS p.low sep = true ∧ inR p.low p.high sep = true ∧ 1 ≤ id ∧ sep.toList.isEmpty = false := by
  by_cases hc : checkD (dSplit sep id) = 0
  · obtain ⟨hb, _⟩ := check_bare hc
    have hb2 : (decide (id < 1) || sep.toList.isEmpty) = false := by
      have := hb; unfold badD dSplit at this; simpa using this
    simp only [Bool.or_eq_false_iff, decide_eq_false_iff_not] at hb2
    have hA : applyD p (dSplit sep id) = if !ltS p.low sep || !inR p.low p.high sep then (zeroPg, 90) else (⟨p.leaf, p.low, sep, id, p.list.filter (fun x => ltS x.key sep)⟩, 0) := by
      unfold applyD; rw [if_neg (by rw [hc]; simp)]; rfl
    rw [hA] at h ⊢
    cases h1 : ltS p.low sep with
    | false => rw [h1] at h; simp at h
    | true =>
      cases h2 : inR p.low p.high sep with
      | false => rw [h1, h2] at h; simp at h
      | true => exact ⟨by simp, rfl, rfl, by omega, hb2.2⟩
  · unfold applyD at h; rw [if_pos hc] at h; simp at h
theorem look_one (p : Pg) (key sep : ByteArray) (id : Int) : lookD p key [dSplit sep id] = lookQ (applyD p (dSplit sep id)) key := by
  rw [lookD_eq, show foldD p [dSplit sep id] = applyD p (dSplit sep id) by rw [foldD_cons]; rfl]
  simp [goneD, dSplit]
theorem look_nil_eq (p : Pg) (key : ByteArray) : lookD p key [] = lookQ (p, 0) key := rfl
theorem split_hi {p : Pg} {sep key : ByteArray} {id : Int} (h : (applyD p (dSplit sep id)).2 = 0) (h1 : ltS key sep = false) (h2 : ltS key p.low = false) :
    lookD p key [dSplit sep id] = (⟨zeroEn, false, id⟩, 0) ∧ inR (applyD p (dSplit sep id)).1.low (applyD p (dSplit sep id)).1.high key = false := by
  obtain ⟨hf, _, _, hid, hs⟩ := split_form h
  have hin : inR p.low sep key = false := by unfold inR; rw [h1, h2, hs]; rfl
  rw [look_one, hf]
  refine ⟨?_, hin⟩
  unfold lookQ
  simp [h2, hin, show id ≠ 0 by omega]
theorem split_lo {p : Pg} {sep key : ByteArray} {id : Int} (h : (applyD p (dSplit sep id)).2 = 0) (h1 : ltS key sep = true ∨ ltS key p.low = true) : lookD p key [dSplit sep id] = lookD p key [] := by
  obtain ⟨hf, hls, hin, hid, hs⟩ := split_form h
  rw [look_one, look_nil_eq, hf]
  cases h2 : ltS key p.low with
  | true => unfold lookQ; simp [h2]
  | false =>
    have h3 : ltS key sep = true := h1.resolve_right (by rw [h2]; simp)
    have i1 : inR p.low sep key = true := by unfold inR; rw [h2, h3]; simp
    have i2 : inR p.low p.high key = true := by
      have hi := (inR_iff.1 hin).2
      refine inR_iff.2 ⟨h2, hi.imp (fun q => q) (fun q => ltS_trans h3 q)⟩
    have hfd : findP ⟨p.leaf, p.low, sep, id, p.list.filter (fun x => ltS x.key sep)⟩ key = findP p key := by
      cases hl : p.leaf with
      | true =>
        rw [findP_leaf (p := ⟨true, p.low, sep, id, p.list.filter (fun x => ltS x.key sep)⟩) rfl rfl, findP_leaf hl rfl]
        congr 1
        rw [List.find?_filter]
        congr 1
        funext x
        cases he : eqS x.key key with
        | false => simp
        | true => rw [eqS_iff.1 he, h3]; rfl
      | false =>
        rw [findP_inner (p := ⟨false, p.low, sep, id, p.list.filter (fun x => ltS x.key sep)⟩) rfl rfl, findP_inner hl rfl]
        congr 1
        rw [← List.filter_reverse, List.find?_filter]
        congr 1
        funext x
        cases he : ltS key x.key with
        | true => simp
        | false => rw [ltS_of_le_lt he h3]; rfl
    unfold lookQ
    simp [h2, i1, i2, hfd]

/-! Lists with rising keys are told by what is found in them. -/
theorem sorted_ext : ∀ {l m : List En}, Sorted l → Sorted m → (∀ k, lookL l k = lookL m k) → l = m
  | [], [], _, _, _ => rfl
  | [], y :: m, _, _, h => by have := h y.key; simp [lookL, eqS_iff.2 rfl] at this
  | x :: l, [], _, _, h => by have := h x.key; simp [lookL, eqS_iff.2 rfl] at this
  | x :: l, y :: m, hl, hm, h => by
    obtain ⟨hx, hl'⟩ := List.pairwise_cons.1 hl
    obtain ⟨hy, hm'⟩ := List.pairwise_cons.1 hm
    have e1 : lookL (x :: l) x.key = some x := by simp [lookL, eqS_iff.2 rfl]
    have e2 : lookL (y :: m) y.key = some y := by simp [lookL, eqS_iff.2 rfl]
    have hxm : x ∈ y :: m := List.mem_of_find?_eq_some ((h x.key).symm.trans e1)
    have hyl : y ∈ x :: l := List.mem_of_find?_eq_some ((h y.key).trans e2)
    have hxy : x = y := by
      rcases List.mem_cons.1 hxm with e | hxm
      · exact e
      · rcases List.mem_cons.1 hyl with e | hyl
        · exact e.symm
        · have a1 := hy x hxm
          have a2 := hx y hyl
          rw [ltS_asymm a1] at a2; cases a2
    subst hxy
    have none_of : ∀ (n : List En), (∀ z ∈ n, ltS x.key z.key = true) → lookL n x.key = none := fun n hn => look_none (fun z hz e => by
      have := hn z hz; rw [e, ltS_irrefl] at this; cases this)
    congr 1
    refine sorted_ext hl' hm' (fun k => ?_)
    by_cases hk : k = x.key
    · subst hk; rw [none_of l hx, none_of m hy]
    · have := h k
      have hne : eqS x.key k = false := eqS_false.2 (Ne.symm hk)
      simpa [lookL, List.find?_cons, hne] using this
def remAt (l : List En) (k : ByteArray) : List En := match l.findIdx? (fun x => eqS x.key k) with
  | some i => l.take i ++ l.drop (i + 1)
  | none => l
theorem rem_filter {l : List En} (h : Sorted l) (k : ByteArray) : remAt l k = l.filter (fun x => !eqS x.key k) := by
  unfold remAt
  cases hi : l.findIdx? (fun x => eqS x.key k) with
  | none =>
    refine (List.filter_eq_self.2 (fun x hx => ?_)).symm
    rw [List.findIdx?_eq_none_iff.1 hi x hx]; rfl
  | some i =>
    obtain ⟨hlt, h1, h2⟩ := List.findIdx?_eq_some_iff_getElem.1 hi
    have hl : l = l.take i ++ l[i] :: l.drop (i + 1) := by rw [List.getElem_cons_drop, List.take_append_drop]
    have hd : ∀ z ∈ l.drop (i + 1), ltS l[i].key z.key = true := by
      have := h; unfold Sorted at this; rw [hl] at this
      exact (List.pairwise_cons.1 (List.pairwise_append.1 this).2.1).1
    simp only
    conv => rhs; rw [hl]
    rw [List.filter_append, List.filter_cons, h1]
    simp only [Bool.not_true, Bool.false_eq_true, if_false]
    congr 1
    · refine (List.filter_eq_self.2 (fun x hx => ?_)).symm
      obtain ⟨j, hj⟩ := List.getElem?_of_mem hx
      rw [List.getElem?_take] at hj
      split at hj
      · rename_i hji
        have := h2 j hji
        rw [(List.getElem?_eq_some_iff.1 hj).2] at this
        simpa using this
      · cases hj
    · refine (List.filter_eq_self.2 (fun x hx => ?_)).symm
      have h3 := hd x hx
      rw [eqS_iff.1 h1] at h3
      have : eqS x.key k = false := eqS_false.2 (fun e => by rw [e, ltS_irrefl] at h3; cases h3)
      rw [this]; rfl
theorem look_rem {l : List En} (h : Sorted l) (k k' : ByteArray) : lookL (remAt l k) k' = if k' = k then none else lookL l k' := by
  rw [rem_filter h]
  unfold lookL
  rw [List.find?_filter]
  by_cases e : k' = k
  · subst e
    rw [if_pos rfl, List.find?_eq_none]
    intro x _
    cases eqS x.key k' <;> simp
  · rw [if_neg e]
    congr 1
    funext x
    cases he : eqS x.key k' with
    | false => simp
    | true =>
      have : eqS x.key k = false := eqS_false.2 (fun q => e ((eqS_iff.1 he).symm.trans q))
      simp [this]
theorem rem_sorted {l : List En} (h : Sorted l) (k : ByteArray) : Sorted (remAt l k) := by
  rw [rem_filter h]
  exact List.Pairwise.sublist List.filter_sublist h
theorem put_sorted {l : List En} (h : Sorted l) (e : En) : Sorted (putAt l e) := by
  obtain ⟨A, B, hp, hA, hB, hl⟩ := sorted_put h e
  have hAB : Sorted (A ++ B) := by
    rcases hl with rfl | ⟨x, rfl, _⟩
    · exact h
    · exact List.Pairwise.sublist (List.Sublist.append_left (List.sublist_cons_self _ _) _) h
  rw [hp]
  unfold Sorted at *
  rw [List.pairwise_append] at hAB ⊢
  refine ⟨hAB.1, List.pairwise_cons.2 ⟨hB, hAB.2.1⟩, fun a ha b hb => ?_⟩
  rcases List.mem_cons.1 hb with rfl | hb
  · exact hA a ha
  · exact hAB.2.2 a ha b hb
theorem look_put {l : List En} (h : Sorted l) (e : En) (k : ByteArray) : lookL (putAt l e) k = if k = e.key then some e else lookL l k := by
  obtain ⟨A, B, hp, hA, hB, hl⟩ := sorted_put h e
  have hne : ∀ z ∈ A, z.key ≠ e.key := fun z hz q => by have := hA z hz; rw [q, ltS_irrefl] at this; cases this
  rw [hp]
  by_cases hk : k = e.key
  · subst hk; rw [if_pos rfl]; exact look_hit hne
  · rw [if_neg hk, look_skip (Ne.symm hk)]
    rcases hl with rfl | ⟨x, rfl, hx⟩
    · rfl
    · rw [look_skip (by rw [hx]; exact Ne.symm hk)]

/-! Changes. -/
def keyD (d : Dl) : ByteArray := if d.kind = 1 then d.entry.key else d.key
def chgD (d : Dl) (l : List En) : List En := if d.kind = 1 then putAt l d.entry else remAt l d.key
theorem change_form {p : Pg} {d : Dl} (hk : d.kind = 1 ∨ d.kind = 2) (hc : checkD d = 0) : applyD p d = if inR p.low p.high (keyD d) = true then (⟨p.leaf, p.low, p.high, p.right, chgD d p.list⟩, 0) else (zeroPg, 73) := by
  unfold applyD keyD chgD
  rw [if_neg (by rw [hc]; simp)]
  rcases hk with hk | hk
  · rw [if_pos hk, if_pos hk, if_pos hk]; rfl
  · have h1 : ¬ d.kind = 1 := by rw [hk]; decide
    rw [if_neg h1, if_pos hk, if_neg h1, if_neg h1]
    cases hi : inR p.low p.high d.key with
    | false => simp
    | true =>
      simp only [Bool.true_eq_false, if_false, if_true]
      unfold removeP remAt
      cases p.list.findIdx? (fun x => eqS x.key d.key) with
      | some i => simp
      | none => simp
theorem look_chg {l : List En} (h : Sorted l) (d : Dl) (k : ByteArray) : lookL (chgD d l) k = if k = keyD d then (if d.kind = 1 then some d.entry else none) else lookL l k := by
  unfold chgD keyD
  by_cases h1 : d.kind = 1
  · rw [if_pos h1, if_pos h1, if_pos h1]; exact look_put h _ _
  · rw [if_neg h1, if_neg h1, if_neg h1]; exact look_rem h _ _
theorem chg_sorted {l : List En} (h : Sorted l) (d : Dl) : Sorted (chgD d l) := by
  unfold chgD
  split
  · exact put_sorted h _
  · exact rem_sorted h _
theorem chg_comm {l : List En} (h : Sorted l) {a b : Dl} (hne : keyD a ≠ keyD b) : chgD a (chgD b l) = chgD b (chgD a l) := by
  refine sorted_ext (chg_sorted (chg_sorted h _) _) (chg_sorted (chg_sorted h _) _) (fun k => ?_)
  rw [look_chg (chg_sorted h _), look_chg (chg_sorted h _), look_chg h, look_chg h]
  by_cases e1 : k = keyD a
  · subst e1; rw [if_pos rfl, if_neg hne, if_pos rfl]
  · rw [if_neg e1]
    by_cases e2 : k = keyD b
    · subst e2; rw [if_pos rfl]; simp
    · rw [if_neg e2, if_neg e2, if_neg e1]
theorem sorted_ok {p : Pg} (h : checkP p = 0) : Sorted p.list := (ok2_iff.1 (ok_iff.1 h)).sort
theorem fold_two (p : Pg) (a b : Dl) : foldD p [a, b] = if (applyD p b).2 ≠ 0 then (zeroPg, (applyD p b).2) else applyD (applyD p b).1 a := by
  rw [foldD_cons, show foldD p [b] = applyD p b by rw [foldD_cons]; rfl]
theorem applyD_no {p : Pg} {d : Dl} (h : checkD d ≠ 0) : applyD p d = (zeroPg, 90) := by unfold applyD; rw [if_pos h]
theorem append_empS (a : ByteArray) : a ++ empS = a := by
  apply ByteArray.ext
  simp [empS]
theorem empS_append (a : ByteArray) : empS ++ a = a := by
  apply ByteArray.ext
  simp [empS]
theorem key_of {d : Dl} (hk : d.kind = 1 ∨ d.kind = 2) (hc : checkD d = 0) : d.entry.key ++ d.key = keyD d := by
  obtain ⟨_, h⟩ := check_bare hc
  unfold keyD
  rcases hk with hk | hk
  · have : d.key = empS := by rw [h]; unfold bareD; rw [if_pos hk]
    rw [if_pos hk, this, append_empS]
  · have h1 : ¬ d.kind = 1 := by rw [hk]; decide
    have : d.entry = zeroEn := by rw [h]; unfold bareD; rw [if_neg h1, if_pos hk]
    rw [if_neg h1, this]; exact empS_append _
theorem swap_law {p : Pg} {a b : Dl} (hp : checkP p = 0) (ha : a.kind = 1 ∨ a.kind = 2) (hb : b.kind = 1 ∨ b.kind = 2) (hne : a.entry.key ++ a.key ≠ b.entry.key ++ b.key) :
    (foldD p [a, b] = foldD p [b, a] ∧ (foldD p [a, b]).2 = 0) ∨ ((foldD p [a, b]).2 ≠ 0 ∧ (foldD p [b, a]).2 ≠ 0) := by
  by_cases ca : checkD a = 0
  case neg =>
    refine .inr ⟨?_, ?_⟩
    · rw [fold_two]; split
      · assumption
      · rw [applyD_no ca]; decide
    · rw [fold_two, applyD_no ca]; simp
  by_cases cb : checkD b = 0
  case neg =>
    refine .inr ⟨?_, ?_⟩
    · rw [fold_two, applyD_no cb]; simp
    · rw [fold_two]; split
      · assumption
      · rw [applyD_no cb]; decide
  rw [key_of ha ca, key_of hb cb] at hne
  have hs := sorted_ok hp
  rw [fold_two, fold_two, change_form (p := p) ha ca, change_form (p := p) hb cb]
  cases ia : inR p.low p.high (keyD a) with
  | false =>
    refine .inr ⟨?_, by simp⟩
    cases ib : inR p.low p.high (keyD b) with
    | false => simp
    | true => simp only [if_true, ne_eq, not_true_eq_false, if_false]; rw [change_form ha ca]; simp [ia]
  | true =>
    cases ib : inR p.low p.high (keyD b) with
    | false =>
      refine .inr ⟨by simp, ?_⟩
      simp only [if_true, ne_eq, not_true_eq_false, if_false]; rw [change_form hb cb]; simp [ib]
    | true =>
      simp only [if_true, ne_eq, not_true_eq_false, if_false]
      rw [change_form ha ca, change_form hb cb]
      simp only [ia, ib, if_true]
      exact .inl ⟨by rw [chg_comm hs hne], trivial⟩
theorem back_law {p : Pg} {d u : Dl} (hp : checkP p = 0) (h : undoD p d = (u, true)) : foldD p [u, d] = (p, 0) := by
  have hs := sorted_ok hp
  unfold undoD at h
  split at h
  · cases h
  · rename_i hc
    have h0 : (applyD p d).2 = 0 := Classical.byContradiction fun q => hc (.inl q)
    have hk : d.kind = 1 ∨ d.kind = 2 := by
      rcases Classical.em (d.kind = 1) with q | q
      · exact .inl q
      · exact .inr (Classical.byContradiction fun q2 => hc (.inr ⟨q, q2⟩))
    have cd : checkD d = 0 := Classical.byContradiction fun q => by rw [applyD_no q] at h0; cases h0
    have hin : inR p.low p.high (keyD d) = true := by
      rw [change_form hk cd] at h0
      cases q : inR p.low p.high (keyD d) with
      | true => rfl
      | false => rw [q] at h0; simp at h0
    have hA : applyD p d = (⟨p.leaf, p.low, p.high, p.right, chgD d p.list⟩, 0) := by rw [change_form hk cd, hin]; rfl
    rw [fold_two, hA]
    simp only [ne_eq, not_true_eq_false, if_false]
    have hkey : (if d.kind = 1 then d.entry.key else d.key) = keyD d := rfl
    simp only [hkey] at h
    have hlast : ∀ (u : Dl), (u.kind = 1 ∨ u.kind = 2) → checkD u = 0 → keyD u = keyD d → lookL p.list (keyD d) = (if u.kind = 1 then some u.entry else none) → applyD ⟨p.leaf, p.low, p.high, p.right, chgD d p.list⟩ u = (p, 0) := by
      intro u hu cu ku hl
      rw [change_form hu cu]
      simp only [ku, hin, if_true]
      have : chgD u (chgD d p.list) = p.list := by
        refine sorted_ext (chg_sorted (chg_sorted hs _) _) hs (fun k => ?_)
        rw [look_chg (chg_sorted hs _), look_chg hs, ku]
        by_cases e : k = keyD d
        · subst e; rw [if_pos rfl, hl]
        · rw [if_neg e, if_neg e]
      rw [this]
    cases hf : p.list.find? (fun x => eqS x.key (keyD d)) with
    | some x =>
      rw [hf] at h
      simp only [Prod.mk.injEq, and_true] at h
      subst h
      have hx : x.key = keyD d := eqS_iff.1 (List.find?_some (p := fun x : En => eqS x.key (keyD d)) hf)
      exact hlast _ (.inl rfl) (check_of (by simp [badD]) (by simp [bareD])) (by simpa [keyD] using hx) (by simpa [lookL] using hf)
    | none =>
      rw [hf] at h
      simp only [Prod.mk.injEq, and_true] at h
      subst h
      exact hlast _ (.inr rfl) (check_of (by simp [badD]) (by simp [bareD])) (by simp [keyD]) (by simpa [lookL] using hf)
end Go.Proofs.Ytkdlodjpambelaa
