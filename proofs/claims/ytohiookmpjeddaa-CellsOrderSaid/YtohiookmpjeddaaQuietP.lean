/- A region that draws its order, in phases: quiet operations, one that is not, quiet ones again .. -/
import Derived.Test.YtohiookmpjeddaaQuietT
namespace Go.Proofs.Ytohiookmpjeddaa
set_option linter.unusedVariables false
set_option linter.unusedSimpArgs false
open Go Go.RowKit Go.Sort

section
variable {P : Program} {ops : Array Oper} {md : Region.Mode} {C : World → Prop} {n : Nat}
/-- Each operation behind n waits for one of n and on. -/
def afterB (md : Region.Mode) (ops : Array Oper) (n : Nat) : Bool :=
  (List.range ops.size).all fun t => decide (t ≤ n) || (List.range t).any fun j => decide (n ≤ j) && Region.waitsFor md ops t j
theorem tail_waits2 {n : Nat} {listed : Array Bool} (hs : Region.sinkB md ops n = true) (hc : afterB md ops n = true) (hn : n < ops.size) (inv : HeadInv md ops n listed) :
    ∀ (d i : Nat), n - i = d → i < n → listed.getD i true = false → ∀ t, n ≤ t → t ∉ Region.ready md ops listed := by
  intro d
  induction d using Nat.strongRecOn with
  | _ d ih =>
    intro i hd hi hun t ht hr
    obtain ⟨_, ot, hot, hall⟩ := mem_ready.1 hr
    have htlt : t < ops.size := (Array.getElem?_eq_some_iff.1 hot).1
    by_cases htn : t = n
    · subst htn
      have h1 := List.all_eq_true.1 hs i (List.mem_range.2 hi)
      obtain ⟨j, hj, hj2⟩ := List.any_eq_true.1 h1
      simp only [Bool.and_eq_true, decide_eq_true_eq] at hj2
      obtain ⟨oj, hoj, e, he, hb, hon⟩ := Region.waitsFor_spec hj2.2
      have hjle : j ≤ t := by have := List.mem_range.1 hj; omega
      by_cases hjt : j = t
      · subst hjt
        have : oj = ot := Option.some.inj (hoj.symm.trans hot)
        subst this
        have h2 := hall e he hb
        rw [hon, getD_both hun] at h2
        cases h2
      · cases hl : listed.getD j false with
        | true =>
          have h2 := inv.closed j oj hoj hl e he hb
          rw [hon, getD_both hun] at h2
          cases h2
        | false =>
          have hjs : j < listed.size := by rw [inv.size]; omega
          exact ih (t - j) (by omega) j rfl (by omega) (getD_in hjs hl) t (Nat.le_refl _) hr
    · have h1 := List.all_eq_true.1 hc t (List.mem_range.2 htlt)
      simp only [Bool.or_eq_true, decide_eq_true_eq] at h1
      rcases h1 with h1 | h1
      · omega
      · obtain ⟨j, hj, hj2⟩ := List.any_eq_true.1 h1
        simp only [Bool.and_eq_true, decide_eq_true_eq] at hj2
        obtain ⟨o', ho', e, he, hb, hon⟩ := Region.waitsFor_spec hj2.2
        have hjt := List.mem_range.1 hj
        have : o' = ot := Option.some.inj (ho'.symm.trans hot)
        subst this
        have h2 := hall e he hb
        rw [hon, getD_both (inv.tail j hj2.1 (by omega))] at h2
        cases h2
theorem headQ_first2 {i : Nat} {oi : Oper} {v : Value} {L : Array Bool → Act → Prop} (hi : ops[i]? = some oi) (hsel : ∀ (j : Nat) (o : Oper) cs b, ops[j]? = some o → o.op ≠ .select cs b)
    (hs : Region.sinkB md ops n = true) (hc : afterB md ops n = true) (hn : n < ops.size) (hin : i < n) (hd : ∀ s a, L s a → ∀ j ∈ Region.ready md ops s, n ≤ j) :
    ∀ (f : Nat) (s : Array Bool) (a : Act), HeadInv md ops n s →
      (∀ j oj, ops[j]? = some oj → j ≠ i → s.getD j true = false → (∀ e ∈ oj.after, Region.binds md e = true → e.on ≠ i) → oi.apart ops oj = true) →
      i ∈ Region.ready md ops s → YieldsIn P ops C oi v a → HeadQ P md ops C n L f (s.setIfInBounds i true) (a.put oi.dst v) → HeadQ P md ops C n L (f + 1) s a := by
  intro f
  induction f with
  | zero =>
    intro s a inv _ hr hy H
    refine ⟨fun e => (by rw [e] at hr; cases hr), fun j hj => ?_⟩
    have hjn : j < n := Nat.lt_of_not_le fun h => tail_waits2 hs hc hn inv _ i rfl hin (mem_ready.1 hr).1 j h hj
    refine ⟨hjn, ?_⟩
    by_cases e : j = i
    · subst e; exact hy.qOp hi H
    · have := hd _ _ H j (ready_mono hj e); omega
  | succ f ih =>
    intro s a inv hf hr hy H
    have hu := (mem_ready.1 hr).1
    refine ⟨fun e => (by rw [e] at hr; cases hr), fun j hj => ?_⟩
    have hjn : j < n := Nat.lt_of_not_le fun h => tail_waits2 hs hc hn inv _ i rfl hin hu j h hj
    refine ⟨hjn, ?_⟩
    by_cases e : j = i
    · subst e; exact hy.qOp hi H
    · obtain ⟨hju, oj, hoj, hall⟩ := mem_ready.1 hj
      have hno : ∀ e ∈ oj.after, Region.binds md e = true → e.on ≠ i := fun e he hb q => by
        have h := hall e he hb
        rw [q, getD_both hu] at h
        cases h
      refine qOp_mono (fun a' h => ih _ a' (inv.set hj hjn) (fun k ok hk hki hku hkn => hf k ok hk hki ?_ hkn) (ready_mono hr (Ne.symm e)) h.1 ?_)
        (qOp_put hoj (hf j oj hoj e hju hno) (fun cs b => hsel i oi cs b hi) (fun cs b => hsel j oj cs b hoj) hy (H.2 j (ready_mono hj e)).2)
      · by_cases q : j = k
        · subst q; exact hju
        · rwa [getD_set_ne true q] at hku
      · rw [Array.setIfInBounds_comm _ _ e]; exact h.2
/-- The lexical head, with what is asked at its end. -/
def lexHeadG (md : Region.Mode) (ops : Array Oper) (fin : Array Bool → Bool) : Nat → Nat → Array Bool → Bool
  | 0, k, s => fin s
  | f + 1, k, s => (Region.ready md ops s).contains k && Region.free md ops s k && lexHeadG md ops fin f (k + 1) (s.setIfInBounds k true)
theorem headQ_lex2 {fin : Array Bool → Bool} {R : Act → Prop} (hsel : Region.noSelect ops = true) (hs : Region.sinkB md ops n = true) (hc : afterB md ops n = true) (hn : n < ops.size) (hfin : ∀ s, fin s = true → Region.ready md ops s = [n]) :
    ∀ (l : List Oper) (k : Nat) (s : Array Bool) (a : Act), (∀ j, j < l.length → l[j]? = ops[k + j]?) → k + l.length = n → HeadInv md ops n s → lexHeadG md ops fin l.length k s = true → wpQuiet P ops C R l a →
      HeadQ P md ops C n (fun s' a' => fin s' = true ∧ R a') l.length s a := by
  intro l
  induction l with
  | nil => intro k s a _ hk _ hB h; exact ⟨by simpa [lexHeadG] using hB, h⟩
  | cons o l ih =>
    intro k s a hl hk inv hB h
    have h0 : ops[k]? = some o := by simpa using (hl 0 (by simp)).symm
    simp only [List.length_cons, lexHeadG, Bool.and_eq_true] at hB hk
    have hr : k ∈ Region.ready md ops s := by simpa using hB.1.1
    have hq : qOp P ops C k (wpQuiet P ops C R l) a := by unfold qOp; simp only [h0]; exact h
    obtain ⟨v, hy, hK⟩ := yieldsIn_of_qOp h0 hq
    have hd : ∀ (s' : Array Bool) (a' : Act), (fin s' = true ∧ R a') → ∀ j ∈ Region.ready md ops s', n ≤ j := fun s' a' h' j hj => by
      rw [hfin _ h'.1] at hj
      have : j = n := by simpa using hj
      omega
    exact headQ_first2 h0 (Region.noSelect_spec hsel) hs hc hn (by omega) hd l.length s a inv (Region.free_spec h0 hB.1.2) hr hy
      (ih (k + 1) _ _ (fun j hj => by have := hl (j + 1) (by simp; omega); simpa [Nat.add_assoc, Nat.add_comm 1 j] using this) (by omega) (inv.set hr (by omega)) hB.2 hK)
/-- What is listed is closed, nothing from n on is listed. -/
def invB (md : Region.Mode) (ops : Array Oper) (n : Nat) (s : Array Bool) : Bool :=
  decide (s.size = ops.size) && ((List.range ops.size).all fun j => !s.getD j false || ((ops[j]?).map (·.after.all fun e => !Region.binds md e || s.getD e.on false)).getD true) && (List.range ops.size).all fun t => decide (t < n) || !s.getD t true
theorem inv_of {s : Array Bool} (h : invB md ops n s = true) : HeadInv md ops n s := by
  simp only [invB, Bool.and_eq_true, decide_eq_true_eq] at h
  obtain ⟨⟨h1, h2⟩, h3⟩ := h
  refine ⟨h1, fun j oj hj hl e he hb => ?_, fun t ht hts => ?_⟩
  · have hjs := (Array.getElem?_eq_some_iff.1 hj).1
    have := List.all_eq_true.1 h2 j (List.mem_range.2 hjs)
    rw [hl, hj] at this
    simp only [Bool.not_true, Bool.false_or, Option.map_some, Option.getD_some] at this
    have h4 := Array.all_eq_true'.1 this e he
    rw [hb] at h4
    simpa using h4
  · have := List.all_eq_true.1 h3 t (List.mem_range.2 hts)
    simp only [Bool.or_eq_true, decide_eq_true_eq, Bool.not_eq_true'] at this
    rcases this with h | h
    · omega
    · exact h
/-- The check of a region in phases: ns: the operations that are not quiet. -/
def phB (md : Region.Mode) (ops : Array Oper) : List Nat → Nat → Array Bool → Bool
  | [], k, s => Region.lexFrom md ops (ops.size - k) k s
  | n :: ns, k, s => decide (k ≤ n) && decide (n < ops.size) && Region.sinkB md ops n && afterB md ops n && invB md ops n s &&
      lexHeadG md ops (fun s' => decide (Region.ready md ops s' = [n]) && phB md ops ns (n + 1) (s'.setIfInBounds n true)) (n - k) k s
/-- The walk in phases. -/
def wpPh (P : Program) (ops : Array Oper) (Q : Exit → Act → World → Prop) : List Nat → Nat → Act → World → Prop
  | [], k, a, w => ∃ C : World → Prop, C w ∧ wpQuiet P ops C (fun a' => ∀ w', C w' → Q .normal a' w') (ops.toList.drop k) a
  | n :: ns, k, a, w => ∃ C : World → Prop, C w ∧ wpQuiet P ops C (fun a' => ∀ w', C w' → wpList P ops (Exit.then (wpPh P ops Q ns (n + 1)) Q) ((ops.toList.drop n).take 1) a' w') ((ops.toList.drop k).take (n - k)) a
theorem wpOp_of_list {Q : Exit → Act → World → Prop} {o : Oper} {K : Act → World → Prop} {a : Act} {w : World} (h0 : ops[n]? = some o) (h : wpList P ops (Exit.then K Q) [o] a w) : wpOp P ops Q n K a w := by
  unfold wpOp
  simp only [h0]
  exact h
theorem any_ph (hsel : Region.noSelect ops = true) {Q : Exit → Act → World → Prop} : ∀ (ns : List Nat) (k : Nat) (s : Array Bool) (a : Act) (w : World), k ≤ ops.size → phB md ops ns k s = true → wpPh P ops Q ns k a w → wpAny P md ops Q (ops.size - k) s a w
  | [], k, s, a, w, hk, hB, ⟨C, hC, h⟩ => by
    have hl : (ops.toList.drop k).length = ops.size - k := by simp
    have := wpAnyQ_lex (P := P) (C := C) (md := md) hsel (ops.toList.drop k) k s a (by simp) (by rw [hl]; exact hB) h
    rw [hl] at this
    exact wpAny_of_quiet (fun _ w' hw' h => h w' hw') _ _ _ _ hC this
  | n :: ns, k, s, a, w, hk, hB, ⟨C, hC, h⟩ => by
    simp only [phB, Bool.and_eq_true, decide_eq_true_eq] at hB
    obtain ⟨⟨⟨⟨⟨hkn, hn⟩, hs⟩, hc⟩, hi⟩, hlex⟩ := hB
    have hl : ((ops.toList.drop k).take (n - k)).length = n - k := by simp; omega
    have hH := headQ_lex2 (P := P) (C := C) (md := md) (fin := fun s' => decide (Region.ready md ops s' = [n]) && phB md ops ns (n + 1) (s'.setIfInBounds n true)) hsel hs hc hn
      (fun s h => by simp only [Bool.and_eq_true, decide_eq_true_eq] at h; exact h.1) ((ops.toList.drop k).take (n - k)) k s a
      (fun j hj => by rw [List.getElem?_take, if_pos (by omega), List.getElem?_drop]; simp) (by omega) (inv_of hi) (by rw [hl]; exact hlex) h
    rw [hl] at hH
    have e : ops.size - k = (n - k) + (ops.size - n) := by omega
    rw [e]
    refine any_of_headQ (Q := Q) (g := ops.size - n) (fun s' a' w' hw' h' => ?_) _ _ _ _ hC hH
    obtain ⟨h1, h2⟩ := h'
    simp only [Bool.and_eq_true, decide_eq_true_eq] at h1
    have e2 : ops.size - n = (ops.size - (n + 1)) + 1 := by omega
    rw [e2]
    refine ⟨fun e => (by rw [h1.1] at e; cases e), fun i hi => ?_⟩
    rw [h1.1] at hi
    have : i = n := by simpa using hi
    subst this
    have hget : (ops.toList.drop i).take 1 = [ops[i]] := by
      rw [List.drop_eq_getElem_cons (by simpa using hn)]
      simp
    have h3 := h2 w' hw'
    rw [hget] at h3
    exact wpOp_mono (fun a'' w'' h => any_ph hsel ns (i + 1) _ a'' w'' (by omega) h1.2 h) (wpOp_of_list (Array.getElem?_eq_getElem hn) h3)
/-- A region that draws, in phases. -/
theorem wp_region_ph {id : Nat} {Q : Exit → Act → World → Prop} {a : Act} {w : World} {l : List Oper} (ns : List Nat) (hm : P.follows .mixedOrders = true) (hB : (Region.noSelect l.toArray && phB .any l.toArray ns 0 (Array.replicate l.toArray.size false)) = true)
    (h : wpPh P l.toArray Q ns 0 a w.drew) : (Code.region id l.toArray true).wp P Q a w := by
  simp only [Bool.and_eq_true] at hB
  refine wp_region_any hm ?_
  have := any_ph (P := P) (Q := Q) hB.1 ns 0 _ a w.drew (Nat.zero_le _) hB.2 h
  exact this
/-- A phase that is quiet and not the last, where blocks may have been laid. -/
theorem ph_cons {Q : Exit → Act → World → Prop} {a : Act} {w : World} {n k : Nat} {ns : List Nat}
    (h : wpQuiet P ops (fun w' => ∃ p : Regrown, w' = grow (redrawn w p.d) p.os) (fun a' => ∀ w', (∃ p : Regrown, w' = grow (redrawn w p.d) p.os) → wpList P ops (Exit.then (wpPh P ops Q ns (n + 1)) Q) ((ops.toList.drop n).take 1) a' w') ((ops.toList.drop k).take (n - k)) a) : wpPh P ops Q (n :: ns) k a w :=
  ⟨_, ⟨⟨w.drawn, #[]⟩, by rw [grow_empty]; rfl⟩, h⟩
theorem ph_first {Q : Exit → Act → World → Prop} {a : Act} {w : World} {n k : Nat} {ns : List Nat}
    (h : wpQuiet P ops (fun w' => ∃ p : Regrown, w' = grow (redrawn w p.d) p.os) (fun a' => ∀ w', (∃ p : Regrown, w' = grow (redrawn w p.d) p.os) → wpList P ops (Exit.then (wpPh P ops Q ns (n + 1)) Q) ((ops.toList.drop n).take 1) a' w') ((ops.toList.drop k).take (n - k)) a) : wpPh P ops Q (n :: ns) k a w.drew :=
  ⟨_, ⟨⟨w.drawn + 1, #[]⟩, by rw [grow_empty]; rfl⟩, h⟩
theorem ph_nil {Q : Exit → Act → World → Prop} {a : Act} {w : World} {k : Nat}
    (h : wpQuiet P ops (fun w' => ∃ p : Regrown, w' = grow (redrawn w p.d) p.os) (fun a' => ∀ w', (∃ p : Regrown, w' = grow (redrawn w p.d) p.os) → Q .normal a' w') (ops.toList.drop k) a) : wpPh P ops Q [] k a w :=
  ⟨_, ⟨⟨w.drawn, #[]⟩, by rw [grow_empty]; rfl⟩, h⟩
end
end Go.Proofs.Ytohiookmpjeddaa
