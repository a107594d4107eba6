/- A region that draws its order and ends in a communication of one goroutine. -/
import Derived.Test.YtohiookmpjeddaaComm
import Derived.Test.YtohiookmpjeddaaQuietP
namespace Go.Proofs.Ytohiookmpjeddaa
set_option linter.unusedVariables false
set_option linter.unusedSimpArgs false
open Go Go.Conc Go.RowKit Go.Sort

section
variable {P : Program} {ops : Array Oper} {md : Region.Mode} {C : World → Prop} {n : Nat} {Q : Exit → Act → World → Prop}
theorem lin_head {L : Array Bool → Act → Prop} {K : Act → World → Prop} (hL : ∀ s a w, C w → L s a → Region.ready md ops s = [n] ∧ K a w) :
    ∀ (f t : Nat) (s : Array Bool) (a : Act) (w : World), C w → HeadQ P md ops C n L f s a → Region.linearise.go md ops (f + 1) t s [] = (Region.linearise.go md ops (f + 1) t s []).dropLast ++ [n] ∧ wpOps P ops (Exit.then K Q) (Region.linearise.go md ops (f + 1) t s []).dropLast a w := by
  intro f
  induction f with
  | zero =>
    intro t s a w hw h
    obtain ⟨h1, h2⟩ := hL s a w hw h
    have e : Region.linearise.go md ops (0 + 1) t s [] = [n] := by
      simp only [Region.linearise.go]
      change (match (Region.ready md ops s)[t % (Region.ready md ops s).length]? with
        | some i => Region.linearise.go md ops 0 (t / (Region.ready md ops s).length) (s.setIfInBounds i true) [i]
        | none => [].reverse) = _
      rw [h1]
      simp [Nat.mod_one, Region.linearise.go]
    rw [e]
    exact ⟨rfl, h2⟩
  | succ f ih =>
    intro t s a w hw h
    obtain ⟨h0, h1⟩ := h
    have hr : ∃ i, i ∈ Region.ready md ops s ∧ Region.linearise.go md ops (f + 1 + 1) t s [] = i :: Region.linearise.go md ops (f + 1) (t / (Region.ready md ops s).length) (s.setIfInBounds i true) [] := by
      have hlt : t % (Region.ready md ops s).length < (Region.ready md ops s).length := Nat.mod_lt _ (List.length_pos_iff.2 h0)
      refine ⟨(Region.ready md ops s)[t % (Region.ready md ops s).length], List.getElem_mem _, ?_⟩
      conv => lhs; unfold Region.linearise.go
      change (match (Region.ready md ops s)[t % (Region.ready md ops s).length]? with
        | some i => Region.linearise.go md ops (f + 1) (t / (Region.ready md ops s).length) (s.setIfInBounds i true) [i]
        | none => [].reverse) = _
      rw [List.getElem?_eq_getElem hlt]
      simp only []
      rw [linearise_go_acc, List.reverse_singleton, List.singleton_append]
    obtain ⟨i, hi, e⟩ := hr
    obtain ⟨hin, hq⟩ := h1 i hi
    obtain ⟨_, oi, hoi, _⟩ := mem_ready.1 hi
    obtain ⟨v, _, hK⟩ := yieldsIn_of_qOp hoi hq
    obtain ⟨g1, _⟩ := ih (t / (Region.ready md ops s).length) (s.setIfInBounds i true) (a.put oi.dst v) w hw hK
    have e2 : (Region.linearise.go md ops (f + 1 + 1) t s []).dropLast = i :: (Region.linearise.go md ops (f + 1) (t / (Region.ready md ops s).length) (s.setIfInBounds i true) []).dropLast := by
      rw [e]
      exact List.dropLast_cons_of_ne_nil (by rw [g1]; simp)
    refine ⟨?_, ?_⟩
    · rw [e2, e, List.cons_append, ← g1]
    · rw [e2, wpOps_cons]
      exact wpOp_of_qOp hw (fun a' w' hw' hh => (ih _ _ a' w' hw' hh).2) hq
/-- The head is quiet, the last operation, n, is a communication. -/
theorem wp_region_draw_comm {id : Nat} {l : List Oper} {a : Act} {w : World} (n : Nat) {o : Oper} (hn : l[n]? = some o) (hg : o.guard = none) (hm : P.follows .mixedOrders = true) (hl : l.length = n + 1)
    (hB : (Region.noSelect l.toArray && Region.sinkB .any l.toArray n && afterB .any l.toArray n && lexHeadG .any l.toArray (fun s => decide (Region.ready .any l.toArray s = [n])) n 0 (Array.replicate l.toArray.size false)) = true)
    (h : wpQuiet P l.toArray (fun w' => ∃ p : Regrown, w' = grow (redrawn w p.d) p.os) (fun a' => ∀ w', (∃ p : Regrown, w' = grow (redrawn w p.d) p.os) → ∃ v w'', CommAt P o a' w' v w'' ∧ Q .normal (a'.put o.dst v) w'') (l.take n) a) : (Code.region id l.toArray true).wp P Q a w := by
  simp only [Bool.and_eq_true] at hB
  obtain ⟨⟨⟨hsel, hs⟩, hc⟩, hlex⟩ := hB
  have hops : l.toArray[n]? = some o := by simpa using hn
  have hsz : l.toArray.size = n + 1 := by simpa using hl
  have htl : (l.take n).length = n := by simp; omega
  have inv0 : HeadInv .any l.toArray n (Array.replicate l.toArray.size false) :=
    ⟨by simp, fun j oj _ h1 => (by rw [getD_replicate_false] at h1; cases h1), fun t _ ht => getD_in (by simpa using ht) (getD_replicate_false _ _)⟩
  have H := headQ_lex2 (P := P) (C := fun w' => ∃ p : Regrown, w' = grow (redrawn w p.d) p.os) (md := .any) (fin := fun s => decide (Region.ready .any l.toArray s = [n])) hsel hs hc (by omega) (fun s h => by simpa using h)
    (l.take n) 0 _ a (fun j hj => by rw [htl] at hj; simp [hj]) (by simpa using htl) inv0 (by rw [htl]; exact hlex) h
  rw [htl] at H
  intro b k cs
  have hC : ∃ p : Regrown, w.drew = grow (redrawn w p.d) p.os := ⟨⟨w.drawn + 1, #[]⟩, by rw [grow_empty]; rfl⟩
  obtain ⟨t, ht⟩ : ∃ t, step P (lone (b.at a (.code (.region id l.toArray true) :: k)) cs w) = .next (lone (b.at a (.inRegion l.toArray (Region.linearise.go .any l.toArray l.toArray.size t (Array.replicate l.toArray.size false) []) :: k)) cs w.drew) := by
    have := step_region_draw (P := P) (id := id) (ops := l.toArray) (b := b) (a := a) (k := k) (cs := cs) (w := w)
    simp only [Region.schedule, hm, Bool.true_or, if_true] at this
    exact ⟨_, this⟩
  obtain ⟨g1, g2⟩ := lin_head (Q := Q) (K := fun a' w' => ∃ v w'', CommAt P o a' w' v w'' ∧ Q .normal (a'.put o.dst v) w'') (fun s a w' hw h' => ⟨by simpa using h'.1, h'.2 w' hw⟩) n t _ a w.drew hC H
  rw [hsz] at ht
  rw [hsz] at g1 g2
  rw [g1] at ht
  rcases ops_pre [n] _ a w.drew g2 b k cs with ⟨a', w', q, s⟩ | ⟨e, a', w', hne, q, s⟩
  · obtain ⟨v, w'', hcom, hQ⟩ := q
    have hst := hcom l.toArray n [] b k cs hops (by simp [Region.wanted, hg])
    obtain ⟨e, a₂, w₂, hq, harr⟩ := wp_ops (P := P) (ops := l.toArray) (Q := Q) [] (a'.put o.dst v) w'' hQ b k cs
    exact ⟨e, a₂, w₂, hq, .of_steps (.head ht (s.trans (.one hst))) harr⟩
  · refine ⟨e, a', w', ?_, .of_steps (.one ht) s⟩
    cases e with
    | normal => exact absurd rfl hne
    | exit _ => exact q
    | goto _ => exact q
    | ret => exact q
    | panic _ => exact q
    | outgrown => exact q
end
end Go.Proofs.Ytohiookmpjeddaa
