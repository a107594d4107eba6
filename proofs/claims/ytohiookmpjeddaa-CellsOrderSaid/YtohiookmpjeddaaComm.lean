/- A communication of one goroutine (a send with room, a receive that finds something, a select of one case with a default) as one operation of a region, for the walk's 'Code.wp'. -/
import Derived.Conc.LoneSelect
import Derived.WalkKit
namespace Go.Proofs.Ytohiookmpjeddaa
set_option linter.unusedVariables false
set_option linter.unusedSimpArgs false
open Go Go.Conc Go.RowKit

/-- The operation comes, in one step of the machine of one goroutine, to the value v and the world w', wherever it stands. -/
def CommAt (P : Program) (o : Oper) (a : Act) (w : World) (v : Value) (w' : World) : Prop :=
  ∀ (ops : Array Oper) (i : Nat) (rest : List Nat) (b : Frame) (k : List Item) (cs : List Frame), ops[i]? = some o → Region.wanted o (yielded ops a.tmps) = true →
    step P (lone (b.at a (.inRegion ops (i :: rest) :: k)) cs w) = .next (lone (b.at (a.put o.dst v) (.inRegion ops rest :: k)) cs w')

section
variable {P : Program} {b : Frame} {a : Act} {k : List Item} {cs : List Frame} {w : World} {ops : Array Oper}

theorem commG {i : Nat} {rest : List Nat} {o : Oper} {cases : Array CommCase} {blocking : Bool} {shape : CommShape} {w₁ : World} (ho : ops[i]? = some o)
    (hw : Region.wanted o (yielded ops a.tmps) = true) (hr : (execOp a.eval o).run P w = .ok (.comm cases blocking shape) w₁) :
    ∃ es, stepG P true (G (b.at a (.inRegion ops (i :: rest) :: k)) cs) w = .comm (G (b.at a (.inRegion ops (i :: rest) :: k)) cs) cases blocking shape w₁ es := by
  have h := stepG_op (P := P) (b := b) (k := k) (cs := cs) (w := w) (rest := rest) ho hw
  rw [show G (b.at a (.inRegion ops (i :: rest) :: k)) cs = { frame := b.at a (.inRegion ops (i :: rest) :: k), callers := cs, status := .running, dying := none } from rfl, h]
  simp only [stepG.apply, Sem.runT_eq, if_true, hr]
  exact ⟨_, rfl⟩

theorem finish_put {i : Nat} {rest : List Nat} {o : Oper} (ho : ops[i]? = some o) (v : Value) : (b.at a (.inRegion ops (i :: rest) :: k)).finish v = b.at (a.put o.dst v) (.inRegion ops rest :: k) := by
  rw [Frame.finish_at, ho]; rfl
end

section
variable {P : Program} {o : Oper} {a : Act} {w : World} {c cap s r : Nat} {buf : Array Value} {z v : Value} {tm closed : Bool}

theorem commSendRoom (hr : (execOp a.eval o).run P w = .ok (.comm #[scase c v z] false .select) w) (hc : w.heap[c]? = some (.chan cap buf false s r tm)) (hroom : buf.size < cap) :
    CommAt P o a w (.tuple #[goInt 0, .bool false]) (w.setChan c cap (buf.push v) false (s + 1) r tm) := by
  intro ops i rest b k cs ho hw
  obtain ⟨es, h⟩ := commG (b := b) (k := k) (cs := cs) (rest := rest) ho hw hr
  have := step_lone_select_send_room h hc hroom
  rw [finish_put ho] at this
  exact this

theorem commSendFull (hr : (execOp a.eval o).run P w = .ok (.comm #[scase c v z] false .select) w) (hc : w.heap[c]? = some (.chan cap buf false s r tm)) (hfull : cap ≤ buf.size) :
    CommAt P o a w (.tuple #[goInt (-1), .bool false]) w := by
  intro ops i rest b k cs ho hw
  obtain ⟨es, h⟩ := commG (b := b) (k := k) (cs := cs) (rest := rest) ho hw hr
  have := step_lone_select_send_full h hc hfull
  rw [finish_put ho] at this
  exact this

theorem commRecvSome (hr : (execOp a.eval o).run P w = .ok (.comm #[rcase c z] false .select) w) (hc : w.heap[c]? = some (.chan cap buf closed s r tm)) (hsome : 0 < buf.size) :
    CommAt P o a w (.tuple #[goInt 0, .bool true, buf.getD 0 undef]) (w.setChan c cap (buf.extract 1 buf.size) closed s (r + 1) tm) := by
  intro ops i rest b k cs ho hw
  obtain ⟨es, h⟩ := commG (b := b) (k := k) (cs := cs) (rest := rest) ho hw hr
  have := step_lone_select_recv_buf h hc hsome
  rw [finish_put ho] at this
  exact this

theorem commRecvNone (hr : (execOp a.eval o).run P w = .ok (.comm #[rcase c z] false .select) w) (hc : w.heap[c]? = some (.chan cap #[] false s r tm)) :
    CommAt P o a w (.tuple #[goInt (-1), .bool false, z]) w := by
  intro ops i rest b k cs ho hw
  obtain ⟨es, h⟩ := commG (b := b) (k := k) (cs := cs) (rest := rest) ho hw hr
  have := step_lone_select_default h hc
  rw [finish_put ho] at this
  exact this

theorem commSend (hr : (execOp a.eval o).run P w = .ok (.comm #[scase c v z] true .send) w) (hc : w.heap[c]? = some (.chan cap buf false s r tm)) (hroom : buf.size < cap) :
    CommAt P o a w undef (w.setChan c cap (buf.push v) false (s + 1) r tm) := by
  intro ops i rest b k cs ho hw
  obtain ⟨es, h⟩ := commG (b := b) (k := k) (cs := cs) (rest := rest) ho hw hr
  have := step_lone_send_room h hc hroom
  rw [finish_put ho] at this
  exact this

theorem commRecv (hr : (execOp a.eval o).run P w = .ok (.comm #[rcase c z] true (.recv false)) w) (hc : w.heap[c]? = some (.chan cap buf closed s r tm)) (hsome : 0 < buf.size) :
    CommAt P o a w (buf.getD 0 undef) (w.setChan c cap (buf.extract 1 buf.size) closed s (r + 1) tm) := by
  intro ops i rest b k cs ho hw
  obtain ⟨es, h⟩ := commG (b := b) (k := k) (cs := cs) (rest := rest) ho hw hr
  have := step_lone_recv_buf false h hc hsome
  rw [finish_put ho] at this
  exact this
end

section
variable {P : Program} {ops : Array Oper} {Q : Exit → Act → World → Prop}

/-- The first operations of a region: the rest stands behind them, or the region has been left. -/
theorem ops_pre (rest0 : List Nat) (l : List Nat) :
    ∀ (a : Act) (w : World), wpOps P ops Q l a w → ∀ (b : Frame) (k : List Item) (cs : List Frame),
      (∃ a' w', Q .normal a' w' ∧ Steps P (lone (b.at a (.inRegion ops (l ++ rest0) :: k)) cs w) (lone (b.at a' (.inRegion ops rest0 :: k)) cs w')) ∨
      ∃ e a' w', e ≠ .normal ∧ Q e a' w' ∧ Arrives P (lone (b.at a (.inRegion ops (l ++ rest0) :: k)) cs w) b k cs e a' w' := by
  induction l with
  | nil => exact fun a w h b k cs => .inl ⟨a, w, h, Steps.refl _ _⟩
  | cons i rest ih =>
    intro a w h b k cs
    have lift : ∀ {m : Machine} {a₁ : Act} {w₁ : World}, wpOps P ops Q rest a₁ w₁ → Steps P m (lone (b.at a₁ (.inRegion ops (rest ++ rest0) :: k)) cs w₁) →
        (∃ a' w', Q .normal a' w' ∧ Steps P m (lone (b.at a' (.inRegion ops rest0 :: k)) cs w')) ∨
        ∃ e a' w', e ≠ .normal ∧ Q e a' w' ∧ Arrives P m b k cs e a' w' := by
      intro m a₁ w₁ h₁ hs
      rcases ih a₁ w₁ h₁ b k cs with ⟨a', w', q, s⟩ | ⟨e, a', w', hne, q, s⟩
      · exact .inl ⟨a', w', q, hs.trans s⟩
      · exact .inr ⟨e, a', w', hne, q, .of_steps hs s⟩
    simp only [wpOps] at h
    simp only [List.cons_append]
    cases ho : ops[i]? with
    | none =>
      simp only [ho] at h
      have hs := step_op_skip (P := P) (b := b) (a := a) (k := k) (cs := cs) (w := w) (ops := ops) (i := i) (rest := rest ++ rest0) (by simp [ho])
      simp only [ho, Option.bind_none, Act.put] at hs
      exact lift h (.one hs)
    | some o =>
      simp only [ho] at h
      by_cases hw : Region.wanted o (yielded ops a.tmps) = true
      · simp only [hw, if_true] at h
        rcases h with h | ⟨hasks, a₀, w₀, hq⟩
        case inr =>
          by_cases hk : b.kind = .early
          · exact .inr ⟨.outgrown, a₀, w₀, by simp, hq, .inl hk⟩
          · exact .inr ⟨.outgrown, a₀, w₀, by simp, hq, .inr (asks_outgrown ho hw hk hasks)⟩
        simp only [Oper.wp, Oper.upon] at h
        have hg := stepG_op (P := P) (b := b) (k := k) (cs := cs) (w := w) (rest := rest ++ rest0) ho hw
        have hfin : ∀ v, (b.at a (.inRegion ops (i :: (rest ++ rest0)) :: k)).finish v = b.at (a.put o.dst v) (.inRegion ops (rest ++ rest0) :: k) := fun v => finish_put ho v
        split at h
        · rename_i v w' hr
          exact lift h (.one (step_lone_go (by rw [hg, ← hfin]; simp [stepG.apply, hr])))
        · rename_i w' hr
          exact lift h (.one (step_lone_go (by rw [hg, ← hfin]; simp [stepG.apply, hr])))
        · rename_i d w' hr
          refine lift h (.one (step_lone_go ?_))
          have : ({ b.at a (.inRegion ops (i :: (rest ++ rest0)) :: k) with defers := d :: a.defers } : Frame).finish undef =
              b.at ({ a with defers := d :: a.defers }.put o.dst undef) (.inRegion ops (rest ++ rest0) :: k) := by
            have := Frame.finish_at b { a with defers := d :: a.defers } ops i (rest ++ rest0) k undef
            rw [ho] at this; exact this
          rw [hg]; simp only [stepG.apply, Sem.runT_eq, hr, GStep.bare_after]
          exact congrArg (fun fr => GStep.go { frame := fr, callers := cs, status := .running, dying := none } w') this
        · rename_i f args w' hr
          obtain ⟨e, w'', fr, hR, hsteps, _, hleave⟩ := h (b.at a (.inRegion ops (i :: (rest ++ rest0)) :: k) :: cs)
          have henter : step P (lone (b.at a (.inRegion ops (i :: (rest ++ rest0)) :: k)) cs w) =
              .next (lone (Frame.enter P f args .normal) (b.at a (.inRegion ops (i :: (rest ++ rest0)) :: k) :: cs) w') :=
            step_lone_go (by rw [hg]; simp [stepG.apply, hr, Frame.at])
          cases e with
          | returned v =>
            refine lift hR (.head henter (hsteps.trans (.one ?_)))
            rw [← hfin]; exact step_leave_returned hleave
          | panicked chain =>
            refine .inr ⟨.panic chain, a, w'', by simp, hR, .inRegion ops (i :: (rest ++ rest0)) :: k, .head henter (hsteps.trans (.one ?_))⟩
            rw [← Frame.raise_at]; exact step_leave_panicked hleave
          | outgrown =>
            obtain ⟨a₀, w₀, hq⟩ := hR
            exact .inr ⟨.outgrown, a₀, w₀, by simp, hq, .inr (Outgrown.of_steps (.one henter) hsteps)⟩
        · rename_i row args w' hr
          obtain ⟨v, w'', hR, hsteps⟩ := h (b.at a (.inRegion ops (i :: (rest ++ rest0)) :: k)) cs
          have henter : step P (lone (b.at a (.inRegion ops (i :: (rest ++ rest0)) :: k)) cs w) =
              .next (lone (Frame.ofRow P row args .normal) (b.at a (.inRegion ops (i :: (rest ++ rest0)) :: k) :: cs) w') :=
            step_lone_go (by rw [hg]; simp [stepG.apply, hr, Frame.at])
          refine lift hR (.head henter ?_)
          rw [← hfin]; exact hsteps
        · rename_i v w' hr
          refine .inr ⟨_, a, w', by simp, h, .inRegion ops (i :: (rest ++ rest0)) :: k, .one (step_lone_go ?_)⟩
          rw [hg, ← Frame.raise_at]; simp [stepG.apply, hr]
        · exact h.elim
      · simp only [hw, if_false, Bool.false_eq_true] at h
        have hs := step_op_skip (P := P) (b := b) (a := a) (k := k) (cs := cs) (w := w) (ops := ops) (i := i) (rest := rest ++ rest0) (by simp [ho]; simpa using hw)
        simp only [ho, Option.bind_some] at hs
        exact lift h (.one hs)

theorem wpOps_take (l : List Oper) : ∀ k, (∀ j, j < l.length → l[j]? = ops[k + j]?) → wpOps P ops Q (List.range' k l.length) = wpList P ops Q l := by
  induction l with
  | nil => intro k _; funext a w; simp [wpOps, wpList]
  | cons o l ih =>
    intro k h
    have h0 : ops[k]? = some o := by simpa using (h 0 (by simp)).symm
    have ih' := ih (k + 1) (fun j hj => by have := h (j + 1) (by simp; omega); simpa [Nat.add_assoc, Nat.add_comm 1 j] using this)
    funext a w
    simp only [List.length_cons, List.range'_succ, wpOps, h0, wpList, ih']

/-- A region with a communication as its operation n. -/
theorem wp_region_comm {id : Nat} {l : List Oper} {a : Act} {w : World} (n : Nat) {o : Oper} (hn : l[n]? = some o) (hg : o.guard = none)
    (h : wpList P l.toArray (Exit.then (fun a' w' => ∃ v w'', CommAt P o a' w' v w'' ∧ wpList P l.toArray Q (l.drop (n + 1)) (a'.put o.dst v) w'') Q) (l.take n) a w) :
    (Code.region id l.toArray false).wp P Q a w := by
  obtain ⟨hlt, hget⟩ := List.getElem?_eq_some_iff.1 hn
  have hops : l.toArray[n]? = some o := by simpa using hn
  intro b k cs
  have hr : List.range l.toArray.size = List.range' 0 (l.take n).length ++ n :: List.range' (n + 1) (l.drop (n + 1)).length := by
    have h2 : n :: List.range' (n + 1) (l.drop (n + 1)).length = List.range' n (l.length - n) := by
      rw [show l.length - n = (l.length - (n + 1)) + 1 from by omega, List.range'_succ]
      simp
    rw [h2, List.range_eq_range', List.length_take, Nat.min_eq_left (by omega), List.size_toArray]
    have h3 := List.range'_append_1 (s := 0) (m := n) (n := l.length - n)
    rw [Nat.zero_add, show n + (l.length - n) = l.length by omega] at h3
    exact h3.symm
  rw [← wpOps_take (l.take n) 0 (fun j hj => by simp at hj ⊢; rw [List.getElem?_take, if_pos (by omega)])] at h
  have start : step P (lone (b.at a (.code (.region id l.toArray false) :: k)) cs w) = .next (lone (b.at a (.inRegion l.toArray (List.range l.toArray.size) :: k)) cs w) := step_region
  rw [hr] at start
  rcases ops_pre (n :: List.range' (n + 1) (l.drop (n + 1)).length) _ a w h b k cs with ⟨a', w', q, s⟩ | ⟨e, a', w', hne, q, s⟩
  · obtain ⟨v, w'', hcom, hrest⟩ := q
    have hst := hcom l.toArray n (List.range' (n + 1) (l.drop (n + 1)).length) b k cs hops (by simp [Region.wanted, hg])
    rw [← wpOps_eq_wpList (l.drop (n + 1)) (n + 1) (fun j => by simp)] at hrest
    obtain ⟨e, a₂, w₂, hq, harr⟩ := wp_ops _ _ _ hrest b k cs
    exact ⟨e, a₂, w₂, hq, .of_steps (.head start (s.trans (.one hst))) harr⟩
  · refine ⟨e, a', w', ?_, .of_steps (.one start) s⟩
    cases e with
    | normal => exact absurd rfl hne
    | exit _ => exact q
    | goto _ => exact q
    | ret => exact q
    | panic _ => exact q
    | outgrown => exact q
/-- Is it a communication? -/
def isComm : Oper → Bool
  | ⟨_, .select _ _, _, _, _, none⟩ => true
  | ⟨_, .send _ _, _, _, _, none⟩ => true
  | ⟨_, .recv _ _ _, _, _, _, none⟩ => true
  | _ => false
/-- The same, where operation n is a communication: '(with_reducible refine wp_comm n (by with_unfolding_all rfl) ?_)'. -/
theorem wp_comm {id : Nat} {l : List Oper} {a : Act} {w : World} (n : Nat) (hn : (l[n]?).any isComm = true)
    (h : wpList P l.toArray (Exit.then (fun a' w' => ∃ v w'', CommAt P (l.getD n default) a' w' v w'' ∧ wpList P l.toArray Q (l.drop (n + 1)) (a'.put (l.getD n default).dst v) w'') Q) (l.take n) a w) :
    (Code.region id l.toArray false).wp P Q a w := by
  obtain ⟨o, ho, hc⟩ := Option.any_eq_true_iff_get _ _ |>.1 hn |> fun ⟨h1, h2⟩ => (⟨(l[n]?).get h1, by simp, h2⟩ : ∃ o, l[n]? = some o ∧ isComm o = true)
  have hd : l.getD n default = o := by simp [List.getD, ho]
  rw [hd] at h
  refine wp_region_comm n ho ?_ h
  unfold isComm at hc
  split at hc <;> first | rfl | cases hc
end
end Go.Proofs.Ytohiookmpjeddaa
