/- What is owned across a range over a function: rows that grow in its body; the block of what is deferred. -/
import Derived.Test.YtkjkaliblkihmaaRange
import Derived.Test.YtkjkaliblkihmaaLists
import Derived.OwnWalkIn
namespace Go.Proofs.Ytkjkaliblkihmaa
set_option linter.unusedVariables false
set_option linter.unusedSimpArgs false
open Go Go.RowKit Go.Shelf

theorem Stars.get2 : ∀ {l : List Asr} {w : World} {F : Nat → Prop} {i : Nat} {A : Asr}, Stars l w F → l[i]? = some A →
    ∃ F1, A.on w F1 ∧ (∀ b, F1 b → F b) ∧ ∀ w' A' F', A'.on w' F' → Kp F1 w w' → (∀ b, F' b → F1 b ∨ w.heap.size ≤ b) → ∃ F'', Stars (l.set i A') w' F'' ∧ Kp F w w' ∧ ∀ b, F'' b → F' b ∨ (F b ∧ ¬ F1 b)
  | [], _, _, _, _, _, h => by simp at h
  | B :: l, w, F, 0, A, ⟨F1, F2, h1, h2, hd, hF⟩, h => by
    cases h
    refine ⟨F1, h1, fun b hb => (hF b).2 (.inl hb), fun w' A' F' a k s => ⟨fun b => F' b ∨ F2 b, ⟨F', F2, a, h2.keep k (fun b hb h => hd b h hb), fun b hb h2' => ?_, fun b => Iff.rfl⟩, k.mono (fun b hb => (hF b).2 (.inl hb)), fun b hb => ?_⟩⟩
    · rcases s b hb with h | h
      · exact hd b h h2'
      · have := h2.lt b h2'; omega
    · rcases hb with hb | hb
      · exact .inl hb
      · exact .inr ⟨(hF b).2 (.inr hb), fun h1' => hd b h1' hb⟩
  | B :: l, w, F, i + 1, A, ⟨F1, F2, h1, h2, hd, hF⟩, h => by
    obtain ⟨F3, a, hs, hp⟩ := Stars.get2 (i := i) h2 (by simpa using h)
    refine ⟨F3, a, fun b hb => (hF b).2 (.inr (hs b hb)), fun w' A' F' hA' k s => ?_⟩
    obtain ⟨F'', a', k', s'⟩ := hp w' A' F' hA' k s
    refine ⟨fun b => F1 b ∨ F'' b, ⟨F1, F'', B.keep h1 k' (fun b hb h => hd b hb h), a', fun b hb h' => ?_, fun b => Iff.rfl⟩, k'.mono (fun b hb => (hF b).2 (.inr hb)), fun b hb => ?_⟩
    · rcases s' b h' with h | ⟨h, _⟩
      · rcases s b h with h | h
        · exact hd b hb (hs b h)
        · have := B.lt h1 b hb; omega
      · exact hd b hb h
    · rcases hb with hb | hb
      · exact .inr ⟨(hF b).2 (.inl hb), fun h => hd b hb (hs b h)⟩
      · exact (s' b hb).imp id (fun h => ⟨(hF b).2 (.inr h.1), h.2⟩)
section
variable {B : Nat} {w0 w w' : World} {l : List Asr} {A A' : Asr}
/-- Item i turns; what it holds then is cells. -/
theorem OneF.get (h : OneF B w0 w l) (i : Nat) (hi : l[i]? = some A) : ∃ F1, A.on w F1 ∧ (∀ b, F1 b → w0.heap.size ≤ b) ∧ (∀ b, F1 b → b < B ∨ ∃ o, w.heap[b]? = some o ∧ o.isCells = true) ∧
    ∀ {w' A'} F', A'.on w' F' → Kp F1 w w' → (∀ b, F' b → F1 b ∨ w.heap.size ≤ b) → (∀ b, F' b → ∃ o, w'.heap[b]? = some o ∧ o.isCells = true) → OneF B w0 w' (l.set i A') := by
  obtain ⟨F, a, b, c, d⟩ := h
  obtain ⟨F1, h1, hs, hp⟩ := a.get2 hi
  refine ⟨F1, h1, fun x hx => b x (hs x hx), fun x hx => d x (hs x hx), fun {w' A'} F' hA k s hc => ?_⟩
  obtain ⟨F'', a', k', s'⟩ := hp w' A' F' hA k s
  refine ⟨F'', a', fun x hx => ?_, c.then k' b, fun x hx => ?_⟩
  · rcases s' x hx with h | ⟨h, _⟩
    · rcases s x h with h | h
      · exact b x (hs x h)
      · exact Nat.le_trans c.size h
    · exact b x h
  · rcases s' x hx with h | ⟨h, hn⟩
    · exact .inr (hc x h)
    · rcases d x h with h2 | ⟨o, h2, h3⟩
      · exact .inl h2
      · exact .inr ⟨o, k.blk h2 hn, h3⟩
theorem OneF.perm {l' : List Asr} (h : OneF B w0 w l) (p : l.Perm l') : OneF B w0 w l' := let ⟨F, a, b, c, d⟩ := h; ⟨F, Stars.perm p a, b, c, d⟩
theorem OneF.drop (h : OneF B w0 w (A :: l)) : OneF B w0 w l := let ⟨F, ⟨F1, F2, h1, h2, hd, hF⟩, b, c, d⟩ := h; ⟨F2, h2, fun x hx => b x ((hF x).2 (.inr hx)), c, fun x hx => d x ((hF x).2 (.inr hx))⟩
theorem OneF.alloc (h : OneF B w0 w l) (o : Obj) (ho : o.isCells = true) : OneF B w0 (w.alloc o) (Blk w.heap.size o :: l) := by
  obtain ⟨F, a, b, c, d⟩ := h
  refine ⟨fun x => x = w.heap.size ∨ F x, ⟨(· = w.heap.size), F, ⟨heap_alloc_same _ _, rfl⟩, a.keep (kn_alloc w o) (fun _ _ h => h), fun x hx hF => ?_, fun x => Iff.rfl⟩, fun x hx => ?_, c.trans (kn_alloc w o) (fun _ h => h.elim), fun x hx => ?_⟩
  · have := a.lt x hF; omega
  · rcases hx with hx | hx
    · subst hx; exact c.size
    · exact b x hx
  · rcases hx with hx | hx
    · subst hx; exact .inr ⟨o, heap_alloc_same _ _, ho⟩
    · rcases d x hx with h | ⟨o', h1, h2⟩
      · exact .inl h
      · exact .inr ⟨o', (kn_alloc w o).blk h1 id, h2⟩
/-- A block that is no cells lies beside. -/
theorem OneF.addD (h : OneF B w0 w l) {D : Nat} {o : Obj} (hD : w.heap[D]? = some o) (ho : o.isCells = false) (hB : B ≤ D) (h0 : w0.heap.size ≤ B) : One w0 w (Blk D o :: l) := by
  obtain ⟨F, a, b, c, d⟩ := h
  refine ⟨fun x => x = D ∨ F x, ⟨(· = D), F, ⟨hD, rfl⟩, a, fun x hx hF => ?_, fun x => Iff.rfl⟩, fun x hx => ?_, c⟩
  · subst hx
    rcases d x hF with h | ⟨o', h1, h2⟩
    · omega
    · rw [hD] at h1; cases h1; rw [ho] at h2; cases h2
  · rcases hx with hx | hx
    · subst hx; omega
    · exact b x hx
end
/-- A row's block is cells. -/
theorem row_cells {E sz n : Nat} {v : Value} {xs : List Value} {w : World} {F : Nat → Prop} (h : (RowA E sz v n xs).on w F) : ∀ b, F b → ∃ o, w.heap[b]? = some o ∧ o.isCells = true := by
  obtain ⟨⟨_, h⟩, rfl⟩ := h
  intro b hb
  rcases h with ⟨rfl, _⟩ | ⟨g, cap, cur, rfl, _, hh, _⟩
  · cases hb
  · cases hb; exact ⟨_, hh, rfl⟩
/-- A row of what is owned grows. -/
theorem OneF.app {α : Type} {enc : α → List Value} {P : Program} {B E sz n t bytes : Nat} {z : Value} (el : Elt P t E z sz bytes) (ty : TypeId) {w0 w : World} {l : List Asr} {v s : Value} {xs : List Value} {m : List α} (h : OneF B w0 w l) (i : Nat) (hi : l[i]? = some (RowA E sz v n xs))
    (hB : B ≤ w.heap.size) (hv : ∀ x, v.ownBlock = some x → B ≤ x) (hl : ∀ x, (enc x).length = sz) (hs : Rl enc sz w s m) (h1 : ∀ x, ∀ u ∈ enc x, u.oneCell' = true) (h63 : n + m.length ≤ maxLen) (hbytes : (n + m.length) * bytes ≤ 140737488355328) :
    ∃ r w', (Builtin.append_ #[t, t] ty #[v, s]).run P w = .ok r w' ∧ ∃ a1 cap, r = .slice a1 (n + m.length) cap ∧ OneF B w0 w' (l.set i (RowA E sz (.slice a1 (n + m.length) cap) (n + m.length) (xs ++ m.flatMap enc))) ∧ Kp (fun x => v.ownBlock = some x) w w' ∧
      (∀ x, (Value.slice a1 (n + m.length) cap).ownBlock = some x → B ≤ x) ∧ ∀ x, v.ownBlock = some x → x < B ∨ ∃ o, w.heap[x]? = some o ∧ o.isCells = true := by
  obtain ⟨F1, hF, _, hcl, hup⟩ := h.get i hi
  obtain ⟨a1, cap, w', hrun, F', a', k, sub⟩ := post_appL el ty hF hl hs h1 h63 hbytes
  have e1 : F1 = fun b => v.ownBlock = some b := hF.2
  have e2 : F' = fun b => (Value.slice a1 (n + m.length) cap).ownBlock = some b := a'.2
  refine ⟨_, w', hrun, a1, cap, rfl, hup F' a' k sub (row_cells a'), by rw [← e1]; exact k, fun x hx => ?_, fun x hx => hcl x (by rw [e1]; exact hx)⟩
  rcases sub x (by rw [e2]; exact hx) with h | h
  · rw [e1] at h; exact hv x h
  · exact Nat.le_trans hB h
/-- A row of what is owned grows: its run. -/
theorem One.app {α : Type} {enc : α → List Value} {P : Program} {E sz n t bytes : Nat} {z : Value} (el : Elt P t E z sz bytes) (ty : TypeId) {w0 w : World} {l : List Asr} {v s : Value} {xs : List Value} {m : List α} (h : One w0 w l) (i : Nat) (hi : l[i]? = some (RowA E sz v n xs))
    (hl : ∀ x, (enc x).length = sz) (hs : Rl enc sz w s m) (h1 : ∀ x, ∀ u ∈ enc x, u.oneCell' = true) (h63 : n + m.length ≤ maxLen) (hbytes : (n + m.length) * bytes ≤ 140737488355328) :
    ∃ r w', (Builtin.append_ #[t, t] ty #[v, s]).run P w = .ok r w' ∧ ∃ a1 cap, r = .slice a1 (n + m.length) cap ∧ One w0 w' (l.set i (RowA E sz (.slice a1 (n + m.length) cap) (n + m.length) (xs ++ m.flatMap enc))) := by
  obtain ⟨F, hF, _, h3⟩ := h.get i hi
  obtain ⟨a1, cap, w', hrun, hp⟩ := post_appL el ty hF hl hs h1 h63 hbytes
  exact ⟨_, w', hrun, a1, cap, rfl, h3 hp⟩
/-- append at a step of a region that draws, where it is wanted. -/
theorem step_appW {P : Program} {ops : Array Oper} {o : Oper} {a : Act} {w : World} {K : Act → World → Prop} {Q : Exit → Act → World → Prop} {G : Prop} (hw : Region.wanted o (yielded ops a.tmps) = true) {so xo : Operand} {t : TypeId}
    (ho : o.op = .call { callee := .builtin .append, args := #[so, xo], argTypes := #[t, t] }) {v s : Value} (hv : a.eval so = v) (hs : a.eval xo = s) {H : Value → World → Prop}
    (h : ∃ r w', (Builtin.append_ #[t, t] o.type #[v, s]).run P w = .ok r w' ∧ H r w') (hK : ∀ r w', H r w' → K (a.put o.dst r) w') :
    if Region.wanted o (yielded ops a.tmps) = true then Oper.wp P o a w K Q else G := by
  rw [if_pos hw]
  obtain ⟨r, w', hrun, hH⟩ := h
  unfold Oper.wp execOp
  simp only [ho, resolve, invoke, builtin, Sem.run_bind, Sem.run_pure, Result.andThen_ok, List.map_toArray, List.map_cons, List.map_nil, hv, hs, hrun]
  exact hK r w' hH
theorem wpListIn_appX {F : Fence} {n : Nat} {P : Program} {w : World} {ops : Array Oper} {rest : List Oper} {o : Oper} {a : Act} {Q : Exit → Act → World → Prop} (hg : o.guard = none) {so xo : Operand} {t : TypeId}
    (ho : o.op = .call { callee := .builtin .append, args := #[so, xo], argTypes := #[t, t] }) {v s : Value} (hv : a.eval so = v) (hs : a.eval xo = s) {H : Value → World → Prop}
    (h : ∃ r w', (Builtin.append_ #[t, t] o.type #[v, s]).run P w = .ok r w' ∧ H r w') (hK : ∀ r w', H r w' → wpListIn F n P ops Q rest (a.put o.dst r) w') : wpListIn F n P ops Q (o :: rest) a w := by
  refine wpListIn_plain hg fun K hK' => ?_
  obtain ⟨r, w', hrun, hH⟩ := h
  unfold Oper.wpIn
  refine ⟨?_, ?_⟩
  · simp [Oper.about, ho, resolve, Target.leads, Sem.run_pure]
  · rw [Oper.semAt_plain F _ _ (by rw [ho]; intro c hc'; cases hc')]
    simp [execOp, ho, resolve, invoke, builtin, hv, hs, hrun, Result.andThen]
    exact hK' _ _ (hK r w' hH)
end Go.Proofs.Ytkjkaliblkihmaa
