/- What a call leaves, as a list: the words of One, of what came in. -/
import Derived.Test.YtkjkaliblkihmaaLists
namespace Go.Proofs.Ytkjkaliblkihmaa
set_option linter.unusedVariables false
set_option linter.unusedSimpArgs false
open Go Go.RowKit

/-- What is left of the blocks of F: the list l, side by side. -/
def Pw (F : Nat → Prop) (w w' : World) (l : List Asr) : Prop := Post (All l) F w w'
section
variable {F : Nat → Prop} {w w' w'' : World} {l : List Asr} {A B : Asr}
theorem all_single (h : A.on w F) : (All [A]).on w F := ⟨F, fun _ => False, h, fun _ h => h, fun _ _ h => h, fun b => ⟨.inl, fun h => h.elim id False.elim⟩⟩
theorem single_all (h : (All [A]).on w F) : A.on w F := by
  obtain ⟨F1, F2, h1, h2, _, hF⟩ := h
  have : F = F1 := funext fun b => propext ((hF b).trans ⟨fun h => h.elim id (fun h => (h2 b h).elim), .inl⟩)
  rw [this]; exact h1
theorem Pw.start (h : (All l).on w F) : Pw F w w l := Post.same h (Kp.refl _ _)
theorem Pw.one (h : A.on w F) : Pw F w w [A] := Pw.start (all_single h)
theorem Pw.kp (h : Pw F w w' l) : Kp F w w' := Post.kp h
theorem Pw.kn (h : Pw F w w' l) (k : KN w' w'') : Pw F w w'' l := Post.kn h k
theorem Pw.get (h : Pw F w w' l) (i : Nat) (hi : l[i]? = some A) : ∃ F1, A.on w' F1 ∧ (∀ b, F1 b → F b ∨ w.heap.size ≤ b) ∧ ∀ {w''} {A' : Asr}, Post A' F1 w' w'' → Pw F w w'' (l.set i A') := by
  obtain ⟨F', a, k, s⟩ := h
  obtain ⟨F1, h1, h2, h3⟩ := Stars.get a hi
  refine ⟨F1, h1, fun b hb => s b (h2 b hb), fun {w'' A'} hp => ?_⟩
  obtain ⟨F2, a2, k2, s2⟩ := h3 w'' A' hp
  refine ⟨F2, a2, k.trans k2 s, fun b hb => ?_⟩
  rcases s2 b hb with h | h
  · exact s b h
  · exact .inr (Nat.le_trans k.size h)
theorem Pw.add (h : Pw F w w' l) (hn : Post B (fun _ => False) w' w'') : Pw F w w'' (B :: l) := by
  obtain ⟨F', a, k, s⟩ := h
  obtain ⟨F2, a2, k2, s2⟩ := hn
  refine ⟨fun b => F2 b ∨ F' b, ⟨F2, F', a2, Stars.keep a k2 (fun _ _ h => h), fun b h1 h2 => ?_, fun b => Iff.rfl⟩, k.trans k2 (fun _ h => h.elim), fun b hb => ?_⟩
  · rcases s2 b h1 with h | h
    · exact h
    · have := Stars.lt a b h2; omega
  · rcases hb with hb | hb
    · rcases s2 b hb with h | h
      · exact h.elim
      · exact .inr (Nat.le_trans k.size h)
    · exact s b hb
theorem Pw.perm {l' : List Asr} (h : Pw F w w' l) (p : l.Perm l') : Pw F w w' l' := Post.imp h fun F' h' => Stars.perm p h'
theorem Pw.drop (h : Pw F w w' (A :: l)) : Pw F w w' l := by
  obtain ⟨F', ⟨F1, F2, h1, h2, hd, hF⟩, k, s⟩ := h
  exact ⟨F2, h2, k, fun b hb => s b ((hF b).2 (.inr hb))⟩
theorem Pw.alloc (h : Pw F w w' l) (o : Obj) : Pw F w (w'.alloc o) (Blk w'.heap.size o :: l) := h.add (post_blk w' o)
theorem Pw.blk (h : Pw F w w' l) (i : Nat) {g : Nat} {o : Obj} (hi : l[i]? = some (Blk g o)) : w'.heap[g]? = some o := by
  obtain ⟨F1, ⟨h1, _⟩, _⟩ := h.get i hi
  exact h1
theorem Pw.setC (h : Pw F w w' l) (i : Nat) {g j : Nat} {cs : Array Value} {T : TypeId} {fr : Nat × Nat} (hi : l[i]? = some (Blk g (.cells cs T fr))) (v : Value) : Pw F w (w'.setCell ⟨g, j, none⟩ v) (l.set i (Blk g (.cells (cs.setIfInBounds j v) T fr))) := by
  obtain ⟨F1, h1, _, hup⟩ := h.get i hi
  have e := setCell_setB (i := j) v h1.1
  rw [e]
  exact hup (post_setB _ h1)
theorem Pw.nilRow (h : Pw F w w' l) (E sz : Nat) : Pw F w w' (RowA E sz (.slice none 0 0) 0 [] :: l) := h.add (post_nil E sz w')
theorem Pw.flat {l1 : List Asr} (h : Pw F w w' (All l1 :: l)) : Pw F w w' (l1 ++ l) := Post.imp h fun F' ⟨F1, F2, h1, h2, hd, hF⟩ => Stars.join h1 h2 hd hF
theorem Pw.group {l1 l2 : List Asr} (h : Pw F w w' (l1 ++ l2)) : Pw F w w' (All l1 :: l2) := Post.imp h fun F' h' => Stars.cut h'
theorem Pw.post (h : Pw F w w' [A]) : Post A F w w' := Post.imp h fun F' h' => single_all h'
theorem Pw.postAll (h : Pw F w w' l) : Post (All l) F w w' := h
theorem Pw.imp (h : Pw F w w' (A :: l)) (hi : ∀ F', A.on w' F' → B.on w' F') : Pw F w w' (B :: l) := Post.imp h fun F' ⟨F1, F2, h1, h2, hd, hF⟩ => ⟨F1, F2, hi _ h1, h2, hd, hF⟩
theorem Pw.lift {P : Program} {f : FuncId} {args : Array Value} {r : Ending} {A' : Asr} (h : Pw F w w' l) (i : Nat) (hi : l[i]? = some A) (hc : ∀ F, A.on w' F → Calls P f args w' fun e w'' => e = r ∧ Post A' F w' w'') :
    Calls P f args w' fun e w'' => e = r ∧ Pw F w w'' (l.set i A') := by
  obtain ⟨F1, h1, _, h3⟩ := h.get i hi
  exact (hc F1 h1).mono fun e w' ⟨he, hp⟩ => ⟨he, h3 hp⟩
/-- A row of what is left grows: its run. -/
theorem Pw.app {α : Type} {enc : α → List Value} {P : Program} {E sz n t bytes : Nat} {z : Value} (el : Elt P t E z sz bytes) (ty : TypeId) {v s : Value} {xs : List Value} {m : List α} (h : Pw F w w' l) (i : Nat) (hi : l[i]? = some (RowA E sz v n xs))
    (hl : ∀ x, (enc x).length = sz) (hs : Rl enc sz w' s m) (h1 : ∀ x, ∀ u ∈ enc x, u.oneCell' = true) (h63 : n + m.length ≤ maxLen) (hbytes : (n + m.length) * bytes ≤ 140737488355328) :
    ∃ r w'', (Builtin.append_ #[t, t] ty #[v, s]).run P w' = .ok r w'' ∧ ∃ a1 cap, r = .slice a1 (n + m.length) cap ∧ Pw F w w'' (l.set i (RowA E sz (.slice a1 (n + m.length) cap) (n + m.length) (xs ++ m.flatMap enc))) := by
  obtain ⟨F1, hF, _, h3⟩ := h.get i hi
  obtain ⟨a1, cap, w2, hrun, hp⟩ := post_appL el ty hF hl hs h1 h63 hbytes
  exact ⟨_, w2, hrun, a1, cap, rfl, h3 hp⟩
end
/-- append in a list of operations, from its run. -/
theorem wpList_appX {P : Program} {ops : Array Oper} {rest : List Oper} {o : Oper} {a : Act} {w : World} {Q : Exit → Act → World → Prop} (d : Tmp) (hd : o.dst = some d) (hgd : o.guard = none) {so xo : Operand} {t ty : TypeId}
    (ho : o.op = .call { callee := .builtin .append, args := #[so, xo], argTypes := #[t, t] }) (hty : o.type = ty) {v s : Value} (hv : a.eval so = v) (hs : a.eval xo = s) {H : Value → World → Prop}
    (h : ∃ r w', (Builtin.append_ #[t, t] ty #[v, s]).run P w = .ok r w' ∧ H r w') (hK : ∀ r w', H r w' → wpList P ops Q rest (a.put (some d) r) w') : wpList P ops Q (o :: rest) a w := by
  obtain ⟨r, w', hrun, hH⟩ := h
  exact wpList_app d hd hgd ho hty (by rw [hv, hs]; exact hrun) (hK r w' hH)
end Go.Proofs.Ytkjkaliblkihmaa
