/- Slices that are owned: side by side with the rest. -/
import Derived.Test.YtkjkaliblkihmaaOwn
import Derived.Test.YtkjkaliblkihmaaSlices
import Derived.OwnWalk
namespace Go.Proofs.Ytkjkaliblkihmaa
set_option linter.unusedVariables false
set_option linter.unusedSimpArgs false
open Go Go.RowKit

/-- A slice value whose cells are owned. -/
def RowA (E : TypeId) (sz : Nat) (v : Value) (n : Nat) (xs : List Value) : Asr where
  on := fun w F => w.ownsRow 0 E sz v n xs ∧ F = fun b => v.ownBlock = some b
  keep := fun {w w' F S} ⟨h, e⟩ k hS => ⟨own_step h (fun b hb => k.block b (own_lt h hb) (hS b (by rw [e]; exact hb))), e⟩
  lt := fun ⟨h, e⟩ b hb => by rw [e] at hb; exact own_lt h hb
section
variable {P : Program} {E sz n m : Nat} {v : Value} {xs news : List Value} {w0 w w' : World} {F : Nat → Prop} {l : List Asr}
theorem post_nil (E sz : Nat) (w : World) : Post (RowA E sz (.slice none 0 0) 0 []) (fun _ => False) w w :=
  ⟨_, ⟨own_nil 0 E sz w, rfl⟩, Kp.refl _ _, fun b hb => by cases hb⟩
theorem One.nilRow (h : One w0 w l) (E sz : Nat) : One w0 w (RowA E sz (.slice none 0 0) 0 [] :: l) := h.add (post_nil E sz w)
theorem One.row (h : One w0 w l) (i : Nat) (hi : l[i]? = some (RowA E sz v n xs)) : Sr E sz w v n xs := by
  obtain ⟨F, h1, _⟩ := h.get i hi
  exact Sr.of_own h1.1
theorem post_app {t bytes : Nat} {z : Value} (el : Elt P t E z sz bytes) (ty : TypeId) {s : Value} (h : (RowA E sz v n xs).on w F) (hs : Sr E sz w s m news) (h1 : ∀ u ∈ news, u.oneCell' = true) (h63 : n + m ≤ maxLen) (hbytes : (n + m) * bytes ≤ 140737488355328) :
    ∃ a cap w', (Builtin.append_ #[t, t] ty #[v, s]).run P w = .ok (.slice a (n + m) cap) w' ∧ Post (RowA E sz (.slice a (n + m) cap) (n + m) (xs ++ news)) F w w' := by
  obtain ⟨ho, rfl⟩ := h
  obtain ⟨v', w', hr, ho', hk, hb⟩ := run_app el ty ho hs h1 h63 hbytes
  obtain ⟨a, cap, rfl, _⟩ := (Sr.of_own ho').form
  refine ⟨a, cap, w', hr, _, ⟨ho', rfl⟩, hk, fun b hb' => ?_⟩
  rcases hb with e | e
  · rw [e] at hb'; exact .inl hb'
  · rw [e] at hb'; cases hb'; exact .inr (Nat.le_refl _)
/-- append(v, s...), where v's cells are item i of what is owned. -/
theorem wpList_appO {ops : Array Oper} {rest : List Oper} {o : Oper} {a : Act} {Q : Exit → Act → World → Prop} (d : Tmp) (hd : o.dst = some d) (hgd : o.guard = none) {so xo : Operand} {t ty : TypeId}
    (ho : o.op = .call { callee := .builtin .append, args := #[so, xo], argTypes := #[t, t] }) (hty : o.type = ty) {bytes : Nat} {z : Value} (el : Elt P t E z sz bytes) (h : One w0 w l) (i : Nat) (hi : l[i]? = some (RowA E sz v n xs)) {s : Value}
    (hv : a.eval so = v) (hs : a.eval xo = s) (hr : Sr E sz w s m news) (h1 : ∀ u ∈ news, u.oneCell' = true) (h63 : n + m ≤ maxLen) (hbytes : (n + m) * bytes ≤ 140737488355328)
    (hK : ∀ a1 cap w', One w0 w' (l.set i (RowA E sz (.slice a1 (n + m) cap) (n + m) (xs ++ news))) → wpList P ops Q rest (a.put (some d) (.slice a1 (n + m) cap)) w') : wpList P ops Q (o :: rest) a w := by
  obtain ⟨F, hF, _, h3⟩ := h.get i hi
  obtain ⟨a1, cap, w', hrun, hp⟩ := post_app el ty hF hr h1 h63 hbytes
  exact wpList_app d hd hgd ho hty (by rw [hv, hs]; exact hrun) (hK a1 cap w' (h3 hp))
end
end Go.Proofs.Ytkjkaliblkihmaa
