/- append at a step of a region that draws its order. -/
import Derived.Test.YtghmgmchfcbodaaLists
import Derived.Deep.AppendLies
import Derived.Deep.RegionLaw
namespace Go.Proofs.Ytghmgmchfcbodaa
set_option linter.unusedVariables false
set_option linter.unusedSimpArgs false
open Go Go.RowKit
section
variable {α : Type} {enc : α → List Value} {P : Program} {E sz n : Nat} {v : Value} {w0 w w' : World} {xs : List Value} {A : List Asr}
theorem wp_appL {o : Oper} {a : Act} {K : Act → World → Prop} {Q : Exit → Act → World → Prop} {so xo : Operand} {t : TypeId}
    (ho : o.op = .call { callee := .builtin .append, args := #[so, xo], argTypes := #[t, t] }) {bytes : Nat} {z : Value} (el : Elt P t E z sz bytes) (h : One w0 w A) (i : Nat) (hi : A[i]? = some (RowA E sz v n xs)) {s : Value} {l : List α}
    (hv : a.eval so = v) (hs : a.eval xo = s) (hl : ∀ x, (enc x).length = sz) (hr : Rl enc sz w s l) (h1 : ∀ x, ∀ u ∈ enc x, u.oneCell' = true) (h63 : n + l.length ≤ maxLen) (hbytes : (n + l.length) * bytes ≤ 140737488355328)
    (hK : ∀ a1 cap w', One w0 w' (A.set i (RowA E sz (.slice a1 (n + l.length) cap) (n + l.length) (xs ++ l.flatMap enc))) → K (a.put o.dst (.slice a1 (n + l.length) cap)) w') : o.wp P a w K Q := by
  obtain ⟨F, hF, _, h3⟩ := h.get i hi
  obtain ⟨a1, cap, w', hrun, hp⟩ := post_appL el o.type hF hl hr h1 h63 hbytes
  unfold Oper.wp execOp
  simp only [ho, resolve, invoke, builtin, Sem.run_bind, Sem.run_pure, Result.andThen_ok, List.map_toArray, List.map_cons, List.map_nil, hv, hs, hrun]
  exact hK a1 cap w' (h3 hp)
theorem step_appL {ops : Array Oper} {o : Oper} {a : Act} {K : Act → World → Prop} {Q : Exit → Act → World → Prop} {G : Prop} (hgd : o.guard = none) {so xo : Operand} {t : TypeId}
    (ho : o.op = .call { callee := .builtin .append, args := #[so, xo], argTypes := #[t, t] }) {bytes : Nat} {z : Value} (el : Elt P t E z sz bytes) (h : One w0 w A) (i : Nat) (hi : A[i]? = some (RowA E sz v n xs)) {s : Value} {l : List α}
    (hv : a.eval so = v) (hs : a.eval xo = s) (hl : ∀ x, (enc x).length = sz) (hr : Rl enc sz w s l) (h1 : ∀ x, ∀ u ∈ enc x, u.oneCell' = true) (h63 : n + l.length ≤ maxLen) (hbytes : (n + l.length) * bytes ≤ 140737488355328)
    (hK : ∀ a1 cap w', One w0 w' (A.set i (RowA E sz (.slice a1 (n + l.length) cap) (n + l.length) (xs ++ l.flatMap enc))) → K (a.put o.dst (.slice a1 (n + l.length) cap)) w') :
    if Region.wanted o (yielded ops a.tmps) = true then Oper.wp P o a w K Q else G := by
  have hw : Region.wanted o (yielded ops a.tmps) = true := by simp [Region.wanted, hgd]
  rw [if_pos hw]
  exact wp_appL ho el h i hi hv hs hl hr h1 h63 hbytes hK
end
end Go.Proofs.Ytghmgmchfcbodaa
