/- What the rows of chapter 16 need of what comes in. -/
import Derived.Test.YtinejaganickpaaTypesHp
import Derived.WideShapes
namespace Go.Proofs.Ytinejaganickpaa
set_option linter.unusedVariables false
open Go Go.RowKit

theorem okWide_array {P : Program} {w : World} {r : Reach} {base t e n : Nat} {v : Value} (ht : P.underlying t = some (.array e n)) (h : Value.okWide P w r base t v) : ∃ cs, v = .agg cs ∧ cs.size = P.cellsOf t := by
  simp only [Value.okWide, ht] at h
  obtain ⟨cs, h1, h2, _⟩ := h
  exact ⟨cs, h1, h2⟩
theorem u8_bd {x : Int} (h : (Lit.int .u8 x).wf = true) : 0 ≤ x ∧ x ≤ 255 := by
  simp [Lit.wf] at h
  rw [show IntKind.u8.min = 0 from rfl, show IntKind.u8.max = 255 from rfl] at h
  omega
theorem ops16_le {W : World} {s : Sl Op16} (h : SlOk (fun x : Op16 => Op16.enc x) 13 W (some 1048576) (fun x : Op16 => Op16.Ok W (some 1048576) x) s) : s.l.length ≤ 1048576 := h.2.2.2.2 1048576 rfl
theorem ops16_sz {W : World} {B : Option Nat} {s : Sl Op16} (h : SlOk (fun x : Op16 => Op16.enc x) 13 W B (fun x : Op16 => Op16.Ok W B x) s) : ∀ x ∈ s.l, x.key.size ≤ maxLen ∧ x.v.value.size ≤ maxLen := fun x hx =>
  ⟨(h.2.1 x hx).2.2.2.2.2.1.1, (h.2.1 x hx).2.2.2.2.2.2.1.2.1.1⟩
theorem u8s_le {W : World} {s : Sl Int} (h : SlOk (fun x : Int => [.int .u8 x]) 1 W (some 1048576) (fun x : Int => (Lit.int .u8 x).wf = true) s) : s.l.length ≤ 1048576 := h.2.2.2.2 1048576 rfl
theorem u8s_bd {W : World} {B : Option Nat} {s : Sl Int} (h : SlOk (fun x : Int => [.int .u8 x]) 1 W B (fun x : Int => (Lit.int .u8 x).wf = true) s) : ∀ x ∈ s.l, 0 ≤ x ∧ x ≤ 255 := fun x hx => u8_bd (h.2.1 x hx)
theorem bools_le {W : World} {s : Sl Bool} (h : SlOk (fun x : Bool => [.bool x]) 1 W (some 1048576) (fun x : Bool => True) s) : s.l.length ≤ 1048576 := h.2.2.2.2 1048576 rfl
end Go.Proofs.Ytinejaganickpaa
