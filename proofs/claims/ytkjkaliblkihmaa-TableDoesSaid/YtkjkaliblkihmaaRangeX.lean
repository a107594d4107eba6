/- Ranges over functions: what the caller owns, one cell written. -/
import Derived.Test.YtkjkaliblkihmaaSilentTab
import Derived.Test.YtkjkaliblkihmaaOneFs
namespace Go.Proofs.Ytkjkaliblkihmaa
set_option linter.unusedVariables false
set_option linter.unusedSimpArgs false
open Go Go.RowKit Go.Shelf

theorem keepsFrom_setC {B : Nat} {W X : World} (h : KeepsFrom B W X) {g i : Nat} (v : Value) (hg : g < B) : KeepsFrom B W (X.setCell ⟨g, i, none⟩ v) :=
  ⟨by simp only [World.setCell, World.putObj] at *; have := h.size; simp [World.setCell]; exact this, fun k o hk ho hc => (Below.heap_setCell _ _ _ _ (by simp; omega)).trans (h.same k o hk ho hc)⟩
theorem kpg_setC {G : Nat → Prop} {W X : World} (h : KpG G W X) {g i : Nat} (v : Value) (hg : ¬ G g) : KpG G W (X.setCell ⟨g, i, none⟩ v) :=
  ⟨by have := h.size; simpa [World.setCell] using this, fun k hk hG => (setCell_other (fun e => hg (by have e' : k = g := e; rw [← e']; exact hG))).trans (h.same k hk hG)⟩
theorem OneF.setC {B : Nat} {w0 w : World} {l : List Asr} (h : OneF B w0 w l) (i : Nat) {g j : Nat} {cs : Array Value} {T : TypeId} {fr : Nat × Nat} (hi : l[i]? = some (Blk g (.cells cs T fr))) (v : Value) : OneF B w0 (w.setCell ⟨g, j, none⟩ v) (l.set i (Blk g (.cells (cs.setIfInBounds j v) T fr))) := by
  obtain ⟨F, a, b, c, d⟩ := h
  obtain ⟨F1, h1, h2, h3⟩ := a.get hi
  obtain ⟨e1, rfl⟩ := h1
  have hp : Post (Blk g (.cells (cs.setIfInBounds j v) T fr)) (· = g) w (w.setCell ⟨g, j, none⟩ v) := by
    rw [setCell_setB v e1]
    exact post_setB _ ⟨e1, rfl⟩
  obtain ⟨F', a', k, s⟩ := h3 _ _ hp
  have hg := h2 g rfl
  refine ⟨F', a', fun x hx => (s x hx).elim (b x) (Nat.le_trans c.size), c.then k b, fun x hx => ?_⟩
  by_cases hxg : x = g
  · subst hxg
    refine .inr ⟨.cells (cs.setIfInBounds j v) T fr, ?_, rfl⟩
    rw [setCell_setB v e1]; exact setB_same _ (lt_blk e1)
  · rcases s x hx with hx' | hx'
    · rcases d x hx' with hd | ⟨o, ho, hc⟩
      · exact .inl hd
      · refine .inr ⟨o, ?_, hc⟩
        rw [setCell_setB v e1, setB_other _ _ (Ne.symm hxg)]; exact ho
    · have := a'.lt x hx
      simp [World.setCell] at this
      omega
theorem kpg_alloc {G : Nat → Prop} (w : World) (o : Obj) : KpG G w (w.alloc o) := (kn_alloc w o).toG (fun _ _ h => h)
end Go.Proofs.Ytkjkaliblkihmaa
