/- Arenas of texts: slices.Clone of the slots. -/
import Derived.Test.YthbiohfnnjbbgaaArenaAl
import Derived.WalkSpells
import Derived.Great.BuildSlice
namespace Go.Proofs.Ythbiohfnnjbbgaa
set_option linter.unusedVariables false
set_option linter.unusedSimpArgs false
open Go Go.RowKit

theorem row_blk {α : Type} {enc : α → List Value} {E sz n : Nat} {a : Option Addr} {cap : Nat} {l : List α} {w : World} {F : Nat → Prop} (h : (RowA E sz (.slice a n cap) n (l.flatMap enc)).on w F) (hl : ∀ x, (enc x).length = sz) (hn : l.length = n) (h0 : 0 < n) :
    ∃ g cx cur, a = some ⟨g, 0, none⟩ ∧ cap = n + cx ∧ Arr enc sz cur l ∧ (Blk g (.cells cur E)).on w F := by
  obtain ⟨⟨_, h⟩, rfl⟩ := h
  rcases h with ⟨h1, _⟩ | ⟨g, cap', cur, h1, _, hb, hc, hm, hs, ht⟩
  · injection h1 with _ h2; omega
  · injection h1 with h1 h2 h3
    subst h1; subst h3
    refine ⟨g, cap - n, cur, rfl, by omega, ⟨?_, fun i x hx j hj => ?_⟩, hb, ?_⟩
    · rw [hs, hn]; exact Nat.mul_le_mul_right _ hc
    · have h4 := flat_at hl l i x hx j hj
      have hi := (List.getElem?_eq_some_iff.1 hx).1
      rw [← h4, ← ht]
      have h3 : i * sz + j < n * sz := by
        rw [← hn]
        exact idx_lt hi hj
      rw [List.getElem?_take, if_pos h3]
      simp
    · funext b
      simp [Value.ownBlock]
      exact eq_comm
theorem enS_one (s : Slot ByteArray) : ∀ u ∈ enS s, u.oneCell' = true := by
  intro u hu
  simp only [enS, List.mem_cons, List.not_mem_nil, or_false] at hu
  rcases hu with h | h | h <;> subst h <;> rfl
def GaveSl (l : List (Slot ByteArray)) (w : World) (e : Ending) (w' : World) : Prop :=
  ∃ g cx cur, e = .returned (.slice (some ⟨g, 0, none⟩) l.length (l.length + cx)) ∧ Arr enS 3 cur l ∧ Post (Blk g (.cells cur 84)) (fun _ => False) w w'
theorem post_empty (E sz : Nat) (w : World) : Post (RowA E sz (.slice (some ⟨w.heap.size, 0, none⟩) 0 0) 0 []) (fun _ => False) w (w.alloc (.cells #[] E)) :=
  post_newrow E sz w [] 0 (by simp) (by decide)
set_option maxRecDepth 100000 in
set_option maxHeartbeats 1000000 in
theorem sclone_S {w : World} {v : Value} {l : List (Slot ByteArray)} (hr : Rl enS 3 w v l) (h0 : 0 < l.length) (hm : l.length ≤ 65536) : Calls Try.prog 43 #[v] w (GaveSl l w) := by
  obtain ⟨a, cap, rfl, hc, hrd⟩ := hr
  obtain ⟨b, off, rfl, _⟩ := hrd.at (i := 0) (List.getElem?_eq_getElem h0)
  have HR := Lib.hid (show Rl enS 3 w (.slice (some ⟨b, off, none⟩) l.length cap) l from ⟨_, _, rfl, hc, hrd⟩)
  clear hrd
  have HO := Lib.hid ((One.nil w).add (post_empty 84 3 w))
  have HR1 := Lib.hid (HR.out.kn HO.out.old)
  have hq : ∀ w : World, (binOp .eql 58 (.slice (some ⟨b, off, none⟩) l.length cap) (.slice none 0 0)).run Try.prog w = .ok (.bool false) w := fun w => Go.Lib.run_eql_slice_nil w _ _ _ _ _ _ _ Try.underlying58
  go_enter Try.func43, Try.ntmps43
  go_wp2_with (at_builtin; refine wpList_appL 7 rfl rfl rfl rfl elt_S HO.out 0 rfl rfl rfl enS_len HR1.out enS_one (by unfold maxLen; omega) (by omega) ?_; intro a1 c1 w1 ho; rw [Nat.zero_add, List.nil_append] at *; have HO1 := Lib.hid ho; clear ho)
  go_ret
  obtain ⟨F, hF, hb, hup⟩ := HO1.out.get 0 rfl
  obtain ⟨g, cx, cur, rfl, rfl, ha, hblk⟩ := row_blk hF enS_len rfl h0
  exact ⟨g, cx, cur, rfl, ha, F, hblk, HO1.out.old, fun x hx => .inr (hb x hx)⟩
end Go.Proofs.Ythbiohfnnjbbgaa
