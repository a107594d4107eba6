/- The document's boxes: one contract a method. -/
import Derived.Test.YtohiookmpjeddaaProg
import Derived.Test.YtohiookmpjeddaaSlices
import Derived.WalkKit
import Derived.KernelRfl
import Derived.Outline
import Derived.Lib.Hide
import Derived.Deep.QuietTactic
import Derived.BigQuiet
import Derived.Deep.DeepCutAuto
namespace Go.Proofs.Ytohiookmpjeddaa
set_option linter.unusedVariables false
set_option linter.unusedSimpArgs false
open Go Go.RowKit

theorem elt_str : Elt Try.prog 22 9 (.string ByteArray.empty) 1 16 := ⟨Try.underlying22, by kernel_rfl, rfl, by decide⟩
/-- A box of the document's: its block, its room, what waits. -/
def IsRBox (w : World) (r : Nat) (room : Int) (xs : List Value) : Prop := ∃ v, w.heap[r]? = some (.cells #[v, .int .i64 room] 57) ∧ Sr 9 1 w v xs.length xs
theorem IsRBox.lt {w : World} {r : Nat} {room : Int} {xs : List Value} (h : IsRBox w r room xs) : r < w.heap.size := let ⟨_, h, _⟩ := h; lt_blk h
theorem IsRBox.kept {w w' : World} {r : Nat} {room : Int} {xs : List Value} (h : IsRBox w r room xs) {S : Nat → Prop} (k : Kp S w w') (hr : ¬ S r) (hS : ∀ b : Nat, S b → ∀ cs fr, w.heap[b]? ≠ some (Obj.cells cs 9 fr)) : IsRBox w' r room xs :=
  let ⟨v, h1, h2⟩ := h; ⟨v, k.blk h1 hr, h2.kept k hS⟩
theorem IsRBox.noCell {w : World} {r : Nat} {room : Int} {xs : List Value} (h : IsRBox w r room xs) : ∀ k : Nat, k = r → ∀ cs fr, w.heap[k]? ≠ some (Obj.cells cs 9 fr) := fun k hk cs fr hh => by
  subst hk
  obtain ⟨v, hc, _⟩ := h
  rw [hc] at hh
  simp at hh
theorem IsRBox.drewN {w : World} {r : Nat} {room : Int} {xs : List Value} (h : IsRBox w r room xs) (n : Nat) : IsRBox (w.drewN n) r room xs := h
theorem newRBox_bad (n : Int) (h : n < 1 ∨ 4096 < n) (w : World) : Calls Try.prog 20 #[.int .i64 n] w fun e w' => e = .returned (.tuple #[.pointer none, .int .i64 1]) ∧ w = w' := by
  rcases h with h | h
  · go_enter Try.func20, Try.ntmps20
    go_wp2
    go_ret2
    exact ⟨rfl, rfl⟩
  · have h' : ¬ n < 1 := by omega
    go_enter Try.func20, Try.ntmps20
    go_wp2
    go_ret2
    exact ⟨rfl, rfl⟩
theorem newRBox (n : Int) (h0 : 1 ≤ n) (h1 : n ≤ 4096) (w : World) : Calls Try.prog 20 #[.int .i64 n] w fun e w' => e = .returned (.tuple #[.pointer (some ⟨w.heap.size, 0, none⟩), .int .i64 0]) ∧
    w' = w.alloc (.cells #[.slice none 0 0, .int .i64 n] 57) := by
  have h2 : ¬ n < 1 := by omega
  have h3 : ¬ 4096 < n := by omega
  go_enter Try.func20, Try.ntmps20
  go_wp2
  go_ret2
  exact ⟨rfl, rfl⟩
section
variable {r : Nat} {w : World} {room : Int} {xs : List Value}
theorem rput_full (x : Value) (h : IsRBox w r room xs) (hr : room ≤ xs.length) :
    Calls Try.prog 22 #[.pointer (some ⟨r, 0, none⟩), x] w fun e w' => e = .returned (.int .i64 5) ∧ ∃ m, w' = w.drewN m := by
  obtain ⟨v, hb, hs⟩ := h
  obtain ⟨a, cap, rfl, hc⟩ := hs.form
  obtain ⟨h0, h1, f0, f1⟩ := cells2 hb
  clear hb hs
  go_enter Try.func22, Try.ntmps22
  go_wp2
  go_quiet (fail)
  go_wp2
  go_ret
  exact ⟨rfl, _, rfl⟩
theorem rput_room (x : ByteArray) (h : IsRBox w r room xs) (hr : xs.length < room) (hm : room ≤ 4096) (h1 : ∀ u ∈ xs, u.oneCell' = true) :
    Calls Try.prog 22 #[.pointer (some ⟨r, 0, none⟩), .string x] w fun e w' => e = .returned (.int .i64 0) ∧ IsRBox w' r room (xs ++ [.string x]) ∧ Kp (· = r) w w' := by
  obtain ⟨v, hb, hs⟩ := h
  obtain ⟨a, cap, rfl, hc⟩ := hs.form
  obtain ⟨h0, h1', f0, f1⟩ := cells2 hb
  have HB := Lib.hid hb
  have HS := Lib.hid hs
  have HO := Lib.hid h1
  clear hb hs h1
  go_enter Try.func22, Try.ntmps22
  go_wp2
  go_quiet (fail)
  go_upto_region 3 with (fail)
  obtain ⟨wd, hwd⟩ : ∃ wd, wd = w.drewN nq := ⟨_, rfl⟩
  rw [← hwd]
  have HB0 := Lib.hid (show wd.heap[r]? = some (.cells #[.slice a xs.length cap, .int .i64 room] 57) by rw [hwd]; exact HB.out)
  have HS0 := Lib.hid (show Sr 9 1 wd (.slice a xs.length cap) xs.length xs by rw [hwd]; exact HS.out)
  have HK0 := Lib.hid (show Kp (· = r) w wd by rw [hwd]; exact (Kp.refl _ _).drewN _)
  clear hwd HB HS h0 h1' f0 f1
  obtain ⟨g0, g1, f0, f1⟩ := cells2 HB0.out
  obtain ⟨v1, w1, hrun1, ho1, hk1, hb1⟩ := run_app elt_str 22 (own_nil 0 9 1 wd) HS0.out HO.out (by unfold maxLen; omega) (by omega)
  simp only [Nat.zero_add, List.nil_append] at ho1
  have HB1 := Lib.hid (hk1.blk HB0.out (by simp [Value.ownBlock]))
  have HK1 := Lib.hid (HK0.out.trans hk1 (by simp [Value.ownBlock]))
  obtain ⟨v2, w2, hrun2, ho2, hk2, hb2⟩ := run_app (w := w1.alloc (.cells #[.string x] 9)) elt_str 22 (own_step ho1 (fun b hb => heap_alloc_old _ (own_lt ho1 hb))) (sr_new (E := 9) (b := w1.heap.size) (n := 1) (c := 1) (cs := [.string x]) (heap_alloc_same _ _) (by simp) (by omega)) (by simp; rfl) (by unfold maxLen; omega) (by omega)
  obtain ⟨a2, c2, rfl, _⟩ := (Sr.of_own ho2).form
  have hne : v1.ownBlock ≠ some r := by
    intro e
    obtain ⟨_, h⟩ := ho1
    rcases h with ⟨rfl, _⟩ | ⟨g, c, cur, rfl, _, hb, _⟩
    · cases e
    · cases e; have := HB1.out; rw [hb] at this; simp at this
  have HB2 := Lib.hid (hk2.blk (blk_alloc _ HB1.out) hne)
  have HK2 := Lib.hid ((HK1.out.alloc (.cells #[.string x] 9)).trans hk2 (S' := fun k => v1.ownBlock = some k) (fun i hi => by
    rcases hb1 with e | e
    · rw [e] at hi; simp [Value.ownBlock] at hi
    · rw [e] at hi; cases hi; exact .inr HK0.out.size))
  have HO2 := Lib.hid ho2
  have hrun1' := hrun1
  obtain ⟨q0, q1, p0, p1⟩ := cells2 HB2.out
  clear ho1 hk1 hb1 ho2 hk2 hb2 hrun1'
  go_wp2_with (first | (at_builtin; refine wpList_app 20 rfl rfl rfl rfl hrun1 ?_) | (at_builtin; refine wpList_app 23 rfl rfl rfl rfl hrun2 ?_))
  go_ret
  refine ⟨rfl, ?_, ?_⟩
  · rw [set1 HB2.out]
    refine ⟨_, setB_same _ (lt_blk HB2.out), ?_⟩
    rw [List.length_append]
    exact (Sr.of_own HO2.out).kept (S := (· = r)) ((Kp.refl (· = r) _).setB (.inl rfl) _) (fun b hb cs fr => by subst hb; rw [HB2.out]; simp)
  · rw [set1 HB2.out]
    exact HK2.out.setB (.inl rfl) _
theorem rtake_none (h : IsRBox w r room []) : Calls Try.prog 24 #[.pointer (some ⟨r, 0, none⟩)] w fun e w' => e = .returned (.tuple #[.string ByteArray.empty, .int .i64 4]) ∧ w = w' := by
  obtain ⟨v, hb, hs⟩ := h
  obtain ⟨a, cap, rfl, hc⟩ := hs.form
  obtain ⟨h0, h1, f0, f1⟩ := cells2 hb
  clear hb hs
  go_enter Try.func24, Try.ntmps24
  go_wp2
  go_ret2
  exact ⟨rfl, rfl⟩
theorem rtake_some {x : Value} (h : IsRBox w r room (x :: xs)) (hm : xs.length < 4096) :
    Calls Try.prog 24 #[.pointer (some ⟨r, 0, none⟩)] w fun e w' => e = .returned (.tuple #[x, .int .i64 0]) ∧ IsRBox w' r room xs ∧ Kp (· = r) w w' := by
  obtain ⟨v, hb, hs⟩ := h
  obtain ⟨b, off, cap, rfl, hc, hbl, hx⟩ := hs.cells (by simp)
  obtain ⟨h0, h1, f0, f1⟩ := cells2 hb
  have hx0 := hx 0 x rfl
  simp only [Nat.add_zero, List.length_cons] at hx0 h0 hc
  have HB := Lib.hid hb
  have HS := Lib.hid hs
  clear hb hs hx
  go_enter Try.func24, Try.ntmps24
  go_wp2
  all_goals go_ret2
  all_goals refine ⟨rfl, ?_, ?_⟩
  all_goals rw [set1 HB.out]
  any_goals exact (Kp.refl (· = r) _).setB (.inl rfl) _
  all_goals refine ⟨_, setB_same _ (lt_blk HB.out), ?_⟩
  all_goals refine Sr.kept ?_ (S := (· = r)) ((Kp.refl (· = r) _).setB (.inl rfl) _) (fun b hb cs fr => by subst hb; rw [HB.out]; simp)
  all_goals first | exact HS.out.tail | skip
  all_goals (rename_i hcap; obtain rfl : xs = [] := List.length_eq_zero_iff.1 (by omega); exact Sr.empty _ _ _ _ _)
end
end Go.Proofs.Ytohiookmpjeddaa
