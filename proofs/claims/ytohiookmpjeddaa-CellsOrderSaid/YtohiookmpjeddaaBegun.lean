/- 'begun' of chapter 8: it answers true, and leaves what was there. -/
import Derived.Test.YtohiookmpjeddaaCells
import Derived.Test.YtohiookmpjeddaaBoxes
namespace Go.Proofs.Ytohiookmpjeddaa
set_option linter.unusedVariables false
set_option linter.unusedSimpArgs false
open Go Go.RowKit

set_option maxHeartbeats 1000000 in
theorem begun_true (w : World) : Calls Try.prog 9 #[] w fun e w' => e = .returned (.bool true) ∧ KN w w' := by
  go_enter Try.func9, Try.ntmps9
  go_wp2_with fail
  refine (newI 1 w).mono ?_
  rintro e w1 ⟨rfl, hw1⟩
  have HC1 := Lib.hid (show w1.heap[w.heap.size]? = some (cellI 1 0) by rw [hw1]; exact heap_alloc_same _ _)
  have HK1 := Lib.hid (show KN w w1 by rw [hw1]; exact kn_alloc _ _)
  have hs1 : w.heap.size < w1.heap.size := lt_blk HC1.out
  clear hw1
  go_wp2_with fail
  refine (newBoxS 1 (by omega) (by omega) w1).mono ?_
  rintro e w2 ⟨rfl, hw2⟩
  have HX2 := Lib.hid (show IsBox _ w2 (w1.heap.size + 1) w1.heap.size 1 [] by rw [hw2]; exact IsBox.new _ _ _)
  have HC2 := Lib.hid (show w2.heap[w.heap.size]? = some (cellI 1 0) by rw [hw2]; exact blk_alloc _ (blk_alloc _ HC1.out))
  have HK2 := Lib.hid (show KN w w2 by rw [hw2]; exact (HK1.out.alloc _).alloc _)
  clear hw2 HC1 HK1
  go_wp2_with fail
  refine (swapI 1 2 HC2.out).mono ?_
  rintro e w3 ⟨rfl, hw3⟩
  have HC3 := Lib.hid (show w3.heap[w.heap.size]? = some (cellI 2 1) by rw [hw3, if_pos rfl, show wrap64 (0 + 1) = 1 from by unfold wrap64; omega]; exact setB_same _ (lt_blk HC2.out))
  have HJ := Lib.hid (show Kp (· = w.heap.size) w2 w3 by rw [hw3, if_pos rfl]; exact (Kp.refl (· = w.heap.size) _).setB (.inl rfl) _)
  have HX3 := Lib.hid (HX2.out.kept HJ.out (by omega) (by omega))
  have HK3 := Lib.hid (HK2.out.then HJ.out (fun i h => by omega))
  clear hw3 HC2 HK2 HX2 HJ
  go_wp2_with fail
  refine (putS_room _ HX3.out (by simp)).mono ?_
  rintro e w4 ⟨rfl, hx4, hk4⟩
  have HX4 := Lib.hid hx4
  have HK4 := Lib.hid (HK3.out.then hk4 (fun i h => by omega))
  have HC4 := Lib.hid (hk4.blk HC3.out (by omega))
  clear hx4 hk4 HX3 HK3 HC3
  go_wp2_with fail
  refine (loadI HC4.out).mono ?_
  rintro e w5 ⟨rfl, m, hw5⟩
  have HX5 := Lib.hid (show IsBox _ w5 (w1.heap.size + 1) w1.heap.size 1 _ by rw [hw5]; exact HX4.out)
  have HK5 := Lib.hid (show KN w w5 by rw [hw5]; exact HK4.out.drewN _)
  clear hw5 HX4 HK4 HC4
  go_wp2_with fail
  refine (takeS_some HX5.out).mono ?_
  rintro e w6 ⟨rfl, hx6, hk6⟩
  have HK6 := Lib.hid (HK5.out.then hk6 (fun i h => by omega))
  clear hx6 hk6 HX5 HK5
  go_wp2
  go_ret
  exact ⟨rfl, HK6.out⟩
end Go.Proofs.Ytohiookmpjeddaa
