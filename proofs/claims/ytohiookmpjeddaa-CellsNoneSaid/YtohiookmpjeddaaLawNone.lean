/- CellsNone: cells and boxes that no call made; its walk. -/
import Derived.Test.YtohiookmpjeddaaBegun
import Derived.Test.YtohiookmpjeddaaTypes
namespace Go.Proofs.Ytohiookmpjeddaa
set_option linter.unusedVariables false
set_option linter.unusedSimpArgs false
open Go Go.RowKit

/-- A cell, a box that no call made. -/
def NoI (w : World) (p : Option Addr) : Prop := p = none ∨ ∃ b, p = some ⟨b, 0, none⟩ ∧ w.heap[b]? = some (.cells #[.int .i64 0, .int .i64 0, .bool false] 69)
def NoB (w : World) (p : Option Addr) : Prop := p = none ∨ ∃ b, p = some ⟨b, 0, none⟩ ∧ w.heap[b]? = some (.cells #[.chan none] 73)
section
variable {w : World} {p : Option Addr}
theorem noneI_no (h : NoI w p) : Calls Try.prog 36 #[.pointer p] w fun e w' => e = .returned (.bool true) ∧ w = w' := by
  rcases h with rfl | ⟨b, rfl, hb⟩
  · go_enter Try.func36, Try.ntmps36
    go_wp2
    go_ret
    exact ⟨rfl, rfl⟩
  · obtain ⟨_, _, h2, _⟩ := cells3 hb
    clear hb
    go_enter Try.func36, Try.ntmps36
    go_wp2
    go_ret
    exact ⟨rfl, rfl⟩
theorem loadI_no (h : NoI w p) : Calls Try.prog 18 #[.pointer p] w fun e w' => e = .returned (.tuple #[.int .i64 0, .int .i64 0]) ∧ w = w' := by
  go_enter Try.func18, Try.ntmps18
  go_wp2_with (go_at_call 36; refine (noneI_no h).mono ?_; rintro e w' ⟨rfl, rfl⟩)
  go_ret2
  exact ⟨rfl, rfl⟩
theorem swapI_no' (x y : Int) (h : NoI w p) : Calls Try.prog 13 #[.pointer p, .int .i64 x, .int .i64 y] w fun e w' => e = .returned (.bool false) ∧ w = w' := by
  go_enter Try.func13, Try.ntmps13
  go_wp2_with (go_at_call 36; refine (noneI_no h).mono ?_; rintro e w' ⟨rfl, rfl⟩)
  go_ret
  exact ⟨rfl, rfl⟩
theorem setI_no (y : Int) (h : NoI w p) : Calls Try.prog 15 #[.pointer p, .int .i64 y] w fun e w' => e = .returned (.int .i64 0) ∧ w = w' := by
  go_enter Try.func15, Try.ntmps15
  go_wp2_with (go_at_call 36; refine (noneI_no h).mono ?_; rintro e w' ⟨rfl, rfl⟩)
  go_ret
  exact ⟨rfl, rfl⟩
theorem cloneI_no (h : NoI w p) : Calls Try.prog 17 #[.pointer p] w fun e w' => e = .returned (.pointer none) ∧ w = w' := by
  go_enter Try.func17, Try.ntmps17
  go_wp2_with (go_at_call 36; refine (noneI_no h).mono ?_; rintro e w' ⟨rfl, rfl⟩)
  go_ret
  exact ⟨rfl, rfl⟩
theorem noneB_no (h : NoB w p) : Calls Try.prog 37 #[.pointer p] w fun e w' => e = .returned (.bool true) ∧ w = w' := by
  have he := run_eql_chan Try.underlying71
  rcases h with rfl | ⟨b, rfl, hb⟩
  · go_enter Try.func37, Try.ntmps37
    go_wp2
    go_ret
    exact ⟨rfl, rfl⟩
  · obtain ⟨h2, _⟩ := cells1 hb
    clear hb
    go_enter Try.func37, Try.ntmps37
    go_wp2
    go_ret
    exact ⟨rfl, rfl⟩
theorem takeB_no (h : NoB w p) : Calls Try.prog 23 #[.pointer p] w fun e w' => e = .returned (.tuple #[.string ByteArray.empty, .int .i64 2]) ∧ w = w' := by
  go_enter Try.func23, Try.ntmps23
  go_wp2_with (go_at_call 37; refine (noneB_no h).mono ?_; rintro e w' ⟨rfl, rfl⟩)
  go_ret2
  exact ⟨rfl, rfl⟩
theorem putB_no (v : Value) (h : NoB w p) : Calls Try.prog 21 #[.pointer p, v] w fun e w' => e = .returned (.int .i64 2) ∧ w = w' := by
  go_enter Try.func21, Try.ntmps21
  go_wp2_with (go_at_call 37; refine (noneB_no h).mono ?_; rintro e w' ⟨rfl, rfl⟩)
  go_ret
  exact ⟨rfl, rfl⟩
theorem lenB_no (h : NoB w p) : Calls Try.prog 26 #[.pointer p] w fun e w' => e = .returned (.int .i64 0) ∧ w = w' := by
  go_enter Try.func26, Try.ntmps26
  go_wp2_with (go_at_call 37; refine (noneB_no h).mono ?_; rintro e w' ⟨rfl, rfl⟩)
  go_ret
  exact ⟨rfl, rfl⟩
theorem roomB_no (h : NoB w p) : Calls Try.prog 27 #[.pointer p] w fun e w' => e = .returned (.int .i64 0) ∧ w = w' := by
  go_enter Try.func27, Try.ntmps27
  go_wp2_with (go_at_call 37; refine (noneB_no h).mono ?_; rintro e w' ⟨rfl, rfl⟩)
  go_ret
  exact ⟨rfl, rfl⟩
theorem cloneB_no (h : NoB w p) : Calls Try.prog 25 #[.pointer p] w fun e w' => e = .returned (.pointer none) ∧ w = w' := by
  go_enter Try.func25, Try.ntmps25
  go_wp2_with (go_at_call 37; refine (noneB_no h).mono ?_; rintro e w' ⟨rfl, rfl⟩)
  go_ret
  exact ⟨rfl, rfl⟩
end

/-- The pointers in the two slices: nil, and one that no call made. -/
def Two (P : World → Option Addr → Prop) (w : World) (b : Nat) : Prop := ∃ p q, P w p ∧ P w q ∧ w.cell? ⟨b, 0, none⟩ = some (.pointer p) ∧ w.cell? ⟨b, 1, none⟩ = some (.pointer q)
theorem NoI.kept {w w' : World} {p : Option Addr} (h : NoI w p) (k : KN w w') : NoI w' p := h.imp id fun ⟨b, hp, hb⟩ => ⟨b, hp, k.blk hb id⟩
theorem NoB.kept {w w' : World} {p : Option Addr} (h : NoB w p) (k : KN w w') : NoB w' p := h.imp id fun ⟨b, hp, hb⟩ => ⟨b, hp, k.blk hb id⟩

set_option maxRecDepth 100000 in
set_option maxHeartbeats 4000000 in
theorem none_walk (o : Op8) (w : World) : Calls Try.prog 7 #[.agg (Op8.enc o).toArray] w fun e w' => e = .returned (.bool true) ∧ KN w w' := by
  obtain ⟨d, was, is, s⟩ := o
  simp only [Op8.enc]
  go_enter Try.func7, Try.ntmps7
  go_wp2_with fail
  have HG := Lib.hid (heap_alloc_same w (.cells #[.int .i64 d, .int .i64 was, .int .i64 is, .string s] 37))
  have HK := Lib.hid (kn_alloc w (.cells #[.int .i64 d, .int .i64 was, .int .i64 is, .string s] 37))
  refine (begun_true _).mono ?_
  rintro e w1 ⟨rfl, hk1⟩
  have HG1 := Lib.hid (hk1.blk HG.out id)
  have HK1 := Lib.hid (HK.out.then hk1 (fun _ h => h.elim))
  clear hk1 HG HK
  go_wp2_with fail
  have HG2 := Lib.hid (blk_alloc (.cells #[.pointer none, .pointer (some ⟨w1.heap.size, 0, none⟩)] 31) (blk_alloc (.cells #[.int .i64 0, .int .i64 0, .bool false] 69) HG1.out))
  have HK2 := Lib.hid ((HK1.out.alloc (.cells #[.int .i64 0, .int .i64 0, .bool false] 69)).alloc (.cells #[.pointer none, .pointer (some ⟨w1.heap.size, 0, none⟩)] 31))
  have HC2 := Lib.hid (blk_alloc (.cells #[.pointer none, .pointer (some ⟨w1.heap.size, 0, none⟩)] 31) (heap_alloc_same w1 (.cells #[.int .i64 0, .int .i64 0, .bool false] 69)))
  have HD2 := Lib.hid (heap_alloc_same (w1.alloc (.cells #[.int .i64 0, .int .i64 0, .bool false] 69)) (.cells #[.pointer none, .pointer (some ⟨w1.heap.size, 0, none⟩)] 31))
  simp only [World.size_alloc] at HD2
  clear HG1 HK1
  generalize (w1.alloc (.cells #[.int .i64 0, .int .i64 0, .bool false] 69)).alloc (.cells #[.pointer none, .pointer (some ⟨w1.heap.size, 0, none⟩)] 31) = w2 at *
  obtain ⟨a0, a1, _, _⟩ := cells2 HD2.out
  have b1 : w2.cell? ⟨w.heap.size, 1, none⟩ = some (.int .i64 was) := cell_blk HG2.out rfl
  have b2 : w2.cell? ⟨w.heap.size, 2, none⟩ = some (.int .i64 is) := cell_blk HG2.out rfl
  have b3 : w2.cell? ⟨w.heap.size, 3, none⟩ = some (.string s) := cell_blk HG2.out rfl
  go_loop [17] (fun i => ∃ k : Nat, k ≤ 2 ∧ i = .int .i64 k) (fun i => 2 - (intOf i).toNat)
  case atStart => exact ⟨0, by omega, rfl⟩
  case round =>
    obtain ⟨k, hk, rfl⟩ := hrel
    by_cases hlt : k < 2
    · obtain ⟨p, hp, hc⟩ : ∃ p, Hid (NoI w2 p) ∧ w2.cell? ⟨w1.heap.size + 1, k, none⟩ = some (.pointer p) := by
        rcases (show k = 0 ∨ k = 1 by omega) with rfl | rfl
        · exact ⟨none, .inl rfl, a0⟩
        · exact ⟨_, .inr ⟨_, rfl, HC2.out⟩, a1⟩
      clear a0 a1
      go_wp2_with (first | (go_at_call 18; refine (loadI_no hp.out).mono ?_; rintro e w' ⟨rfl, rfl⟩) | (go_at_call 13; refine (swapI_no' _ _ hp.out).mono ?_; rintro e w' ⟨rfl, rfl⟩) | (go_at_call 15; refine (setI_no _ hp.out).mono ?_; rintro e w' ⟨rfl, rfl⟩) | (go_at_call 17; refine (cloneI_no hp.out).mono ?_; rintro e w' ⟨rfl, rfl⟩))
      go_round
      case rel => exact ⟨k + 1, by omega, by go_num⟩
      case measure => simp [intOf]; omega
    · obtain rfl : k = 2 := by omega
      clear a0 a1 b1 b2 b3
      go_wp2_with fail
      have HG3 := Lib.hid (blk_alloc (.cells #[.pointer none, .pointer (some ⟨w2.heap.size, 0, none⟩)] 44) (blk_alloc (.cells #[.chan none] 73) HG2.out))
      have HK3 := Lib.hid ((HK2.out.alloc (.cells #[.chan none] 73)).alloc (.cells #[.pointer none, .pointer (some ⟨w2.heap.size, 0, none⟩)] 44))
      have HC3 := Lib.hid (blk_alloc (.cells #[.pointer none, .pointer (some ⟨w2.heap.size, 0, none⟩)] 44) (heap_alloc_same w2 (.cells #[.chan none] 73)))
      have HD3 := Lib.hid (heap_alloc_same (w2.alloc (.cells #[.chan none] 73)) (.cells #[.pointer none, .pointer (some ⟨w2.heap.size, 0, none⟩)] 44))
      simp only [World.size_alloc] at HD3
      clear HG2 HK2
      generalize (w2.alloc (.cells #[.chan none] 73)).alloc (.cells #[.pointer none, .pointer (some ⟨w2.heap.size, 0, none⟩)] 44) = w3 at *
      obtain ⟨a0, a1, _, _⟩ := cells2 HD3.out
      have b1 : w3.cell? ⟨w.heap.size, 1, none⟩ = some (.int .i64 was) := cell_blk HG3.out rfl
      have b2 : w3.cell? ⟨w.heap.size, 2, none⟩ = some (.int .i64 is) := cell_blk HG3.out rfl
      have b3 : w3.cell? ⟨w.heap.size, 3, none⟩ = some (.string s) := cell_blk HG3.out rfl
      go_loop [63] (fun i => ∃ k : Nat, k ≤ 2 ∧ i = .int .i64 k) (fun i => 2 - (intOf i).toNat)
      case atStart => exact ⟨0, by omega, rfl⟩
      case round =>
        obtain ⟨k, hk, rfl⟩ := hrel
        by_cases hlt : k < 2
        · obtain ⟨p, hp, hc⟩ : ∃ p, Hid (NoB w3 p) ∧ w3.cell? ⟨w2.heap.size + 1, k, none⟩ = some (.pointer p) := by
            rcases (show k = 0 ∨ k = 1 by omega) with rfl | rfl
            · exact ⟨none, .inl rfl, a0⟩
            · exact ⟨_, .inr ⟨_, rfl, HC3.out⟩, a1⟩
          clear a0 a1
          go_wp2_with (first | (go_at_call 23; refine (takeB_no hp.out).mono ?_; rintro e w' ⟨rfl, rfl⟩) | (go_at_call 21; refine (putB_no _ hp.out).mono ?_; rintro e w' ⟨rfl, rfl⟩) | (go_at_call 26; refine (lenB_no hp.out).mono ?_; rintro e w' ⟨rfl, rfl⟩) | (go_at_call 27; refine (roomB_no hp.out).mono ?_; rintro e w' ⟨rfl, rfl⟩) | (go_at_call 25; refine (cloneB_no hp.out).mono ?_; rintro e w' ⟨rfl, rfl⟩))
          go_round
          case rel => exact ⟨k + 1, by omega, by go_num⟩
          case measure => simp [intOf]; omega
        · obtain rfl : k = 2 := by omega
          clear a0 a1 b1 b2 b3
          go_wp2
          go_ret
          exact ⟨rfl, HK3.out⟩
end Go.Proofs.Ytohiookmpjeddaa
