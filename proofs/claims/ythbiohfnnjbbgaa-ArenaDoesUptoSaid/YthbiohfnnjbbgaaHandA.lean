/- The pair: handle. -/
import Derived.Test.YthbiohfnnjbbgaaNextA
import Derived.Test.YthbiohfnnjbbgaaStaleX
namespace Go.Proofs.Ythbiohfnnjbbgaa
set_option linter.unusedVariables false
set_option linter.unusedSimpArgs false
open Go Go.RowKit

theorem q_of2 (us : Int) {n : Nat} (h : 0 < n) (h2 : n ≤ 9000000) : ∃ q : Nat, (us.tmod n + n).tmod n = q ∧ q < n ∧ IntKind.i64.wrap (us.tmod n + n) = us.tmod n + n ∧ wrap64 (us.tmod n + n) = us.tmod n + n := by
  have hn : (0 : Int) < n := by omega
  have h3 := Int.tmod_lt_of_pos us hn
  have h4 : -(n : Int) < us.tmod n := by
    have := Int.lt_tmod_of_pos us hn
    omega
  have h5 := Int.tmod_nonneg (n : Int) (show 0 ≤ us.tmod n + n by omega)
  have h6 := Int.tmod_lt_of_pos (us.tmod n + n) hn
  exact ⟨((us.tmod n + n).tmod n).toNat, by omega, by omega, IntWalk.i64_in _ (by omega), by unfold wrap64; omega⟩
set_option maxRecDepth 100000 in
set_option maxHeartbeats 4000000 in
theorem handle_p {p t r c : Nat} {a : Option Addr} {hs : List (Int × Int)} {w : World} {d us os og : Int} {tx : ByteArray} (h0 : w.heap[p]? = some (prO t r (.slice a hs.length c))) (hr : Rd encHn 2 w a hs) (hl : hs.length ≤ 9000000) :
    Calls Try.prog 35 #[.pointer (some ⟨p, 0, none⟩), .agg #[.int .i64 d, .int .i64 us, .string tx, .int .i64 os, .int .i64 og]] w fun e w' => (∃ x y : Int, e = .returned (.agg #[.int .i64 x, .int .i64 y])) ∧ KN w w' := by
  have HO := Lib.hid (((One.nil w).alloc (.cells #[.int .i64 d, .int .i64 us, .string tx, .int .i64 os, .int .i64 og] 42)).alloc (.cells #[.int .i64 0, .int .i64 0] 30))
  have hp0 := HO.out.old.blk h0 id
  have HR := Lib.hid (hr.kn HO.out.old)
  clear hr h0
  go_enter Try.func35, Try.ntmps35
  go_upto_region 1 with fail
  generalize (w.alloc _).alloc _ = w1 at *
  simp only [Go.Deep.nblk_alloc] at HO
  obtain ⟨b0, b1, b2, _⟩ := cells3 hp0
  obtain ⟨o0, o1, o2, o3, o4⟩ := cells5x (HO.out.blk 1 rfl).1
  obtain ⟨g0, g1, gf0, gf1⟩ := cells2 (HO.out.blk 0 rfl).1
  by_cases hd : d = 5
  · subst hd
    go_wp2_with fail
    exact bodyPost_ret (v := .agg #[.int .i64 os, .int .i64 og]) (by simp [results, Try.results35, go_sem, g0, g1]) rfl ⟨⟨_, _, rfl⟩, ((HO.out.setCA 0 rfl (j := 0) (.int .i64 os)).setCA 0 rfl (j := 1) (.int .i64 og)).old⟩
  · by_cases hz : hs.length = 0
    · have HZ := Lib.hid hz
      have hz1 : ((hs.length : Int) == 0) = true := by simp [hz]
      have hz2 : (hs.length : Int) = 0 := by omega
      clear hz
      go_wp2_with fail
      exact bodyPost_ret (v := .agg #[.int .i64 os, .int .i64 og]) (by simp [results, Try.results35, go_sem, g0, g1]) rfl ⟨⟨_, _, rfl⟩, ((HO.out.setCA 0 rfl (j := 0) (.int .i64 os)).setCA 0 rfl (j := 1) (.int .i64 og)).old⟩
    · have hz1 : ((hs.length : Int) == 0) = false := by rw [beq_eq_false_iff_ne]; omega
      have hz2 : ¬ (hs.length : Int) = 0 := by omega
      have hz3 : (0 : Int) < (hs.length : Int) := by omega
      obtain ⟨q, hq, hql, hw1, hw2⟩ := q_of2 us (by omega : 0 < hs.length) hl
      obtain ⟨⟨x1, xg⟩, hx⟩ : ∃ x, hs[q]? = some x := ⟨_, List.getElem?_eq_getElem hql⟩
      obtain ⟨gb, off, rfl, hb2, q0, q1⟩ := rd_hn HR.out hx
      clear hx
      go_upto_region 3 with fail
      go_still_tail 26, (by kernel_rfl)
      go_wp2_with fail
      exact bodyPost_ret (v := .agg #[.int .i64 x1, .int .i64 xg]) (by simp [results, Try.results35, go_sem, g0, g1]) rfl ⟨⟨_, _, rfl⟩, ((HO.out.setCA 0 rfl (j := 0) (.int .i64 x1)).setCA 0 rfl (j := 1) (.int .i64 xg)).old.drew⟩
end Go.Proofs.Ythbiohfnnjbbgaa
