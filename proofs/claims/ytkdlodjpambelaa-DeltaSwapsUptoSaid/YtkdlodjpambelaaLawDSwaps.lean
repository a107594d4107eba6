/- DeltaSwaps: its walk. -/
import Derived.Test.YtkdlodjpambelaaLiveD
import Derived.Test.YtkdlodjpambelaaFoldP
import Derived.Test.YtkdlodjpambelaaDeltaLaw
import Derived.Test.YtkdlodjpambelaaApplyR
import Derived.Test.YtkdlodjpambelaaUndoP
import Derived.Test.YtkdlodjpambelaaCheckR
namespace Go.Proofs.Ytkdlodjpambelaa
set_option linter.unusedVariables false
set_option linter.unusedSimpArgs false
open Go Go.RowKit

set_option maxHeartbeats 4000000 in
set_option maxRecDepth 100000 in
theorem swaps_noa (lf : Bool) (lo hi : ByteArray) (r : Int) (l : List En) (k : Int) (ek : ByteArray) (es eg ec : Int) (key : ByteArray) (pg : Int) (lfa : Bool) (loa hia : ByteArray) (ra : Int) (l1 : List En) (k2 : Int) (ek2 : ByteArray) (es2 eg2 ec2 : Int) (key2 : ByteArray) (pg2 : Int) (lf2 : Bool) (lo2 hi2 : ByteArray) (r2 : Int) (l2 : List En) (h1 : k ≠ 1) (h2 : k ≠ 2) (w : World) {v ua ub : Value} (hr : Rl En.enc 4 w v l) (hsa : Rl En.enc 4 w ua l1) (hsb : Rl En.enc 4 w ub l2) (hl : l.length ≤ 1048576) (hl1 : l1.length ≤ 1048576) (hl2 : l2.length ≤ 1048576) (hz1 : ek.size + key.size ≤ 2097152) (hz2 : ek2.size + key2.size ≤ 2097152) : Calls Try.prog 3 #[pgv ⟨lf, lo, hi, r, l⟩ v, dlv ⟨k, ⟨ek, ⟨es, eg⟩, ec⟩, key, pg, ⟨lfa, loa, hia, ra, l1⟩⟩ ua, dlv ⟨k2, ⟨ek2, ⟨es2, eg2⟩, ec2⟩, key2, pg2, ⟨lf2, lo2, hi2, r2, l2⟩⟩ ub] w fun e w' => e = .returned (.bool true) ∧ KN w w' := by
  obtain ⟨a0, c0, rfl, hc0, hrd⟩ := hr
  obtain ⟨aA, cA, rfl, hcA, had⟩ := hsa
  obtain ⟨aB, cB, rfl, hcB, hbd⟩ := hsb
  clear hrd had hbd hl hl1 hl2 hz1 hz2
  have e1 : (k != 1) = true := by simpa using h1
  have e2 : (k != 2) = true := by simpa using h2
  unfold dlv
  simp only
  have HO0 := Lib.hid ((One.nil w).alloc3 (.cells #[.bool lf, .string lo, .string hi, .int .i64 r, .slice a0 l.length c0] 24) (.cells #[.int .i64 k, .string ek, .int .i64 es, .int .i64 eg, .int .i64 ec, .string key, .int .i64 pg, .bool lfa, .string loa, .string hia, .int .i64 ra, .slice aA l1.length cA] 30) (.cells #[.int .i64 k2, .string ek2, .int .i64 es2, .int .i64 eg2, .int .i64 ec2, .string key2, .int .i64 pg2, .bool lf2, .string lo2, .string hi2, .int .i64 r2, .slice aB l2.length cB] 30))
  go_enter Try.func3, Try.ntmps3
  obtain ⟨x0_0a, x0_0b, x0_0c, x0_0d, x0_0e, x0_0f, x0_0g, x0_0h, x0_0i, x0_0j, x0_0k, x0_0l, x0_0m⟩ := cells12 (HO0.out.blk 0 rfl).1
  obtain ⟨x0_1a, x0_1b, x0_1c, x0_1d, x0_1e, x0_1f, x0_1g, x0_1h, x0_1i, x0_1j, x0_1k, x0_1l, x0_1m⟩ := cells12 (HO0.out.blk 1 rfl).1
  obtain ⟨x0_2a, x0_2b, x0_2c, x0_2d, x0_2e, x0_2f⟩ := cells5 (HO0.out.blk 2 rfl).1
  go_wp2_with fail
  refine (live_true _).mono ?_
  rintro e wl ⟨rfl, kl⟩
  go_wp2
  go_ret
  exact ⟨rfl, (HO0.out.kn kl).old⟩
set_option maxHeartbeats 4000000 in
set_option maxRecDepth 100000 in
theorem swaps_nob (lf : Bool) (lo hi : ByteArray) (r : Int) (l : List En) (k : Int) (ek : ByteArray) (es eg ec : Int) (key : ByteArray) (pg : Int) (lfa : Bool) (loa hia : ByteArray) (ra : Int) (l1 : List En) (k2 : Int) (ek2 : ByteArray) (es2 eg2 ec2 : Int) (key2 : ByteArray) (pg2 : Int) (lf2 : Bool) (lo2 hi2 : ByteArray) (r2 : Int) (l2 : List En) (h0 : k = 1 ∨ k = 2) (h1 : k2 ≠ 1) (h2 : k2 ≠ 2) (w : World) {v ua ub : Value} (hr : Rl En.enc 4 w v l) (hsa : Rl En.enc 4 w ua l1) (hsb : Rl En.enc 4 w ub l2) (hl : l.length ≤ 1048576) (hl1 : l1.length ≤ 1048576) (hl2 : l2.length ≤ 1048576) (hz1 : ek.size + key.size ≤ 2097152) (hz2 : ek2.size + key2.size ≤ 2097152) : Calls Try.prog 3 #[pgv ⟨lf, lo, hi, r, l⟩ v, dlv ⟨k, ⟨ek, ⟨es, eg⟩, ec⟩, key, pg, ⟨lfa, loa, hia, ra, l1⟩⟩ ua, dlv ⟨k2, ⟨ek2, ⟨es2, eg2⟩, ec2⟩, key2, pg2, ⟨lf2, lo2, hi2, r2, l2⟩⟩ ub] w fun e w' => e = .returned (.bool true) ∧ KN w w' := by
  obtain ⟨a0, c0, rfl, hc0, hrd⟩ := hr
  obtain ⟨aA, cA, rfl, hcA, had⟩ := hsa
  obtain ⟨aB, cB, rfl, hcB, hbd⟩ := hsb
  clear hrd had hbd hl hl1 hl2 hz1 hz2
  have e1 : (k2 != 1) = true := by simpa using h1
  have e2 : (k2 != 2) = true := by simpa using h2
  unfold dlv
  simp only
  rcases h0 with h0 | h0
  · have f1 : (k != 1) = false := by simp [h0]
    clear h0
    have HO0 := Lib.hid ((One.nil w).alloc3 (.cells #[.bool lf, .string lo, .string hi, .int .i64 r, .slice a0 l.length c0] 24) (.cells #[.int .i64 k, .string ek, .int .i64 es, .int .i64 eg, .int .i64 ec, .string key, .int .i64 pg, .bool lfa, .string loa, .string hia, .int .i64 ra, .slice aA l1.length cA] 30) (.cells #[.int .i64 k2, .string ek2, .int .i64 es2, .int .i64 eg2, .int .i64 ec2, .string key2, .int .i64 pg2, .bool lf2, .string lo2, .string hi2, .int .i64 r2, .slice aB l2.length cB] 30))
    go_enter Try.func3, Try.ntmps3
    obtain ⟨x0_0a, x0_0b, x0_0c, x0_0d, x0_0e, x0_0f, x0_0g, x0_0h, x0_0i, x0_0j, x0_0k, x0_0l, x0_0m⟩ := cells12 (HO0.out.blk 0 rfl).1
    obtain ⟨x0_1a, x0_1b, x0_1c, x0_1d, x0_1e, x0_1f, x0_1g, x0_1h, x0_1i, x0_1j, x0_1k, x0_1l, x0_1m⟩ := cells12 (HO0.out.blk 1 rfl).1
    obtain ⟨x0_2a, x0_2b, x0_2c, x0_2d, x0_2e, x0_2f⟩ := cells5 (HO0.out.blk 2 rfl).1
    go_wp2_with fail
    refine (live_true _).mono ?_
    rintro e wl ⟨rfl, kl⟩
    go_wp2
    go_ret
    exact ⟨rfl, (HO0.out.kn kl).old⟩
  · have f1 : (k != 1) = true := by simp [h0]
    have f2 : (k != 2) = false := by simp [h0]
    clear h0
    have HO0 := Lib.hid ((One.nil w).alloc3 (.cells #[.bool lf, .string lo, .string hi, .int .i64 r, .slice a0 l.length c0] 24) (.cells #[.int .i64 k, .string ek, .int .i64 es, .int .i64 eg, .int .i64 ec, .string key, .int .i64 pg, .bool lfa, .string loa, .string hia, .int .i64 ra, .slice aA l1.length cA] 30) (.cells #[.int .i64 k2, .string ek2, .int .i64 es2, .int .i64 eg2, .int .i64 ec2, .string key2, .int .i64 pg2, .bool lf2, .string lo2, .string hi2, .int .i64 r2, .slice aB l2.length cB] 30))
    go_enter Try.func3, Try.ntmps3
    obtain ⟨x0_0a, x0_0b, x0_0c, x0_0d, x0_0e, x0_0f, x0_0g, x0_0h, x0_0i, x0_0j, x0_0k, x0_0l, x0_0m⟩ := cells12 (HO0.out.blk 0 rfl).1
    obtain ⟨x0_1a, x0_1b, x0_1c, x0_1d, x0_1e, x0_1f, x0_1g, x0_1h, x0_1i, x0_1j, x0_1k, x0_1l, x0_1m⟩ := cells12 (HO0.out.blk 1 rfl).1
    obtain ⟨x0_2a, x0_2b, x0_2c, x0_2d, x0_2e, x0_2f⟩ := cells5 (HO0.out.blk 2 rfl).1
    go_wp2_with fail
    refine (live_true _).mono ?_
    rintro e wl ⟨rfl, kl⟩
    go_wp2
    go_ret
    exact ⟨rfl, (HO0.out.kn kl).old⟩
set_option maxHeartbeats 8000000 in
set_option maxRecDepth 100000 in
theorem swaps_yes11 (lf : Bool) (lo hi : ByteArray) (r : Int) (l : List En) (ek : ByteArray) (es eg ec : Int) (key : ByteArray) (pg : Int) (lfa : Bool) (loa hia : ByteArray) (ra : Int) (l1 : List En) (ek2 : ByteArray) (es2 eg2 ec2 : Int) (key2 : ByteArray) (pg2 : Int) (lf2 : Bool) (lo2 hi2 : ByteArray) (r2 : Int) (l2 : List En) (w : World) {v ua ub : Value} (hr : Rl En.enc 4 w v l) (hsa : Rl En.enc 4 w ua l1) (hsb : Rl En.enc 4 w ub l2) (hl : l.length ≤ 1048576) (hl1 : l1.length ≤ 1048576) (hl2 : l2.length ≤ 1048576) (hz1 : ek.size + key.size ≤ 2097152) (hz2 : ek2.size + key2.size ≤ 2097152) : Calls Try.prog 3 #[pgv ⟨lf, lo, hi, r, l⟩ v, dlv ⟨1, ⟨ek, ⟨es, eg⟩, ec⟩, key, pg, ⟨lfa, loa, hia, ra, l1⟩⟩ ua, dlv ⟨1, ⟨ek2, ⟨es2, eg2⟩, ec2⟩, key2, pg2, ⟨lf2, lo2, hi2, r2, l2⟩⟩ ub] w fun e w' => e = .returned (.bool true) ∧ KN w w' := by
  have hsum : (⟨lf, lo, hi, r, l⟩ : Pg).list.length + sumD [(⟨1, ⟨ek, ⟨es, eg⟩, ec⟩, key, pg, ⟨lfa, loa, hia, ra, l1⟩⟩ : Dl), (⟨1, ⟨ek2, ⟨es2, eg2⟩, ec2⟩, key2, pg2, ⟨lf2, lo2, hi2, r2, l2⟩⟩ : Dl)] ≤ 3145730 := by rw [sumD_cons, sumD_cons, show sumD [] = 0 from rfl]; simp only; omega
  have hsum2 : (⟨lf, lo, hi, r, l⟩ : Pg).list.length + sumD [(⟨1, ⟨ek2, ⟨es2, eg2⟩, ec2⟩, key2, pg2, ⟨lf2, lo2, hi2, r2, l2⟩⟩ : Dl), (⟨1, ⟨ek, ⟨es, eg⟩, ec⟩, key, pg, ⟨lfa, loa, hia, ra, l1⟩⟩ : Dl)] ≤ 3145730 := by rw [sumD_cons, sumD_cons, show sumD [] = 0 from rfl]; simp only; omega
  have HFa := Lib.hid (fun W u' (k' : KN w W) (hd : RlD W u' [(⟨1, ⟨ek, ⟨es, eg⟩, ec⟩, key, pg, ⟨lfa, loa, hia, ra, l1⟩⟩ : Dl), (⟨1, ⟨ek2, ⟨es2, eg2⟩, ec2⟩, key2, pg2, ⟨lf2, lo2, hi2, r2, l2⟩⟩ : Dl)]) => fold_delta ⟨lf, lo, hi, r, l⟩ [(⟨1, ⟨ek, ⟨es, eg⟩, ec⟩, key, pg, ⟨lfa, loa, hia, ra, l1⟩⟩ : Dl), (⟨1, ⟨ek2, ⟨es2, eg2⟩, ec2⟩, key2, pg2, ⟨lf2, lo2, hi2, r2, l2⟩⟩ : Dl)] W (hr.kn k') hd (Nat.le_trans (Nat.mul_le_mul_right 40 hsum) (by decide)))
  have HFb := Lib.hid (fun W u' (k' : KN w W) (hd : RlD W u' [(⟨1, ⟨ek2, ⟨es2, eg2⟩, ec2⟩, key2, pg2, ⟨lf2, lo2, hi2, r2, l2⟩⟩ : Dl), (⟨1, ⟨ek, ⟨es, eg⟩, ec⟩, key, pg, ⟨lfa, loa, hia, ra, l1⟩⟩ : Dl)]) => fold_delta ⟨lf, lo, hi, r, l⟩ [(⟨1, ⟨ek2, ⟨es2, eg2⟩, ec2⟩, key2, pg2, ⟨lf2, lo2, hi2, r2, l2⟩⟩ : Dl), (⟨1, ⟨ek, ⟨es, eg⟩, ec⟩, key, pg, ⟨lfa, loa, hia, ra, l1⟩⟩ : Dl)] W (hr.kn k') hd (Nat.le_trans (Nat.mul_le_mul_right 40 hsum2) (by decide)))
  have hla := Nat.le_trans (foldD_len ⟨lf, lo, hi, r, l⟩ [(⟨1, ⟨ek, ⟨es, eg⟩, ec⟩, key, pg, ⟨lfa, loa, hia, ra, l1⟩⟩ : Dl), (⟨1, ⟨ek2, ⟨es2, eg2⟩, ec2⟩, key2, pg2, ⟨lf2, lo2, hi2, r2, l2⟩⟩ : Dl)]) hsum
  have HXa := Lib.hid (fun (W : World) (k' : KN w W) (g : Nat) (h : W.heap[g]? = some (Obj.cells (([((⟨1, ⟨ek, ⟨es, eg⟩, ec⟩, key, pg, ⟨lfa, loa, hia, ra, l1⟩⟩ : Dl), ua), ((⟨1, ⟨ek2, ⟨es2, eg2⟩, ec2⟩, key2, pg2, ⟨lf2, lo2, hi2, r2, l2⟩⟩ : Dl), ub)] : List (Dl × Value)).flatMap dlc).toArray 30)) => show RlD W (.slice (some ⟨g, 0, none⟩) 2 2) [(⟨1, ⟨ek, ⟨es, eg⟩, ec⟩, key, pg, ⟨lfa, loa, hia, ra, l1⟩⟩ : Dl), (⟨1, ⟨ek2, ⟨es2, eg2⟩, ec2⟩, key2, pg2, ⟨lf2, lo2, hi2, r2, l2⟩⟩ : Dl)] from rlD_blk (cap := 2) (n := 2) (xs := [((⟨1, ⟨ek, ⟨es, eg⟩, ec⟩, key, pg, ⟨lfa, loa, hia, ra, l1⟩⟩ : Dl), ua), ((⟨1, ⟨ek2, ⟨es2, eg2⟩, ec2⟩, key2, pg2, ⟨lf2, lo2, hi2, r2, l2⟩⟩ : Dl), ub)]) h rfl rfl (Nat.le_refl _) (fun x hx => by
    simp only [List.mem_cons, List.not_mem_nil, or_false] at hx
    rcases hx with rfl | rfl
    · exact hsa.kn k'
    · exact hsb.kn k'))
  have HXb := Lib.hid (fun (W : World) (k' : KN w W) (g : Nat) (h : W.heap[g]? = some (Obj.cells (([((⟨1, ⟨ek2, ⟨es2, eg2⟩, ec2⟩, key2, pg2, ⟨lf2, lo2, hi2, r2, l2⟩⟩ : Dl), ub), ((⟨1, ⟨ek, ⟨es, eg⟩, ec⟩, key, pg, ⟨lfa, loa, hia, ra, l1⟩⟩ : Dl), ua)] : List (Dl × Value)).flatMap dlc).toArray 30)) => show RlD W (.slice (some ⟨g, 0, none⟩) 2 2) [(⟨1, ⟨ek2, ⟨es2, eg2⟩, ec2⟩, key2, pg2, ⟨lf2, lo2, hi2, r2, l2⟩⟩ : Dl), (⟨1, ⟨ek, ⟨es, eg⟩, ec⟩, key, pg, ⟨lfa, loa, hia, ra, l1⟩⟩ : Dl)] from rlD_blk (cap := 2) (n := 2) (xs := [((⟨1, ⟨ek2, ⟨es2, eg2⟩, ec2⟩, key2, pg2, ⟨lf2, lo2, hi2, r2, l2⟩⟩ : Dl), ub), ((⟨1, ⟨ek, ⟨es, eg⟩, ec⟩, key, pg, ⟨lfa, loa, hia, ra, l1⟩⟩ : Dl), ua)]) h rfl rfl (Nat.le_refl _) (fun x hx => by
    simp only [List.mem_cons, List.not_mem_nil, or_false] at hx
    rcases hx with rfl | rfl
    · exact hsb.kn k'
    · exact hsa.kn k'))
  have HC := Lib.hid (fun W (k : KN w W) => check_ref ⟨lf, lo, hi, r, l⟩ W (hr.kn k) (by show l.length ≤ maxLen; unfold maxLen; omega))
  obtain ⟨cv, hcv⟩ : ∃ x, checkP ⟨lf, lo, hi, r, l⟩ = x := ⟨_, rfl⟩
  rw [hcv] at HC
  have HSw := Lib.hid (fun (h1 : cv = 0) (h2 : ek ++ key ≠ ek2 ++ key2) => swap_law (p := ⟨lf, lo, hi, r, l⟩) (a := (⟨1, ⟨ek, ⟨es, eg⟩, ec⟩, key, pg, ⟨lfa, loa, hia, ra, l1⟩⟩ : Dl)) (b := (⟨1, ⟨ek2, ⟨es2, eg2⟩, ec2⟩, key2, pg2, ⟨lf2, lo2, hi2, r2, l2⟩⟩ : Dl)) (hcv.trans h1) (by simp) (by simp) h2)
  obtain ⟨fa, hfa⟩ : ∃ x, foldD ⟨lf, lo, hi, r, l⟩ [(⟨1, ⟨ek, ⟨es, eg⟩, ec⟩, key, pg, ⟨lfa, loa, hia, ra, l1⟩⟩ : Dl), (⟨1, ⟨ek2, ⟨es2, eg2⟩, ec2⟩, key2, pg2, ⟨lf2, lo2, hi2, r2, l2⟩⟩ : Dl)] = x := ⟨_, rfl⟩
  obtain ⟨fb, hfb⟩ : ∃ x, foldD ⟨lf, lo, hi, r, l⟩ [(⟨1, ⟨ek2, ⟨es2, eg2⟩, ec2⟩, key2, pg2, ⟨lf2, lo2, hi2, r2, l2⟩⟩ : Dl), (⟨1, ⟨ek, ⟨es, eg⟩, ec⟩, key, pg, ⟨lfa, loa, hia, ra, l1⟩⟩ : Dl)] = x := ⟨_, rfl⟩
  rw [hfa] at HFa hla
  rw [hfb] at HFb
  rw [hfa, hfb] at HSw
  clear hfa hfb hcv hsum hsum2
  obtain ⟨a0, c0, rfl, hc0, hrd⟩ := hr
  obtain ⟨aA, cA, rfl, hcA, had⟩ := hsa
  obtain ⟨aB, cB, rfl, hcB, hbd⟩ := hsb
  clear hrd had hbd
  unfold dlv
  simp only
  have HO0 := Lib.hid ((One.nil w).alloc3 (.cells #[.bool lf, .string lo, .string hi, .int .i64 r, .slice a0 l.length c0] 24) (.cells #[.int .i64 1, .string ek, .int .i64 es, .int .i64 eg, .int .i64 ec, .string key, .int .i64 pg, .bool lfa, .string loa, .string hia, .int .i64 ra, .slice aA l1.length cA] 30) (.cells #[.int .i64 1, .string ek2, .int .i64 es2, .int .i64 eg2, .int .i64 ec2, .string key2, .int .i64 pg2, .bool lf2, .string lo2, .string hi2, .int .i64 r2, .slice aB l2.length cB] 30))
  go_enter Try.func3, Try.ntmps3
  have sz1 : (ek.size : Int) + (key.size : Int) ≤ 9223372036854775807 := by omega
  have sz2 : (ek2.size : Int) + (key2.size : Int) ≤ 9223372036854775807 := by omega
  by_cases hcat : ek ++ key = ek2 ++ key2
  case pos =>
    have hcb : ((ek ++ key).toList == (ek2 ++ key2).toList) = true := by rw [hcat]; simp
    clear hcat
    obtain ⟨x0_0a, x0_0b, x0_0c, x0_0d, x0_0e, x0_0f, x0_0g, x0_0h, x0_0i, x0_0j, x0_0k, x0_0l, x0_0m⟩ := cells12 (HO0.out.blk 0 rfl).1
    obtain ⟨x0_1a, x0_1b, x0_1c, x0_1d, x0_1e, x0_1f, x0_1g, x0_1h, x0_1i, x0_1j, x0_1k, x0_1l, x0_1m⟩ := cells12 (HO0.out.blk 1 rfl).1
    obtain ⟨x0_2a, x0_2b, x0_2c, x0_2d, x0_2e, x0_2f⟩ := cells5 (HO0.out.blk 2 rfl).1
    go_wp2_with fail
    refine (live_true _).mono ?_
    rintro e wl ⟨rfl, kl⟩
    go_wp2
    go_ret
    exact ⟨rfl, (HO0.out.kn kl).old⟩
  have hcb : ((ek ++ key).toList == (ek2 ++ key2).toList) = false := beq_str_false hcat
  obtain ⟨x0_0a, x0_0b, x0_0c, x0_0d, x0_0e, x0_0f, x0_0g, x0_0h, x0_0i, x0_0j, x0_0k, x0_0l, x0_0m⟩ := cells12 (HO0.out.blk 0 rfl).1
  obtain ⟨x0_1a, x0_1b, x0_1c, x0_1d, x0_1e, x0_1f, x0_1g, x0_1h, x0_1i, x0_1j, x0_1k, x0_1l, x0_1m⟩ := cells12 (HO0.out.blk 1 rfl).1
  obtain ⟨x0_2a, x0_2b, x0_2c, x0_2d, x0_2e, x0_2f⟩ := cells5 (HO0.out.blk 2 rfl).1
  go_wp2_with fail
  refine (HC.out _ HO0.out.old).mono ?_
  rintro e w1 ⟨rfl, k1⟩
  have HO1 := Lib.hid (HO0.out.kn k1)
  clear k1 HO0 x0_0a x0_0b x0_0c x0_0d x0_0e x0_0f x0_0g x0_0h x0_0i x0_0j x0_0k x0_0l x0_0m x0_1a x0_1b x0_1c x0_1d x0_1e x0_1f x0_1g x0_1h x0_1i x0_1j x0_1k x0_1l x0_1m x0_2a x0_2b x0_2c x0_2d x0_2e x0_2f
  by_cases hc : cv = 0
  case neg =>
    have hc1 : (cv != 0) = true := by simpa using hc
    go_wp2_with fail
    refine (live_true _).mono ?_
    rintro e wl ⟨rfl, kl⟩
    go_wp2
    go_ret
    exact ⟨rfl, (HO1.out.kn kl).old⟩
  have HSv := Lib.hid (HSw.out hc hcat)
  clear HSw
  subst hc
  clear hcat hcb
  obtain ⟨x1_0a, x1_0b, x1_0c, x1_0d, x1_0e, x1_0f, x1_0g, x1_0h, x1_0i, x1_0j, x1_0k, x1_0l, x1_0m⟩ := cells12 (HO1.out.blk 0 rfl).1
  obtain ⟨x1_1a, x1_1b, x1_1c, x1_1d, x1_1e, x1_1f, x1_1g, x1_1h, x1_1i, x1_1j, x1_1k, x1_1l, x1_1m⟩ := cells12 (HO1.out.blk 1 rfl).1
  obtain ⟨x1_2a, x1_2b, x1_2c, x1_2d, x1_2e, x1_2f⟩ := cells5 (HO1.out.blk 2 rfl).1
  go_wp2_with fail
  refine (live_true _).mono ?_
  rintro e w2 ⟨rfl, k2⟩
  have HO2 := Lib.hid (HO1.out.kn k2)
  clear k2 HO1 x1_0a x1_0b x1_0c x1_0d x1_0e x1_0f x1_0g x1_0h x1_0i x1_0j x1_0k x1_0l x1_0m x1_1a x1_1b x1_1c x1_1d x1_1e x1_1f x1_1g x1_1h x1_1i x1_1j x1_1k x1_1l x1_1m x1_2a x1_2b x1_2c x1_2d x1_2e x1_2f
  rcases HSv.out with ⟨heq, hz⟩ | ⟨hz1, hz2⟩
  · subst heq
    obtain ⟨⟨qf, qlo, qh, qr, ql⟩, qc⟩ := fa
    simp only at hz HFa HFb hla
    subst hz
    obtain ⟨x2_0a, x2_0b, x2_0c, x2_0d, x2_0e, x2_0f, x2_0g, x2_0h, x2_0i, x2_0j, x2_0k, x2_0l, x2_0m⟩ := cells12 (HO2.out.blk 0 rfl).1
    obtain ⟨x2_1a, x2_1b, x2_1c, x2_1d, x2_1e, x2_1f, x2_1g, x2_1h, x2_1i, x2_1j, x2_1k, x2_1l, x2_1m⟩ := cells12 (HO2.out.blk 1 rfl).1
    obtain ⟨x2_2a, x2_2b, x2_2c, x2_2d, x2_2e, x2_2f⟩ := cells5 (HO2.out.blk 2 rfl).1
    have HA2 := Lib.hid (HO2.out.alloc (.cells #[.int .i64 1, .string ek, .int .i64 es, .int .i64 eg, .int .i64 ec, .string key, .int .i64 pg, .bool lfa, .string loa, .string hia, .int .i64 ra, .slice aA l1.length cA, .int .i64 1, .string ek2, .int .i64 es2, .int .i64 eg2, .int .i64 ec2, .string key2, .int .i64 pg2, .bool lf2, .string lo2, .string hi2, .int .i64 r2, .slice aB l2.length cB] 30))
    clear HO2
    go_wp2_with fail
    clear x2_0a x2_0b x2_0c x2_0d x2_0e x2_0f x2_0g x2_0h x2_0i x2_0j x2_0k x2_0l x2_0m x2_1a x2_1b x2_1c x2_1d x2_1e x2_1f x2_1g x2_1h x2_1i x2_1j x2_1k x2_1l x2_1m x2_2a x2_2b x2_2c x2_2d x2_2e x2_2f
    refine (HFa.out _ _ HA2.out.old (HXa.out _ HA2.out.old _ (HA2.out.blk 0 rfl).1)).mono ?_
    rintro e w3 ⟨a3, c3, rfl, k3⟩
    have HO3 := Lib.hid (HA2.out.add k3)
    clear k3 HA2 
    go_upto_region 4 with fail
    have HO4 := Lib.hid (HO3.out.alloc (.cells #[.bool qf, .string qlo, .string qh, .int .i64 qr, .slice a3 ql.length c3] 24))
    clear HO3 
    generalize (w3.alloc (.cells #[.bool qf, .string qlo, .string qh, .int .i64 qr, .slice a3 ql.length c3] 24)) = w4 at *
    generalize w3.heap.size = g4 at *
    obtain ⟨x4_0a, x4_0b, x4_0c, x4_0d, x4_0e, x4_0f⟩ := cells5 (HO4.out.blk 0 rfl).1
    obtain ⟨x4_3a, x4_3b, x4_3c, x4_3d, x4_3e, x4_3f, x4_3g, x4_3h, x4_3i, x4_3j, x4_3k, x4_3l, x4_3m⟩ := cells12 (HO4.out.blk 3 rfl).1
    obtain ⟨x4_4a, x4_4b, x4_4c, x4_4d, x4_4e, x4_4f, x4_4g, x4_4h, x4_4i, x4_4j, x4_4k, x4_4l, x4_4m⟩ := cells12 (HO4.out.blk 4 rfl).1
    obtain ⟨x4_5a, x4_5b, x4_5c, x4_5d, x4_5e, x4_5f⟩ := cells5 (HO4.out.blk 5 rfl).1
    have HA4 := Lib.hid (HO4.out.alloc (.cells #[.int .i64 1, .string ek2, .int .i64 es2, .int .i64 eg2, .int .i64 ec2, .string key2, .int .i64 pg2, .bool lf2, .string lo2, .string hi2, .int .i64 r2, .slice aB l2.length cB, .int .i64 1, .string ek, .int .i64 es, .int .i64 eg, .int .i64 ec, .string key, .int .i64 pg, .bool lfa, .string loa, .string hia, .int .i64 ra, .slice aA l1.length cA] 30))
    clear HO4
    go_wp2_with fail
    clear x4_0a x4_0b x4_0c x4_0d x4_0e x4_0f x4_3a x4_3b x4_3c x4_3d x4_3e x4_3f x4_3g x4_3h x4_3i x4_3j x4_3k x4_3l x4_3m x4_4a x4_4b x4_4c x4_4d x4_4e x4_4f x4_4g x4_4h x4_4i x4_4j x4_4k x4_4l x4_4m x4_5a x4_5b x4_5c x4_5d x4_5e x4_5f
    refine (HFb.out _ _ HA4.out.old (HXb.out _ HA4.out.old _ (HA4.out.blk 0 rfl).1)).mono ?_
    rintro e w5 ⟨a5, c5, rfl, k5⟩
    have HO5 := Lib.hid (HA4.out.add k5)
    clear k5 HA4 
    go_upto_region 5 with fail
    have HO6 := Lib.hid (HO5.out.alloc (.cells #[.bool qf, .string qlo, .string qh, .int .i64 qr, .slice a5 ql.length c5] 24))
    clear HO5 
    generalize (w5.alloc (.cells #[.bool qf, .string qlo, .string qh, .int .i64 qr, .slice a5 ql.length c5] 24)) = w6 at *
    generalize w5.heap.size = g6 at *
    have HS := Lib.hid (fun W y z (hy : Rl En.enc 4 W y ql) (hz : Rl En.enc 4 W z ql) => (sameP_iff (p := ⟨qf, qlo, qh, qr, ql⟩) (q := ⟨qf, qlo, qh, qr, ql⟩)).2 rfl ▸ same_ref ⟨qf, qlo, qh, qr, ql⟩ ⟨qf, qlo, qh, qr, ql⟩ W hy hz (by show ql.length ≤ maxLen; unfold maxLen; omega))
    obtain ⟨x6_0a, x6_0b, x6_0c, x6_0d, x6_0e, x6_0f⟩ := cells5 (HO6.out.blk 0 rfl).1
    obtain ⟨x6_3a, x6_3b, x6_3c, x6_3d, x6_3e, x6_3f⟩ := cells5 (HO6.out.blk 3 rfl).1
    obtain ⟨x6_6a, x6_6b, x6_6c, x6_6d, x6_6e, x6_6f, x6_6g, x6_6h, x6_6i, x6_6j, x6_6k, x6_6l, x6_6m⟩ := cells12 (HO6.out.blk 6 rfl).1
    obtain ⟨x6_7a, x6_7b, x6_7c, x6_7d, x6_7e, x6_7f, x6_7g, x6_7h, x6_7i, x6_7j, x6_7k, x6_7l, x6_7m⟩ := cells12 (HO6.out.blk 7 rfl).1
    obtain ⟨x6_8a, x6_8b, x6_8c, x6_8d, x6_8e, x6_8f⟩ := cells5 (HO6.out.blk 8 rfl).1
    go_wp2_with fail
    refine (HS.out _ _ _ (HO6.out.rlE 4 rfl) (HO6.out.rlE 1 rfl)).mono ?_
    rintro e w7 ⟨rfl, k7⟩
    have HO7 := Lib.hid (HO6.out.kn k7)
    clear k7 HO6 x6_0a x6_0b x6_0c x6_0d x6_0e x6_0f x6_3a x6_3b x6_3c x6_3d x6_3e x6_3f x6_6a x6_6b x6_6c x6_6d x6_6e x6_6f x6_6g x6_6h x6_6i x6_6j x6_6k x6_6l x6_6m x6_7a x6_7b x6_7c x6_7d x6_7e x6_7f x6_7g x6_7h x6_7i x6_7j x6_7k x6_7l x6_7m x6_8a x6_8b x6_8c x6_8d x6_8e x6_8f
    go_wp2
    go_ret
    exact ⟨rfl, HO7.out.old⟩
  · obtain ⟨⟨qf, qlo, qh, qr, ql⟩, qc⟩ := fa
    obtain ⟨⟨pf, plo, ph, pr, pl⟩, pc⟩ := fb
    simp only at hz1 hz2 HFa HFb
    have z1 : (qc != 0) = true := by simpa using hz1
    have z2 : (pc != 0) = true := by simpa using hz2
    obtain ⟨x22_0a, x22_0b, x22_0c, x22_0d, x22_0e, x22_0f, x22_0g, x22_0h, x22_0i, x22_0j, x22_0k, x22_0l, x22_0m⟩ := cells12 (HO2.out.blk 0 rfl).1
    obtain ⟨x22_1a, x22_1b, x22_1c, x22_1d, x22_1e, x22_1f, x22_1g, x22_1h, x22_1i, x22_1j, x22_1k, x22_1l, x22_1m⟩ := cells12 (HO2.out.blk 1 rfl).1
    obtain ⟨x22_2a, x22_2b, x22_2c, x22_2d, x22_2e, x22_2f⟩ := cells5 (HO2.out.blk 2 rfl).1
    have HA22 := Lib.hid (HO2.out.alloc (.cells #[.int .i64 1, .string ek, .int .i64 es, .int .i64 eg, .int .i64 ec, .string key, .int .i64 pg, .bool lfa, .string loa, .string hia, .int .i64 ra, .slice aA l1.length cA, .int .i64 1, .string ek2, .int .i64 es2, .int .i64 eg2, .int .i64 ec2, .string key2, .int .i64 pg2, .bool lf2, .string lo2, .string hi2, .int .i64 r2, .slice aB l2.length cB] 30))
    clear HO2
    go_wp2_with fail
    clear x22_0a x22_0b x22_0c x22_0d x22_0e x22_0f x22_0g x22_0h x22_0i x22_0j x22_0k x22_0l x22_0m x22_1a x22_1b x22_1c x22_1d x22_1e x22_1f x22_1g x22_1h x22_1i x22_1j x22_1k x22_1l x22_1m x22_2a x22_2b x22_2c x22_2d x22_2e x22_2f
    refine (HFa.out _ _ HA22.out.old (HXa.out _ HA22.out.old _ (HA22.out.blk 0 rfl).1)).mono ?_
    rintro e w23 ⟨a23, c23, rfl, k23⟩
    have HO23 := Lib.hid (HA22.out.add k23)
    clear k23 HA22 
    go_upto_region 4 with fail
    have HO24 := Lib.hid (HO23.out.alloc (.cells #[.bool qf, .string qlo, .string qh, .int .i64 qr, .slice a23 ql.length c23] 24))
    clear HO23 
    generalize (w23.alloc (.cells #[.bool qf, .string qlo, .string qh, .int .i64 qr, .slice a23 ql.length c23] 24)) = w24 at *
    generalize w23.heap.size = g24 at *
    obtain ⟨x24_0a, x24_0b, x24_0c, x24_0d, x24_0e, x24_0f⟩ := cells5 (HO24.out.blk 0 rfl).1
    obtain ⟨x24_3a, x24_3b, x24_3c, x24_3d, x24_3e, x24_3f, x24_3g, x24_3h, x24_3i, x24_3j, x24_3k, x24_3l, x24_3m⟩ := cells12 (HO24.out.blk 3 rfl).1
    obtain ⟨x24_4a, x24_4b, x24_4c, x24_4d, x24_4e, x24_4f, x24_4g, x24_4h, x24_4i, x24_4j, x24_4k, x24_4l, x24_4m⟩ := cells12 (HO24.out.blk 4 rfl).1
    obtain ⟨x24_5a, x24_5b, x24_5c, x24_5d, x24_5e, x24_5f⟩ := cells5 (HO24.out.blk 5 rfl).1
    have HA24 := Lib.hid (HO24.out.alloc (.cells #[.int .i64 1, .string ek2, .int .i64 es2, .int .i64 eg2, .int .i64 ec2, .string key2, .int .i64 pg2, .bool lf2, .string lo2, .string hi2, .int .i64 r2, .slice aB l2.length cB, .int .i64 1, .string ek, .int .i64 es, .int .i64 eg, .int .i64 ec, .string key, .int .i64 pg, .bool lfa, .string loa, .string hia, .int .i64 ra, .slice aA l1.length cA] 30))
    clear HO24
    go_wp2_with fail
    clear x24_0a x24_0b x24_0c x24_0d x24_0e x24_0f x24_3a x24_3b x24_3c x24_3d x24_3e x24_3f x24_3g x24_3h x24_3i x24_3j x24_3k x24_3l x24_3m x24_4a x24_4b x24_4c x24_4d x24_4e x24_4f x24_4g x24_4h x24_4i x24_4j x24_4k x24_4l x24_4m x24_5a x24_5b x24_5c x24_5d x24_5e x24_5f
    refine (HFb.out _ _ HA24.out.old (HXb.out _ HA24.out.old _ (HA24.out.blk 0 rfl).1)).mono ?_
    rintro e w25 ⟨a25, c25, rfl, k25⟩
    have HO25 := Lib.hid (HA24.out.add k25)
    clear k25 HA24 
    go_upto_region 5 with fail
    have HO26 := Lib.hid (HO25.out.alloc (.cells #[.bool pf, .string plo, .string ph, .int .i64 pr, .slice a25 pl.length c25] 24))
    clear HO25 
    generalize (w25.alloc (.cells #[.bool pf, .string plo, .string ph, .int .i64 pr, .slice a25 pl.length c25] 24)) = w26 at *
    generalize w25.heap.size = g26 at *
    go_wp2
    go_ret
    exact ⟨by simp, HO26.out.old⟩
set_option maxHeartbeats 8000000 in
set_option maxRecDepth 100000 in
theorem swaps_yes12 (lf : Bool) (lo hi : ByteArray) (r : Int) (l : List En) (ek : ByteArray) (es eg ec : Int) (key : ByteArray) (pg : Int) (lfa : Bool) (loa hia : ByteArray) (ra : Int) (l1 : List En) (ek2 : ByteArray) (es2 eg2 ec2 : Int) (key2 : ByteArray) (pg2 : Int) (lf2 : Bool) (lo2 hi2 : ByteArray) (r2 : Int) (l2 : List En) (w : World) {v ua ub : Value} (hr : Rl En.enc 4 w v l) (hsa : Rl En.enc 4 w ua l1) (hsb : Rl En.enc 4 w ub l2) (hl : l.length ≤ 1048576) (hl1 : l1.length ≤ 1048576) (hl2 : l2.length ≤ 1048576) (hz1 : ek.size + key.size ≤ 2097152) (hz2 : ek2.size + key2.size ≤ 2097152) : Calls Try.prog 3 #[pgv ⟨lf, lo, hi, r, l⟩ v, dlv ⟨1, ⟨ek, ⟨es, eg⟩, ec⟩, key, pg, ⟨lfa, loa, hia, ra, l1⟩⟩ ua, dlv ⟨2, ⟨ek2, ⟨es2, eg2⟩, ec2⟩, key2, pg2, ⟨lf2, lo2, hi2, r2, l2⟩⟩ ub] w fun e w' => e = .returned (.bool true) ∧ KN w w' := by
  have hsum : (⟨lf, lo, hi, r, l⟩ : Pg).list.length + sumD [(⟨1, ⟨ek, ⟨es, eg⟩, ec⟩, key, pg, ⟨lfa, loa, hia, ra, l1⟩⟩ : Dl), (⟨2, ⟨ek2, ⟨es2, eg2⟩, ec2⟩, key2, pg2, ⟨lf2, lo2, hi2, r2, l2⟩⟩ : Dl)] ≤ 3145730 := by rw [sumD_cons, sumD_cons, show sumD [] = 0 from rfl]; simp only; omega
  have hsum2 : (⟨lf, lo, hi, r, l⟩ : Pg).list.length + sumD [(⟨2, ⟨ek2, ⟨es2, eg2⟩, ec2⟩, key2, pg2, ⟨lf2, lo2, hi2, r2, l2⟩⟩ : Dl), (⟨1, ⟨ek, ⟨es, eg⟩, ec⟩, key, pg, ⟨lfa, loa, hia, ra, l1⟩⟩ : Dl)] ≤ 3145730 := by rw [sumD_cons, sumD_cons, show sumD [] = 0 from rfl]; simp only; omega
  have HFa := Lib.hid (fun W u' (k' : KN w W) (hd : RlD W u' [(⟨1, ⟨ek, ⟨es, eg⟩, ec⟩, key, pg, ⟨lfa, loa, hia, ra, l1⟩⟩ : Dl), (⟨2, ⟨ek2, ⟨es2, eg2⟩, ec2⟩, key2, pg2, ⟨lf2, lo2, hi2, r2, l2⟩⟩ : Dl)]) => fold_delta ⟨lf, lo, hi, r, l⟩ [(⟨1, ⟨ek, ⟨es, eg⟩, ec⟩, key, pg, ⟨lfa, loa, hia, ra, l1⟩⟩ : Dl), (⟨2, ⟨ek2, ⟨es2, eg2⟩, ec2⟩, key2, pg2, ⟨lf2, lo2, hi2, r2, l2⟩⟩ : Dl)] W (hr.kn k') hd (Nat.le_trans (Nat.mul_le_mul_right 40 hsum) (by decide)))
  have HFb := Lib.hid (fun W u' (k' : KN w W) (hd : RlD W u' [(⟨2, ⟨ek2, ⟨es2, eg2⟩, ec2⟩, key2, pg2, ⟨lf2, lo2, hi2, r2, l2⟩⟩ : Dl), (⟨1, ⟨ek, ⟨es, eg⟩, ec⟩, key, pg, ⟨lfa, loa, hia, ra, l1⟩⟩ : Dl)]) => fold_delta ⟨lf, lo, hi, r, l⟩ [(⟨2, ⟨ek2, ⟨es2, eg2⟩, ec2⟩, key2, pg2, ⟨lf2, lo2, hi2, r2, l2⟩⟩ : Dl), (⟨1, ⟨ek, ⟨es, eg⟩, ec⟩, key, pg, ⟨lfa, loa, hia, ra, l1⟩⟩ : Dl)] W (hr.kn k') hd (Nat.le_trans (Nat.mul_le_mul_right 40 hsum2) (by decide)))
  have hla := Nat.le_trans (foldD_len ⟨lf, lo, hi, r, l⟩ [(⟨1, ⟨ek, ⟨es, eg⟩, ec⟩, key, pg, ⟨lfa, loa, hia, ra, l1⟩⟩ : Dl), (⟨2, ⟨ek2, ⟨es2, eg2⟩, ec2⟩, key2, pg2, ⟨lf2, lo2, hi2, r2, l2⟩⟩ : Dl)]) hsum
  have HXa := Lib.hid (fun (W : World) (k' : KN w W) (g : Nat) (h : W.heap[g]? = some (Obj.cells (([((⟨1, ⟨ek, ⟨es, eg⟩, ec⟩, key, pg, ⟨lfa, loa, hia, ra, l1⟩⟩ : Dl), ua), ((⟨2, ⟨ek2, ⟨es2, eg2⟩, ec2⟩, key2, pg2, ⟨lf2, lo2, hi2, r2, l2⟩⟩ : Dl), ub)] : List (Dl × Value)).flatMap dlc).toArray 30)) => show RlD W (.slice (some ⟨g, 0, none⟩) 2 2) [(⟨1, ⟨ek, ⟨es, eg⟩, ec⟩, key, pg, ⟨lfa, loa, hia, ra, l1⟩⟩ : Dl), (⟨2, ⟨ek2, ⟨es2, eg2⟩, ec2⟩, key2, pg2, ⟨lf2, lo2, hi2, r2, l2⟩⟩ : Dl)] from rlD_blk (cap := 2) (n := 2) (xs := [((⟨1, ⟨ek, ⟨es, eg⟩, ec⟩, key, pg, ⟨lfa, loa, hia, ra, l1⟩⟩ : Dl), ua), ((⟨2, ⟨ek2, ⟨es2, eg2⟩, ec2⟩, key2, pg2, ⟨lf2, lo2, hi2, r2, l2⟩⟩ : Dl), ub)]) h rfl rfl (Nat.le_refl _) (fun x hx => by
    simp only [List.mem_cons, List.not_mem_nil, or_false] at hx
    rcases hx with rfl | rfl
    · exact hsa.kn k'
    · exact hsb.kn k'))
  have HXb := Lib.hid (fun (W : World) (k' : KN w W) (g : Nat) (h : W.heap[g]? = some (Obj.cells (([((⟨2, ⟨ek2, ⟨es2, eg2⟩, ec2⟩, key2, pg2, ⟨lf2, lo2, hi2, r2, l2⟩⟩ : Dl), ub), ((⟨1, ⟨ek, ⟨es, eg⟩, ec⟩, key, pg, ⟨lfa, loa, hia, ra, l1⟩⟩ : Dl), ua)] : List (Dl × Value)).flatMap dlc).toArray 30)) => show RlD W (.slice (some ⟨g, 0, none⟩) 2 2) [(⟨2, ⟨ek2, ⟨es2, eg2⟩, ec2⟩, key2, pg2, ⟨lf2, lo2, hi2, r2, l2⟩⟩ : Dl), (⟨1, ⟨ek, ⟨es, eg⟩, ec⟩, key, pg, ⟨lfa, loa, hia, ra, l1⟩⟩ : Dl)] from rlD_blk (cap := 2) (n := 2) (xs := [((⟨2, ⟨ek2, ⟨es2, eg2⟩, ec2⟩, key2, pg2, ⟨lf2, lo2, hi2, r2, l2⟩⟩ : Dl), ub), ((⟨1, ⟨ek, ⟨es, eg⟩, ec⟩, key, pg, ⟨lfa, loa, hia, ra, l1⟩⟩ : Dl), ua)]) h rfl rfl (Nat.le_refl _) (fun x hx => by
    simp only [List.mem_cons, List.not_mem_nil, or_false] at hx
    rcases hx with rfl | rfl
    · exact hsb.kn k'
    · exact hsa.kn k'))
  have HC := Lib.hid (fun W (k : KN w W) => check_ref ⟨lf, lo, hi, r, l⟩ W (hr.kn k) (by show l.length ≤ maxLen; unfold maxLen; omega))
  obtain ⟨cv, hcv⟩ : ∃ x, checkP ⟨lf, lo, hi, r, l⟩ = x := ⟨_, rfl⟩
  rw [hcv] at HC
  have HSw := Lib.hid (fun (h1 : cv = 0) (h2 : ek ++ key ≠ ek2 ++ key2) => swap_law (p := ⟨lf, lo, hi, r, l⟩) (a := (⟨1, ⟨ek, ⟨es, eg⟩, ec⟩, key, pg, ⟨lfa, loa, hia, ra, l1⟩⟩ : Dl)) (b := (⟨2, ⟨ek2, ⟨es2, eg2⟩, ec2⟩, key2, pg2, ⟨lf2, lo2, hi2, r2, l2⟩⟩ : Dl)) (hcv.trans h1) (by simp) (by simp) h2)
  obtain ⟨fa, hfa⟩ : ∃ x, foldD ⟨lf, lo, hi, r, l⟩ [(⟨1, ⟨ek, ⟨es, eg⟩, ec⟩, key, pg, ⟨lfa, loa, hia, ra, l1⟩⟩ : Dl), (⟨2, ⟨ek2, ⟨es2, eg2⟩, ec2⟩, key2, pg2, ⟨lf2, lo2, hi2, r2, l2⟩⟩ : Dl)] = x := ⟨_, rfl⟩
  obtain ⟨fb, hfb⟩ : ∃ x, foldD ⟨lf, lo, hi, r, l⟩ [(⟨2, ⟨ek2, ⟨es2, eg2⟩, ec2⟩, key2, pg2, ⟨lf2, lo2, hi2, r2, l2⟩⟩ : Dl), (⟨1, ⟨ek, ⟨es, eg⟩, ec⟩, key, pg, ⟨lfa, loa, hia, ra, l1⟩⟩ : Dl)] = x := ⟨_, rfl⟩
  rw [hfa] at HFa hla
  rw [hfb] at HFb
  rw [hfa, hfb] at HSw
  clear hfa hfb hcv hsum hsum2
  obtain ⟨a0, c0, rfl, hc0, hrd⟩ := hr
  obtain ⟨aA, cA, rfl, hcA, had⟩ := hsa
  obtain ⟨aB, cB, rfl, hcB, hbd⟩ := hsb
  clear hrd had hbd
  unfold dlv
  simp only
  have HO0 := Lib.hid ((One.nil w).alloc3 (.cells #[.bool lf, .string lo, .string hi, .int .i64 r, .slice a0 l.length c0] 24) (.cells #[.int .i64 1, .string ek, .int .i64 es, .int .i64 eg, .int .i64 ec, .string key, .int .i64 pg, .bool lfa, .string loa, .string hia, .int .i64 ra, .slice aA l1.length cA] 30) (.cells #[.int .i64 2, .string ek2, .int .i64 es2, .int .i64 eg2, .int .i64 ec2, .string key2, .int .i64 pg2, .bool lf2, .string lo2, .string hi2, .int .i64 r2, .slice aB l2.length cB] 30))
  go_enter Try.func3, Try.ntmps3
  have sz1 : (ek.size : Int) + (key.size : Int) ≤ 9223372036854775807 := by omega
  have sz2 : (ek2.size : Int) + (key2.size : Int) ≤ 9223372036854775807 := by omega
  by_cases hcat : ek ++ key = ek2 ++ key2
  case pos =>
    have hcb : ((ek ++ key).toList == (ek2 ++ key2).toList) = true := by rw [hcat]; simp
    clear hcat
    obtain ⟨x0_0a, x0_0b, x0_0c, x0_0d, x0_0e, x0_0f, x0_0g, x0_0h, x0_0i, x0_0j, x0_0k, x0_0l, x0_0m⟩ := cells12 (HO0.out.blk 0 rfl).1
    obtain ⟨x0_1a, x0_1b, x0_1c, x0_1d, x0_1e, x0_1f, x0_1g, x0_1h, x0_1i, x0_1j, x0_1k, x0_1l, x0_1m⟩ := cells12 (HO0.out.blk 1 rfl).1
    obtain ⟨x0_2a, x0_2b, x0_2c, x0_2d, x0_2e, x0_2f⟩ := cells5 (HO0.out.blk 2 rfl).1
    go_wp2_with fail
    refine (live_true _).mono ?_
    rintro e wl ⟨rfl, kl⟩
    go_wp2
    go_ret
    exact ⟨rfl, (HO0.out.kn kl).old⟩
  have hcb : ((ek ++ key).toList == (ek2 ++ key2).toList) = false := beq_str_false hcat
  obtain ⟨x0_0a, x0_0b, x0_0c, x0_0d, x0_0e, x0_0f, x0_0g, x0_0h, x0_0i, x0_0j, x0_0k, x0_0l, x0_0m⟩ := cells12 (HO0.out.blk 0 rfl).1
  obtain ⟨x0_1a, x0_1b, x0_1c, x0_1d, x0_1e, x0_1f, x0_1g, x0_1h, x0_1i, x0_1j, x0_1k, x0_1l, x0_1m⟩ := cells12 (HO0.out.blk 1 rfl).1
  obtain ⟨x0_2a, x0_2b, x0_2c, x0_2d, x0_2e, x0_2f⟩ := cells5 (HO0.out.blk 2 rfl).1
  go_wp2_with fail
  refine (HC.out _ HO0.out.old).mono ?_
  rintro e w1 ⟨rfl, k1⟩
  have HO1 := Lib.hid (HO0.out.kn k1)
  clear k1 HO0 x0_0a x0_0b x0_0c x0_0d x0_0e x0_0f x0_0g x0_0h x0_0i x0_0j x0_0k x0_0l x0_0m x0_1a x0_1b x0_1c x0_1d x0_1e x0_1f x0_1g x0_1h x0_1i x0_1j x0_1k x0_1l x0_1m x0_2a x0_2b x0_2c x0_2d x0_2e x0_2f
  by_cases hc : cv = 0
  case neg =>
    have hc1 : (cv != 0) = true := by simpa using hc
    go_wp2_with fail
    refine (live_true _).mono ?_
    rintro e wl ⟨rfl, kl⟩
    go_wp2
    go_ret
    exact ⟨rfl, (HO1.out.kn kl).old⟩
  have HSv := Lib.hid (HSw.out hc hcat)
  clear HSw
  subst hc
  clear hcat hcb
  obtain ⟨x1_0a, x1_0b, x1_0c, x1_0d, x1_0e, x1_0f, x1_0g, x1_0h, x1_0i, x1_0j, x1_0k, x1_0l, x1_0m⟩ := cells12 (HO1.out.blk 0 rfl).1
  obtain ⟨x1_1a, x1_1b, x1_1c, x1_1d, x1_1e, x1_1f, x1_1g, x1_1h, x1_1i, x1_1j, x1_1k, x1_1l, x1_1m⟩ := cells12 (HO1.out.blk 1 rfl).1
  obtain ⟨x1_2a, x1_2b, x1_2c, x1_2d, x1_2e, x1_2f⟩ := cells5 (HO1.out.blk 2 rfl).1
  go_wp2_with fail
  refine (live_true _).mono ?_
  rintro e w2 ⟨rfl, k2⟩
  have HO2 := Lib.hid (HO1.out.kn k2)
  clear k2 HO1 x1_0a x1_0b x1_0c x1_0d x1_0e x1_0f x1_0g x1_0h x1_0i x1_0j x1_0k x1_0l x1_0m x1_1a x1_1b x1_1c x1_1d x1_1e x1_1f x1_1g x1_1h x1_1i x1_1j x1_1k x1_1l x1_1m x1_2a x1_2b x1_2c x1_2d x1_2e x1_2f
  rcases HSv.out with ⟨heq, hz⟩ | ⟨hz1, hz2⟩
  · subst heq
    obtain ⟨⟨qf, qlo, qh, qr, ql⟩, qc⟩ := fa
    simp only at hz HFa HFb hla
    subst hz
    obtain ⟨x2_0a, x2_0b, x2_0c, x2_0d, x2_0e, x2_0f, x2_0g, x2_0h, x2_0i, x2_0j, x2_0k, x2_0l, x2_0m⟩ := cells12 (HO2.out.blk 0 rfl).1
    obtain ⟨x2_1a, x2_1b, x2_1c, x2_1d, x2_1e, x2_1f, x2_1g, x2_1h, x2_1i, x2_1j, x2_1k, x2_1l, x2_1m⟩ := cells12 (HO2.out.blk 1 rfl).1
    obtain ⟨x2_2a, x2_2b, x2_2c, x2_2d, x2_2e, x2_2f⟩ := cells5 (HO2.out.blk 2 rfl).1
    have HA2 := Lib.hid (HO2.out.alloc (.cells #[.int .i64 1, .string ek, .int .i64 es, .int .i64 eg, .int .i64 ec, .string key, .int .i64 pg, .bool lfa, .string loa, .string hia, .int .i64 ra, .slice aA l1.length cA, .int .i64 2, .string ek2, .int .i64 es2, .int .i64 eg2, .int .i64 ec2, .string key2, .int .i64 pg2, .bool lf2, .string lo2, .string hi2, .int .i64 r2, .slice aB l2.length cB] 30))
    clear HO2
    go_wp2_with fail
    clear x2_0a x2_0b x2_0c x2_0d x2_0e x2_0f x2_0g x2_0h x2_0i x2_0j x2_0k x2_0l x2_0m x2_1a x2_1b x2_1c x2_1d x2_1e x2_1f x2_1g x2_1h x2_1i x2_1j x2_1k x2_1l x2_1m x2_2a x2_2b x2_2c x2_2d x2_2e x2_2f
    refine (HFa.out _ _ HA2.out.old (HXa.out _ HA2.out.old _ (HA2.out.blk 0 rfl).1)).mono ?_
    rintro e w3 ⟨a3, c3, rfl, k3⟩
    have HO3 := Lib.hid (HA2.out.add k3)
    clear k3 HA2 
    go_upto_region 4 with fail
    have HO4 := Lib.hid (HO3.out.alloc (.cells #[.bool qf, .string qlo, .string qh, .int .i64 qr, .slice a3 ql.length c3] 24))
    clear HO3 
    generalize (w3.alloc (.cells #[.bool qf, .string qlo, .string qh, .int .i64 qr, .slice a3 ql.length c3] 24)) = w4 at *
    generalize w3.heap.size = g4 at *
    obtain ⟨x4_0a, x4_0b, x4_0c, x4_0d, x4_0e, x4_0f⟩ := cells5 (HO4.out.blk 0 rfl).1
    obtain ⟨x4_3a, x4_3b, x4_3c, x4_3d, x4_3e, x4_3f, x4_3g, x4_3h, x4_3i, x4_3j, x4_3k, x4_3l, x4_3m⟩ := cells12 (HO4.out.blk 3 rfl).1
    obtain ⟨x4_4a, x4_4b, x4_4c, x4_4d, x4_4e, x4_4f, x4_4g, x4_4h, x4_4i, x4_4j, x4_4k, x4_4l, x4_4m⟩ := cells12 (HO4.out.blk 4 rfl).1
    obtain ⟨x4_5a, x4_5b, x4_5c, x4_5d, x4_5e, x4_5f⟩ := cells5 (HO4.out.blk 5 rfl).1
    have HA4 := Lib.hid (HO4.out.alloc (.cells #[.int .i64 2, .string ek2, .int .i64 es2, .int .i64 eg2, .int .i64 ec2, .string key2, .int .i64 pg2, .bool lf2, .string lo2, .string hi2, .int .i64 r2, .slice aB l2.length cB, .int .i64 1, .string ek, .int .i64 es, .int .i64 eg, .int .i64 ec, .string key, .int .i64 pg, .bool lfa, .string loa, .string hia, .int .i64 ra, .slice aA l1.length cA] 30))
    clear HO4
    go_wp2_with fail
    clear x4_0a x4_0b x4_0c x4_0d x4_0e x4_0f x4_3a x4_3b x4_3c x4_3d x4_3e x4_3f x4_3g x4_3h x4_3i x4_3j x4_3k x4_3l x4_3m x4_4a x4_4b x4_4c x4_4d x4_4e x4_4f x4_4g x4_4h x4_4i x4_4j x4_4k x4_4l x4_4m x4_5a x4_5b x4_5c x4_5d x4_5e x4_5f
    refine (HFb.out _ _ HA4.out.old (HXb.out _ HA4.out.old _ (HA4.out.blk 0 rfl).1)).mono ?_
    rintro e w5 ⟨a5, c5, rfl, k5⟩
    have HO5 := Lib.hid (HA4.out.add k5)
    clear k5 HA4 
    go_upto_region 5 with fail
    have HO6 := Lib.hid (HO5.out.alloc (.cells #[.bool qf, .string qlo, .string qh, .int .i64 qr, .slice a5 ql.length c5] 24))
    clear HO5 
    generalize (w5.alloc (.cells #[.bool qf, .string qlo, .string qh, .int .i64 qr, .slice a5 ql.length c5] 24)) = w6 at *
    generalize w5.heap.size = g6 at *
    have HS := Lib.hid (fun W y z (hy : Rl En.enc 4 W y ql) (hz : Rl En.enc 4 W z ql) => (sameP_iff (p := ⟨qf, qlo, qh, qr, ql⟩) (q := ⟨qf, qlo, qh, qr, ql⟩)).2 rfl ▸ same_ref ⟨qf, qlo, qh, qr, ql⟩ ⟨qf, qlo, qh, qr, ql⟩ W hy hz (by show ql.length ≤ maxLen; unfold maxLen; omega))
    obtain ⟨x6_0a, x6_0b, x6_0c, x6_0d, x6_0e, x6_0f⟩ := cells5 (HO6.out.blk 0 rfl).1
    obtain ⟨x6_3a, x6_3b, x6_3c, x6_3d, x6_3e, x6_3f⟩ := cells5 (HO6.out.blk 3 rfl).1
    obtain ⟨x6_6a, x6_6b, x6_6c, x6_6d, x6_6e, x6_6f, x6_6g, x6_6h, x6_6i, x6_6j, x6_6k, x6_6l, x6_6m⟩ := cells12 (HO6.out.blk 6 rfl).1
    obtain ⟨x6_7a, x6_7b, x6_7c, x6_7d, x6_7e, x6_7f, x6_7g, x6_7h, x6_7i, x6_7j, x6_7k, x6_7l, x6_7m⟩ := cells12 (HO6.out.blk 7 rfl).1
    obtain ⟨x6_8a, x6_8b, x6_8c, x6_8d, x6_8e, x6_8f⟩ := cells5 (HO6.out.blk 8 rfl).1
    go_wp2_with fail
    refine (HS.out _ _ _ (HO6.out.rlE 4 rfl) (HO6.out.rlE 1 rfl)).mono ?_
    rintro e w7 ⟨rfl, k7⟩
    have HO7 := Lib.hid (HO6.out.kn k7)
    clear k7 HO6 x6_0a x6_0b x6_0c x6_0d x6_0e x6_0f x6_3a x6_3b x6_3c x6_3d x6_3e x6_3f x6_6a x6_6b x6_6c x6_6d x6_6e x6_6f x6_6g x6_6h x6_6i x6_6j x6_6k x6_6l x6_6m x6_7a x6_7b x6_7c x6_7d x6_7e x6_7f x6_7g x6_7h x6_7i x6_7j x6_7k x6_7l x6_7m x6_8a x6_8b x6_8c x6_8d x6_8e x6_8f
    go_wp2
    go_ret
    exact ⟨rfl, HO7.out.old⟩
  · obtain ⟨⟨qf, qlo, qh, qr, ql⟩, qc⟩ := fa
    obtain ⟨⟨pf, plo, ph, pr, pl⟩, pc⟩ := fb
    simp only at hz1 hz2 HFa HFb
    have z1 : (qc != 0) = true := by simpa using hz1
    have z2 : (pc != 0) = true := by simpa using hz2
    obtain ⟨x22_0a, x22_0b, x22_0c, x22_0d, x22_0e, x22_0f, x22_0g, x22_0h, x22_0i, x22_0j, x22_0k, x22_0l, x22_0m⟩ := cells12 (HO2.out.blk 0 rfl).1
    obtain ⟨x22_1a, x22_1b, x22_1c, x22_1d, x22_1e, x22_1f, x22_1g, x22_1h, x22_1i, x22_1j, x22_1k, x22_1l, x22_1m⟩ := cells12 (HO2.out.blk 1 rfl).1
    obtain ⟨x22_2a, x22_2b, x22_2c, x22_2d, x22_2e, x22_2f⟩ := cells5 (HO2.out.blk 2 rfl).1
    have HA22 := Lib.hid (HO2.out.alloc (.cells #[.int .i64 1, .string ek, .int .i64 es, .int .i64 eg, .int .i64 ec, .string key, .int .i64 pg, .bool lfa, .string loa, .string hia, .int .i64 ra, .slice aA l1.length cA, .int .i64 2, .string ek2, .int .i64 es2, .int .i64 eg2, .int .i64 ec2, .string key2, .int .i64 pg2, .bool lf2, .string lo2, .string hi2, .int .i64 r2, .slice aB l2.length cB] 30))
    clear HO2
    go_wp2_with fail
    clear x22_0a x22_0b x22_0c x22_0d x22_0e x22_0f x22_0g x22_0h x22_0i x22_0j x22_0k x22_0l x22_0m x22_1a x22_1b x22_1c x22_1d x22_1e x22_1f x22_1g x22_1h x22_1i x22_1j x22_1k x22_1l x22_1m x22_2a x22_2b x22_2c x22_2d x22_2e x22_2f
    refine (HFa.out _ _ HA22.out.old (HXa.out _ HA22.out.old _ (HA22.out.blk 0 rfl).1)).mono ?_
    rintro e w23 ⟨a23, c23, rfl, k23⟩
    have HO23 := Lib.hid (HA22.out.add k23)
    clear k23 HA22 
    go_upto_region 4 with fail
    have HO24 := Lib.hid (HO23.out.alloc (.cells #[.bool qf, .string qlo, .string qh, .int .i64 qr, .slice a23 ql.length c23] 24))
    clear HO23 
    generalize (w23.alloc (.cells #[.bool qf, .string qlo, .string qh, .int .i64 qr, .slice a23 ql.length c23] 24)) = w24 at *
    generalize w23.heap.size = g24 at *
    obtain ⟨x24_0a, x24_0b, x24_0c, x24_0d, x24_0e, x24_0f⟩ := cells5 (HO24.out.blk 0 rfl).1
    obtain ⟨x24_3a, x24_3b, x24_3c, x24_3d, x24_3e, x24_3f, x24_3g, x24_3h, x24_3i, x24_3j, x24_3k, x24_3l, x24_3m⟩ := cells12 (HO24.out.blk 3 rfl).1
    obtain ⟨x24_4a, x24_4b, x24_4c, x24_4d, x24_4e, x24_4f, x24_4g, x24_4h, x24_4i, x24_4j, x24_4k, x24_4l, x24_4m⟩ := cells12 (HO24.out.blk 4 rfl).1
    obtain ⟨x24_5a, x24_5b, x24_5c, x24_5d, x24_5e, x24_5f⟩ := cells5 (HO24.out.blk 5 rfl).1
    have HA24 := Lib.hid (HO24.out.alloc (.cells #[.int .i64 2, .string ek2, .int .i64 es2, .int .i64 eg2, .int .i64 ec2, .string key2, .int .i64 pg2, .bool lf2, .string lo2, .string hi2, .int .i64 r2, .slice aB l2.length cB, .int .i64 1, .string ek, .int .i64 es, .int .i64 eg, .int .i64 ec, .string key, .int .i64 pg, .bool lfa, .string loa, .string hia, .int .i64 ra, .slice aA l1.length cA] 30))
    clear HO24
    go_wp2_with fail
    clear x24_0a x24_0b x24_0c x24_0d x24_0e x24_0f x24_3a x24_3b x24_3c x24_3d x24_3e x24_3f x24_3g x24_3h x24_3i x24_3j x24_3k x24_3l x24_3m x24_4a x24_4b x24_4c x24_4d x24_4e x24_4f x24_4g x24_4h x24_4i x24_4j x24_4k x24_4l x24_4m x24_5a x24_5b x24_5c x24_5d x24_5e x24_5f
    refine (HFb.out _ _ HA24.out.old (HXb.out _ HA24.out.old _ (HA24.out.blk 0 rfl).1)).mono ?_
    rintro e w25 ⟨a25, c25, rfl, k25⟩
    have HO25 := Lib.hid (HA24.out.add k25)
    clear k25 HA24 
    go_upto_region 5 with fail
    have HO26 := Lib.hid (HO25.out.alloc (.cells #[.bool pf, .string plo, .string ph, .int .i64 pr, .slice a25 pl.length c25] 24))
    clear HO25 
    generalize (w25.alloc (.cells #[.bool pf, .string plo, .string ph, .int .i64 pr, .slice a25 pl.length c25] 24)) = w26 at *
    generalize w25.heap.size = g26 at *
    go_wp2
    go_ret
    exact ⟨by simp, HO26.out.old⟩
set_option maxHeartbeats 8000000 in
set_option maxRecDepth 100000 in
theorem swaps_yes21 (lf : Bool) (lo hi : ByteArray) (r : Int) (l : List En) (ek : ByteArray) (es eg ec : Int) (key : ByteArray) (pg : Int) (lfa : Bool) (loa hia : ByteArray) (ra : Int) (l1 : List En) (ek2 : ByteArray) (es2 eg2 ec2 : Int) (key2 : ByteArray) (pg2 : Int) (lf2 : Bool) (lo2 hi2 : ByteArray) (r2 : Int) (l2 : List En) (w : World) {v ua ub : Value} (hr : Rl En.enc 4 w v l) (hsa : Rl En.enc 4 w ua l1) (hsb : Rl En.enc 4 w ub l2) (hl : l.length ≤ 1048576) (hl1 : l1.length ≤ 1048576) (hl2 : l2.length ≤ 1048576) (hz1 : ek.size + key.size ≤ 2097152) (hz2 : ek2.size + key2.size ≤ 2097152) : Calls Try.prog 3 #[pgv ⟨lf, lo, hi, r, l⟩ v, dlv ⟨2, ⟨ek, ⟨es, eg⟩, ec⟩, key, pg, ⟨lfa, loa, hia, ra, l1⟩⟩ ua, dlv ⟨1, ⟨ek2, ⟨es2, eg2⟩, ec2⟩, key2, pg2, ⟨lf2, lo2, hi2, r2, l2⟩⟩ ub] w fun e w' => e = .returned (.bool true) ∧ KN w w' := by
  have hsum : (⟨lf, lo, hi, r, l⟩ : Pg).list.length + sumD [(⟨2, ⟨ek, ⟨es, eg⟩, ec⟩, key, pg, ⟨lfa, loa, hia, ra, l1⟩⟩ : Dl), (⟨1, ⟨ek2, ⟨es2, eg2⟩, ec2⟩, key2, pg2, ⟨lf2, lo2, hi2, r2, l2⟩⟩ : Dl)] ≤ 3145730 := by rw [sumD_cons, sumD_cons, show sumD [] = 0 from rfl]; simp only; omega
  have hsum2 : (⟨lf, lo, hi, r, l⟩ : Pg).list.length + sumD [(⟨1, ⟨ek2, ⟨es2, eg2⟩, ec2⟩, key2, pg2, ⟨lf2, lo2, hi2, r2, l2⟩⟩ : Dl), (⟨2, ⟨ek, ⟨es, eg⟩, ec⟩, key, pg, ⟨lfa, loa, hia, ra, l1⟩⟩ : Dl)] ≤ 3145730 := by rw [sumD_cons, sumD_cons, show sumD [] = 0 from rfl]; simp only; omega
  have HFa := Lib.hid (fun W u' (k' : KN w W) (hd : RlD W u' [(⟨2, ⟨ek, ⟨es, eg⟩, ec⟩, key, pg, ⟨lfa, loa, hia, ra, l1⟩⟩ : Dl), (⟨1, ⟨ek2, ⟨es2, eg2⟩, ec2⟩, key2, pg2, ⟨lf2, lo2, hi2, r2, l2⟩⟩ : Dl)]) => fold_delta ⟨lf, lo, hi, r, l⟩ [(⟨2, ⟨ek, ⟨es, eg⟩, ec⟩, key, pg, ⟨lfa, loa, hia, ra, l1⟩⟩ : Dl), (⟨1, ⟨ek2, ⟨es2, eg2⟩, ec2⟩, key2, pg2, ⟨lf2, lo2, hi2, r2, l2⟩⟩ : Dl)] W (hr.kn k') hd (Nat.le_trans (Nat.mul_le_mul_right 40 hsum) (by decide)))
  have HFb := Lib.hid (fun W u' (k' : KN w W) (hd : RlD W u' [(⟨1, ⟨ek2, ⟨es2, eg2⟩, ec2⟩, key2, pg2, ⟨lf2, lo2, hi2, r2, l2⟩⟩ : Dl), (⟨2, ⟨ek, ⟨es, eg⟩, ec⟩, key, pg, ⟨lfa, loa, hia, ra, l1⟩⟩ : Dl)]) => fold_delta ⟨lf, lo, hi, r, l⟩ [(⟨1, ⟨ek2, ⟨es2, eg2⟩, ec2⟩, key2, pg2, ⟨lf2, lo2, hi2, r2, l2⟩⟩ : Dl), (⟨2, ⟨ek, ⟨es, eg⟩, ec⟩, key, pg, ⟨lfa, loa, hia, ra, l1⟩⟩ : Dl)] W (hr.kn k') hd (Nat.le_trans (Nat.mul_le_mul_right 40 hsum2) (by decide)))
  have hla := Nat.le_trans (foldD_len ⟨lf, lo, hi, r, l⟩ [(⟨2, ⟨ek, ⟨es, eg⟩, ec⟩, key, pg, ⟨lfa, loa, hia, ra, l1⟩⟩ : Dl), (⟨1, ⟨ek2, ⟨es2, eg2⟩, ec2⟩, key2, pg2, ⟨lf2, lo2, hi2, r2, l2⟩⟩ : Dl)]) hsum
  have HXa := Lib.hid (fun (W : World) (k' : KN w W) (g : Nat) (h : W.heap[g]? = some (Obj.cells (([((⟨2, ⟨ek, ⟨es, eg⟩, ec⟩, key, pg, ⟨lfa, loa, hia, ra, l1⟩⟩ : Dl), ua), ((⟨1, ⟨ek2, ⟨es2, eg2⟩, ec2⟩, key2, pg2, ⟨lf2, lo2, hi2, r2, l2⟩⟩ : Dl), ub)] : List (Dl × Value)).flatMap dlc).toArray 30)) => show RlD W (.slice (some ⟨g, 0, none⟩) 2 2) [(⟨2, ⟨ek, ⟨es, eg⟩, ec⟩, key, pg, ⟨lfa, loa, hia, ra, l1⟩⟩ : Dl), (⟨1, ⟨ek2, ⟨es2, eg2⟩, ec2⟩, key2, pg2, ⟨lf2, lo2, hi2, r2, l2⟩⟩ : Dl)] from rlD_blk (cap := 2) (n := 2) (xs := [((⟨2, ⟨ek, ⟨es, eg⟩, ec⟩, key, pg, ⟨lfa, loa, hia, ra, l1⟩⟩ : Dl), ua), ((⟨1, ⟨ek2, ⟨es2, eg2⟩, ec2⟩, key2, pg2, ⟨lf2, lo2, hi2, r2, l2⟩⟩ : Dl), ub)]) h rfl rfl (Nat.le_refl _) (fun x hx => by
    simp only [List.mem_cons, List.not_mem_nil, or_false] at hx
    rcases hx with rfl | rfl
    · exact hsa.kn k'
    · exact hsb.kn k'))
  have HXb := Lib.hid (fun (W : World) (k' : KN w W) (g : Nat) (h : W.heap[g]? = some (Obj.cells (([((⟨1, ⟨ek2, ⟨es2, eg2⟩, ec2⟩, key2, pg2, ⟨lf2, lo2, hi2, r2, l2⟩⟩ : Dl), ub), ((⟨2, ⟨ek, ⟨es, eg⟩, ec⟩, key, pg, ⟨lfa, loa, hia, ra, l1⟩⟩ : Dl), ua)] : List (Dl × Value)).flatMap dlc).toArray 30)) => show RlD W (.slice (some ⟨g, 0, none⟩) 2 2) [(⟨1, ⟨ek2, ⟨es2, eg2⟩, ec2⟩, key2, pg2, ⟨lf2, lo2, hi2, r2, l2⟩⟩ : Dl), (⟨2, ⟨ek, ⟨es, eg⟩, ec⟩, key, pg, ⟨lfa, loa, hia, ra, l1⟩⟩ : Dl)] from rlD_blk (cap := 2) (n := 2) (xs := [((⟨1, ⟨ek2, ⟨es2, eg2⟩, ec2⟩, key2, pg2, ⟨lf2, lo2, hi2, r2, l2⟩⟩ : Dl), ub), ((⟨2, ⟨ek, ⟨es, eg⟩, ec⟩, key, pg, ⟨lfa, loa, hia, ra, l1⟩⟩ : Dl), ua)]) h rfl rfl (Nat.le_refl _) (fun x hx => by
    simp only [List.mem_cons, List.not_mem_nil, or_false] at hx
    rcases hx with rfl | rfl
    · exact hsb.kn k'
    · exact hsa.kn k'))
  have HC := Lib.hid (fun W (k : KN w W) => check_ref ⟨lf, lo, hi, r, l⟩ W (hr.kn k) (by show l.length ≤ maxLen; unfold maxLen; omega))
  obtain ⟨cv, hcv⟩ : ∃ x, checkP ⟨lf, lo, hi, r, l⟩ = x := ⟨_, rfl⟩
  rw [hcv] at HC
  have HSw := Lib.hid (fun (h1 : cv = 0) (h2 : ek ++ key ≠ ek2 ++ key2) => swap_law (p := ⟨lf, lo, hi, r, l⟩) (a := (⟨2, ⟨ek, ⟨es, eg⟩, ec⟩, key, pg, ⟨lfa, loa, hia, ra, l1⟩⟩ : Dl)) (b := (⟨1, ⟨ek2, ⟨es2, eg2⟩, ec2⟩, key2, pg2, ⟨lf2, lo2, hi2, r2, l2⟩⟩ : Dl)) (hcv.trans h1) (by simp) (by simp) h2)
  obtain ⟨fa, hfa⟩ : ∃ x, foldD ⟨lf, lo, hi, r, l⟩ [(⟨2, ⟨ek, ⟨es, eg⟩, ec⟩, key, pg, ⟨lfa, loa, hia, ra, l1⟩⟩ : Dl), (⟨1, ⟨ek2, ⟨es2, eg2⟩, ec2⟩, key2, pg2, ⟨lf2, lo2, hi2, r2, l2⟩⟩ : Dl)] = x := ⟨_, rfl⟩
  obtain ⟨fb, hfb⟩ : ∃ x, foldD ⟨lf, lo, hi, r, l⟩ [(⟨1, ⟨ek2, ⟨es2, eg2⟩, ec2⟩, key2, pg2, ⟨lf2, lo2, hi2, r2, l2⟩⟩ : Dl), (⟨2, ⟨ek, ⟨es, eg⟩, ec⟩, key, pg, ⟨lfa, loa, hia, ra, l1⟩⟩ : Dl)] = x := ⟨_, rfl⟩
  rw [hfa] at HFa hla
  rw [hfb] at HFb
  rw [hfa, hfb] at HSw
  clear hfa hfb hcv hsum hsum2
  obtain ⟨a0, c0, rfl, hc0, hrd⟩ := hr
  obtain ⟨aA, cA, rfl, hcA, had⟩ := hsa
  obtain ⟨aB, cB, rfl, hcB, hbd⟩ := hsb
  clear hrd had hbd
  unfold dlv
  simp only
  have HO0 := Lib.hid ((One.nil w).alloc3 (.cells #[.bool lf, .string lo, .string hi, .int .i64 r, .slice a0 l.length c0] 24) (.cells #[.int .i64 2, .string ek, .int .i64 es, .int .i64 eg, .int .i64 ec, .string key, .int .i64 pg, .bool lfa, .string loa, .string hia, .int .i64 ra, .slice aA l1.length cA] 30) (.cells #[.int .i64 1, .string ek2, .int .i64 es2, .int .i64 eg2, .int .i64 ec2, .string key2, .int .i64 pg2, .bool lf2, .string lo2, .string hi2, .int .i64 r2, .slice aB l2.length cB] 30))
  go_enter Try.func3, Try.ntmps3
  have sz1 : (ek.size : Int) + (key.size : Int) ≤ 9223372036854775807 := by omega
  have sz2 : (ek2.size : Int) + (key2.size : Int) ≤ 9223372036854775807 := by omega
  by_cases hcat : ek ++ key = ek2 ++ key2
  case pos =>
    have hcb : ((ek ++ key).toList == (ek2 ++ key2).toList) = true := by rw [hcat]; simp
    clear hcat
    obtain ⟨x0_0a, x0_0b, x0_0c, x0_0d, x0_0e, x0_0f, x0_0g, x0_0h, x0_0i, x0_0j, x0_0k, x0_0l, x0_0m⟩ := cells12 (HO0.out.blk 0 rfl).1
    obtain ⟨x0_1a, x0_1b, x0_1c, x0_1d, x0_1e, x0_1f, x0_1g, x0_1h, x0_1i, x0_1j, x0_1k, x0_1l, x0_1m⟩ := cells12 (HO0.out.blk 1 rfl).1
    obtain ⟨x0_2a, x0_2b, x0_2c, x0_2d, x0_2e, x0_2f⟩ := cells5 (HO0.out.blk 2 rfl).1
    go_wp2_with fail
    refine (live_true _).mono ?_
    rintro e wl ⟨rfl, kl⟩
    go_wp2
    go_ret
    exact ⟨rfl, (HO0.out.kn kl).old⟩
  have hcb : ((ek ++ key).toList == (ek2 ++ key2).toList) = false := beq_str_false hcat
  obtain ⟨x0_0a, x0_0b, x0_0c, x0_0d, x0_0e, x0_0f, x0_0g, x0_0h, x0_0i, x0_0j, x0_0k, x0_0l, x0_0m⟩ := cells12 (HO0.out.blk 0 rfl).1
  obtain ⟨x0_1a, x0_1b, x0_1c, x0_1d, x0_1e, x0_1f, x0_1g, x0_1h, x0_1i, x0_1j, x0_1k, x0_1l, x0_1m⟩ := cells12 (HO0.out.blk 1 rfl).1
  obtain ⟨x0_2a, x0_2b, x0_2c, x0_2d, x0_2e, x0_2f⟩ := cells5 (HO0.out.blk 2 rfl).1
  go_wp2_with fail
  refine (HC.out _ HO0.out.old).mono ?_
  rintro e w1 ⟨rfl, k1⟩
  have HO1 := Lib.hid (HO0.out.kn k1)
  clear k1 HO0 x0_0a x0_0b x0_0c x0_0d x0_0e x0_0f x0_0g x0_0h x0_0i x0_0j x0_0k x0_0l x0_0m x0_1a x0_1b x0_1c x0_1d x0_1e x0_1f x0_1g x0_1h x0_1i x0_1j x0_1k x0_1l x0_1m x0_2a x0_2b x0_2c x0_2d x0_2e x0_2f
  by_cases hc : cv = 0
  case neg =>
    have hc1 : (cv != 0) = true := by simpa using hc
    go_wp2_with fail
    refine (live_true _).mono ?_
    rintro e wl ⟨rfl, kl⟩
    go_wp2
    go_ret
    exact ⟨rfl, (HO1.out.kn kl).old⟩
  have HSv := Lib.hid (HSw.out hc hcat)
  clear HSw
  subst hc
  clear hcat hcb
  obtain ⟨x1_0a, x1_0b, x1_0c, x1_0d, x1_0e, x1_0f, x1_0g, x1_0h, x1_0i, x1_0j, x1_0k, x1_0l, x1_0m⟩ := cells12 (HO1.out.blk 0 rfl).1
  obtain ⟨x1_1a, x1_1b, x1_1c, x1_1d, x1_1e, x1_1f, x1_1g, x1_1h, x1_1i, x1_1j, x1_1k, x1_1l, x1_1m⟩ := cells12 (HO1.out.blk 1 rfl).1
  obtain ⟨x1_2a, x1_2b, x1_2c, x1_2d, x1_2e, x1_2f⟩ := cells5 (HO1.out.blk 2 rfl).1
  go_wp2_with fail
  refine (live_true _).mono ?_
  rintro e w2 ⟨rfl, k2⟩
  have HO2 := Lib.hid (HO1.out.kn k2)
  clear k2 HO1 x1_0a x1_0b x1_0c x1_0d x1_0e x1_0f x1_0g x1_0h x1_0i x1_0j x1_0k x1_0l x1_0m x1_1a x1_1b x1_1c x1_1d x1_1e x1_1f x1_1g x1_1h x1_1i x1_1j x1_1k x1_1l x1_1m x1_2a x1_2b x1_2c x1_2d x1_2e x1_2f
  rcases HSv.out with ⟨heq, hz⟩ | ⟨hz1, hz2⟩
  · subst heq
    obtain ⟨⟨qf, qlo, qh, qr, ql⟩, qc⟩ := fa
    simp only at hz HFa HFb hla
    subst hz
    obtain ⟨x2_0a, x2_0b, x2_0c, x2_0d, x2_0e, x2_0f, x2_0g, x2_0h, x2_0i, x2_0j, x2_0k, x2_0l, x2_0m⟩ := cells12 (HO2.out.blk 0 rfl).1
    obtain ⟨x2_1a, x2_1b, x2_1c, x2_1d, x2_1e, x2_1f, x2_1g, x2_1h, x2_1i, x2_1j, x2_1k, x2_1l, x2_1m⟩ := cells12 (HO2.out.blk 1 rfl).1
    obtain ⟨x2_2a, x2_2b, x2_2c, x2_2d, x2_2e, x2_2f⟩ := cells5 (HO2.out.blk 2 rfl).1
    have HA2 := Lib.hid (HO2.out.alloc (.cells #[.int .i64 2, .string ek, .int .i64 es, .int .i64 eg, .int .i64 ec, .string key, .int .i64 pg, .bool lfa, .string loa, .string hia, .int .i64 ra, .slice aA l1.length cA, .int .i64 1, .string ek2, .int .i64 es2, .int .i64 eg2, .int .i64 ec2, .string key2, .int .i64 pg2, .bool lf2, .string lo2, .string hi2, .int .i64 r2, .slice aB l2.length cB] 30))
    clear HO2
    go_wp2_with fail
    clear x2_0a x2_0b x2_0c x2_0d x2_0e x2_0f x2_0g x2_0h x2_0i x2_0j x2_0k x2_0l x2_0m x2_1a x2_1b x2_1c x2_1d x2_1e x2_1f x2_1g x2_1h x2_1i x2_1j x2_1k x2_1l x2_1m x2_2a x2_2b x2_2c x2_2d x2_2e x2_2f
    refine (HFa.out _ _ HA2.out.old (HXa.out _ HA2.out.old _ (HA2.out.blk 0 rfl).1)).mono ?_
    rintro e w3 ⟨a3, c3, rfl, k3⟩
    have HO3 := Lib.hid (HA2.out.add k3)
    clear k3 HA2 
    go_upto_region 4 with fail
    have HO4 := Lib.hid (HO3.out.alloc (.cells #[.bool qf, .string qlo, .string qh, .int .i64 qr, .slice a3 ql.length c3] 24))
    clear HO3 
    generalize (w3.alloc (.cells #[.bool qf, .string qlo, .string qh, .int .i64 qr, .slice a3 ql.length c3] 24)) = w4 at *
    generalize w3.heap.size = g4 at *
    obtain ⟨x4_0a, x4_0b, x4_0c, x4_0d, x4_0e, x4_0f⟩ := cells5 (HO4.out.blk 0 rfl).1
    obtain ⟨x4_3a, x4_3b, x4_3c, x4_3d, x4_3e, x4_3f, x4_3g, x4_3h, x4_3i, x4_3j, x4_3k, x4_3l, x4_3m⟩ := cells12 (HO4.out.blk 3 rfl).1
    obtain ⟨x4_4a, x4_4b, x4_4c, x4_4d, x4_4e, x4_4f, x4_4g, x4_4h, x4_4i, x4_4j, x4_4k, x4_4l, x4_4m⟩ := cells12 (HO4.out.blk 4 rfl).1
    obtain ⟨x4_5a, x4_5b, x4_5c, x4_5d, x4_5e, x4_5f⟩ := cells5 (HO4.out.blk 5 rfl).1
    have HA4 := Lib.hid (HO4.out.alloc (.cells #[.int .i64 1, .string ek2, .int .i64 es2, .int .i64 eg2, .int .i64 ec2, .string key2, .int .i64 pg2, .bool lf2, .string lo2, .string hi2, .int .i64 r2, .slice aB l2.length cB, .int .i64 2, .string ek, .int .i64 es, .int .i64 eg, .int .i64 ec, .string key, .int .i64 pg, .bool lfa, .string loa, .string hia, .int .i64 ra, .slice aA l1.length cA] 30))
    clear HO4
    go_wp2_with fail
    clear x4_0a x4_0b x4_0c x4_0d x4_0e x4_0f x4_3a x4_3b x4_3c x4_3d x4_3e x4_3f x4_3g x4_3h x4_3i x4_3j x4_3k x4_3l x4_3m x4_4a x4_4b x4_4c x4_4d x4_4e x4_4f x4_4g x4_4h x4_4i x4_4j x4_4k x4_4l x4_4m x4_5a x4_5b x4_5c x4_5d x4_5e x4_5f
    refine (HFb.out _ _ HA4.out.old (HXb.out _ HA4.out.old _ (HA4.out.blk 0 rfl).1)).mono ?_
    rintro e w5 ⟨a5, c5, rfl, k5⟩
    have HO5 := Lib.hid (HA4.out.add k5)
    clear k5 HA4 
    go_upto_region 5 with fail
    have HO6 := Lib.hid (HO5.out.alloc (.cells #[.bool qf, .string qlo, .string qh, .int .i64 qr, .slice a5 ql.length c5] 24))
    clear HO5 
    generalize (w5.alloc (.cells #[.bool qf, .string qlo, .string qh, .int .i64 qr, .slice a5 ql.length c5] 24)) = w6 at *
    generalize w5.heap.size = g6 at *
    have HS := Lib.hid (fun W y z (hy : Rl En.enc 4 W y ql) (hz : Rl En.enc 4 W z ql) => (sameP_iff (p := ⟨qf, qlo, qh, qr, ql⟩) (q := ⟨qf, qlo, qh, qr, ql⟩)).2 rfl ▸ same_ref ⟨qf, qlo, qh, qr, ql⟩ ⟨qf, qlo, qh, qr, ql⟩ W hy hz (by show ql.length ≤ maxLen; unfold maxLen; omega))
    obtain ⟨x6_0a, x6_0b, x6_0c, x6_0d, x6_0e, x6_0f⟩ := cells5 (HO6.out.blk 0 rfl).1
    obtain ⟨x6_3a, x6_3b, x6_3c, x6_3d, x6_3e, x6_3f⟩ := cells5 (HO6.out.blk 3 rfl).1
    obtain ⟨x6_6a, x6_6b, x6_6c, x6_6d, x6_6e, x6_6f, x6_6g, x6_6h, x6_6i, x6_6j, x6_6k, x6_6l, x6_6m⟩ := cells12 (HO6.out.blk 6 rfl).1
    obtain ⟨x6_7a, x6_7b, x6_7c, x6_7d, x6_7e, x6_7f, x6_7g, x6_7h, x6_7i, x6_7j, x6_7k, x6_7l, x6_7m⟩ := cells12 (HO6.out.blk 7 rfl).1
    obtain ⟨x6_8a, x6_8b, x6_8c, x6_8d, x6_8e, x6_8f⟩ := cells5 (HO6.out.blk 8 rfl).1
    go_wp2_with fail
    refine (HS.out _ _ _ (HO6.out.rlE 4 rfl) (HO6.out.rlE 1 rfl)).mono ?_
    rintro e w7 ⟨rfl, k7⟩
    have HO7 := Lib.hid (HO6.out.kn k7)
    clear k7 HO6 x6_0a x6_0b x6_0c x6_0d x6_0e x6_0f x6_3a x6_3b x6_3c x6_3d x6_3e x6_3f x6_6a x6_6b x6_6c x6_6d x6_6e x6_6f x6_6g x6_6h x6_6i x6_6j x6_6k x6_6l x6_6m x6_7a x6_7b x6_7c x6_7d x6_7e x6_7f x6_7g x6_7h x6_7i x6_7j x6_7k x6_7l x6_7m x6_8a x6_8b x6_8c x6_8d x6_8e x6_8f
    go_wp2
    go_ret
    exact ⟨rfl, HO7.out.old⟩
  · obtain ⟨⟨qf, qlo, qh, qr, ql⟩, qc⟩ := fa
    obtain ⟨⟨pf, plo, ph, pr, pl⟩, pc⟩ := fb
    simp only at hz1 hz2 HFa HFb
    have z1 : (qc != 0) = true := by simpa using hz1
    have z2 : (pc != 0) = true := by simpa using hz2
    obtain ⟨x22_0a, x22_0b, x22_0c, x22_0d, x22_0e, x22_0f, x22_0g, x22_0h, x22_0i, x22_0j, x22_0k, x22_0l, x22_0m⟩ := cells12 (HO2.out.blk 0 rfl).1
    obtain ⟨x22_1a, x22_1b, x22_1c, x22_1d, x22_1e, x22_1f, x22_1g, x22_1h, x22_1i, x22_1j, x22_1k, x22_1l, x22_1m⟩ := cells12 (HO2.out.blk 1 rfl).1
    obtain ⟨x22_2a, x22_2b, x22_2c, x22_2d, x22_2e, x22_2f⟩ := cells5 (HO2.out.blk 2 rfl).1
    have HA22 := Lib.hid (HO2.out.alloc (.cells #[.int .i64 2, .string ek, .int .i64 es, .int .i64 eg, .int .i64 ec, .string key, .int .i64 pg, .bool lfa, .string loa, .string hia, .int .i64 ra, .slice aA l1.length cA, .int .i64 1, .string ek2, .int .i64 es2, .int .i64 eg2, .int .i64 ec2, .string key2, .int .i64 pg2, .bool lf2, .string lo2, .string hi2, .int .i64 r2, .slice aB l2.length cB] 30))
    clear HO2
    go_wp2_with fail
    clear x22_0a x22_0b x22_0c x22_0d x22_0e x22_0f x22_0g x22_0h x22_0i x22_0j x22_0k x22_0l x22_0m x22_1a x22_1b x22_1c x22_1d x22_1e x22_1f x22_1g x22_1h x22_1i x22_1j x22_1k x22_1l x22_1m x22_2a x22_2b x22_2c x22_2d x22_2e x22_2f
    refine (HFa.out _ _ HA22.out.old (HXa.out _ HA22.out.old _ (HA22.out.blk 0 rfl).1)).mono ?_
    rintro e w23 ⟨a23, c23, rfl, k23⟩
    have HO23 := Lib.hid (HA22.out.add k23)
    clear k23 HA22 
    go_upto_region 4 with fail
    have HO24 := Lib.hid (HO23.out.alloc (.cells #[.bool qf, .string qlo, .string qh, .int .i64 qr, .slice a23 ql.length c23] 24))
    clear HO23 
    generalize (w23.alloc (.cells #[.bool qf, .string qlo, .string qh, .int .i64 qr, .slice a23 ql.length c23] 24)) = w24 at *
    generalize w23.heap.size = g24 at *
    obtain ⟨x24_0a, x24_0b, x24_0c, x24_0d, x24_0e, x24_0f⟩ := cells5 (HO24.out.blk 0 rfl).1
    obtain ⟨x24_3a, x24_3b, x24_3c, x24_3d, x24_3e, x24_3f, x24_3g, x24_3h, x24_3i, x24_3j, x24_3k, x24_3l, x24_3m⟩ := cells12 (HO24.out.blk 3 rfl).1
    obtain ⟨x24_4a, x24_4b, x24_4c, x24_4d, x24_4e, x24_4f, x24_4g, x24_4h, x24_4i, x24_4j, x24_4k, x24_4l, x24_4m⟩ := cells12 (HO24.out.blk 4 rfl).1
    obtain ⟨x24_5a, x24_5b, x24_5c, x24_5d, x24_5e, x24_5f⟩ := cells5 (HO24.out.blk 5 rfl).1
    have HA24 := Lib.hid (HO24.out.alloc (.cells #[.int .i64 1, .string ek2, .int .i64 es2, .int .i64 eg2, .int .i64 ec2, .string key2, .int .i64 pg2, .bool lf2, .string lo2, .string hi2, .int .i64 r2, .slice aB l2.length cB, .int .i64 2, .string ek, .int .i64 es, .int .i64 eg, .int .i64 ec, .string key, .int .i64 pg, .bool lfa, .string loa, .string hia, .int .i64 ra, .slice aA l1.length cA] 30))
    clear HO24
    go_wp2_with fail
    clear x24_0a x24_0b x24_0c x24_0d x24_0e x24_0f x24_3a x24_3b x24_3c x24_3d x24_3e x24_3f x24_3g x24_3h x24_3i x24_3j x24_3k x24_3l x24_3m x24_4a x24_4b x24_4c x24_4d x24_4e x24_4f x24_4g x24_4h x24_4i x24_4j x24_4k x24_4l x24_4m x24_5a x24_5b x24_5c x24_5d x24_5e x24_5f
    refine (HFb.out _ _ HA24.out.old (HXb.out _ HA24.out.old _ (HA24.out.blk 0 rfl).1)).mono ?_
    rintro e w25 ⟨a25, c25, rfl, k25⟩
    have HO25 := Lib.hid (HA24.out.add k25)
    clear k25 HA24 
    go_upto_region 5 with fail
    have HO26 := Lib.hid (HO25.out.alloc (.cells #[.bool pf, .string plo, .string ph, .int .i64 pr, .slice a25 pl.length c25] 24))
    clear HO25 
    generalize (w25.alloc (.cells #[.bool pf, .string plo, .string ph, .int .i64 pr, .slice a25 pl.length c25] 24)) = w26 at *
    generalize w25.heap.size = g26 at *
    go_wp2
    go_ret
    exact ⟨by simp, HO26.out.old⟩
set_option maxHeartbeats 8000000 in
set_option maxRecDepth 100000 in
theorem swaps_yes22 (lf : Bool) (lo hi : ByteArray) (r : Int) (l : List En) (ek : ByteArray) (es eg ec : Int) (key : ByteArray) (pg : Int) (lfa : Bool) (loa hia : ByteArray) (ra : Int) (l1 : List En) (ek2 : ByteArray) (es2 eg2 ec2 : Int) (key2 : ByteArray) (pg2 : Int) (lf2 : Bool) (lo2 hi2 : ByteArray) (r2 : Int) (l2 : List En) (w : World) {v ua ub : Value} (hr : Rl En.enc 4 w v l) (hsa : Rl En.enc 4 w ua l1) (hsb : Rl En.enc 4 w ub l2) (hl : l.length ≤ 1048576) (hl1 : l1.length ≤ 1048576) (hl2 : l2.length ≤ 1048576) (hz1 : ek.size + key.size ≤ 2097152) (hz2 : ek2.size + key2.size ≤ 2097152) : Calls Try.prog 3 #[pgv ⟨lf, lo, hi, r, l⟩ v, dlv ⟨2, ⟨ek, ⟨es, eg⟩, ec⟩, key, pg, ⟨lfa, loa, hia, ra, l1⟩⟩ ua, dlv ⟨2, ⟨ek2, ⟨es2, eg2⟩, ec2⟩, key2, pg2, ⟨lf2, lo2, hi2, r2, l2⟩⟩ ub] w fun e w' => e = .returned (.bool true) ∧ KN w w' := by
  have hsum : (⟨lf, lo, hi, r, l⟩ : Pg).list.length + sumD [(⟨2, ⟨ek, ⟨es, eg⟩, ec⟩, key, pg, ⟨lfa, loa, hia, ra, l1⟩⟩ : Dl), (⟨2, ⟨ek2, ⟨es2, eg2⟩, ec2⟩, key2, pg2, ⟨lf2, lo2, hi2, r2, l2⟩⟩ : Dl)] ≤ 3145730 := by rw [sumD_cons, sumD_cons, show sumD [] = 0 from rfl]; simp only; omega
  have hsum2 : (⟨lf, lo, hi, r, l⟩ : Pg).list.length + sumD [(⟨2, ⟨ek2, ⟨es2, eg2⟩, ec2⟩, key2, pg2, ⟨lf2, lo2, hi2, r2, l2⟩⟩ : Dl), (⟨2, ⟨ek, ⟨es, eg⟩, ec⟩, key, pg, ⟨lfa, loa, hia, ra, l1⟩⟩ : Dl)] ≤ 3145730 := by rw [sumD_cons, sumD_cons, show sumD [] = 0 from rfl]; simp only; omega
  have HFa := Lib.hid (fun W u' (k' : KN w W) (hd : RlD W u' [(⟨2, ⟨ek, ⟨es, eg⟩, ec⟩, key, pg, ⟨lfa, loa, hia, ra, l1⟩⟩ : Dl), (⟨2, ⟨ek2, ⟨es2, eg2⟩, ec2⟩, key2, pg2, ⟨lf2, lo2, hi2, r2, l2⟩⟩ : Dl)]) => fold_delta ⟨lf, lo, hi, r, l⟩ [(⟨2, ⟨ek, ⟨es, eg⟩, ec⟩, key, pg, ⟨lfa, loa, hia, ra, l1⟩⟩ : Dl), (⟨2, ⟨ek2, ⟨es2, eg2⟩, ec2⟩, key2, pg2, ⟨lf2, lo2, hi2, r2, l2⟩⟩ : Dl)] W (hr.kn k') hd (Nat.le_trans (Nat.mul_le_mul_right 40 hsum) (by decide)))
  have HFb := Lib.hid (fun W u' (k' : KN w W) (hd : RlD W u' [(⟨2, ⟨ek2, ⟨es2, eg2⟩, ec2⟩, key2, pg2, ⟨lf2, lo2, hi2, r2, l2⟩⟩ : Dl), (⟨2, ⟨ek, ⟨es, eg⟩, ec⟩, key, pg, ⟨lfa, loa, hia, ra, l1⟩⟩ : Dl)]) => fold_delta ⟨lf, lo, hi, r, l⟩ [(⟨2, ⟨ek2, ⟨es2, eg2⟩, ec2⟩, key2, pg2, ⟨lf2, lo2, hi2, r2, l2⟩⟩ : Dl), (⟨2, ⟨ek, ⟨es, eg⟩, ec⟩, key, pg, ⟨lfa, loa, hia, ra, l1⟩⟩ : Dl)] W (hr.kn k') hd (Nat.le_trans (Nat.mul_le_mul_right 40 hsum2) (by decide)))
  have hla := Nat.le_trans (foldD_len ⟨lf, lo, hi, r, l⟩ [(⟨2, ⟨ek, ⟨es, eg⟩, ec⟩, key, pg, ⟨lfa, loa, hia, ra, l1⟩⟩ : Dl), (⟨2, ⟨ek2, ⟨es2, eg2⟩, ec2⟩, key2, pg2, ⟨lf2, lo2, hi2, r2, l2⟩⟩ : Dl)]) hsum
  have HXa := Lib.hid (fun (W : World) (k' : KN w W) (g : Nat) (h : W.heap[g]? = some (Obj.cells (([((⟨2, ⟨ek, ⟨es, eg⟩, ec⟩, key, pg, ⟨lfa, loa, hia, ra, l1⟩⟩ : Dl), ua), ((⟨2, ⟨ek2, ⟨es2, eg2⟩, ec2⟩, key2, pg2, ⟨lf2, lo2, hi2, r2, l2⟩⟩ : Dl), ub)] : List (Dl × Value)).flatMap dlc).toArray 30)) => show RlD W (.slice (some ⟨g, 0, none⟩) 2 2) [(⟨2, ⟨ek, ⟨es, eg⟩, ec⟩, key, pg, ⟨lfa, loa, hia, ra, l1⟩⟩ : Dl), (⟨2, ⟨ek2, ⟨es2, eg2⟩, ec2⟩, key2, pg2, ⟨lf2, lo2, hi2, r2, l2⟩⟩ : Dl)] from rlD_blk (cap := 2) (n := 2) (xs := [((⟨2, ⟨ek, ⟨es, eg⟩, ec⟩, key, pg, ⟨lfa, loa, hia, ra, l1⟩⟩ : Dl), ua), ((⟨2, ⟨ek2, ⟨es2, eg2⟩, ec2⟩, key2, pg2, ⟨lf2, lo2, hi2, r2, l2⟩⟩ : Dl), ub)]) h rfl rfl (Nat.le_refl _) (fun x hx => by
    simp only [List.mem_cons, List.not_mem_nil, or_false] at hx
    rcases hx with rfl | rfl
    · exact hsa.kn k'
    · exact hsb.kn k'))
  have HXb := Lib.hid (fun (W : World) (k' : KN w W) (g : Nat) (h : W.heap[g]? = some (Obj.cells (([((⟨2, ⟨ek2, ⟨es2, eg2⟩, ec2⟩, key2, pg2, ⟨lf2, lo2, hi2, r2, l2⟩⟩ : Dl), ub), ((⟨2, ⟨ek, ⟨es, eg⟩, ec⟩, key, pg, ⟨lfa, loa, hia, ra, l1⟩⟩ : Dl), ua)] : List (Dl × Value)).flatMap dlc).toArray 30)) => show RlD W (.slice (some ⟨g, 0, none⟩) 2 2) [(⟨2, ⟨ek2, ⟨es2, eg2⟩, ec2⟩, key2, pg2, ⟨lf2, lo2, hi2, r2, l2⟩⟩ : Dl), (⟨2, ⟨ek, ⟨es, eg⟩, ec⟩, key, pg, ⟨lfa, loa, hia, ra, l1⟩⟩ : Dl)] from rlD_blk (cap := 2) (n := 2) (xs := [((⟨2, ⟨ek2, ⟨es2, eg2⟩, ec2⟩, key2, pg2, ⟨lf2, lo2, hi2, r2, l2⟩⟩ : Dl), ub), ((⟨2, ⟨ek, ⟨es, eg⟩, ec⟩, key, pg, ⟨lfa, loa, hia, ra, l1⟩⟩ : Dl), ua)]) h rfl rfl (Nat.le_refl _) (fun x hx => by
    simp only [List.mem_cons, List.not_mem_nil, or_false] at hx
    rcases hx with rfl | rfl
    · exact hsb.kn k'
    · exact hsa.kn k'))
  have HC := Lib.hid (fun W (k : KN w W) => check_ref ⟨lf, lo, hi, r, l⟩ W (hr.kn k) (by show l.length ≤ maxLen; unfold maxLen; omega))
  obtain ⟨cv, hcv⟩ : ∃ x, checkP ⟨lf, lo, hi, r, l⟩ = x := ⟨_, rfl⟩
  rw [hcv] at HC
  have HSw := Lib.hid (fun (h1 : cv = 0) (h2 : ek ++ key ≠ ek2 ++ key2) => swap_law (p := ⟨lf, lo, hi, r, l⟩) (a := (⟨2, ⟨ek, ⟨es, eg⟩, ec⟩, key, pg, ⟨lfa, loa, hia, ra, l1⟩⟩ : Dl)) (b := (⟨2, ⟨ek2, ⟨es2, eg2⟩, ec2⟩, key2, pg2, ⟨lf2, lo2, hi2, r2, l2⟩⟩ : Dl)) (hcv.trans h1) (by simp) (by simp) h2)
  obtain ⟨fa, hfa⟩ : ∃ x, foldD ⟨lf, lo, hi, r, l⟩ [(⟨2, ⟨ek, ⟨es, eg⟩, ec⟩, key, pg, ⟨lfa, loa, hia, ra, l1⟩⟩ : Dl), (⟨2, ⟨ek2, ⟨es2, eg2⟩, ec2⟩, key2, pg2, ⟨lf2, lo2, hi2, r2, l2⟩⟩ : Dl)] = x := ⟨_, rfl⟩
  obtain ⟨fb, hfb⟩ : ∃ x, foldD ⟨lf, lo, hi, r, l⟩ [(⟨2, ⟨ek2, ⟨es2, eg2⟩, ec2⟩, key2, pg2, ⟨lf2, lo2, hi2, r2, l2⟩⟩ : Dl), (⟨2, ⟨ek, ⟨es, eg⟩, ec⟩, key, pg, ⟨lfa, loa, hia, ra, l1⟩⟩ : Dl)] = x := ⟨_, rfl⟩
  rw [hfa] at HFa hla
  rw [hfb] at HFb
  rw [hfa, hfb] at HSw
  clear hfa hfb hcv hsum hsum2
  obtain ⟨a0, c0, rfl, hc0, hrd⟩ := hr
  obtain ⟨aA, cA, rfl, hcA, had⟩ := hsa
  obtain ⟨aB, cB, rfl, hcB, hbd⟩ := hsb
  clear hrd had hbd
  unfold dlv
  simp only
  have HO0 := Lib.hid ((One.nil w).alloc3 (.cells #[.bool lf, .string lo, .string hi, .int .i64 r, .slice a0 l.length c0] 24) (.cells #[.int .i64 2, .string ek, .int .i64 es, .int .i64 eg, .int .i64 ec, .string key, .int .i64 pg, .bool lfa, .string loa, .string hia, .int .i64 ra, .slice aA l1.length cA] 30) (.cells #[.int .i64 2, .string ek2, .int .i64 es2, .int .i64 eg2, .int .i64 ec2, .string key2, .int .i64 pg2, .bool lf2, .string lo2, .string hi2, .int .i64 r2, .slice aB l2.length cB] 30))
  go_enter Try.func3, Try.ntmps3
  have sz1 : (ek.size : Int) + (key.size : Int) ≤ 9223372036854775807 := by omega
  have sz2 : (ek2.size : Int) + (key2.size : Int) ≤ 9223372036854775807 := by omega
  by_cases hcat : ek ++ key = ek2 ++ key2
  case pos =>
    have hcb : ((ek ++ key).toList == (ek2 ++ key2).toList) = true := by rw [hcat]; simp
    clear hcat
    obtain ⟨x0_0a, x0_0b, x0_0c, x0_0d, x0_0e, x0_0f, x0_0g, x0_0h, x0_0i, x0_0j, x0_0k, x0_0l, x0_0m⟩ := cells12 (HO0.out.blk 0 rfl).1
    obtain ⟨x0_1a, x0_1b, x0_1c, x0_1d, x0_1e, x0_1f, x0_1g, x0_1h, x0_1i, x0_1j, x0_1k, x0_1l, x0_1m⟩ := cells12 (HO0.out.blk 1 rfl).1
    obtain ⟨x0_2a, x0_2b, x0_2c, x0_2d, x0_2e, x0_2f⟩ := cells5 (HO0.out.blk 2 rfl).1
    go_wp2_with fail
    refine (live_true _).mono ?_
    rintro e wl ⟨rfl, kl⟩
    go_wp2
    go_ret
    exact ⟨rfl, (HO0.out.kn kl).old⟩
  have hcb : ((ek ++ key).toList == (ek2 ++ key2).toList) = false := beq_str_false hcat
  obtain ⟨x0_0a, x0_0b, x0_0c, x0_0d, x0_0e, x0_0f, x0_0g, x0_0h, x0_0i, x0_0j, x0_0k, x0_0l, x0_0m⟩ := cells12 (HO0.out.blk 0 rfl).1
  obtain ⟨x0_1a, x0_1b, x0_1c, x0_1d, x0_1e, x0_1f, x0_1g, x0_1h, x0_1i, x0_1j, x0_1k, x0_1l, x0_1m⟩ := cells12 (HO0.out.blk 1 rfl).1
  obtain ⟨x0_2a, x0_2b, x0_2c, x0_2d, x0_2e, x0_2f⟩ := cells5 (HO0.out.blk 2 rfl).1
  go_wp2_with fail
  refine (HC.out _ HO0.out.old).mono ?_
  rintro e w1 ⟨rfl, k1⟩
  have HO1 := Lib.hid (HO0.out.kn k1)
  clear k1 HO0 x0_0a x0_0b x0_0c x0_0d x0_0e x0_0f x0_0g x0_0h x0_0i x0_0j x0_0k x0_0l x0_0m x0_1a x0_1b x0_1c x0_1d x0_1e x0_1f x0_1g x0_1h x0_1i x0_1j x0_1k x0_1l x0_1m x0_2a x0_2b x0_2c x0_2d x0_2e x0_2f
  by_cases hc : cv = 0
  case neg =>
    have hc1 : (cv != 0) = true := by simpa using hc
    go_wp2_with fail
    refine (live_true _).mono ?_
    rintro e wl ⟨rfl, kl⟩
    go_wp2
    go_ret
    exact ⟨rfl, (HO1.out.kn kl).old⟩
  have HSv := Lib.hid (HSw.out hc hcat)
  clear HSw
  subst hc
  clear hcat hcb
  obtain ⟨x1_0a, x1_0b, x1_0c, x1_0d, x1_0e, x1_0f, x1_0g, x1_0h, x1_0i, x1_0j, x1_0k, x1_0l, x1_0m⟩ := cells12 (HO1.out.blk 0 rfl).1
  obtain ⟨x1_1a, x1_1b, x1_1c, x1_1d, x1_1e, x1_1f, x1_1g, x1_1h, x1_1i, x1_1j, x1_1k, x1_1l, x1_1m⟩ := cells12 (HO1.out.blk 1 rfl).1
  obtain ⟨x1_2a, x1_2b, x1_2c, x1_2d, x1_2e, x1_2f⟩ := cells5 (HO1.out.blk 2 rfl).1
  go_wp2_with fail
  refine (live_true _).mono ?_
  rintro e w2 ⟨rfl, k2⟩
  have HO2 := Lib.hid (HO1.out.kn k2)
  clear k2 HO1 x1_0a x1_0b x1_0c x1_0d x1_0e x1_0f x1_0g x1_0h x1_0i x1_0j x1_0k x1_0l x1_0m x1_1a x1_1b x1_1c x1_1d x1_1e x1_1f x1_1g x1_1h x1_1i x1_1j x1_1k x1_1l x1_1m x1_2a x1_2b x1_2c x1_2d x1_2e x1_2f
  rcases HSv.out with ⟨heq, hz⟩ | ⟨hz1, hz2⟩
  · subst heq
    obtain ⟨⟨qf, qlo, qh, qr, ql⟩, qc⟩ := fa
    simp only at hz HFa HFb hla
    subst hz
    obtain ⟨x2_0a, x2_0b, x2_0c, x2_0d, x2_0e, x2_0f, x2_0g, x2_0h, x2_0i, x2_0j, x2_0k, x2_0l, x2_0m⟩ := cells12 (HO2.out.blk 0 rfl).1
    obtain ⟨x2_1a, x2_1b, x2_1c, x2_1d, x2_1e, x2_1f, x2_1g, x2_1h, x2_1i, x2_1j, x2_1k, x2_1l, x2_1m⟩ := cells12 (HO2.out.blk 1 rfl).1
    obtain ⟨x2_2a, x2_2b, x2_2c, x2_2d, x2_2e, x2_2f⟩ := cells5 (HO2.out.blk 2 rfl).1
    have HA2 := Lib.hid (HO2.out.alloc (.cells #[.int .i64 2, .string ek, .int .i64 es, .int .i64 eg, .int .i64 ec, .string key, .int .i64 pg, .bool lfa, .string loa, .string hia, .int .i64 ra, .slice aA l1.length cA, .int .i64 2, .string ek2, .int .i64 es2, .int .i64 eg2, .int .i64 ec2, .string key2, .int .i64 pg2, .bool lf2, .string lo2, .string hi2, .int .i64 r2, .slice aB l2.length cB] 30))
    clear HO2
    go_wp2_with fail
    clear x2_0a x2_0b x2_0c x2_0d x2_0e x2_0f x2_0g x2_0h x2_0i x2_0j x2_0k x2_0l x2_0m x2_1a x2_1b x2_1c x2_1d x2_1e x2_1f x2_1g x2_1h x2_1i x2_1j x2_1k x2_1l x2_1m x2_2a x2_2b x2_2c x2_2d x2_2e x2_2f
    refine (HFa.out _ _ HA2.out.old (HXa.out _ HA2.out.old _ (HA2.out.blk 0 rfl).1)).mono ?_
    rintro e w3 ⟨a3, c3, rfl, k3⟩
    have HO3 := Lib.hid (HA2.out.add k3)
    clear k3 HA2 
    go_upto_region 4 with fail
    have HO4 := Lib.hid (HO3.out.alloc (.cells #[.bool qf, .string qlo, .string qh, .int .i64 qr, .slice a3 ql.length c3] 24))
    clear HO3 
    generalize (w3.alloc (.cells #[.bool qf, .string qlo, .string qh, .int .i64 qr, .slice a3 ql.length c3] 24)) = w4 at *
    generalize w3.heap.size = g4 at *
    obtain ⟨x4_0a, x4_0b, x4_0c, x4_0d, x4_0e, x4_0f⟩ := cells5 (HO4.out.blk 0 rfl).1
    obtain ⟨x4_3a, x4_3b, x4_3c, x4_3d, x4_3e, x4_3f, x4_3g, x4_3h, x4_3i, x4_3j, x4_3k, x4_3l, x4_3m⟩ := cells12 (HO4.out.blk 3 rfl).1
    obtain ⟨x4_4a, x4_4b, x4_4c, x4_4d, x4_4e, x4_4f, x4_4g, x4_4h, x4_4i, x4_4j, x4_4k, x4_4l, x4_4m⟩ := cells12 (HO4.out.blk 4 rfl).1
    obtain ⟨x4_5a, x4_5b, x4_5c, x4_5d, x4_5e, x4_5f⟩ := cells5 (HO4.out.blk 5 rfl).1
    have HA4 := Lib.hid (HO4.out.alloc (.cells #[.int .i64 2, .string ek2, .int .i64 es2, .int .i64 eg2, .int .i64 ec2, .string key2, .int .i64 pg2, .bool lf2, .string lo2, .string hi2, .int .i64 r2, .slice aB l2.length cB, .int .i64 2, .string ek, .int .i64 es, .int .i64 eg, .int .i64 ec, .string key, .int .i64 pg, .bool lfa, .string loa, .string hia, .int .i64 ra, .slice aA l1.length cA] 30))
    clear HO4
    go_wp2_with fail
    clear x4_0a x4_0b x4_0c x4_0d x4_0e x4_0f x4_3a x4_3b x4_3c x4_3d x4_3e x4_3f x4_3g x4_3h x4_3i x4_3j x4_3k x4_3l x4_3m x4_4a x4_4b x4_4c x4_4d x4_4e x4_4f x4_4g x4_4h x4_4i x4_4j x4_4k x4_4l x4_4m x4_5a x4_5b x4_5c x4_5d x4_5e x4_5f
    refine (HFb.out _ _ HA4.out.old (HXb.out _ HA4.out.old _ (HA4.out.blk 0 rfl).1)).mono ?_
    rintro e w5 ⟨a5, c5, rfl, k5⟩
    have HO5 := Lib.hid (HA4.out.add k5)
    clear k5 HA4 
    go_upto_region 5 with fail
    have HO6 := Lib.hid (HO5.out.alloc (.cells #[.bool qf, .string qlo, .string qh, .int .i64 qr, .slice a5 ql.length c5] 24))
    clear HO5 
    generalize (w5.alloc (.cells #[.bool qf, .string qlo, .string qh, .int .i64 qr, .slice a5 ql.length c5] 24)) = w6 at *
    generalize w5.heap.size = g6 at *
    have HS := Lib.hid (fun W y z (hy : Rl En.enc 4 W y ql) (hz : Rl En.enc 4 W z ql) => (sameP_iff (p := ⟨qf, qlo, qh, qr, ql⟩) (q := ⟨qf, qlo, qh, qr, ql⟩)).2 rfl ▸ same_ref ⟨qf, qlo, qh, qr, ql⟩ ⟨qf, qlo, qh, qr, ql⟩ W hy hz (by show ql.length ≤ maxLen; unfold maxLen; omega))
    obtain ⟨x6_0a, x6_0b, x6_0c, x6_0d, x6_0e, x6_0f⟩ := cells5 (HO6.out.blk 0 rfl).1
    obtain ⟨x6_3a, x6_3b, x6_3c, x6_3d, x6_3e, x6_3f⟩ := cells5 (HO6.out.blk 3 rfl).1
    obtain ⟨x6_6a, x6_6b, x6_6c, x6_6d, x6_6e, x6_6f, x6_6g, x6_6h, x6_6i, x6_6j, x6_6k, x6_6l, x6_6m⟩ := cells12 (HO6.out.blk 6 rfl).1
    obtain ⟨x6_7a, x6_7b, x6_7c, x6_7d, x6_7e, x6_7f, x6_7g, x6_7h, x6_7i, x6_7j, x6_7k, x6_7l, x6_7m⟩ := cells12 (HO6.out.blk 7 rfl).1
    obtain ⟨x6_8a, x6_8b, x6_8c, x6_8d, x6_8e, x6_8f⟩ := cells5 (HO6.out.blk 8 rfl).1
    go_wp2_with fail
    refine (HS.out _ _ _ (HO6.out.rlE 4 rfl) (HO6.out.rlE 1 rfl)).mono ?_
    rintro e w7 ⟨rfl, k7⟩
    have HO7 := Lib.hid (HO6.out.kn k7)
    clear k7 HO6 x6_0a x6_0b x6_0c x6_0d x6_0e x6_0f x6_3a x6_3b x6_3c x6_3d x6_3e x6_3f x6_6a x6_6b x6_6c x6_6d x6_6e x6_6f x6_6g x6_6h x6_6i x6_6j x6_6k x6_6l x6_6m x6_7a x6_7b x6_7c x6_7d x6_7e x6_7f x6_7g x6_7h x6_7i x6_7j x6_7k x6_7l x6_7m x6_8a x6_8b x6_8c x6_8d x6_8e x6_8f
    go_wp2
    go_ret
    exact ⟨rfl, HO7.out.old⟩
  · obtain ⟨⟨qf, qlo, qh, qr, ql⟩, qc⟩ := fa
    obtain ⟨⟨pf, plo, ph, pr, pl⟩, pc⟩ := fb
    simp only at hz1 hz2 HFa HFb
    have z1 : (qc != 0) = true := by simpa using hz1
    have z2 : (pc != 0) = true := by simpa using hz2
    obtain ⟨x22_0a, x22_0b, x22_0c, x22_0d, x22_0e, x22_0f, x22_0g, x22_0h, x22_0i, x22_0j, x22_0k, x22_0l, x22_0m⟩ := cells12 (HO2.out.blk 0 rfl).1
    obtain ⟨x22_1a, x22_1b, x22_1c, x22_1d, x22_1e, x22_1f, x22_1g, x22_1h, x22_1i, x22_1j, x22_1k, x22_1l, x22_1m⟩ := cells12 (HO2.out.blk 1 rfl).1
    obtain ⟨x22_2a, x22_2b, x22_2c, x22_2d, x22_2e, x22_2f⟩ := cells5 (HO2.out.blk 2 rfl).1
    have HA22 := Lib.hid (HO2.out.alloc (.cells #[.int .i64 2, .string ek, .int .i64 es, .int .i64 eg, .int .i64 ec, .string key, .int .i64 pg, .bool lfa, .string loa, .string hia, .int .i64 ra, .slice aA l1.length cA, .int .i64 2, .string ek2, .int .i64 es2, .int .i64 eg2, .int .i64 ec2, .string key2, .int .i64 pg2, .bool lf2, .string lo2, .string hi2, .int .i64 r2, .slice aB l2.length cB] 30))
    clear HO2
    go_wp2_with fail
    clear x22_0a x22_0b x22_0c x22_0d x22_0e x22_0f x22_0g x22_0h x22_0i x22_0j x22_0k x22_0l x22_0m x22_1a x22_1b x22_1c x22_1d x22_1e x22_1f x22_1g x22_1h x22_1i x22_1j x22_1k x22_1l x22_1m x22_2a x22_2b x22_2c x22_2d x22_2e x22_2f
    refine (HFa.out _ _ HA22.out.old (HXa.out _ HA22.out.old _ (HA22.out.blk 0 rfl).1)).mono ?_
    rintro e w23 ⟨a23, c23, rfl, k23⟩
    have HO23 := Lib.hid (HA22.out.add k23)
    clear k23 HA22 
    go_upto_region 4 with fail
    have HO24 := Lib.hid (HO23.out.alloc (.cells #[.bool qf, .string qlo, .string qh, .int .i64 qr, .slice a23 ql.length c23] 24))
    clear HO23 
    generalize (w23.alloc (.cells #[.bool qf, .string qlo, .string qh, .int .i64 qr, .slice a23 ql.length c23] 24)) = w24 at *
    generalize w23.heap.size = g24 at *
    obtain ⟨x24_0a, x24_0b, x24_0c, x24_0d, x24_0e, x24_0f⟩ := cells5 (HO24.out.blk 0 rfl).1
    obtain ⟨x24_3a, x24_3b, x24_3c, x24_3d, x24_3e, x24_3f, x24_3g, x24_3h, x24_3i, x24_3j, x24_3k, x24_3l, x24_3m⟩ := cells12 (HO24.out.blk 3 rfl).1
    obtain ⟨x24_4a, x24_4b, x24_4c, x24_4d, x24_4e, x24_4f, x24_4g, x24_4h, x24_4i, x24_4j, x24_4k, x24_4l, x24_4m⟩ := cells12 (HO24.out.blk 4 rfl).1
    obtain ⟨x24_5a, x24_5b, x24_5c, x24_5d, x24_5e, x24_5f⟩ := cells5 (HO24.out.blk 5 rfl).1
    have HA24 := Lib.hid (HO24.out.alloc (.cells #[.int .i64 2, .string ek2, .int .i64 es2, .int .i64 eg2, .int .i64 ec2, .string key2, .int .i64 pg2, .bool lf2, .string lo2, .string hi2, .int .i64 r2, .slice aB l2.length cB, .int .i64 2, .string ek, .int .i64 es, .int .i64 eg, .int .i64 ec, .string key, .int .i64 pg, .bool lfa, .string loa, .string hia, .int .i64 ra, .slice aA l1.length cA] 30))
    clear HO24
    go_wp2_with fail
    clear x24_0a x24_0b x24_0c x24_0d x24_0e x24_0f x24_3a x24_3b x24_3c x24_3d x24_3e x24_3f x24_3g x24_3h x24_3i x24_3j x24_3k x24_3l x24_3m x24_4a x24_4b x24_4c x24_4d x24_4e x24_4f x24_4g x24_4h x24_4i x24_4j x24_4k x24_4l x24_4m x24_5a x24_5b x24_5c x24_5d x24_5e x24_5f
    refine (HFb.out _ _ HA24.out.old (HXb.out _ HA24.out.old _ (HA24.out.blk 0 rfl).1)).mono ?_
    rintro e w25 ⟨a25, c25, rfl, k25⟩
    have HO25 := Lib.hid (HA24.out.add k25)
    clear k25 HA24 
    go_upto_region 5 with fail
    have HO26 := Lib.hid (HO25.out.alloc (.cells #[.bool pf, .string plo, .string ph, .int .i64 pr, .slice a25 pl.length c25] 24))
    clear HO25 
    generalize (w25.alloc (.cells #[.bool pf, .string plo, .string ph, .int .i64 pr, .slice a25 pl.length c25] 24)) = w26 at *
    generalize w25.heap.size = g26 at *
    go_wp2
    go_ret
    exact ⟨by simp, HO26.out.old⟩
theorem swaps_walk (p : Pg) (a b : Dl) (w : World) {v ua ub : Value} (hr : Rl En.enc 4 w v p.list) (hsa : Rl En.enc 4 w ua a.right.list) (hsb : Rl En.enc 4 w ub b.right.list) (hl : p.list.length ≤ 1048576) (hl1 : a.right.list.length ≤ 1048576) (hl2 : b.right.list.length ≤ 1048576) (hz1 : a.entry.key.size + a.key.size ≤ 2097152) (hz2 : b.entry.key.size + b.key.size ≤ 2097152) : Calls Try.prog 3 #[pgv p v, dlv a ua, dlv b ub] w fun e w' => e = .returned (.bool true) ∧ KN w w' := by
  obtain ⟨k, ⟨ek, ⟨es, eg⟩, ec⟩, key, pg, ⟨lfa, loa, hia, ra, l1⟩⟩ := a
  obtain ⟨k2, ⟨ek2, ⟨es2, eg2⟩, ec2⟩, key2, pg2, ⟨lf2, lo2, hi2, r2, l2⟩⟩ := b
  obtain ⟨lf, lo, hi, r, l⟩ := p
  by_cases h1 : k = 1 ∨ k = 2
  · by_cases h2 : k2 = 1 ∨ k2 = 2
    · rcases h1 with rfl | rfl <;> rcases h2 with rfl | rfl
      · exact swaps_yes11 lf lo hi r l ek es eg ec key pg lfa loa hia ra l1 ek2 es2 eg2 ec2 key2 pg2 lf2 lo2 hi2 r2 l2 w hr hsa hsb hl hl1 hl2 hz1 hz2
      · exact swaps_yes12 lf lo hi r l ek es eg ec key pg lfa loa hia ra l1 ek2 es2 eg2 ec2 key2 pg2 lf2 lo2 hi2 r2 l2 w hr hsa hsb hl hl1 hl2 hz1 hz2
      · exact swaps_yes21 lf lo hi r l ek es eg ec key pg lfa loa hia ra l1 ek2 es2 eg2 ec2 key2 pg2 lf2 lo2 hi2 r2 l2 w hr hsa hsb hl hl1 hl2 hz1 hz2
      · exact swaps_yes22 lf lo hi r l ek es eg ec key pg lfa loa hia ra l1 ek2 es2 eg2 ec2 key2 pg2 lf2 lo2 hi2 r2 l2 w hr hsa hsb hl hl1 hl2 hz1 hz2
    · exact swaps_nob lf lo hi r l k ek es eg ec key pg lfa loa hia ra l1 k2 ek2 es2 eg2 ec2 key2 pg2 lf2 lo2 hi2 r2 l2 h1 (fun e => h2 (.inl e)) (fun e => h2 (.inr e)) w hr hsa hsb hl hl1 hl2 hz1 hz2
  · exact swaps_noa lf lo hi r l k ek es eg ec key pg lfa loa hia ra l1 k2 ek2 es2 eg2 ec2 key2 pg2 lf2 lo2 hi2 r2 l2 (fun e => h1 (.inl e)) (fun e => h1 (.inr e)) w hr hsa hsb hl hl1 hl2 hz1 hz2
end Go.Proofs.Ytkdlodjpambelaa
