/- delta.apply: splits; all. -/
import Derived.Test.YtkdlodjpambelaaDelP
import Derived.Deep.RegionHeld3
import Derived.Test.YtkdlodjpambelaaCatchD
import Derived.Test.YtkdlodjpambelaaPutP2
import Derived.Test.YtkdlodjpambelaaMergeP
import Derived.Test.YtkdlodjpambelaaDeltaL
import Derived.Test.YtkdlodjpambelaaApplyP
namespace Go.Proofs.Ytkdlodjpambelaa
set_option linter.unusedVariables false
set_option linter.unusedSimpArgs false
open Go Go.RowKit

theorem eg_apply1 : ∀ args w, (callFunc 53 args).run Try.prog w = .ok (.enter 53 args) w := enters_of Try.func53 (by kernel_rfl) rfl
theorem says_split (key : ByteArray) (B : Nat) (W : World) (x : En) (hc : W.cell? ⟨B, 5, none⟩ = some (.string key)) : Calls Try.prog 53 (#[env x] ++ #[.pointer (some ⟨B, 0, none⟩)]) W fun e w' => e = .returned (.bool (!ltS x.key key)) ∧ KN W w' := by
  have hBW : B < W.heap.size := World.block_lt_of_cell? W _ hc
  have hne : B ≠ W.heap.size := by omega
  show Calls Try.prog 53 #[.agg #[.string x.key, .int .i64 x.ref.slot, .int .i64 x.ref.gen, .int .i64 x.child], .pointer (some ⟨B, 0, none⟩)] W _
  go_enter Try.func53, Try.ntmps53
  go_wp2
  go_ret
  exact ⟨rfl, kn_alloc _ _⟩
theorem row_ne {v : Value} {n : Nat} {xs : List Value} {w : World} {F : Nat → Prop} {B : Nat} {cs : Array Value} (h : (RowA 28 4 v n xs).on w F) (hB : w.heap[B]? = some (.cells cs 30)) : ¬ F B := by
  obtain ⟨h, rfl⟩ := h
  intro e
  rcases h.2 with ⟨rfl, _⟩ | ⟨g, cap, cur, rfl, _, hb, _⟩
  · cases e
  · simp only [Value.ownBlock, Option.some.injEq] at e
    subst e
    rw [hB] at hb
    simp at hb
set_option maxHeartbeats 1000000 in
theorem apply_3lo (lf : Bool) (lo hi : ByteArray) (r : Int) (l : List En) (ek : ByteArray) (es eg ec : Int) (key : ByteArray) (pg : Int) (lf2 : Bool) (lo2 hi2 : ByteArray) (r2 : Int) (l2 : List En) (hc : checkD ⟨3, ⟨ek, ⟨es, eg⟩, ec⟩, key, pg, ⟨lf2, lo2, hi2, r2, l2⟩⟩ = 0) (hlo : ltS lo key = false) (w : World) {v u : Value} (hr : Rl En.enc 4 w v l) (hs : Rl En.enc 4 w u l2) (hl2 : l2.length ≤ maxLen) (hb : l.length * 40 ≤ 140737488355328) :
    Calls Try.prog 35 #[pgv ⟨lf, lo, hi, r, l⟩ v, dlv ⟨3, ⟨ek, ⟨es, eg⟩, ec⟩, key, pg, ⟨lf2, lo2, hi2, r2, l2⟩⟩ u] w (GaveA (applyD ⟨lf, lo, hi, r, l⟩ ⟨3, ⟨ek, ⟨es, eg⟩, ec⟩, key, pg, ⟨lf2, lo2, hi2, r2, l2⟩⟩) w) := by
  have HV := Lib.hid (show applyD ⟨lf, lo, hi, r, l⟩ ⟨3, ⟨ek, ⟨es, eg⟩, ec⟩, key, pg, ⟨lf2, lo2, hi2, r2, l2⟩⟩ = (zeroPg, 90) from by unfold applyD; simp [hc, hlo])
  obtain ⟨a0, c0, rfl, hc0, hrd⟩ := hr
  obtain ⟨aD, cD, rfl, hcD, hsd⟩ := hs
  have HC := Lib.hid (fun W (k' : KN w W) => check_delta ⟨3, ⟨ek, ⟨es, eg⟩, ec⟩, key, pg, ⟨lf2, lo2, hi2, r2, l2⟩⟩ W ((Rl.of_rd hsd hcD).kn k') hl2)
  rw [hc] at HC
  have HR := Lib.hid (Rl.of_rd hrd hc0)
  have HR2 := Lib.hid (Rl.of_rd hsd hcD)
  clear hrd hsd
  rw [HV.out]
  unfold dlv at HC ⊢
  simp only at HC ⊢
  clear hc HV
  have hs0 : (Op.bytesLess key.toList lo.toList || key.toList == lo.toList) = true := by rw [bytesLe]; show (!ltS lo key) = true; rw [hlo]; rfl
  have HO0 := Lib.hid ((One.nil w).alloc3 (.cells #[.bool lf, .string lo, .string hi, .int .i64 r, .slice a0 l.length c0] 24) (.cells #[.int .i64 3, .string ek, .int .i64 es, .int .i64 eg, .int .i64 ec, .string key, .int .i64 pg, .bool lf2, .string lo2, .string hi2, .int .i64 r2, .slice aD l2.length cD] 30) (.cells #[.bool false, .string ⟨#[]⟩, .string ⟨#[]⟩, .int .i64 0, .slice none 0 0] 24))
  go_enter Try.func35, Try.ntmps35
  obtain ⟨x0_0a, x0_0b, x0_0c, x0_0d, x0_0e, x0_0f⟩ := cells5 (HO0.out.blk 0 rfl).1
  obtain ⟨x0_1a, x0_1b, x0_1c, x0_1d, x0_1e, x0_1f, x0_1g, x0_1h, x0_1i, x0_1j, x0_1k, x0_1l, x0_1m⟩ := cells12 (HO0.out.blk 1 rfl).1
  obtain ⟨x0_2a, x0_2b, x0_2c, x0_2d, x0_2e, x0_2f⟩ := cells5 (HO0.out.blk 2 rfl).1
  go_wp2_with fail
  refine (HC.out _ HO0.out.old).mono ?_
  rintro e w1 ⟨rfl, k1⟩
  have HO1 := Lib.hid (HO0.out.kn k1)
  clear k1 HO0 x0_0a x0_0b x0_0c x0_0d x0_0e x0_0f x0_1a x0_1b x0_1c x0_1d x0_1e x0_1f x0_1g x0_1h x0_1i x0_1j x0_1k x0_1l x0_1m x0_2a x0_2b x0_2c x0_2d x0_2e x0_2f
  obtain ⟨x1_0a, x1_0b, x1_0c, x1_0d, x1_0e, x1_0f⟩ := cells5 (HO1.out.blk 0 rfl).1
  obtain ⟨x1_1a, x1_1b, x1_1c, x1_1d, x1_1e, x1_1f, x1_1g, x1_1h, x1_1i, x1_1j, x1_1k, x1_1l, x1_1m⟩ := cells12 (HO1.out.blk 1 rfl).1
  obtain ⟨x1_2a, x1_2b, x1_2c, x1_2d, x1_2e, x1_2f⟩ := cells5 (HO1.out.blk 2 rfl).1
  go_wp2_with fail
  refine (must_ok _).mono ?_
  rintro e wm ⟨rfl, rfl⟩
  cases hs1 : Op.bytesLess key.toList lo.toList
  all_goals
    rw [hs1] at hs0
    go_wp2_with fail
    refine (must_no 90 (by decide) _).mono ?_
    rintro e wm ⟨rfl, rfl⟩
    exact ⟨rfl, .inr ⟨by decide, rfl, HO1.out.old⟩⟩
set_option maxHeartbeats 1000000 in
theorem apply_3out (lf : Bool) (lo hi : ByteArray) (r : Int) (l : List En) (ek : ByteArray) (es eg ec : Int) (key : ByteArray) (pg : Int) (lf2 : Bool) (lo2 hi2 : ByteArray) (r2 : Int) (l2 : List En) (hc : checkD ⟨3, ⟨ek, ⟨es, eg⟩, ec⟩, key, pg, ⟨lf2, lo2, hi2, r2, l2⟩⟩ = 0) (hlo : ltS lo key = true) (hin : inR lo hi key = false) (w : World) {v u : Value} (hr : Rl En.enc 4 w v l) (hs : Rl En.enc 4 w u l2) (hl2 : l2.length ≤ maxLen) (hb : l.length * 40 ≤ 140737488355328) :
    Calls Try.prog 35 #[pgv ⟨lf, lo, hi, r, l⟩ v, dlv ⟨3, ⟨ek, ⟨es, eg⟩, ec⟩, key, pg, ⟨lf2, lo2, hi2, r2, l2⟩⟩ u] w (GaveA (applyD ⟨lf, lo, hi, r, l⟩ ⟨3, ⟨ek, ⟨es, eg⟩, ec⟩, key, pg, ⟨lf2, lo2, hi2, r2, l2⟩⟩) w) := by
  have HV := Lib.hid (show applyD ⟨lf, lo, hi, r, l⟩ ⟨3, ⟨ek, ⟨es, eg⟩, ec⟩, key, pg, ⟨lf2, lo2, hi2, r2, l2⟩⟩ = (zeroPg, 90) from by unfold applyD; simp [hc, hlo, hin])
  obtain ⟨a0, c0, rfl, hc0, hrd⟩ := hr
  obtain ⟨aD, cD, rfl, hcD, hsd⟩ := hs
  have HC := Lib.hid (fun W (k' : KN w W) => check_delta ⟨3, ⟨ek, ⟨es, eg⟩, ec⟩, key, pg, ⟨lf2, lo2, hi2, r2, l2⟩⟩ W ((Rl.of_rd hsd hcD).kn k') hl2)
  rw [hc] at HC
  have HR := Lib.hid (Rl.of_rd hrd hc0)
  have HR2 := Lib.hid (Rl.of_rd hsd hcD)
  clear hrd hsd
  rw [HV.out]
  unfold dlv at HC ⊢
  simp only at HC ⊢
  clear hc HV
  have hs0 : (Op.bytesLess key.toList lo.toList || key.toList == lo.toList) = false := by rw [bytesLe]; show (!ltS lo key) = false; rw [hlo]; rfl
  have HH := Lib.hid (fun W => hin ▸ has_k lf lo hi r (.slice a0 l.length c0) key W)
  have HO0 := Lib.hid ((One.nil w).alloc3 (.cells #[.bool lf, .string lo, .string hi, .int .i64 r, .slice a0 l.length c0] 24) (.cells #[.int .i64 3, .string ek, .int .i64 es, .int .i64 eg, .int .i64 ec, .string key, .int .i64 pg, .bool lf2, .string lo2, .string hi2, .int .i64 r2, .slice aD l2.length cD] 30) (.cells #[.bool false, .string ⟨#[]⟩, .string ⟨#[]⟩, .int .i64 0, .slice none 0 0] 24))
  go_enter Try.func35, Try.ntmps35
  obtain ⟨x0_0a, x0_0b, x0_0c, x0_0d, x0_0e, x0_0f⟩ := cells5 (HO0.out.blk 0 rfl).1
  obtain ⟨x0_1a, x0_1b, x0_1c, x0_1d, x0_1e, x0_1f, x0_1g, x0_1h, x0_1i, x0_1j, x0_1k, x0_1l, x0_1m⟩ := cells12 (HO0.out.blk 1 rfl).1
  obtain ⟨x0_2a, x0_2b, x0_2c, x0_2d, x0_2e, x0_2f⟩ := cells5 (HO0.out.blk 2 rfl).1
  go_wp2_with fail
  refine (HC.out _ HO0.out.old).mono ?_
  rintro e w1 ⟨rfl, k1⟩
  have HO1 := Lib.hid (HO0.out.kn k1)
  clear k1 HO0 x0_0a x0_0b x0_0c x0_0d x0_0e x0_0f x0_1a x0_1b x0_1c x0_1d x0_1e x0_1f x0_1g x0_1h x0_1i x0_1j x0_1k x0_1l x0_1m x0_2a x0_2b x0_2c x0_2d x0_2e x0_2f
  obtain ⟨x1_0a, x1_0b, x1_0c, x1_0d, x1_0e, x1_0f⟩ := cells5 (HO1.out.blk 0 rfl).1
  obtain ⟨x1_1a, x1_1b, x1_1c, x1_1d, x1_1e, x1_1f, x1_1g, x1_1h, x1_1i, x1_1j, x1_1k, x1_1l, x1_1m⟩ := cells12 (HO1.out.blk 1 rfl).1
  obtain ⟨x1_2a, x1_2b, x1_2c, x1_2d, x1_2e, x1_2f⟩ := cells5 (HO1.out.blk 2 rfl).1
  go_wp2_with fail
  refine (must_ok _).mono ?_
  rintro e wm ⟨rfl, rfl⟩
  obtain ⟨hs1, hs2⟩ := Bool.or_eq_false_iff.1 hs0
  clear hs0
  clear x1_0a x1_0b x1_0c x1_0d x1_0e x1_0f x1_1a x1_1b x1_1c x1_1d x1_1e x1_1f x1_1g x1_1h x1_1i x1_1j x1_1k x1_1l x1_1m x1_2a x1_2b x1_2c x1_2d x1_2e x1_2f
  obtain ⟨x1_0a, x1_0b, x1_0c, x1_0d, x1_0e, x1_0f⟩ := cells5 (HO1.out.blk 0 rfl).1
  obtain ⟨x1_1a, x1_1b, x1_1c, x1_1d, x1_1e, x1_1f, x1_1g, x1_1h, x1_1i, x1_1j, x1_1k, x1_1l, x1_1m⟩ := cells12 (HO1.out.blk 1 rfl).1
  obtain ⟨x1_2a, x1_2b, x1_2c, x1_2d, x1_2e, x1_2f⟩ := cells5 (HO1.out.blk 2 rfl).1
  go_wp2_with fail
  refine (HH.out _).mono ?_
  rintro e w2 ⟨rfl, k2⟩
  have HO2 := Lib.hid (HO1.out.kn k2)
  clear k2 HO1 x1_0a x1_0b x1_0c x1_0d x1_0e x1_0f x1_1a x1_1b x1_1c x1_1d x1_1e x1_1f x1_1g x1_1h x1_1i x1_1j x1_1k x1_1l x1_1m x1_2a x1_2b x1_2c x1_2d x1_2e x1_2f
  obtain ⟨x2_0a, x2_0b, x2_0c, x2_0d, x2_0e, x2_0f⟩ := cells5 (HO2.out.blk 0 rfl).1
  obtain ⟨x2_1a, x2_1b, x2_1c, x2_1d, x2_1e, x2_1f, x2_1g, x2_1h, x2_1i, x2_1j, x2_1k, x2_1l, x2_1m⟩ := cells12 (HO2.out.blk 1 rfl).1
  obtain ⟨x2_2a, x2_2b, x2_2c, x2_2d, x2_2e, x2_2f⟩ := cells5 (HO2.out.blk 2 rfl).1
  go_wp2_with fail
  refine (must_no 90 (by decide) _).mono ?_
  rintro e wm ⟨rfl, rfl⟩
  exact ⟨rfl, .inr ⟨by decide, rfl, HO2.out.old⟩⟩
theorem k56 {w : World} {b : Nat} {T : TypeId} {v0 v1 v2 v3 v4 v5 v6 v7 v8 v9 v10 v11 : Value} (h : w.heap[b]? = some (.cells #[v0, v1, v2, v3, v4, v5, v6, v7, v8, v9, v10, v11] T (0, 0))) : w.cell? ⟨b, 5, none⟩ = some v5 ∧ w.cell? ⟨b, 6, none⟩ = some v6 := ⟨cell_blk h rfl, cell_blk h rfl⟩
set_option maxHeartbeats 1000000 in
theorem apply_3yes (lf : Bool) (lo hi : ByteArray) (r : Int) (l : List En) (ek : ByteArray) (es eg ec : Int) (key : ByteArray) (pg : Int) (lf2 : Bool) (lo2 hi2 : ByteArray) (r2 : Int) (l2 : List En) (hc : checkD ⟨3, ⟨ek, ⟨es, eg⟩, ec⟩, key, pg, ⟨lf2, lo2, hi2, r2, l2⟩⟩ = 0) (hlo : ltS lo key = true) (hin : inR lo hi key = true) (w : World) {v u : Value} (hr : Rl En.enc 4 w v l) (hs : Rl En.enc 4 w u l2) (hl2 : l2.length ≤ maxLen) (hb : l.length * 40 ≤ 140737488355328) :
    Calls Try.prog 35 #[pgv ⟨lf, lo, hi, r, l⟩ v, dlv ⟨3, ⟨ek, ⟨es, eg⟩, ec⟩, key, pg, ⟨lf2, lo2, hi2, r2, l2⟩⟩ u] w (GaveA (applyD ⟨lf, lo, hi, r, l⟩ ⟨3, ⟨ek, ⟨es, eg⟩, ec⟩, key, pg, ⟨lf2, lo2, hi2, r2, l2⟩⟩) w) := by
  have HV := Lib.hid (show applyD ⟨lf, lo, hi, r, l⟩ ⟨3, ⟨ek, ⟨es, eg⟩, ec⟩, key, pg, ⟨lf2, lo2, hi2, r2, l2⟩⟩ = (⟨lf, lo, key, pg, l.filter (fun x => ltS x.key key)⟩, 0) from by unfold applyD; simp [hc, hlo, hin])
  obtain ⟨a0, c0, rfl, hc0, hrd⟩ := hr
  obtain ⟨aD, cD, rfl, hcD, hsd⟩ := hs
  have HC := Lib.hid (fun W (k' : KN w W) => check_delta ⟨3, ⟨ek, ⟨es, eg⟩, ec⟩, key, pg, ⟨lf2, lo2, hi2, r2, l2⟩⟩ W ((Rl.of_rd hsd hcD).kn k') hl2)
  rw [hc] at HC
  have HR := Lib.hid (Rl.of_rd hrd hc0)
  have HR2 := Lib.hid (Rl.of_rd hsd hcD)
  clear hrd hsd
  rw [HV.out]
  unfold dlv at HC ⊢
  simp only at HC ⊢
  clear hc HV
  have hs0 : (Op.bytesLess key.toList lo.toList || key.toList == lo.toList) = false := by rw [bytesLe]; show (!ltS lo key) = false; rw [hlo]; rfl
  have HH := Lib.hid (fun W => hin ▸ has_k lf lo hi r (.slice a0 l.length c0) key W)
  have HCl := Lib.hid (fun W (k' : KN w W) => clone_page ⟨lf, lo, hi, r, l⟩ W (HR.out.kn k') (by show l.length ≤ maxLen; unfold maxLen; omega) hb)
  have hmf : ∀ (fn : Fn) (first cap : Array Value) (w : World), (Instr.makeFunc fn first cap).run Try.prog w = .ok (.func fn first cap) w := fun _ _ _ _ => rfl
  obtain ⟨fl, hfl⟩ : ∃ x, l.filter (fun x => ltS x.key key) = x := ⟨_, rfl⟩
  rw [hfl]
  have HFL := Lib.hid hfl
  clear hfl
  have HO0 := Lib.hid ((One.nil w).alloc3 (.cells #[.bool lf, .string lo, .string hi, .int .i64 r, .slice a0 l.length c0] 24) (.cells #[.int .i64 3, .string ek, .int .i64 es, .int .i64 eg, .int .i64 ec, .string key, .int .i64 pg, .bool lf2, .string lo2, .string hi2, .int .i64 r2, .slice aD l2.length cD] 30) (.cells #[.bool false, .string ⟨#[]⟩, .string ⟨#[]⟩, .int .i64 0, .slice none 0 0] 24))
  go_enter Try.func35, Try.ntmps35
  obtain ⟨x0_0a, x0_0b, x0_0c, x0_0d, x0_0e, x0_0f⟩ := cells5 (HO0.out.blk 0 rfl).1
  obtain ⟨x0_1a, x0_1b, x0_1c, x0_1d, x0_1e, x0_1f, x0_1g, x0_1h, x0_1i, x0_1j, x0_1k, x0_1l, x0_1m⟩ := cells12 (HO0.out.blk 1 rfl).1
  obtain ⟨x0_2a, x0_2b, x0_2c, x0_2d, x0_2e, x0_2f⟩ := cells5 (HO0.out.blk 2 rfl).1
  go_wp2_with fail
  refine (HC.out _ HO0.out.old).mono ?_
  rintro e w1 ⟨rfl, k1⟩
  have HO1 := Lib.hid (HO0.out.kn k1)
  clear k1 HO0 x0_0a x0_0b x0_0c x0_0d x0_0e x0_0f x0_1a x0_1b x0_1c x0_1d x0_1e x0_1f x0_1g x0_1h x0_1i x0_1j x0_1k x0_1l x0_1m x0_2a x0_2b x0_2c x0_2d x0_2e x0_2f
  obtain ⟨x1_0a, x1_0b, x1_0c, x1_0d, x1_0e, x1_0f⟩ := cells5 (HO1.out.blk 0 rfl).1
  obtain ⟨x1_1a, x1_1b, x1_1c, x1_1d, x1_1e, x1_1f, x1_1g, x1_1h, x1_1i, x1_1j, x1_1k, x1_1l, x1_1m⟩ := cells12 (HO1.out.blk 1 rfl).1
  obtain ⟨x1_2a, x1_2b, x1_2c, x1_2d, x1_2e, x1_2f⟩ := cells5 (HO1.out.blk 2 rfl).1
  go_wp2_with fail
  refine (must_ok _).mono ?_
  rintro e wm ⟨rfl, rfl⟩
  obtain ⟨hs1, hs2⟩ := Bool.or_eq_false_iff.1 hs0
  clear hs0
  clear x1_0a x1_0b x1_0c x1_0d x1_0e x1_0f x1_1a x1_1b x1_1c x1_1d x1_1e x1_1f x1_1g x1_1h x1_1i x1_1j x1_1k x1_1l x1_1m x1_2a x1_2b x1_2c x1_2d x1_2e x1_2f
  obtain ⟨x1_0a, x1_0b, x1_0c, x1_0d, x1_0e, x1_0f⟩ := cells5 (HO1.out.blk 0 rfl).1
  obtain ⟨x1_1a, x1_1b, x1_1c, x1_1d, x1_1e, x1_1f, x1_1g, x1_1h, x1_1i, x1_1j, x1_1k, x1_1l, x1_1m⟩ := cells12 (HO1.out.blk 1 rfl).1
  obtain ⟨x1_2a, x1_2b, x1_2c, x1_2d, x1_2e, x1_2f⟩ := cells5 (HO1.out.blk 2 rfl).1
  go_wp2_with fail
  refine (HH.out _).mono ?_
  rintro e w2 ⟨rfl, k2⟩
  have HO2 := Lib.hid (HO1.out.kn k2)
  clear k2 HO1 x1_0a x1_0b x1_0c x1_0d x1_0e x1_0f x1_1a x1_1b x1_1c x1_1d x1_1e x1_1f x1_1g x1_1h x1_1i x1_1j x1_1k x1_1l x1_1m x1_2a x1_2b x1_2c x1_2d x1_2e x1_2f
  obtain ⟨x2_0a, x2_0b, x2_0c, x2_0d, x2_0e, x2_0f⟩ := cells5 (HO2.out.blk 0 rfl).1
  obtain ⟨x2_1a, x2_1b, x2_1c, x2_1d, x2_1e, x2_1f, x2_1g, x2_1h, x2_1i, x2_1j, x2_1k, x2_1l, x2_1m⟩ := cells12 (HO2.out.blk 1 rfl).1
  obtain ⟨x2_2a, x2_2b, x2_2c, x2_2d, x2_2e, x2_2f⟩ := cells5 (HO2.out.blk 2 rfl).1
  go_wp2_with fail
  refine (HCl.out _ HO2.out.old).mono ?_
  rintro e w3 ⟨a3, c3, rfl, k3⟩
  have HO3 := Lib.hid (HO2.out.add k3)
  clear k3 HO2 x2_0a x2_0b x2_0c x2_0d x2_0e x2_0f x2_1a x2_1b x2_1c x2_1d x2_1e x2_1f x2_1g x2_1h x2_1i x2_1j x2_1k x2_1l x2_1m x2_2a x2_2b x2_2c x2_2d x2_2e x2_2f
  go_upto_region 18 with fail
  have HO4 := Lib.hid (HO3.out.alloc (.cells #[.bool lf, .string lo, .string hi, .int .i64 r, .slice a3 l.length c3] 24))
  clear HO3 
  generalize (w3.alloc (.cells #[.bool lf, .string lo, .string hi, .int .i64 r, .slice a3 l.length c3] 24)) = w4 at *
  generalize w3.heap.size = g4 at *
  obtain ⟨x4_0a, x4_0b, x4_0c, x4_0d, x4_0e, x4_0f⟩ := cells5 (HO4.out.blk 0 rfl).1
  obtain ⟨x4_2a, x4_2b, x4_2c, x4_2d, x4_2e, x4_2f⟩ := cells5 (HO4.out.blk 2 rfl).1
  obtain ⟨x4_3a, x4_3b, x4_3c, x4_3d, x4_3e, x4_3f, x4_3g, x4_3h, x4_3i, x4_3j, x4_3k, x4_3l, x4_3m⟩ := cells12 (HO4.out.blk 3 rfl).1
  obtain ⟨x4_4a, x4_4b, x4_4c, x4_4d, x4_4e, x4_4f⟩ := cells5 (HO4.out.blk 4 rfl).1
  go_wp2_with fail
  refine (HO4.out.lift 1 rfl (fun F hF => delete_En (fun x => !ltS x.key key) 53 #[.pointer (some ⟨w.heap.size + 1, 0, none⟩)] eg_apply1 hF (fun W x k => says_split key _ W x (cell_kp k (row_ne hF (HO4.out.blk 3 rfl).1) (cells12 (HO4.out.blk 3 rfl).1).2.2.2.2.2.1)) (by unfold maxLen; omega))).mono ?_
  rintro e w5 ⟨rfl, ho⟩
  simp only [Bool.not_not, HFL.out] at ho ⊢
  have HO5 := Lib.hid ho
  clear ho HO4 x4_0a x4_0b x4_0c x4_0d x4_0e x4_0f x4_2a x4_2b x4_2c x4_2d x4_2e x4_2f x4_3a x4_3b x4_3c x4_3d x4_3e x4_3f x4_3g x4_3h x4_3i x4_3j x4_3k x4_3l x4_3m x4_4a x4_4b x4_4c x4_4d x4_4e x4_4f
  obtain ⟨x5_0a, x5_0b, x5_0c, x5_0d, x5_0e, x5_0f⟩ := cells5 (HO5.out.blk 0 rfl).1
  obtain ⟨x5_2a, x5_2b, x5_2c, x5_2d, x5_2e, x5_2f⟩ := cells5 (HO5.out.blk 2 rfl).1
  obtain ⟨x5_3a, x5_3b, x5_3c, x5_3d, x5_3e, x5_3f, x5_3g, x5_3h, x5_3i, x5_3j, x5_3k, x5_3l, x5_3m⟩ := cells12 (HO5.out.blk 3 rfl).1
  obtain ⟨x5_4a, x5_4b, x5_4c, x5_4d, x5_4e, x5_4f⟩ := cells5 (HO5.out.blk 4 rfl).1
  go_upto_region 19 with fail
  have HO6 := Lib.hid (show One w (w5.setCell ⟨g4, 4, none⟩ ( .slice a3 fl.length c3)) [Blk (g4) (.cells #[.bool lf, .string lo, .string hi, .int .i64 r, .slice a3 fl.length c3] 24), RowE a3 c3 fl, Blk (w.heap.size + 1 + 1) (.cells #[.bool false, .string ⟨#[]⟩, .string ⟨#[]⟩, .int .i64 0, .slice none 0 0] 24), Blk (w.heap.size + 1) (.cells #[.int .i64 3, .string ek, .int .i64 es, .int .i64 eg, .int .i64 ec, .string key, .int .i64 pg, .bool lf2, .string lo2, .string hi2, .int .i64 r2, .slice aD l2.length cD] 30), Blk (w.heap.size) (.cells #[.bool lf, .string lo, .string hi, .int .i64 r, .slice a0 l.length c0] 24)] from (HO5.out.setC 0 rfl (j := 4) ( .slice a3 fl.length c3)))
  clear HO5 x5_0a x5_0b x5_0c x5_0d x5_0e x5_0f x5_2a x5_2b x5_2c x5_2d x5_2e x5_2f x5_3a x5_3b x5_3c x5_3d x5_3e x5_3f x5_3g x5_3h x5_3i x5_3j x5_3k x5_3l x5_3m x5_4a x5_4b x5_4c x5_4d x5_4e x5_4f
  generalize (w5.setCell ⟨g4, 4, none⟩ ( .slice a3 fl.length c3)) = w6 at *
  obtain ⟨x6_0a, x6_0b, x6_0c, x6_0d, x6_0e, x6_0f⟩ := cells5 (HO6.out.blk 0 rfl).1
  obtain ⟨x6_2a, x6_2b, x6_2c, x6_2d, x6_2e, x6_2f⟩ := cells5 (HO6.out.blk 2 rfl).1
  obtain ⟨x6_3a, x6_3b, x6_3c, x6_3d, x6_3e, x6_3f, x6_3g, x6_3h, x6_3i, x6_3j, x6_3k, x6_3l, x6_3m⟩ := cells12 (HO6.out.blk 3 rfl).1
  obtain ⟨x6_4a, x6_4b, x6_4c, x6_4d, x6_4e, x6_4f⟩ := cells5 (HO6.out.blk 4 rfl).1
  have HT0 := Lib.hid (HO6.out.setC 0 rfl (j := 2) (.string key))
  have HT1 := Lib.hid (HT0.out.kn ((Kp.refl _ _).drew))
  have HT2 := Lib.hid ((HT0.out.setC 0 rfl (j := 3) (.int .i64 pg)).kn ((Kp.refl _ _).drew))
  have K1 := Lib.hid (k56 (HT1.out.blk 3 rfl).1)
  have K2 := Lib.hid (k56 (HT2.out.blk 3 rfl).1)
  go_region_held3 (fun w' => w'.cell? ⟨w.heap.size + 1, 5, none⟩ = some (.string key) ∧ w'.cell? ⟨w.heap.size + 1, 6, none⟩ = some (.int .i64 pg)) (first | (with_reducible exact K1.out) | (with_reducible exact K2.out) | go_keep) (fail)
  clear x6_0a x6_0b x6_0c x6_0d x6_0e x6_0f x6_2a x6_2b x6_2c x6_2d x6_2e x6_2f x6_3a x6_3b x6_3c x6_3d x6_3e x6_3f x6_3g x6_3h x6_3i x6_3j x6_3k x6_3l x6_3m x6_4a x6_4b x6_4c x6_4d x6_4e x6_4f K1 K2 HT0 HT1
  have HO7 := Lib.hid (show One w ((w6.setCell ⟨g4, 2, none⟩ (.string key)).setCell ⟨g4, 3, none⟩ (.int .i64 pg)).drew [Blk (g4) (.cells #[.bool lf, .string lo, .string key, .int .i64 pg, .slice a3 fl.length c3] 24), RowE a3 c3 fl, Blk (w.heap.size + 1 + 1) (.cells #[.bool false, .string ⟨#[]⟩, .string ⟨#[]⟩, .int .i64 0, .slice none 0 0] 24), Blk (w.heap.size + 1) (.cells #[.int .i64 3, .string ek, .int .i64 es, .int .i64 eg, .int .i64 ec, .string key, .int .i64 pg, .bool lf2, .string lo2, .string hi2, .int .i64 r2, .slice aD l2.length cD] 30), Blk (w.heap.size) (.cells #[.bool lf, .string lo, .string hi, .int .i64 r, .slice a0 l.length c0] 24)] from HT2.out)
  clear HT2 HO6
  generalize ((w6.setCell ⟨g4, 2, none⟩ (.string key)).setCell ⟨g4, 3, none⟩ (.int .i64 pg)).drew = w7 at *
  obtain ⟨x7_0a, x7_0b, x7_0c, x7_0d, x7_0e, x7_0f⟩ := cells5 (HO7.out.blk 0 rfl).1
  obtain ⟨x7_2a, x7_2b, x7_2c, x7_2d, x7_2e, x7_2f⟩ := cells5 (HO7.out.blk 2 rfl).1
  obtain ⟨x7_3a, x7_3b, x7_3c, x7_3d, x7_3e, x7_3f, x7_3g, x7_3h, x7_3i, x7_3j, x7_3k, x7_3l, x7_3m⟩ := cells12 (HO7.out.blk 3 rfl).1
  obtain ⟨x7_4a, x7_4b, x7_4c, x7_4d, x7_4e, x7_4f⟩ := cells5 (HO7.out.blk 4 rfl).1
  go_wp2_with fail
  have HO8 := Lib.hid (show One w (((((w7.setCell ⟨w.heap.size + 1 + 1, 0, none⟩ (.bool lf)).setCell ⟨w.heap.size + 1 + 1, 1, none⟩ (.string lo)).setCell ⟨w.heap.size + 1 + 1, 2, none⟩ (.string key)).setCell ⟨w.heap.size + 1 + 1, 3, none⟩ (.int .i64 pg)).setCell ⟨w.heap.size + 1 + 1, 4, none⟩ (.slice a3 fl.length c3)) [Blk (g4) (.cells #[.bool lf, .string lo, .string key, .int .i64 pg, .slice a3 fl.length c3] 24), RowE a3 c3 fl, Blk (w.heap.size + 1 + 1) (.cells #[.bool lf, .string lo, .string key, .int .i64 pg, .slice a3 fl.length c3] 24), Blk (w.heap.size + 1) (.cells #[.int .i64 3, .string ek, .int .i64 es, .int .i64 eg, .int .i64 ec, .string key, .int .i64 pg, .bool lf2, .string lo2, .string hi2, .int .i64 r2, .slice aD l2.length cD] 30), Blk (w.heap.size) (.cells #[.bool lf, .string lo, .string hi, .int .i64 r, .slice a0 l.length c0] 24)] from HO7.out.set5 2 rfl (.bool lf) (.string lo) (.string key) (.int .i64 pg) (.slice a3 fl.length c3))
  clear HO7 x7_0a x7_0b x7_0c x7_0d x7_0e x7_0f x7_2a x7_2b x7_2c x7_2d x7_2e x7_2f x7_3a x7_3b x7_3c x7_3d x7_3e x7_3f x7_3g x7_3h x7_3i x7_3j x7_3k x7_3l x7_3m x7_4a x7_4b x7_4c x7_4d x7_4e x7_4f
  generalize (((((w7.setCell ⟨w.heap.size + 1 + 1, 0, none⟩ (.bool lf)).setCell ⟨w.heap.size + 1 + 1, 1, none⟩ (.string lo)).setCell ⟨w.heap.size + 1 + 1, 2, none⟩ (.string key)).setCell ⟨w.heap.size + 1 + 1, 3, none⟩ (.int .i64 pg)).setCell ⟨w.heap.size + 1 + 1, 4, none⟩ (.slice a3 fl.length c3)) = w8 at *
  exact bodyPost_ret (res_c1 rfl rfl (load_pg (HO8.out.blk 2 rfl).1)) rfl (.inl ⟨rfl, _, _, rfl, HO8.out.post 1 rfl⟩)
theorem apply_delta (p : Pg) (d : Dl) (w : World) {v u : Value} (hr : Rl En.enc 4 w v p.list) (hs : Rl En.enc 4 w u d.right.list) (hb : (p.list.length + d.right.list.length + 1) * 40 ≤ 140737488355328) : Calls Try.prog 35 #[pgv p v, dlv d u] w (GaveA (applyD p d) w) := by
  obtain ⟨k, ⟨ek, ⟨es, eg⟩, ec⟩, key, pg, ⟨lf2, lo2, hi2, r2, l2⟩⟩ := d
  obtain ⟨lf, lo, hi, r, l⟩ := p
  simp only at hr hs hb
  have hl2 : l2.length ≤ maxLen := by unfold maxLen; omega
  have hb0 : l.length * 40 ≤ 140737488355328 := Nat.le_trans (Nat.mul_le_mul_right 40 (by omega)) hb
  have hb1 : (l.length + 1) * 40 ≤ 140737488355328 := Nat.le_trans (Nat.mul_le_mul_right 40 (by omega)) hb
  have hb4 : (l.length + l2.length) * 40 ≤ 140737488355328 := Nat.le_trans (Nat.mul_le_mul_right 40 (by omega)) hb
  by_cases hc : checkD ⟨k, ⟨ek, ⟨es, eg⟩, ec⟩, key, pg, ⟨lf2, lo2, hi2, r2, l2⟩⟩ = 0
  case neg =>
   exact apply_bad k lf lo hi r l ek es eg ec key pg lf2 lo2 hi2 r2 l2 hc w hr hs hl2 hb0
  by_cases h1 : k = 1
  · subst h1; exact apply_1 lf lo hi r l ek es eg ec key pg lf2 lo2 hi2 r2 l2 hc w hr hs hl2 hb1
  by_cases h2 : k = 2
  · subst h2
    cases hin : inR lo hi key
    · exact apply_2no lf lo hi r l ek es eg ec key pg lf2 lo2 hi2 r2 l2 hc hin w hr hs hl2 hb0
    · by_cases hm : (removeP ⟨lf, lo, hi, r, l⟩ key).2 = 0
      · exact apply_2yes lf lo hi r l ek es eg ec key pg lf2 lo2 hi2 r2 l2 hc hin hm w hr hs hl2 hb0
      · exact apply_2none lf lo hi r l ek es eg ec key pg lf2 lo2 hi2 r2 l2 hc hin hm w hr hs hl2 hb0
  by_cases h3 : k = 3
  · subst h3
    cases hlo : ltS lo key
    · exact apply_3lo lf lo hi r l ek es eg ec key pg lf2 lo2 hi2 r2 l2 hc hlo w hr hs hl2 hb0
    · cases hin : inR lo hi key
      · exact apply_3out lf lo hi r l ek es eg ec key pg lf2 lo2 hi2 r2 l2 hc hlo hin w hr hs hl2 hb0
      · exact apply_3yes lf lo hi r l ek es eg ec key pg lf2 lo2 hi2 r2 l2 hc hlo hin w hr hs hl2 hb0
  by_cases h4 : k = 4
  · subst h4; exact apply_4 lf lo hi r l ek es eg ec key pg lf2 lo2 hi2 r2 l2 hc w hr hs hl2 hb4
  exact apply_5 k h1 h2 h3 h4 lf lo hi r l ek es eg ec key pg lf2 lo2 hi2 r2 l2 hc w hr hs hl2 hb0
end Go.Proofs.Ytkdlodjpambelaa
