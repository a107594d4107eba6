/- The reference's epochs: Retire. -/
import Derived.Test.YtghmgmchfcbodaaRefEp
namespace Go.Proofs.Ytghmgmchfcbodaa
set_option linter.unusedVariables false
set_option linter.unusedSimpArgs false
open Go Go.RowKit

theorem rl_w {w : World} {g : Nat} {t k s e : Int} {fr : Nat × Nat} {T : TypeId} {cap : Nat} (h : w.heap[g]? = some (.cells #[.int .i64 t, .int .i64 k, .int .i64 s, .int .i64 e] T fr)) (hc : 1 ≤ cap := by decide) : Rl encW 4 w (.slice (some ⟨g, 0, none⟩) 1 cap) [(t, ⟨k, ⟨s, e⟩⟩)] := by
  refine ⟨_, cap, rfl, hc, .inr ⟨g, 0, rfl, lt_blk h, fun i x hx j hj => ?_⟩⟩
  match i, hx with
  | 0, hx =>
    simp at hx; subst hx
    match j, hj with
    | 0, _ => exact cell_blk h rfl
    | 1, _ => exact cell_blk h rfl
    | 2, _ => exact cell_blk h rfl
    | 3, _ => exact cell_blk h rfl
def Rps.retire (ρ : Rps) (x : Re) : Rps := ⟨ρ.now, ρ.is, ρ.at_, ρ.limbo ++ [((ρ.now : Int), x)]⟩
theorem RObj.cells {b : Nat} {w : World} {now : Int} {bs : List Bool} {ts : List Int} {v : Value} (h : w.heap[b]? = some (RObj now bs ts v)) (hb : bs.length = 17) (ht : ts.length = 17) : w.cell? ⟨b, 0, none⟩ = some (.int .i64 now) ∧ w.cell? ⟨b, 35, none⟩ = some v ∧ (∀ j, w.frozen? ⟨b, j, none⟩ = false) ∧ b < w.heap.size :=
  ⟨cell_blk h rc_now, cell_blk h (rc_v hb ht), fun j => free_blk h, lt_blk h⟩
/-- The block and its row stand first. -/
theorem Pw.ref {F : Nat → Prop} {w w' : World} {b : Nat} {ρ : Rps} {a : Option Addr} {cap : Nat} (h : Pw F w w' [Blk b (RObj ρ.now ρ.is ρ.at_ (.slice a ρ.limbo.length cap)), RowA 88 4 (.slice a ρ.limbo.length cap) ρ.limbo.length (ρ.limbo.flatMap encW)]) : Post (ReA b ρ) F w w' :=
  Post.imp h fun F' h' => ⟨a, cap, h'⟩
set_option maxHeartbeats 2000000 in
theorem retire_r {b : Nat} {ρ : Rps} {w : World} {F : Nat → Prop} (h : (ReA b ρ).on w F) (hf : ρ.Fit) (x : Re) (hb : ρ.limbo.length ≤ 9000000) : Calls Try.prog 32 #[.pointer (some ⟨b, 0, none⟩), ren x] w fun e w' => e = .returned (.int .i64 0) ∧ Post (ReA b (ρ.retire x)) F w w' := by
  obtain ⟨a, cap, h⟩ := h
  have HP := Lib.hid (Pw.start (show (All [Blk b (RObj ρ.now ρ.is ρ.at_ (.slice a ρ.limbo.length cap)), RowA 88 4 (.slice a ρ.limbo.length cap) ρ.limbo.length (ρ.limbo.flatMap encW)]).on w F from h))
  have HRl := Lib.hid (RAt.rl h)
  have HS := Lib.hid (show ρ.retire x = ⟨ρ.now, ρ.is, ρ.at_, ρ.limbo ++ [((ρ.now : Int), x)]⟩ from rfl)
  have HF := Lib.hid (And.intro hf.ilen hf.alen)
  clear h hf
  obtain ⟨now, is, at_, lm⟩ := ρ
  obtain ⟨k, ⟨sl, g⟩⟩ := x
  simp only at HP HRl HS HF hb
  generalize hn : lm.length = n at *
  go_enter Try.func32, Try.ntmps32
  have HP1 := Lib.hid ((HP.out.alloc (.cells #[.int .i64 k, .int .i64 sl, .int .i64 g] 31)).nilRow 88 4)
  have HR1 := Lib.hid (HRl.out.kn (kn_alloc w (.cells #[.int .i64 k, .int .i64 sl, .int .i64 g] 31)))
  clear HP HRl
  go_upto_region 1 with fail
  generalize w.alloc (.cells #[.int .i64 k, .int .i64 sl, .int .i64 g] 31) = w1 at *
  generalize w.heap.size = gx at *
  obtain ⟨c0, cl, fr, hbw⟩ := RObj.cells (HP1.out.blk 2 rfl) HF.out.1 HF.out.2
  have HA := Lib.hid (HP1.out.app (P := Try.prog) (m := lm) elt_W 58 0 rfl encW4 HR1.out encW1 (by unfold maxLen; omega) (by omega))
  rw [hn] at HA
  simp only [Nat.zero_add, List.nil_append, List.set_cons_zero] at HA
  clear HP1 HR1
  go_upto_region 2 with (at_builtin; refine wpList_appX 10 rfl rfl rfl rfl (v := .slice none 0 0) (s := .slice a n cap) rfl rfl HA.out ?_; rintro r w2 ⟨a1, c1, rfl, ho⟩; have HP2 := Lib.hid ho; clear ho)
  clear HA c0 cl fr hbw
  obtain ⟨c0, cl, fr, hbw⟩ := RObj.cells (HP2.out.blk 2 rfl) HF.out.1 HF.out.2
  obtain ⟨x0, x1, x2, _⟩ := cells3 (HP2.out.blk 1 rfl)
  have HP3 := Lib.hid ((HP2.out.alloc (.cells #[.int .i64 now, .int .i64 k, .int .i64 sl, .int .i64 g] 88)).kn (Kp.refl _ _).drew)
  have B3 := Lib.hid (show (w2.alloc (.cells #[.int .i64 now, .int .i64 k, .int .i64 sl, .int .i64 g] 88)).drew.heap[w2.heap.size]? = some (.cells #[.int .i64 now, .int .i64 k, .int .i64 sl, .int .i64 g] 88) from heap_alloc_same _ _)
  obtain ⟨y0, yl, _, _⟩ := RObj.cells (HP3.out.blk 3 rfl) HF.out.1 HF.out.2
  obtain ⟨y1, y2, y3, _⟩ := cells3 (HP3.out.blk 2 rfl)
  have HA := Lib.hid (HP3.out.app (P := Try.prog) (m := [((now : Int), (⟨k, ⟨sl, g⟩⟩ : Re))]) elt_W 58 1 rfl encW4 (rl_w B3.out (cap := 1)) encW1 (by unfold maxLen; simp; omega) (by simp; omega))
  simp only [List.length_singleton, List.set_cons_zero, List.set_cons_succ] at HA
  clear HP2 HP3 B3
  go_region_law ((refine step_appX (so := .tmp 12) (xo := .tmp 19) (t := 58) (v := .slice a1 n c1) (s := .slice (some ⟨w2.heap.size, 0, none⟩) 1 1) (by rfl) (by rfl) (by rfl) (by rfl) HA.out ?_); rintro r' w3 ⟨a2, c2, rfl, ho⟩; have HP4 := Lib.hid ho; obtain ⟨z0, zl, zf, zb⟩ := RObj.cells (ho.blk 3 rfl) HF.out.1 HF.out.2; clear ho)
  all_goals
    go_wp2_with fail
    go_ret
    refine ⟨rfl, ?_⟩
    rw [HS.out]
    refine Pw.ref (a := a2) (cap := c2) ?_
    have h1 := HP4.out.setC 3 rfl (j := 35) (.slice a2 (n + 1) c2)
    rw [rc_set_v HF.out.1 HF.out.2] at h1
    simp only [List.length_append, hn, List.length_singleton]
    have h2 := h1.drop
    have h3 := (Pw.drop (h2.perm (List.reverse_perm _).symm)).perm (List.Perm.swap _ _ _)
    have h4 := h3.drop
    rw [show (lm.flatMap encW ++ [((now : Int), (⟨k, ⟨sl, g⟩⟩ : Re))].flatMap encW) = (lm ++ [((now : Int), (⟨k, ⟨sl, g⟩⟩ : Re))]).flatMap encW by rw [List.flatMap_append]] at h4
    exact h4
end Go.Proofs.Ytghmgmchfcbodaa
