/- ArenaStale: its walk. -/
import Derived.Test.YthbiohfnnjbbgaaHandL
import Derived.Test.YthbiohfnnjbbgaaStaleLaw
import Derived.Test.YthbiohfnnjbbgaaTypesAr
import Derived.Test.YthbiohfnnjbbgaaStaleX
import Derived.Deep.CutBlock
namespace Go.Proofs.Ythbiohfnnjbbgaa
set_option linter.unusedVariables false
set_option linter.unusedSimpArgs false
open Go Go.RowKit

set_option maxRecDepth 100000 in
set_option maxHeartbeats 16000000 in
theorem stale_walk (slots : Int) (a : Option Addr) (cap : Nat) (l : List Op4) (w : World) (hl : l.length ≤ 1048576) (hr : Rd Op4.enc 5 w a l) :
    Calls Try.prog 4 #[.int .i64 slots, .slice a l.length cap] w fun e w' => e = .returned (.bool true) ∧ KN w w' := by
  by_cases hb : slots < 1 ∨ 65536 < slots
  · have hbad := Lib.hid (new_bad_S slots hb w)
    have hb1 : slots < 1 ∨ (¬ slots < 1 ∧ 65536 < slots) := by omega
    clear hb hr
    rcases hb1 with h1 | ⟨h1, h2⟩
    all_goals
      go_enter Try.func4, Try.ntmps4
      go_wp2_with fail
      refine hbad.out.mono ?_
      rintro e w1 ⟨rfl, rfl⟩
      go_wp2_with fail
      refine (begun_true _).mono ?_
      rintro e w2 ⟨rfl, hk⟩
      have HK := Lib.hid hk
      clear hk
      go_wp2_with fail
      go_ret
      exact ⟨rfl, HK.out⟩
  · obtain ⟨n, rfl, hn1, hn2⟩ : ∃ n : Nat, slots = n ∧ 1 ≤ n ∧ n ≤ 65536 := ⟨slots.toNat, by omega, by omega, by omega⟩
    have HR := Lib.hid hr
    clear hb hr
    go_enter Try.func4, Try.ntmps4
    go_wp2_with fail
    refine (new_S n hn1 hn2 _).mono ?_
    rintro e w1 ⟨t, rfl, hp1⟩
    have HO := Lib.hid ((One.nil w).add hp1)
    clear hp1
    go_wp2_with fail
    refine (begun_true _).mono ?_
    rintro e w2 ⟨rfl, hk⟩
    have HO2 := Lib.hid (show One w w2 [RH none 0 [], RH none 0 [], RS none 0 [], ArS t (List.replicate n zS) 0] from (((HO.out.kn hk).nilRow 9 1).nilRow 30 2).nilRow 30 2)
    clear HO hk
    go_wp2_with fail
    go_loopw [7, 8, 9, 47] (fun v7 v8 v9 i wr => ∃ (k : Nat) (L : List (Slot ByteArray)) (hs : List (Int × Int)) (ts : List ByteArray) (gs : List (Int × Int)) (a7 : Option Addr) (c7 : Nat) (a8 : Option Addr) (c8 : Nat) (a9 : Option Addr) (c9 : Nat),
      k ≤ l.length ∧ i = .int .i64 k ∧ v7 = .slice a7 gs.length c7 ∧ v8 = .slice a8 hs.length c8 ∧ v9 = .slice a9 ts.length c9 ∧ Hid (Sta n k L hs ts gs) ∧ Hid (One w wr [RH a7 c7 gs, RH a8 c8 hs, RS a9 c9 ts, ArS t L 0])) (fun _ _ _ i _ => l.length - (intOf i).toNat)
    case atStart => exact ⟨0, _, [], [], [], none, 0, none, 0, none, 0, Nat.zero_le _, rfl, rfl, rfl, rfl, Lib.hid (sta_new n), HO2⟩
    case round =>
      clear HO2
      obtain ⟨k, L, hs, ts, gs, a7, c7, a8, c8, a9, c9, hk, rfl, rfl, rfl, rfl, HS, HO⟩ := hrel
      by_cases hlt : k < l.length
      · obtain ⟨o, hx⟩ : ∃ o, l[k]? = some o := ⟨_, List.getElem?_eq_getElem hlt⟩
        obtain ⟨b, off, rfl, hb, h0, h1, h2, h3, h4⟩ := rd_op4 (HR.out.kn HO.out.old) hx
        clear hx
        obtain ⟨d, us, tx, ⟨os, og⟩⟩ := o
        simp only at h0 h1 h2 h3 h4
        go_upto_region 13 with fail
        have HO1 := Lib.hid (HO.out.alloc (.cells #[.int .i64 d, .int .i64 us, .string tx, .int .i64 os, .int .i64 og] 42))
        clear HO h0 h1 h2 h3 h4
        generalize hgenW : wr.alloc _ = W at *
        clear hgenW
        generalize wr.heap.size = gop at *
        by_cases hz : hs.length = 0
        · have hz0 : ¬ (0 : Int) < (hs.length : Int) := by omega
          clear hz
          by_cases hd0 : d = 0
          · subst hd0
            have hcx := cells5x (HO1.out.blk 0 rfl).1
            obtain ⟨c0, c1, c2, c3, c4⟩ := hcx
            cases hf : freeOf L with
            | nil =>
              have HF := Lib.hid hf
              have hfull := sta_full HS.out hf
              have hfe : ((hs.length : Int) != (n : Int)) = false := by simp; omega
              clear hf hfull
              go_wp2_with fail
              refine (HO1.out.rd 4 rfl (fun F h => put_full_S h HF.out tx)).mono ?_
              rintro e w5 ⟨rfl, hk5⟩
              have HO5 := Lib.hid ((HO1.out.kn hk5).kn (kn_alloc w5 (.cells #[.int .i64 0, .int .i64 0] 30))).drop
              clear hk5 HO1 c0 c1 c2 c3 c4
              go_wp2_with fail
              go_roundw
              case rel => exact ⟨k + 1, L, hs, ts, gs, a7, c7, a8, c8, a9, c9, by omega, by go_num, by go_num, by go_num, by go_num, Lib.hid (sta_mono HS.out (by omega)), HO5⟩
              case measure => simp [intOf]; omega
            | cons a fr =>
              obtain ⟨i, s, rfl, hs', hgen, hgv⟩ := sta_next HS.out hf
              have HS2 := Lib.hid (sta_put HS.out hf hs' hgv tx)
              have HF := Lib.hid (And.intro hf hs')
              have HTL := Lib.hid HS.out.tl
              have hsl : hs.length ≤ 65536 ∧ ts.length ≤ 65536 := by have := HS.out.cnt; have := HS.out.tl; omega
              clear hf hs' hgv
              go_wp2_with fail
              refine (HO1.out.lift 4 rfl (fun F h => put_ok_S h HF.out.1 HF.out.2 (by omega) (by rw [HS.out.len]; omega) tx)).mono ?_
              rintro e w5 ⟨rfl, ho⟩
              have HO5 := Lib.hid (ho.alloc (.cells #[.int .i64 i, .int .i64 (s.gen + 1)] 30))
              clear ho HO1 c0 c1 c2 c3 c4
              go_upto_region 18 with fail
              generalize hgen6 : w5.alloc _ = w6 at *
              clear hgen6
              generalize w5.heap.size = gh at *
              have HOc := Lib.hid (show One w w6 [Blk gh (.cells #[.int .i64 i, .int .i64 (s.gen + 1)] 30), Blk gop (.cells #[.int .i64 0, .int .i64 us, .string tx, .int .i64 os, .int .i64 og] 42), RH a7 c7 gs, RH a8 c8 hs, RS a9 c9 ts, ArS t (L.set i ⟨tx, s.gen + 1, true⟩) 0] from HO5.out)
              clear HO5
              obtain ⟨x0, x1, _, _⟩ := cells2 (HOc.out.blk 0 rfl).1
              obtain ⟨_, _, x2, _, _⟩ := cells5x (HOc.out.blk 1 rfl).1
              have u0 := cellU x0
              have u1 := cellU x1
              have u2 := cellU x2
              have HL1 := Lib.hid (HOc.out.low 3 rfl)
              have HL2 := Lib.hid (HOc.out.low 4 rfl)
              have GH : Hid (∀ (Wc : World) (g : Nat) (X : Asr), One w Wc [Blk gh (.cells #[.int .i64 i, .int .i64 (s.gen + 1)] 30), Blk gop (.cells #[.int .i64 0, .int .i64 us, .string tx, .int .i64 os, .int .i64 og] 42), RH a7 c7 gs, RH a8 c8 hs, X, ArS t (L.set i ⟨tx, s.gen + 1, true⟩) 0] → Wc.heap[g]? = some (.cells #[.int .i64 i, .int .i64 (s.gen + 1)] 30 (0, 0)) → ∃ r w', (Builtin.append_ #[28, 28] 28 #[.slice a8 hs.length c8, .slice (some ⟨g, 0, none⟩) 1 1]).run Try.prog Wc = .ok r w' ∧ ∃ a1 cap, r = .slice a1 (hs.length + 1) cap ∧
                  One w w' [Blk gh (.cells #[.int .i64 i, .int .i64 (s.gen + 1)] 30), Blk gop (.cells #[.int .i64 0, .int .i64 us, .string tx, .int .i64 os, .int .i64 og] 42), RH a7 c7 gs, RowA 30 2 (.slice a1 (hs.length + 1) cap) (hs.length + 1) ((hs ++ [((i : Int), s.gen + 1)]).flatMap encHn), X, ArS t (L.set i ⟨tx, s.gen + 1, true⟩) 0] ∧ ∀ b o, w6.heap.size ≤ b → Wc.heap[b]? = some o → w'.heap[b]? = some o) := Lib.hid (fun Wc g X h hb =>
                h.grow (m := [((i : Int), s.gen + 1)]) elt_Hn 28 3 rfl encHn2 (rl_hn hb (cap := 1)) hn_one (by simp only [List.length_singleton]; omega) (by decide) HL1.out)
              have GS : Hid (∀ (Wc : World) (g : Nat) (X : Asr), One w Wc [Blk gh (.cells #[.int .i64 i, .int .i64 (s.gen + 1)] 30), Blk gop (.cells #[.int .i64 0, .int .i64 us, .string tx, .int .i64 os, .int .i64 og] 42), RH a7 c7 gs, X, RS a9 c9 ts, ArS t (L.set i ⟨tx, s.gen + 1, true⟩) 0] → Wc.heap[g]? = some (.cells #[.string tx] 9 (0, 0)) → ∃ r w', (Builtin.append_ #[40, 40] 40 #[.slice a9 ts.length c9, .slice (some ⟨g, 0, none⟩) 1 1]).run Try.prog Wc = .ok r w' ∧ ∃ a1 cap, r = .slice a1 (ts.length + 1) cap ∧
                  One w w' [Blk gh (.cells #[.int .i64 i, .int .i64 (s.gen + 1)] 30), Blk gop (.cells #[.int .i64 0, .int .i64 us, .string tx, .int .i64 os, .int .i64 og] 42), RH a7 c7 gs, X, RowA 9 1 (.slice a1 (ts.length + 1) cap) (ts.length + 1) ((ts ++ [tx]).flatMap encTx), ArS t (L.set i ⟨tx, s.gen + 1, true⟩) 0] ∧ ∀ b o, w6.heap.size ≤ b → Wc.heap[b]? = some o → w'.heap[b]? = some o) := Lib.hid (fun Wc g X h hb =>
                h.grow (m := [tx]) elt_Tx 40 4 rfl encTx1 (rl_tx hb (cap := 1)) tx_one (by simp only [List.length_singleton]; omega) (by decide) HL2.out)
              go_region_law (first
                | (refine step_appX (so := .tmp 78) (xo := .tmp 80) (t := 28) (v := .slice a8 hs.length c8) (s := .slice (some ⟨_, 0, none⟩) 1 1) (by rfl) (by rfl) (by rfl) (by rfl) (GH.out _ _ _ (HOc.out.kn (by repeat (first | exact Kp.refl _ _ | apply Kp.drew | apply Kp.alloc))) (by first | exact heap_at (by first | rfl | exact (Go.Deep.nblk_alloc _ _).symm) | exact blk_alloc _ (heap_at (by first | rfl | exact (Go.Deep.nblk_alloc _ _).symm)) | exact HPer.out _ _ (by first | exact Nat.le_refl _ | exact Nat.le_succ _ | (simp only [Go.Deep.nblk_alloc]; omega) | omega) (blk_alloc _ (heap_at (by first | rfl | exact (Go.Deep.nblk_alloc _ _).symm))) | exact HPer.out _ _ (by first | exact Nat.le_refl _ | exact Nat.le_succ _ | (simp only [Go.Deep.nblk_alloc]; omega) | omega) (heap_at (by first | rfl | exact (Go.Deep.nblk_alloc _ _).symm)))) ?_; rintro r' w7 ⟨a8', c8', rfl, ho, hper⟩; have HOc := Lib.hid ho; have HPer := Lib.hid hper; clear ho hper; obtain ⟨y0, y1, _, _⟩ := cells2 (HOc.out.blk 0 rfl).1; obtain ⟨_, _, y2, _, _⟩ := cells5x (HOc.out.blk 1 rfl).1; have z0 := cellU y0; have z1 := cellU y1; have z2 := cellU y2)
                | (refine step_appX (so := .tmp 82) (xo := .tmp 85) (t := 40) (v := .slice a9 ts.length c9) (s := .slice (some ⟨_, 0, none⟩) 1 1) (by rfl) (by rfl) (by rfl) (by rfl) (GS.out _ _ _ (HOc.out.kn (by repeat (first | exact Kp.refl _ _ | apply Kp.drew | apply Kp.alloc))) (by first | exact heap_at (by first | rfl | exact (Go.Deep.nblk_alloc _ _).symm) | exact blk_alloc _ (heap_at (by first | rfl | exact (Go.Deep.nblk_alloc _ _).symm)) | exact HPer.out _ _ (by first | exact Nat.le_refl _ | exact Nat.le_succ _ | (simp only [Go.Deep.nblk_alloc]; omega) | omega) (blk_alloc _ (heap_at (by first | rfl | exact (Go.Deep.nblk_alloc _ _).symm))) | exact HPer.out _ _ (by first | exact Nat.le_refl _ | exact Nat.le_succ _ | (simp only [Go.Deep.nblk_alloc]; omega) | omega) (heap_at (by first | rfl | exact (Go.Deep.nblk_alloc _ _).symm)))) ?_; rintro r' w7 ⟨a9', c9', rfl, ho, hper⟩; have HOc := Lib.hid ho; have HPer := Lib.hid hper; clear ho hper; obtain ⟨y0, y1, _, _⟩ := cells2 (HOc.out.blk 0 rfl).1; obtain ⟨_, _, y2, _, _⟩ := cells5x (HOc.out.blk 1 rfl).1; have z0 := cellU y0; have z1 := cellU y1; have z2 := cellU y2))
              all_goals
                have HO9 := Lib.hid (rows_up (HOc.out.kn (by repeat (first | exact Kp.refl _ _ | apply Kp.drew | apply Kp.alloc))).drop.drop HTL.out)
                go_wp2_with fail
                go_roundw
                case rel => exact ⟨k + 1, L.set i ⟨tx, s.gen + 1, true⟩, hs ++ [((i : Int), s.gen + 1)], ts ++ [tx], gs, a7, c7, a8', c8', a9', c9', by omega, by go_num, by go_num, by simp, by simp, HS2, HO9⟩
                case measure => simp [intOf]; omega
          · obtain ⟨c0, c1, c2, c3, c4⟩ := cells5x (HO1.out.blk 0 rfl).1
            go_wp2_with fail
            go_roundw
            case rel => exact ⟨k + 1, L, hs, ts, gs, a7, c7, a8, c8, a9, c9, by omega, by go_num, by go_num, by go_num, by go_num, Lib.hid (sta_mono HS.out (by omega)), Lib.hid HO1.out.drop⟩
            case measure => simp [intOf]; omega
        · have hz0 : (0 : Int) < (hs.length : Int) := by omega
          by_cases hd0 : d = 0
          · subst hd0
            have hcx := cells5x (HO1.out.blk 0 rfl).1
            obtain ⟨c0, c1, c2, c3, c4⟩ := hcx
            cases hf : freeOf L with
            | nil =>
              have HF := Lib.hid hf
              have hfull := sta_full HS.out hf
              have hfe : ((hs.length : Int) != (n : Int)) = false := by simp; omega
              clear hf hfull
              go_wp2_with fail
              refine (HO1.out.rd 4 rfl (fun F h => put_full_S h HF.out tx)).mono ?_
              rintro e w5 ⟨rfl, hk5⟩
              have HO5 := Lib.hid ((HO1.out.kn hk5).kn (kn_alloc w5 (.cells #[.int .i64 0, .int .i64 0] 30))).drop
              clear hk5 HO1 c0 c1 c2 c3 c4
              go_wp2_with fail
              go_roundw
              case rel => exact ⟨k + 1, L, hs, ts, gs, a7, c7, a8, c8, a9, c9, by omega, by go_num, by go_num, by go_num, by go_num, Lib.hid (sta_mono HS.out (by omega)), HO5⟩
              case measure => simp [intOf]; omega
            | cons a fr =>
              obtain ⟨i, s, rfl, hs', hgen, hgv⟩ := sta_next HS.out hf
              have HS2 := Lib.hid (sta_put HS.out hf hs' hgv tx)
              have HF := Lib.hid (And.intro hf hs')
              have HTL := Lib.hid HS.out.tl
              have hsl : hs.length ≤ 65536 ∧ ts.length ≤ 65536 := by have := HS.out.cnt; have := HS.out.tl; omega
              clear hf hs' hgv
              go_wp2_with fail
              refine (HO1.out.lift 4 rfl (fun F h => put_ok_S h HF.out.1 HF.out.2 (by omega) (by rw [HS.out.len]; omega) tx)).mono ?_
              rintro e w5 ⟨rfl, ho⟩
              have HO5 := Lib.hid (ho.alloc (.cells #[.int .i64 i, .int .i64 (s.gen + 1)] 30))
              clear ho HO1 c0 c1 c2 c3 c4
              go_upto_region 18 with fail
              generalize hgen6 : w5.alloc _ = w6 at *
              clear hgen6
              generalize w5.heap.size = gh at *
              have HOc := Lib.hid (show One w w6 [Blk gh (.cells #[.int .i64 i, .int .i64 (s.gen + 1)] 30), Blk gop (.cells #[.int .i64 0, .int .i64 us, .string tx, .int .i64 os, .int .i64 og] 42), RH a7 c7 gs, RH a8 c8 hs, RS a9 c9 ts, ArS t (L.set i ⟨tx, s.gen + 1, true⟩) 0] from HO5.out)
              clear HO5
              obtain ⟨x0, x1, _, _⟩ := cells2 (HOc.out.blk 0 rfl).1
              obtain ⟨_, _, x2, _, _⟩ := cells5x (HOc.out.blk 1 rfl).1
              have u0 := cellU x0
              have u1 := cellU x1
              have u2 := cellU x2
              have HL1 := Lib.hid (HOc.out.low 3 rfl)
              have HL2 := Lib.hid (HOc.out.low 4 rfl)
              have GH : Hid (∀ (Wc : World) (g : Nat) (X : Asr), One w Wc [Blk gh (.cells #[.int .i64 i, .int .i64 (s.gen + 1)] 30), Blk gop (.cells #[.int .i64 0, .int .i64 us, .string tx, .int .i64 os, .int .i64 og] 42), RH a7 c7 gs, RH a8 c8 hs, X, ArS t (L.set i ⟨tx, s.gen + 1, true⟩) 0] → Wc.heap[g]? = some (.cells #[.int .i64 i, .int .i64 (s.gen + 1)] 30 (0, 0)) → ∃ r w', (Builtin.append_ #[28, 28] 28 #[.slice a8 hs.length c8, .slice (some ⟨g, 0, none⟩) 1 1]).run Try.prog Wc = .ok r w' ∧ ∃ a1 cap, r = .slice a1 (hs.length + 1) cap ∧
                  One w w' [Blk gh (.cells #[.int .i64 i, .int .i64 (s.gen + 1)] 30), Blk gop (.cells #[.int .i64 0, .int .i64 us, .string tx, .int .i64 os, .int .i64 og] 42), RH a7 c7 gs, RowA 30 2 (.slice a1 (hs.length + 1) cap) (hs.length + 1) ((hs ++ [((i : Int), s.gen + 1)]).flatMap encHn), X, ArS t (L.set i ⟨tx, s.gen + 1, true⟩) 0] ∧ ∀ b o, w6.heap.size ≤ b → Wc.heap[b]? = some o → w'.heap[b]? = some o) := Lib.hid (fun Wc g X h hb =>
                h.grow (m := [((i : Int), s.gen + 1)]) elt_Hn 28 3 rfl encHn2 (rl_hn hb (cap := 1)) hn_one (by simp only [List.length_singleton]; omega) (by decide) HL1.out)
              have GS : Hid (∀ (Wc : World) (g : Nat) (X : Asr), One w Wc [Blk gh (.cells #[.int .i64 i, .int .i64 (s.gen + 1)] 30), Blk gop (.cells #[.int .i64 0, .int .i64 us, .string tx, .int .i64 os, .int .i64 og] 42), RH a7 c7 gs, X, RS a9 c9 ts, ArS t (L.set i ⟨tx, s.gen + 1, true⟩) 0] → Wc.heap[g]? = some (.cells #[.string tx] 9 (0, 0)) → ∃ r w', (Builtin.append_ #[40, 40] 40 #[.slice a9 ts.length c9, .slice (some ⟨g, 0, none⟩) 1 1]).run Try.prog Wc = .ok r w' ∧ ∃ a1 cap, r = .slice a1 (ts.length + 1) cap ∧
                  One w w' [Blk gh (.cells #[.int .i64 i, .int .i64 (s.gen + 1)] 30), Blk gop (.cells #[.int .i64 0, .int .i64 us, .string tx, .int .i64 os, .int .i64 og] 42), RH a7 c7 gs, X, RowA 9 1 (.slice a1 (ts.length + 1) cap) (ts.length + 1) ((ts ++ [tx]).flatMap encTx), ArS t (L.set i ⟨tx, s.gen + 1, true⟩) 0] ∧ ∀ b o, w6.heap.size ≤ b → Wc.heap[b]? = some o → w'.heap[b]? = some o) := Lib.hid (fun Wc g X h hb =>
                h.grow (m := [tx]) elt_Tx 40 4 rfl encTx1 (rl_tx hb (cap := 1)) tx_one (by simp only [List.length_singleton]; omega) (by decide) HL2.out)
              go_region_law (first
                | (refine step_appX (so := .tmp 78) (xo := .tmp 80) (t := 28) (v := .slice a8 hs.length c8) (s := .slice (some ⟨_, 0, none⟩) 1 1) (by rfl) (by rfl) (by rfl) (by rfl) (GH.out _ _ _ (HOc.out.kn (by repeat (first | exact Kp.refl _ _ | apply Kp.drew | apply Kp.alloc))) (by first | exact heap_at (by first | rfl | exact (Go.Deep.nblk_alloc _ _).symm) | exact blk_alloc _ (heap_at (by first | rfl | exact (Go.Deep.nblk_alloc _ _).symm)) | exact HPer.out _ _ (by first | exact Nat.le_refl _ | exact Nat.le_succ _ | (simp only [Go.Deep.nblk_alloc]; omega) | omega) (blk_alloc _ (heap_at (by first | rfl | exact (Go.Deep.nblk_alloc _ _).symm))) | exact HPer.out _ _ (by first | exact Nat.le_refl _ | exact Nat.le_succ _ | (simp only [Go.Deep.nblk_alloc]; omega) | omega) (heap_at (by first | rfl | exact (Go.Deep.nblk_alloc _ _).symm)))) ?_; rintro r' w7 ⟨a8', c8', rfl, ho, hper⟩; have HOc := Lib.hid ho; have HPer := Lib.hid hper; clear ho hper; obtain ⟨y0, y1, _, _⟩ := cells2 (HOc.out.blk 0 rfl).1; obtain ⟨_, _, y2, _, _⟩ := cells5x (HOc.out.blk 1 rfl).1; have z0 := cellU y0; have z1 := cellU y1; have z2 := cellU y2)
                | (refine step_appX (so := .tmp 82) (xo := .tmp 85) (t := 40) (v := .slice a9 ts.length c9) (s := .slice (some ⟨_, 0, none⟩) 1 1) (by rfl) (by rfl) (by rfl) (by rfl) (GS.out _ _ _ (HOc.out.kn (by repeat (first | exact Kp.refl _ _ | apply Kp.drew | apply Kp.alloc))) (by first | exact heap_at (by first | rfl | exact (Go.Deep.nblk_alloc _ _).symm) | exact blk_alloc _ (heap_at (by first | rfl | exact (Go.Deep.nblk_alloc _ _).symm)) | exact HPer.out _ _ (by first | exact Nat.le_refl _ | exact Nat.le_succ _ | (simp only [Go.Deep.nblk_alloc]; omega) | omega) (blk_alloc _ (heap_at (by first | rfl | exact (Go.Deep.nblk_alloc _ _).symm))) | exact HPer.out _ _ (by first | exact Nat.le_refl _ | exact Nat.le_succ _ | (simp only [Go.Deep.nblk_alloc]; omega) | omega) (heap_at (by first | rfl | exact (Go.Deep.nblk_alloc _ _).symm)))) ?_; rintro r' w7 ⟨a9', c9', rfl, ho, hper⟩; have HOc := Lib.hid ho; have HPer := Lib.hid hper; clear ho hper; obtain ⟨y0, y1, _, _⟩ := cells2 (HOc.out.blk 0 rfl).1; obtain ⟨_, _, y2, _, _⟩ := cells5x (HOc.out.blk 1 rfl).1; have z0 := cellU y0; have z1 := cellU y1; have z2 := cellU y2))
              all_goals
                have HO9 := Lib.hid (rows_up (HOc.out.kn (by repeat (first | exact Kp.refl _ _ | apply Kp.drew | apply Kp.alloc))).drop.drop HTL.out)
                go_wp2_with fail
                go_roundw
                case rel => exact ⟨k + 1, L.set i ⟨tx, s.gen + 1, true⟩, hs ++ [((i : Int), s.gen + 1)], ts ++ [tx], gs, a7, c7, a8', c8', a9', c9', by omega, by go_num, by go_num, by simp, by simp, HS2, HO9⟩
                case measure => simp [intOf]; omega
          · obtain ⟨q, hq, hql⟩ := q_of us (by omega : 0 < hs.length) (by have := HS.out.cnt; omega)
            obtain ⟨c0, c1, c2, c3, c4⟩ := cells5x (HO1.out.blk 0 rfl).1
            go_upto_region 15 with fail
            clear hq
            by_cases hd3 : d = 3
            · subst hd3
              obtain ⟨⟨x1, xg⟩, hx⟩ : ∃ x, hs[q]? = some x := ⟨_, List.getElem?_eq_getElem hql⟩
              obtain ⟨i, tt, e1, e2, e3⟩ := HS.out.good q _ hx
              simp only at e1 e3
              subst e1
              have HS2 := Lib.hid (sta_free HS.out hx rfl e3)
              have HF := Lib.hid e3
              have HTL := Lib.hid HS.out.tl
              have hsl : hs.length ≤ 65536 ∧ ts.length ≤ 65536 := by have := HS.out.cnt; have := HS.out.tl; omega
              have HX := Lib.hid hx
              obtain ⟨gb, off, rfl, hb2, q0, q1⟩ := rd_hn (HO1.out.rl 2 rfl encHn2 rfl).1 hx
              clear hx e2 e3
              go_wp2_with fail
              refine (HO1.out.lift 4 rfl (fun F h => free_good_S h HF.out rfl (by rw [HS.out.len]; omega))).mono ?_
              rintro e w5 ⟨rfl, ho⟩
              have HO5 := Lib.hid (show One w w5 [Blk gop (.cells #[.int .i64 3, .int .i64 us, .string tx, .int .i64 os, .int .i64 og] 42), RH a7 c7 gs, RH (some ⟨gb, off, none⟩) c8 hs, RS a9 c9 ts, ArS t (L.set i ⟨⟨#[]⟩, xg, false⟩) 0] from ho)
              clear ho HO1 q0 q1
              have HA := Lib.hid ((HO5.out.alloc (.cells #[.int .i64 i, .int .i64 xg] 30)).appP (P := Try.prog) (m := [((i : Int), xg)]) elt_Hn 28 2 rfl encHn2 (rl_hn (heap_alloc_same _ _) (cap := 1)) hn_one (by unfold maxLen; have := HS.out.glen; simp only [List.length_singleton]; omega) (by have := HS.out.glen; simp only [List.length_singleton]; omega))
              simp only [List.length_singleton, List.set_cons_zero, List.set_cons_succ] at HA
              obtain ⟨gb', off', e, hb3, q0, q1⟩ := rd_hn (HO5.out.rl 2 rfl encHn2 rfl).1 HX.out
              cases e
              go_upto_region 26 with (at_builtin; refine wpList_appX 115 rfl rfl rfl rfl (v := .slice a7 gs.length c7) (s := .slice (some ⟨w5.heap.size, 0, none⟩) 1 1) rfl rfl HA.out ?_; rintro r w6 ⟨a7', c7', rfl, ho⟩; have HO6 := Lib.hid (row_gs (One.drop (One.drop ho))); clear ho)
              clear HA q0 q1
              obtain ⟨gs2, hg2⟩ : ∃ gs2, gs2 = gs ++ [((i : Int), xg)] := ⟨_, rfl⟩
              have hgs2 : Hid (Value.slice a7' (gs.length + 1) c7' = Value.slice a7' gs2.length c7') := Lib.hid (by rw [hg2]; simp)
              rw [← hg2] at HO6 HS2
              clear hg2
              obtain ⟨hs2, hh2⟩ : ∃ hs2, hs2 = hs.take q ++ hs.drop (q + 1) := ⟨_, rfl⟩
              obtain ⟨ts2, ht2⟩ : ∃ ts2, ts2 = ts.take q ++ ts.drop (q + 1) := ⟨_, rfl⟩
              rw [← hh2, ← ht2] at HS2
              have HE := Lib.hid (And.intro hh2 ht2)
              have hql2 : q < ts.length := by rw [HTL.out]; exact hql
              obtain ⟨hr1, hc1⟩ := HO6.out.rl 1 rfl encHn2 rfl
              obtain ⟨hr2, hc2⟩ := HO6.out.rl 2 rfl encTx1 rfl
              obtain ⟨b1, s1, f1⟩ := cutH_pre (a := some ⟨gb, off, none⟩) hc1 (by omega : q ≤ hs.length)
              obtain ⟨b2, s2, f2⟩ := cutH_post (a := some ⟨gb, off, none⟩) hc1 (by omega : q + 1 ≤ hs.length)
              obtain ⟨b3, s3, f3⟩ := cutS_pre (a := a9) hc2 (by omega : q ≤ ts.length)
              obtain ⟨b4, s4, f4⟩ := cutS_post (a := a9) hc2 (by omega : q + 1 ≤ ts.length)
              rw [show (((q + 1 : Nat)) : Int) = (q : Int) + 1 by omega] at s2 s4
              have HOn := Lib.hid ((HO6.out.nilRow 9 1).nilRow 30 2)
              clear hh2 ht2 hr1 hr2 HO6
              generalize hB : [RH a7' c7' gs2, RH (some ⟨gb, off, none⟩) c8 hs, RS a9 c9 ts, ArS t (L.set i ⟨⟨#[]⟩, xg, false⟩) 0] = B at HOn
              have HB := Lib.hid hB
              obtain ⟨v0, hv0⟩ : ∃ v0, v0 = Value.slice none 0 0 := ⟨_, rfl⟩
              have HV := Lib.hid hv0
              have GH1 : Hid (∀ (Wc : World) (X : Asr), One w Wc (RowA 30 2 (.slice none 0 0) 0 [] :: X :: B) → ∃ r w', (Builtin.append_ #[28, 28] 28 #[v0, .slice b1 q c8]).run Try.prog Wc = .ok r w' ∧ ∃ a1 cap, r = .slice a1 q cap ∧ One w w' (RowA 30 2 (.slice a1 q cap) q ((hs.take q).flatMap encHn) :: X :: B)) :=
                Lib.hid (fun Wc X h => by rw [hv0]; exact h.cut1 elt_Hn 28 0 rfl (by omega) hsl.1 encHn2 hn_one (by decide) (f1 Wc (by subst hB; exact (h.rl 3 rfl encHn2 rfl).1)))
              have GH2 : Hid (∀ (Wc : World) (X : Asr) (a : Option Addr) (c : Nat), One w Wc (RowA 30 2 (.slice a q c) q ((hs.take q).flatMap encHn) :: X :: B) → ∃ r w', (Builtin.append_ #[28, 28] 28 #[.slice a q c, .slice b2 (hs.length - (q + 1)) (c8 - (q + 1))]).run Try.prog Wc = .ok r w' ∧ ∃ a1 cap, r = .slice a1 hs2.length cap ∧ One w w' (RH a1 cap hs2 :: X :: B)) :=
                Lib.hid (fun Wc X a c h => h.cut2 elt_Hn 28 0 rfl (by omega) hsl.1 encHn2 hn_one (by decide) (f2 Wc (by subst hB; exact (h.rl 3 rfl encHn2 rfl).1)) HE.out.1)
              have GS1 : Hid (∀ (Wc : World) (X : Asr), One w Wc (X :: RowA 9 1 (.slice none 0 0) 0 [] :: B) → ∃ r w', (Builtin.append_ #[40, 40] 40 #[v0, .slice b3 q c9]).run Try.prog Wc = .ok r w' ∧ ∃ a1 cap, r = .slice a1 q cap ∧ One w w' (X :: RowA 9 1 (.slice a1 q cap) q ((ts.take q).flatMap encTx) :: B)) :=
                Lib.hid (fun Wc X h => by rw [hv0]; exact h.cut1 elt_Tx 40 1 rfl (by omega) hsl.2 encTx1 tx_one (by decide) (f3 Wc (by subst hB; exact (h.rl 4 rfl encTx1 rfl).1)))
              have GS2 : Hid (∀ (Wc : World) (X : Asr) (a : Option Addr) (c : Nat), One w Wc (X :: RowA 9 1 (.slice a q c) q ((ts.take q).flatMap encTx) :: B) → ∃ r w', (Builtin.append_ #[40, 40] 40 #[.slice a q c, .slice b4 (ts.length - (q + 1)) (c9 - (q + 1))]).run Try.prog Wc = .ok r w' ∧ ∃ a1 cap, r = .slice a1 ts2.length cap ∧ One w w' (X :: RS a1 cap ts2 :: B)) :=
                Lib.hid (fun Wc X a c h => h.cut2 elt_Tx 40 1 rfl (by omega) hsl.2 encTx1 tx_one (by decide) (f4 Wc (by subst hB; exact (h.rl 4 rfl encTx1 rfl).1)) HE.out.2)
              clear f1 f2 f3 f4 hB hv0
              have hw1 : IntKind.i64.wrap ((q : Int) + 1) = (q : Int) + 1 := IntWalk.i64_in _ (by omega)
              have hw2 : wrap64 ((q : Int) + 1) = (q : Int) + 1 := by unfold wrap64; omega
              go_region_law (first
                | (refine step_appX (so := .const (.slice none 0 0)) (xo := .tmp 118) (t := 28) (v := v0) (s := .slice b1 q c8) (by rfl) (by rfl) (by rw [HV.out]; simp [Act.eval]) (by simp [Act.eval, Act.put]) (GH1.out _ _ (HOn.out.kn (by repeat (first | exact Kp.refl _ _ | apply Kp.drew | apply Kp.alloc)))) ?_; rintro r' w7 ⟨aH, cH, rfl, ho⟩; have HOn := Lib.hid ho; clear ho)
                | (refine step_appX (so := .tmp 119) (xo := .tmp 123) (t := 28) (v := .slice aH q cH) (s := .slice b2 (hs.length - (q + 1)) (c8 - (q + 1))) (by rfl) (by rfl) (by simp [Act.eval, Act.put]) (by simp [Act.eval, Act.put]) (GH2.out _ _ aH cH (HOn.out.kn (by repeat (first | exact Kp.refl _ _ | apply Kp.drew | apply Kp.alloc)))) ?_; rintro r' w7 ⟨aH, cH, rfl, ho⟩; have HOn := Lib.hid ho; clear ho)
                | (refine step_appX (so := .const (.slice none 0 0)) (xo := .tmp 127) (t := 40) (v := v0) (s := .slice b3 q c9) (by rfl) (by rfl) (by rw [HV.out]; simp [Act.eval]) (by simp [Act.eval, Act.put]) (GS1.out _ _ (HOn.out.kn (by repeat (first | exact Kp.refl _ _ | apply Kp.drew | apply Kp.alloc)))) ?_; rintro r' w7 ⟨aS, cS, rfl, ho⟩; have HOn := Lib.hid ho; clear ho)
                | (refine step_appX (so := .tmp 128) (xo := .tmp 132) (t := 40) (v := .slice aS q cS) (s := .slice b4 (ts.length - (q + 1)) (c9 - (q + 1))) (by rfl) (by rfl) (by simp [Act.eval, Act.put]) (by simp [Act.eval, Act.put]) (GS2.out _ _ aS cS (HOn.out.kn (by repeat (first | exact Kp.refl _ _ | apply Kp.drew | apply Kp.alloc)))) ?_; rintro r' w7 ⟨aS, cS, rfl, ho⟩; have HOn := Lib.hid ho; clear ho))
              all_goals
                have HO9 := Lib.hid (rows_free (by have := HOn.out.kn (by repeat (first | exact Kp.refl _ _ | apply Kp.drew | apply Kp.alloc)); rw [← HB.out] at this; exact this))
                go_wp2_with fail
                go_roundw
                case rel => exact ⟨k + 1, L.set i ⟨⟨#[]⟩, xg, false⟩, hs2, ts2, gs2, a7', c7', aH, cH, aS, cS, by omega, by go_num, hgs2.out, rfl, rfl, HS2, HO9⟩
                case measure => simp [intOf]; omega
            · by_cases hd2 : d = 2
              · subst hd2
                obtain ⟨⟨x1, xg⟩, hx⟩ : ∃ x, hs[q]? = some x := ⟨_, List.getElem?_eq_getElem hql⟩
                obtain ⟨i, tt, e1, e2, e3⟩ := HS.out.good q _ hx
                simp only at e1 e3
                subst e1
                have HS2 := Lib.hid (sta_mono (k' := k + 1) (sta_set HS.out hx rfl e3 tx) (by omega))
                have HF := Lib.hid e3
                have hql2 : q < ts.length := by rw [HS.out.tl]; exact hql
                obtain ⟨gb, off, rfl, hb2, q0, q1⟩ := rd_hn (HO1.out.rl 2 rfl encHn2 rfl).1 hx
                have HC := Lib.hid (fun W' (k : KN W W') => (HO1.out.kn k).lift 4 rfl (fun F h => set_good_S h HF.out rfl tx))
                have HX := Lib.hid hx
                clear hx e2 e3
                go_upto_region 28 with fail
                go_region_held3 (fun w' => w'.cell? ⟨gb, off + q * 2, none⟩ = some (.int .i64 (i : Int)) ∧ w'.cell? ⟨gb, off + q * 2 + 1, none⟩ = some (.int .i64 xg) ∧ w'.cell? ⟨gop, 2, none⟩ = some (.string tx)) (go_keep) ((go_at_call 16; refine (HC.out _ (by repeat (first | exact Kp.refl _ _ | apply Kp.drew | apply Kp.alloc))).mono ?_; rintro e w5 ⟨rfl, ho⟩; have HO5 := Lib.hid ho; clear ho; obtain ⟨_, _, z2, _, _⟩ := cells5x (HO5.out.blk 0 rfl).1; obtain ⟨_, _, e, _, z0, z1⟩ := rd_hn (HO5.out.rl 2 rfl encHn2 rfl).1 HX.out; cases e))
                clear HO1 HC c0 c1 c2 c3 c4 q0 q1 z0 z1 z2
                obtain ⟨_, _, y2, _, _⟩ := cells5x (HO5.out.blk 0 rfl).1
                obtain ⟨gt, rfl, hfz, ⟨u, hcu⟩, hst⟩ := HO5.out.tx 3 rfl hql2
                have HST := Lib.hid (hst tx).drop
                clear hst HO5
                go_wp2_with fail
                go_roundw
                case rel => exact ⟨k + 1, L.set i ⟨tx, xg, true⟩, hs, ts.set q tx, gs, a7, c7, some ⟨gb, off, none⟩, c8, some ⟨gt, 0, none⟩, c9, by omega, by go_num, by go_num, by go_num, by simp, HS2, HST⟩
                case measure => simp [intOf]; omega
              · 
                go_wp2_with fail
                go_roundw
                case rel => exact ⟨k + 1, L, hs, ts, gs, a7, c7, a8, c8, a9, c9, by omega, by go_num, by go_num, by go_num, by go_num, Lib.hid (sta_mono HS.out (by omega)), Lib.hid HO1.out.drop⟩
                case measure => simp [intOf]; omega
      · 
        obtain rfl : k = l.length := by omega
        clear hlt
        have hsl : hs.length ≤ 65536 ∧ ts.length ≤ 65536 := by have := HS.out.cnt; have := HS.out.tl; omega
        have hgl := HS.out.glen
        go_wp2_with fail
        go_loopw [155] (fun i wr => ∃ j : Nat, j ≤ hs.length ∧ i = .int .i64 j ∧ Hid (One w wr [RH a7 c7 gs, RH a8 c8 hs, RS a9 c9 ts, ArS t L 0])) (fun i _ => hs.length - (intOf i).toNat)
        case atStart => exact ⟨0, Nat.zero_le _, rfl, HO⟩
        case round =>
          clear HO
          obtain ⟨j, hj, rfl, HO⟩ := hrel
          by_cases hjl : j < hs.length
          · obtain ⟨⟨x1, xg⟩, hx⟩ : ∃ x, hs[j]? = some x := ⟨_, List.getElem?_eq_getElem hjl⟩
            obtain ⟨i, tt, e1, e2, e3⟩ := HS.out.good j _ hx
            simp only at e1 e3
            subst e1
            have HF := Lib.hid e3
            have hjl2 : j < ts.length := by rw [HS.out.tl]; exact hjl
            obtain ⟨gb, off, rfl, hb2, q0, q1⟩ := rd_hn (HO.out.rl 1 rfl encHn2 rfl).1 hx
            go_upto_region 35 with fail
            have HO1 := Lib.hid (HO.out.alloc (.cells #[.int .i64 i, .int .i64 xg] 30))
            clear HO q0 q1
            generalize hgenW : wr.alloc _ = W at *
            clear hgenW
            generalize wr.heap.size = gh at *
            obtain ⟨x0, x1, _, _⟩ := cells2 (HO1.out.blk 0 rfl).1
            have hrt := HO1.out.rl 3 rfl encTx1 rfl
            obtain ⟨tb, toff, rfl, hb3, q2⟩ := rd_tx hrt.1 e2
            clear hrt hx e2 e3
            go_wp2_with fail
            refine (HO1.out.rd 4 rfl (fun F h => get_good_S h HF.out rfl)).mono ?_
            rintro e w5 ⟨rfl, hk5⟩
            have HO5 := Lib.hid (HO1.out.kn hk5).drop
            have q3 := cell_kp hk5 id q2
            clear hk5 HO1 q2
            go_wp2_with fail
            go_roundw
            case rel => exact ⟨j + 1, by omega, by go_num, HO5⟩
            case measure => simp [intOf]; omega
          · obtain rfl : j = hs.length := by omega
            clear hjl
            go_wp2_with fail
            go_loopw [179] (fun i wr => ∃ j : Nat, j ≤ gs.length ∧ i = .int .i64 j ∧ Hid (One w wr [RH a7 c7 gs, RH a8 c8 hs, RS a9 c9 ts, ArS t L (3 * (j : Int))])) (fun i _ => gs.length - (intOf i).toNat)
            case atStart => exact ⟨0, Nat.zero_le _, rfl, HO⟩
            case round =>
              clear HO
              obtain ⟨j, hj, rfl, HO⟩ := hrel
              by_cases hjl : j < gs.length
              · obtain ⟨⟨xs, xg⟩, hx⟩ : ∃ x, gs[j]? = some x := ⟨_, List.getElem?_eq_getElem hjl⟩
                have HB := Lib.hid (sta_gone HS.out hx)
                obtain ⟨gb, off, rfl, hb2, q0, q1⟩ := rd_hn (HO.out.rl 0 rfl encHn2 rfl).1 hx
                clear hx
                go_upto_region 42 with fail
                have HO1 := Lib.hid (HO.out.alloc (.cells #[.int .i64 xs, .int .i64 xg] 30))
                clear HO q0 q1
                generalize hgenW : wr.alloc _ = W at *
                clear hgenW
                generalize wr.heap.size = gh at *
                obtain ⟨x0, x1, _, _⟩ := cells2 (HO1.out.blk 0 rfl).1
                go_wp2_with fail
                refine (HO1.out.lift 4 rfl (fun F h => get_bad_S h HB.out (by omega))).mono ?_
                rintro e w5 ⟨rfl, ho⟩
                have HO5 := Lib.hid ho
                clear ho HO1 x0 x1
                simp only [List.set_cons_succ, List.set_cons_zero] at HO5
                obtain ⟨x0, x1, _, _⟩ := cells2 (HO5.out.blk 0 rfl).1
                go_wp2_with fail
                refine (HO5.out.lift 4 rfl (fun F h => set_bad_S h HB.out (by omega) _)).mono ?_
                rintro e w6 ⟨rfl, ho⟩
                have HO6 := Lib.hid ho
                clear ho HO5 x0 x1
                simp only [List.set_cons_succ, List.set_cons_zero] at HO6
                obtain ⟨x0, x1, _, _⟩ := cells2 (HO6.out.blk 0 rfl).1
                go_wp2_with fail
                refine (HO6.out.lift 4 rfl (fun F h => free_bad_S h HB.out (by omega))).mono ?_
                rintro e w7 ⟨rfl, ho⟩
                have HO7 := Lib.hid ho.drop
                clear ho HO6 x0 x1
                simp only [List.set_cons_succ, List.set_cons_zero] at HO7
                rw [show 3 * (j : Int) + 1 + 1 + 1 = 3 * ((j + 1 : Nat) : Int) by omega] at HO7
                go_wp2_with fail
                go_roundw
                case rel => exact ⟨j + 1, by omega, by go_num, HO7⟩
                case measure => simp [intOf]; omega
              · obtain rfl : j = gs.length := by omega
                clear hjl
                have hcnt := HS.out.cnt
                have hlen := HS.out.len
                have hlv : ((L.length : Int) - ((freeOf L).length : Int)) = (hs.length : Int) := by omega
                go_wp2_with fail
                refine (HO.out.rd 3 rfl (fun F h => live_S h (by omega))).mono ?_
                rintro e w5 ⟨rfl, hk5⟩
                rw [hlv]
                have HO5 := Lib.hid (HO.out.kn hk5)
                clear hk5 HO
                go_wp2_with fail
                refine (HO5.out.rd 3 rfl (fun F h => stale_S h)).mono ?_
                rintro e w6 ⟨rfl, rfl⟩
                go_wp2_with fail
                go_ret
                exact ⟨rfl, HO5.out.old⟩
end Go.Proofs.Ythbiohfnnjbbgaa
