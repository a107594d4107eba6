/- CellsSwap: its walk. -/
import Derived.Test.YtohiookmpjeddaaBegun
import Derived.Test.YtohiookmpjeddaaTypes
import Derived.Deep.DeepCutAuto
import Derived.Deep.CutBlock
import Derived.Deep.RegionHeld3
import Derived.Deep.DrawnRows
namespace Go.Proofs.Ytohiookmpjeddaa
set_option linter.unusedVariables false
set_option linter.unusedSimpArgs false
open Go Go.RowKit

/-- The four cells of an operation that is read at place k. -/
theorem rd_op {w : World} {a : Option Addr} {l : List Op8} (h : Rd Op8.enc 4 w a l) {k : Nat} {o : Op8} (hx : l[k]? = some o) :
    ∃ b off, a = some ⟨b, off, none⟩ ∧ b < w.heap.size ∧ w.cell? ⟨b, off + k * 4, none⟩ = some (.int .i64 o.do_) ∧ w.cell? ⟨b, off + k * 4 + 1, none⟩ = some (.int .i64 o.was) ∧
      w.cell? ⟨b, off + k * 4 + 2, none⟩ = some (.int .i64 o.is_) ∧ w.cell? ⟨b, off + k * 4 + 3, none⟩ = some (.string o.x) := by
  rcases h with h0 | ⟨b, off, ha, hb, hc⟩
  · rw [h0] at hx; cases hx
  · refine ⟨b, off, ha, hb, ?_, ?_, ?_, ?_⟩
    · exact hc k o hx 0 (by omega)
    · exact hc k o hx 1 (by omega)
    · exact hc k o hx 2 (by omega)
    · exact hc k o hx 3 (by omega)

set_option maxRecDepth 100000 in
set_option maxHeartbeats 4000000 in
theorem swap_walk (first : Int) (a : Option Addr) (cap : Nat) (l : List Op8) (w : World) (hl : l.length ≤ maxLen) (hr : Rd Op8.enc 4 w a l) :
    Calls Try.prog 4 #[.int .i64 first, .slice a l.length cap] w fun e w' => e = .returned (.bool true) ∧ KN w w' := by
  unfold maxLen at hl
  have HR := Lib.hid hr
  clear hr
  go_enter Try.func4, Try.ntmps4
  go_wp2_with fail
  refine (newI first w).mono ?_
  rintro e w1 ⟨rfl, hw1⟩
  have HC1 := Lib.hid (show w1.heap[w.heap.size]? = some (cellI first 0) by rw [hw1]; exact heap_alloc_same _ _)
  have HK1 := Lib.hid (show KN w w1 by rw [hw1]; exact kn_alloc _ _)
  have hs1 : w.heap.size < w1.heap.size := lt_blk HC1.out
  clear hw1
  go_wp2_with fail
  have HR2 := Lib.hid (heap_alloc_same w1 (cellR first 0))
  have HC2 := Lib.hid (blk_alloc (cellR first 0) HC1.out)
  have HK2 := Lib.hid (HK1.out.alloc (cellR first 0))
  clear HC1 HK1
  refine (begun_true _).mono ?_
  rintro e w3 ⟨rfl, hk3⟩
  have HC3 := Lib.hid (hk3.blk HC2.out id)
  have HR3 := Lib.hid (hk3.blk HR2.out id)
  have HK3 := Lib.hid (HK2.out.then hk3 (fun _ h => h.elim))
  clear hk3 HC2 HK2 HR2
  go_wp2_with fail
  go_loopw [5, 27] (fun c i wr => ∃ (k b : Nat) (x n : Int), k ≤ l.length ∧ i = .int .i64 k ∧ c = .pointer (some ⟨b, 0, none⟩) ∧ w.heap.size ≤ b ∧ b ≠ w1.heap.size ∧
    Hid (wr.heap[b]? = some (cellI x n)) ∧ Hid (wr.heap[w1.heap.size]? = some (cellR x n)) ∧ Hid (KN w wr)) (fun _ i _ => l.length - (intOf i).toNat)
  case atStart => exact ⟨0, w.heap.size, first, 0, Nat.zero_le _, rfl, rfl, Nat.le_refl _, by omega, HC3, HR3, HK3⟩
  case round =>
    obtain ⟨k, c, x, n, hk, rfl, rfl, hcw, hcr, HC, HRr, HK⟩ := hrel
    clear HC3 HR3 HK3
    by_cases hlt : k < l.length
    · obtain ⟨b, off, ha, hb, h0, h1, h2, h3⟩ := rd_op HR.out (List.getElem?_eq_getElem hlt)
      generalize l[k] = o at h0 h1 h2 h3
      obtain ⟨d, was, is, s⟩ := o
      subst ha
      have hB := HK.out.below
      rw [← hB.cell hb] at h0 h1 h2 h3
      clear hB
      go_upto_block 2 with (fail)
      go_cut [5] (fun c' wc => ∃ (b' : Nat) (x' n' : Int), c' = .pointer (some ⟨b', 0, none⟩) ∧ w.heap.size ≤ b' ∧ b' ≠ w1.heap.size ∧
        Hid (wc.heap[b']? = some (cellI x' n')) ∧ Hid (wc.heap[w1.heap.size]? = some (cellR x' n')) ∧ Hid (KN w wc))
      case first =>
        have HG := Lib.hid (heap_alloc_same wr (.cells #[.int .i64 d, .int .i64 was, .int .i64 is, .string s] 37))
        have HC0 := Lib.hid (blk_alloc (.cells #[.int .i64 d, .int .i64 was, .int .i64 is, .string s] 37) HC.out)
        have HR0 := Lib.hid (blk_alloc (.cells #[.int .i64 d, .int .i64 was, .int .i64 is, .string s] 37) HRr.out)
        have HK0 := Lib.hid (HK.out.alloc (.cells #[.int .i64 d, .int .i64 was, .int .i64 is, .string s] 37))
        have hcg : c ≠ wr.heap.size := by have := lt_blk HC.out; omega
        have hrg : w1.heap.size ≠ wr.heap.size := by have := lt_blk HRr.out; omega
        have hww : w.heap.size < w1.heap.size := hs1
        generalize wr.alloc (.cells #[.int .i64 d, .int .i64 was, .int .i64 is, .string s] 37) = W0 at *
        generalize wr.heap.size = g at *
        clear HC HRr HK h0 h1 h2 h3
        obtain ⟨g0, g1, g2, g3⟩ : W0.cell? ⟨g, 0, none⟩ = some (.int .i64 d) ∧ W0.cell? ⟨g, 1, none⟩ = some (.int .i64 was) ∧ W0.cell? ⟨g, 2, none⟩ = some (.int .i64 is) ∧ W0.cell? ⟨g, 3, none⟩ = some (.string s) :=
          ⟨cell_blk HG.out rfl, cell_blk HG.out rfl, cell_blk HG.out rfl, cell_blk HG.out rfl⟩
        by_cases hd0 : d = 0
        · subst hd0
          go_upto_region 10 with (fail)
          by_cases hx : x = was
          · subst hx
            go_region_held3 (fun w' => w'.cell? ⟨g, 1, none⟩ = some (.int .i64 x) ∧ w'.cell? ⟨g, 2, none⟩ = some (.int .i64 is)) (first | go_keep | (simp only [cell_setB' _ hcg, cell_setB' _ hrg]; go_keep))
              (first | (go_at_call 13; refine (swapI_yes _ (n := n) ?_).mono ?_; (first | exact HC0.out | exact (setB_other _ _ (Ne.symm hcr)).trans HC0.out); rintro e w' ⟨rfl, rfl⟩)
                     | (go_at_call 14; refine (rswap_yes _ (n := n) ?_).mono ?_; (first | exact HR0.out | exact (setB_other _ _ hcr).trans HR0.out); rintro e w' ⟨rfl, rfl⟩))
            all_goals (go_wp2; go_meet)
            case rel => exact ⟨c, is, wrap64 (n + 1), rfl, hcw, hcr, (two_set (w := W0.drew) _ _ hcr (lt_blk HC0.out) (lt_blk HR0.out)).1, (two_set (w := W0.drew) _ _ hcr (lt_blk HC0.out) (lt_blk HR0.out)).2, ((HK0.out.drew).setB (.inr hcw) _).setB (.inr (by omega)) _⟩
          · have HX := Lib.hid hx
            clear hx
            go_region_held3 (fun w' => w'.cell? ⟨g, 1, none⟩ = some (.int .i64 was) ∧ w'.cell? ⟨g, 2, none⟩ = some (.int .i64 is)) (go_keep)
              (first | (go_at_call 13; refine (swapI_no _ HX.out (n := n) ?_).mono ?_; (exact HC0.out); rintro e w' ⟨rfl, rfl⟩)
                     | (go_at_call 14; refine (rswap_no _ HX.out (n := n) ?_).mono ?_; (exact HR0.out); rintro e w' ⟨rfl, rfl⟩))
            all_goals (go_wp2; go_meet)
            case rel => exact ⟨c, x, n, rfl, hcw, hcr, HC0.out, HR0.out, HK0.out.drew⟩
        · have hd0' : (d == 0) = false := by simpa using hd0
          clear hd0
          by_cases hd1 : d = 1
          · subst hd1
            go_upto_region 13 with (fail)
            go_region_held3 (fun w' => w'.cell? ⟨g, 2, none⟩ = some (.int .i64 is)) (first | go_keep | (simp only [cell_setB' _ hcg, cell_setB' _ hrg]; go_keep))
              (first | (go_at_call 15; refine (setI _ (x := x) (n := n) ?_).mono ?_; (first | exact HC0.out | exact (setB_other _ _ (Ne.symm hcr)).trans HC0.out); rintro e w' ⟨rfl, rfl⟩)
                     | (go_at_call 16; refine (rset _ (x := x) (n := n) ?_).mono ?_; (first | exact HR0.out | exact (setB_other _ _ hcr).trans HR0.out); rintro e w' ⟨rfl, rfl⟩))
            all_goals (go_wp2; go_meet)
            case rel => exact ⟨c, is, wrap64 (n + 1), rfl, hcw, hcr, (two_set (w := W0.drew) _ _ hcr (lt_blk HC0.out) (lt_blk HR0.out)).1, (two_set (w := W0.drew) _ _ hcr (lt_blk HC0.out) (lt_blk HR0.out)).2, ((HK0.out.drew).setB (.inr hcw) _).setB (.inr (by omega)) _⟩
          · have hd1' : (d == 1) = false := by simpa using hd1
            clear hd1
            by_cases hd2 : d = 2
            · subst hd2
              go_wp2_with fail
              refine (cloneI HC0.out).mono ?_
              rintro e w5 ⟨rfl, hw5⟩
              have HC5 := Lib.hid (show w5.heap[c]? = some (cellI x n) by rw [hw5]; exact blk_alloc _ HC0.out)
              have HD5 := Lib.hid (show w5.heap[W0.heap.size]? = some (cellI x n) by rw [hw5]; exact heap_alloc_same _ _)
              have HR5 := Lib.hid (show w5.heap[w1.heap.size]? = some (cellR x n) by rw [hw5]; exact blk_alloc _ HR0.out)
              have HK5 := Lib.hid (show KN w w5 by rw [hw5]; exact HK0.out.alloc _)
              have q1 : w5.cell? ⟨g, 1, none⟩ = some (.int .i64 was) := cell_blk (by rw [hw5]; exact blk_alloc _ HG.out) rfl
              have hgc : c ≠ W0.heap.size := by have := lt_blk HC0.out; omega
              have hrc : w1.heap.size ≠ W0.heap.size := by have := lt_blk HR0.out; omega
              have hk5 : w.heap.size ≤ W0.heap.size := HK0.out.size
              clear hw5 HC0 HR0 HK0
              go_wp2_with fail
              refine (setI _ HC5.out).mono ?_
              rintro e w6 ⟨rfl, hw6⟩
              have HD6 := Lib.hid (show w6.heap[W0.heap.size]? = some (cellI x n) by rw [hw6]; exact (setB_other _ _ hgc).trans HD5.out)
              have HR6 := Lib.hid (show w6.heap[w1.heap.size]? = some (cellR x n) by rw [hw6]; exact (setB_other _ _ hcr).trans HR5.out)
              have HK6 := Lib.hid (show KN w w6 by rw [hw6]; exact HK5.out.setB (.inr hcw) _)
              clear hw6 HC5 HD5 HR5 HK5
              go_wp2
              go_meet
              case rel => exact ⟨_, x, n, rfl, hk5, Ne.symm hrc, HD6, HR6, HK6⟩
            · have hd2' : (d == 2) = false := by simpa using hd2
              clear hd2
              go_wp2
              go_meet
              case rel => exact ⟨c, x, n, rfl, hcw, hcr, HC0, HR0, HK0⟩
      case rest =>
        obtain ⟨c', x', n', rfl, hcw', hcr', HC', HR', HK'⟩ := hcut
        clear HC HRr HK h0 h1 h2 h3
        go_wp2_with fail
        refine (loadI HC'.out).mono ?_
        rintro e w7 ⟨rfl, m, hw7⟩
        have HC7 := Lib.hid (show w7.heap[c']? = some (cellI x' n') by rw [hw7]; exact HC'.out)
        have HR7 := Lib.hid (show w7.heap[w1.heap.size]? = some (cellR x' n') by rw [hw7]; exact HR'.out)
        have HK7 := Lib.hid (show KN w w7 by rw [hw7]; exact HK'.out.drewN _)
        clear hw7 HC' HR' HK'
        obtain ⟨q0, q1, _⟩ := cells2 HR7.out
        go_wp2
        go_roundw
        case rel => exact ⟨k + 1, c', x', n', by omega, by go_num, rfl, hcw', hcr', HC7, HR7, HK7⟩
        case measure => simp [intOf]; omega
    · obtain rfl : k = l.length := by omega
      go_wp2_with fail
      refine (loadI HC.out).mono ?_
      rintro e w7 ⟨rfl, m, hw7⟩
      have HR7 := Lib.hid (show w7.heap[w1.heap.size]? = some (cellR x n) by rw [hw7]; exact HRr.out)
      have HK7 := Lib.hid (show KN w w7 by rw [hw7]; exact HK.out.drewN _)
      clear hw7 HC HRr HK
      obtain ⟨q0, q1, _⟩ := cells2 HR7.out
      go_wp2
      go_ret
      exact ⟨by simp, HK7.out⟩
end Go.Proofs.Ytohiookmpjeddaa
