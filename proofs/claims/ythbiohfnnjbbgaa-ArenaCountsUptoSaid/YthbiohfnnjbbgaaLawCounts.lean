/- ArenaCounts: its walk. -/
import Derived.Test.YthbiohfnnjbbgaaArenaB
import Derived.Test.YthbiohfnnjbbgaaArenaOI
import Derived.Test.YthbiohfnnjbbgaaCountLaw
import Derived.Test.YthbiohfnnjbbgaaTypesAr
namespace Go.Proofs.Ythbiohfnnjbbgaa
set_option linter.unusedVariables false
set_option linter.unusedSimpArgs false
open Go Go.RowKit

def encHd (h : Int × Int) : List Value := [.int .i64 h.1, .int .i64 h.2]
theorem encHd2 (x : Int × Int) : (encHd x).length = 2 := rfl
theorem hd_one (x : Int × Int) : ∀ u ∈ encHd x, u.oneCell' = true := by
  intro u hu
  simp only [encHd, List.mem_cons, List.not_mem_nil, or_false] at hu
  rcases hu with h | h <;> subst h <;> rfl
theorem elt_H : Elt Try.prog 28 30 (.agg #[.int .i64 0, .int .i64 0]) 2 16 := ⟨Try.underlying28, by kernel_rfl, rfl, by decide⟩
theorem rl_hd {w : World} {g : Nat} {a b : Int} {fr : Nat × Nat} {T : TypeId} {cap : Nat} (h : w.heap[g]? = some (.cells #[.int .i64 a, .int .i64 b] T fr)) (hc : 1 ≤ cap := by decide) : Rl encHd 2 w (.slice (some ⟨g, 0, none⟩) 1 cap) [(a, b)] := by
  refine ⟨_, cap, rfl, hc, .inr ⟨g, 0, rfl, lt_blk h, fun i x hx j hj => ?_⟩⟩
  match i, hx with
  | 0, hx =>
    simp at hx; subst hx
    match j, hj with
    | 0, _ => exact cell_blk h rfl
    | 1, _ => exact cell_blk h rfl
abbrev RowH (a : Option Addr) (cap : Nat) (l : List (Int × Int)) : Asr := RowA 30 2 (.slice a l.length cap) l.length (l.flatMap encHd)
def handsTo (i : Nat) : List (Int × Int) := (List.range i).map fun j : Nat => ((j : Int), 1)
theorem hands_len (i : Nat) : (handsTo i).length = i := by unfold handsTo; simp
theorem hands_step (i : Nat) : handsTo (i + 1) = handsTo i ++ [((i : Int), 1)] := by unfold handsTo; rw [List.range_succ, List.map_append]; rfl
theorem hands_at {i n : Nat} (h : i < n) : (handsTo n)[i]? = some ((i : Int), 1) := by unfold handsTo; rw [List.getElem?_map, List.getElem?_range h]; rfl
set_option maxRecDepth 100000 in
set_option maxHeartbeats 8000000 in
theorem counts_walk (x : Int) (a : Option Addr) (cap : Nat) (l : List Int) (w : World) (hx : 0 ≤ x ∧ x < 256) (hl : l.length ≤ 1048576) (hr : Rd (fun y : Int => [.int .i64 y]) 1 w a l) :
    Calls Try.prog 3 #[.int .u8 x, .slice a l.length cap] w fun e w' => e = .returned (.bool true) ∧ KN w w' := by
  have HR := Lib.hid hr
  clear hr
  obtain ⟨n, hn, hn1, hn2⟩ : ∃ n : Nat, x % 40 + 1 = n ∧ 1 ≤ n ∧ n ≤ 40 := ⟨(x % 40 + 1).toNat, by omega, by omega, by omega⟩
  have hnr : x.tmod 40 = (n : Int) - 1 := by rw [Int.tmod_eq_emod_of_nonneg hx.1]; omega
  go_enter Try.func3, Try.ntmps3
  go_wp2_with fail
  refine (new_I n hn1 (by omega) _).mono ?_
  rintro e w1 ⟨t, rfl, hp1⟩
  have HO := Lib.hid ((One.nil w).add hp1)
  clear hp1 hn hnr hx
  go_wp2_with fail
  refine (begun_true _).mono ?_
  rintro e w2 ⟨rfl, hk⟩
  have HO2 := Lib.hid (show One w w2 [RowH none 0 (handsTo 0), ArI t (firsts n 0) 0] from by rw [firsts_zero]; exact (HO.out.kn hk).nilRow 30 2)
  clear HO hk
  go_wp2_with fail
  go_loopw [8, 39] (fun v8 i wr => ∃ (k : Nat) (a1 : Option Addr) (c1 : Nat), k ≤ n ∧ i = .int .i64 k ∧ v8 = .slice a1 k c1 ∧ Hid (One w wr [RowH a1 c1 (handsTo k), ArI t (firsts n k) 0])) (fun _ i _ => n - (intOf i).toNat)
  case atStart => exact ⟨0, none, 0, Nat.zero_le _, rfl, rfl, HO2⟩
  case round =>
    clear HO2
    obtain ⟨k, a1, c1, hk, rfl, rfl, HO⟩ := hrel
    by_cases hlt : k < n
    · have HF := Lib.hid (firsts_next hlt)
      have HA := Lib.hid (firsts_at hlt)
      have HL := Lib.hid (firsts_len hk)
      have HC := Lib.hid (firsts_count (n := n) (i := k + 1) (by omega))
      have HL1 := Lib.hid (firsts_len (n := n) (i := k + 1) (by omega))
      go_wp2_with fail
      refine (show Calls Try.prog 9 #[.pointer (some ⟨t, 0, none⟩), .int .i64 (k : Int)] wr (fun e w' => e = .returned (.tuple #[.agg #[.int .i64 k, .int .i64 1], .int .i64 0]) ∧ One w w' [RowH a1 c1 (handsTo k), ArI t (firsts n (k + 1)) 0]) from by
        have := HO.out.lift 1 rfl (fun F h => put_ok_I h HF.out HA.out ⟨by decide, by decide⟩ (by rw [HL.out]; omega) (k : Int))
        rw [show firsts n (k + 1) = (firsts n k).set k ⟨(k : Int), 0 + 1, true⟩ from (firsts_set hlt).symm]
        exact this).mono ?_
      rintro e w5 ⟨rfl, ho⟩
      have HO5 := Lib.hid (ho.alloc (.cells #[.int .i64 k, .int .i64 1] 30))
      clear ho HO
      go_upto_region 10 with fail
      generalize hgen : w5.alloc _ = w6 at *
      clear hgen
      generalize w5.heap.size = g at *
      obtain ⟨x0, x1, _, _⟩ := cells2 (HO5.out.blk 0 rfl).1
      go_wp2_with fail
      refine (HO5.out.rd 2 rfl (fun F h => live_I h (by rw [HL1.out]; omega))).mono ?_
      rw [HL1.out, HC.out]
      rintro e w7 ⟨rfl, hk7⟩
      have HO7 := Lib.hid (HO5.out.kn hk7)
      clear HO5 hk7 x0 x1
      obtain ⟨x0, x1, _, _⟩ := cells2 (HO7.out.blk 0 rfl).1
      have hlv : (n : Int) - ((n - (k + 1) : Nat) : Int) = (k : Int) + 1 := by omega
      rw [hlv]
      have HAp := Lib.hid ((HO7.out.alloc (.cells #[.int .i64 k, .int .i64 1] 30)).appP (P := Try.prog) (m := [((k : Int), 1)]) elt_H 28 2 rfl encHd2 (rl_hd (heap_alloc_same _ _) (cap := 1)) hd_one (by rw [hands_len]; unfold maxLen; simp; omega) (by rw [hands_len]; simp; omega))
      rw [hands_len] at HAp
      simp only [List.length_singleton, List.set_cons_zero, List.set_cons_succ] at HAp
      go_wp2_with (at_builtin; refine wpList_appX 66 rfl rfl rfl rfl (v := .slice a1 k c1) (s := .slice (some ⟨w7.heap.size, 0, none⟩) 1 1) rfl rfl HAp.out ?_; rintro r w8 ⟨a8, c8, rfl, ho⟩; have HO8 := Lib.hid ho.drop.drop; clear ho)
      go_roundw
      case rel =>
        refine ⟨k + 1, a8, c8, by omega, by go_num, rfl, Lib.hid ?_⟩
        show One w w8 [RowA 30 2 (.slice a8 (handsTo (k + 1)).length c8) (handsTo (k + 1)).length ((handsTo (k + 1)).flatMap encHd), ArI t (firsts n (k + 1)) 0]
        rw [hands_len, hands_step k, List.flatMap_append]
        exact HO8.out
      case measure => simp [intOf]; omega
    · obtain rfl : k = n := by omega
      have HFu := Lib.hid (show freeOf (firsts k k) = [] from by rw [firsts_free k k (Nat.le_refl _)]; simp)
      have HOn := Lib.hid (ones_all k)
      generalize firsts k k = L0 at *
      go_wp2_with fail
      refine (HO.out.rd 1 rfl (fun F h => put_full_I h HFu.out (-1))).mono ?_
      rintro e w5 ⟨rfl, hk5⟩
      have HO5 := Lib.hid (HO.out.kn (hk5.trans (kn_alloc w5 (.cells #[.int .i64 0, .int .i64 0] 30)) (fun _ h => h.elim)))
      clear hk5 HO HFu
      go_wp2_with fail
      go_loopw [14, 77] (fun v14 i wr => ∃ (j f : Nat) (L : List (Slot Int)) (st : Int), j ≤ l.length ∧ i = .int .i64 j ∧ v14 = .int .i64 f ∧ (0 ≤ st ∧ st ≤ j) ∧ f ≤ k ∧ Hid (Ones k f L) ∧ Hid (One w wr [RowH a1 c1 (handsTo k), ArI t L st])) (fun _ i _ => l.length - (intOf i).toNat)
      case atStart => exact ⟨0, 0, L0, 0, Nat.zero_le _, rfl, rfl, by omega, by omega, HOn, HO5⟩
      case round =>
        clear HO5 HOn
        obtain ⟨j, f, L, st, hj, rfl, rfl, hst, hfk, HOn, HO⟩ := hrel
        by_cases hlt : j < l.length
        · obtain ⟨y, hy⟩ : ∃ y, l[j]? = some y := ⟨_, List.getElem?_eq_getElem hlt⟩
          obtain ⟨bl, ol, rfl, hbl, hcl⟩ := (HR.out.kn HO.out.old).at hy
          have p0 : wr.cell? ⟨bl, ol + j, none⟩ = some (.int .i64 y) := by have := hcl 0 (by omega); simpa using this
          clear hcl hy
          by_cases hy0 : 0 ≤ y
          · by_cases hy1 : y < (k : Int)
            · obtain ⟨q, rfl⟩ : ∃ q : Nat, y = q := ⟨y.toNat, by omega⟩
              obtain ⟨F1, hrr, _⟩ := HO.out.get 0 rfl
              have hrl := Rl.of_row (l := handsTo k) encHd2 rfl hrr
              rw [hands_len] at hrl
              obtain ⟨a6, c6, hv, hc6, hrd⟩ := hrl
              injection hv with e1 e2 e3
              subst e1
              subst e3
              obtain ⟨bh, oh, rfl, hbh, hch⟩ := hrd.at (hands_at (show q < k by omega))
              have q0 : wr.cell? ⟨bh, oh + q * 2, none⟩ = some (.int .i64 (q : Int)) := hch 0 (by omega)
              have q1 : wr.cell? ⟨bh, oh + q * 2 + 1, none⟩ = some (.int .i64 1) := hch 1 (by omega)
              obtain ⟨s, hs⟩ : ∃ s, L[q]? = some s := ⟨_, List.getElem?_eq_getElem (by have := HOn.out.len; omega)⟩
              have hs1 : s.gen = 1 := HOn.out.one s (List.mem_of_getElem? hs)
              have HS := Lib.hid (And.intro hs hs1)
              clear hrr hrd hch hs hs1 e2
              cases hg : s.given with
              | true =>
                have HG := Lib.hid hg
                have HO9 := Lib.hid (ones_free HOn.out HS.out.1 hg)
                have hf2 : f + 1 ≤ k := by
                  have h1 := HO9.out.free
                  have h2 := free_len (L.set q ⟨0, s.gen, false⟩)
                  rw [HO9.out.len] at h2
                  omega
                clear hg
                go_wp2_with fail
                refine (show Calls Try.prog 11 #[.pointer (some ⟨t, 0, none⟩), .agg #[.int .i64 q, .int .i64 1]] wr (fun e w' => e = .returned (.int .i64 0) ∧ One w w' [RowH (some ⟨bh, oh, none⟩) c1 (handsTo k), ArI t (L.set q ⟨0, s.gen, false⟩) st]) from by
                  have := HO.out.lift 1 rfl (fun F h => free_good_I h HS.out.1 HG.out (by rw [HOn.out.len]; omega))
                  rw [HS.out.2] at this ⊢
                  exact this).mono ?_
                rintro e w6 ⟨rfl, ho⟩
                have HO6 := Lib.hid ho
                clear ho
                have hcast : (k : Int) - ((f + 1 : Nat) : Int) = (k : Int) - ((f : Int) + 1) := by omega
                go_wp2_with fail
                refine (HO6.out.rd 1 rfl (fun F h => live_I h (by rw [HO9.out.len]; omega))).mono ?_
                rw [HO9.out.len, HO9.out.free]
                rintro e w7 ⟨rfl, hk7⟩
                have HO7 := Lib.hid (HO6.out.kn hk7)
                clear hk7
                go_wp2_with fail
                go_roundw
                case rel => exact ⟨j + 1, f + 1, _, st, by omega, by go_num, by go_num, by omega, by omega, HO9, HO7⟩
                case measure => simp [intOf]; omega
              | false =>
                have HB := Lib.hid (good_iff HS.out.1 hg 1)
                clear hg
                go_wp2_with fail
                refine (HO.out.lift 1 rfl (fun F h => free_bad_I h HB.out (by omega))).mono ?_
                rintro e w6 ⟨rfl, ho⟩
                have HO6 := Lib.hid ho
                clear ho
                go_wp2_with fail
                refine (HO6.out.rd 1 rfl (fun F h => live_I h (by rw [HOn.out.len]; omega))).mono ?_
                rw [HOn.out.len, HOn.out.free]
                rintro e w7 ⟨rfl, hk7⟩
                have HO7 := Lib.hid (HO6.out.kn hk7)
                clear hk7
                go_wp2_with fail
                go_roundw
                case rel => exact ⟨j + 1, f, L, st + 1, by omega, by go_num, by go_num, by omega, by omega, HOn, HO7⟩
                case measure => simp [intOf]; omega
            · go_wp2_with fail
              refine (HO.out.rd 1 rfl (fun F h => live_I h (by rw [HOn.out.len]; omega))).mono ?_
              rw [HOn.out.len, HOn.out.free]
              rintro e w7 ⟨rfl, hk7⟩
              have HO7 := Lib.hid (HO.out.kn hk7)
              clear hk7
              go_wp2_with fail
              go_roundw
              case rel => exact ⟨j + 1, f, L, st, by omega, by go_num, by go_num, by omega, by omega, HOn, HO7⟩
              case measure => simp [intOf]; omega
          · go_wp2_with fail
            refine (HO.out.rd 1 rfl (fun F h => live_I h (by rw [HOn.out.len]; omega))).mono ?_
            rw [HOn.out.len, HOn.out.free]
            rintro e w7 ⟨rfl, hk7⟩
            have HO7 := Lib.hid (HO.out.kn hk7)
            clear hk7
            go_wp2_with fail
            go_roundw
            case rel => exact ⟨j + 1, f, L, st, by omega, by go_num, by go_num, by omega, by omega, HOn, HO7⟩
            case measure => simp [intOf]; omega
        · have HC := Lib.hid (ones_cnt HOn.out)
          have HO1 := Lib.hid HO.out.drop
          clear HO HOn
          go_wp2_with fail
          go_loopw [107] (fun i wq => ∃ (q : Nat) (L : List (Slot Int)), q ≤ f ∧ i = .int .i64 q ∧ Hid (Cnt k (f - q) (1 + q) L) ∧ Hid (One w wq [ArI t L st])) (fun i _ => f - (intOf i).toNat)
          case atStart => exact ⟨0, L, Nat.zero_le _, rfl, HC, HO1⟩
          case round =>
            clear HC HO1
            obtain ⟨q, L, hq, rfl, HC, HO⟩ := hrel
            by_cases hlt2 : q < f
            · obtain ⟨i, fr, s, h1, h2, h3, h4⟩ := cnt_put (n := k) (f := f - q - 1) (g := 1 + q) (by have := HC.out; rw [show f - q - 1 + 1 = f - q by omega]; exact this) 7
              have HQ := Lib.hid (And.intro h1 h2)
              have HC2 := Lib.hid h4
              have HLn := Lib.hid HC.out.len
              clear h1 h2 h4
              go_wp2_with fail
              refine (HO.out.lift 0 rfl (fun F h => put_ok_I h HQ.out.1 HQ.out.2 (by omega) (by rw [HLn.out]; omega) 7)).mono ?_
              rintro e w6 ⟨rfl, ho⟩
              have HO6 := Lib.hid (One.drop (ho.alloc (.cells #[.int .i64 (i : Int), .int .i64 (s.gen + 1)] 30)))
              clear ho
              go_wp2_with fail
              go_roundw
              case rel => exact ⟨q + 1, _, by omega, by go_num, by rw [show f - (q + 1) = f - q - 1 by omega, show 1 + (q + 1) = 1 + q + 1 by omega]; exact HC2, HO6⟩
              case measure => simp [intOf]; omega
            · obtain rfl : q = f := by omega
              have hfe : freeOf L = [] := List.eq_nil_of_length_eq_zero (by have := HC.out.free; omega)
              have HFe := Lib.hid hfe
              have HLn := Lib.hid HC.out.len
              clear hfe
              go_wp2_with fail
              refine (HO.out.rd 0 rfl (fun F h => put_full_I h HFe.out 8)).mono ?_
              rintro e w6 ⟨rfl, hk6⟩
              have HO6 := Lib.hid (HO.out.kn hk6)
              clear hk6
              go_wp2_with fail
              refine (HO6.out.rd 0 rfl (fun F h => live_I h (by rw [HLn.out]; omega))).mono ?_
              rw [HLn.out, HFe.out]
              rintro e w7 ⟨rfl, hk7⟩
              have HO7 := Lib.hid (HO6.out.kn hk7)
              clear hk7
              have hsub : (k : Int) - (([] : List Int).length : Int) = k := by simp
              rw [hsub]
              go_wp2_with fail
              refine (HO7.out.rd 0 rfl (fun F h => slots_I h)).mono ?_
              rw [HLn.out]
              rintro e w8 ⟨rfl, rfl⟩
              go_wp2_with fail
              go_ret
              exact ⟨rfl, HO7.out.old⟩
end Go.Proofs.Ythbiohfnnjbbgaa
