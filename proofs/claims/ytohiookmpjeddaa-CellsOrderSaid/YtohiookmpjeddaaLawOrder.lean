/- CellsOrder: its walk. -/
import Derived.Test.YtohiookmpjeddaaBegun
import Derived.Test.YtohiookmpjeddaaBoxesP
import Derived.Test.YtohiookmpjeddaaTypes
import Derived.Test.YtohiookmpjeddaaSlices
import Derived.Deep.DeepCutAuto
import Derived.ChangeKeysEq
import Derived.Laws.StructEq
namespace Go.Proofs.Ytohiookmpjeddaa
set_option linter.unusedVariables false
set_option linter.unusedSimpArgs false
open Go Go.RowKit

abbrev pvs (l : List Pair62) : List Value := l.map fun x => pv x.p x.q
theorem rd_pair {w : World} {a : Option Addr} {l : List Pair62} (h : Rd Pair62.enc 2 w a l) {k : Nat} {o : Pair62} (hx : l[k]? = some o) :
    ∃ b off, a = some ⟨b, off, none⟩ ∧ b < w.heap.size ∧ w.cell? ⟨b, off + k * 2, none⟩ = some (.int .i64 o.p) ∧ w.cell? ⟨b, off + k * 2 + 1, none⟩ = some (.int .i64 o.q) := by
  rcases h with h0 | ⟨b, off, ha, hb, hc⟩
  · rw [h0] at hx; cases hx
  · exact ⟨b, off, ha, hb, hc k o hx 0 (by omega), hc k o hx 1 (by omega)⟩
theorem eqP (x y : Int) (w : World) : (Op.equalIn 10000 62 (pv x y) (pv x y)).run Try.prog w = .ok true w := by
  obtain ⟨i, hi⟩ : ∃ i, Try.prog.info? 3 = some i := by
    have h : (Try.prog.info? 3).isSome = true := by kernel_rfl
    exact Option.isSome_iff_exists.1 h
  have h1 : Try.prog.cellsOf 3 = 1 := by kernel_rfl
  have hp : Try.prog.plainKey 3 = true := by kernel_rfl
  rw [show (10000:Nat) = 9999+1 from rfl, Go.run_equalIn_array w 9999 _ _ Try.underlying62 hi]
  rw [h1]
  have h20 : (part 3 (#[Value.int .i64 x, .int .i64 y] : Array Value) 0).run Try.prog w = .ok (.int .i64 x) w := run_part_plain w hp rfl
  have h21 : (part 3 (#[Value.int .i64 x, .int .i64 y] : Array Value) 1).run Try.prog w = .ok (.int .i64 y) w := run_part_plain w hp rfl
  have h3 : ∀ a : Int, (Op.equalIn 9999 3 (.int .i64 a) (.int .i64 a)).run Try.prog w = .ok true w := fun a => by
    rw [show (9999:Nat) = 9998+1 from rfl, run_equalIn_int w 9998 3 .i64 .i64 a a Try.underlying3]; simp
  simp only [List.range_succ, List.range_zero, List.nil_append, List.cons_append, Op.eqItems, Nat.zero_mul, Nat.one_mul, Nat.mul_one, Sem.run_bind, h20, h21, h3, Result.andThen_ok, Bool.not_true, Bool.false_eq_true, if_false, Sem.run_pure]
set_option maxRecDepth 100000 in
set_option maxHeartbeats 4000000 in
theorem order_walk (room : Int) (hroom : 0 ≤ room ∧ room < 256) (a : Option Addr) (cap : Nat) (l : List Pair62) (w : World) (hl : l.length ≤ maxLen) (hcap : l.length ≤ cap) (hr : Rd Pair62.enc 2 w a l) :
    Calls Try.prog 6 #[.int .u8 room, .slice a l.length cap] w fun e w' => e = .returned (.bool true) ∧ KN w w' := by
  unfold maxLen at hl
  have HR := Lib.hid hr
  clear hr
  go_enter Try.func6, Try.ntmps6
  go_wp2_with fail
  obtain ⟨n, hn⟩ : ∃ n : Nat, room % 50 + 1 = (n : Int) := ⟨(room % 50 + 1).toNat, by omega⟩
  have hn1 : 1 ≤ n := by omega
  have hn2 : n ≤ 50 := by omega
  rw [hn]
  clear hroom
  generalize room % 50 = rm at *
  refine (newBoxP n hn1 (by omega) w).mono ?_
  rintro e w1 ⟨rfl, hw1⟩
  have HB1 := Lib.hid (show IsBox 81 w1 (w.heap.size + 1) w.heap.size n (pvs []) by rw [hw1]; exact IsBox.new _ _ _)
  have HK1 := Lib.hid (show KN w w1 by rw [hw1]; exact (kn_alloc _ _).alloc _)
  clear hw1
  go_wp2_with fail
  refine (begun_true w1).mono ?_
  rintro e w2 ⟨rfl, hk2⟩
  have HB2 := Lib.hid (HB1.out.kept hk2 id id)
  have HK2 := Lib.hid (HK1.out.then hk2 (fun _ h => h.elim))
  clear hk2 HB1 HK1
  go_wp2_with fail
  go_loopw [41] (fun i wr => ∃ k : Nat, k ≤ l.length ∧ i = .int .i64 k ∧ Hid (IsBox 81 wr (w.heap.size + 1) w.heap.size n (pvs (l.take (min k n)))) ∧ Hid (KN w wr)) (fun i _ => l.length - (intOf i).toNat)
  case atStart => exact ⟨0, Nat.zero_le _, rfl, by simpa using HB2, HK2⟩
  case round =>
    obtain ⟨k, hk, rfl, HB, HK⟩ := hrel
    clear HB2 HK2
    by_cases hlt : k < l.length
    · have HT : Hid (l.take (k + 1) = l.take k ++ [l[k]]) := List.take_succ_eq_append_getElem hlt
      obtain ⟨b, off, ha, hb, h0, h1⟩ := rd_pair HR.out (List.getElem?_eq_getElem hlt)
      generalize l[k] = o at h0 h1 HT
      obtain ⟨x, y⟩ := o
      subst ha
      have hB := HK.out.below
      rw [← hB.cell hb] at h0 h1
      clear hB
      have HBa := Lib.hid (HB.out.alloc (pb x y))
      have HKa := Lib.hid (HK.out.alloc (pb x y))
      clear HB HK
      by_cases hkn : k < n
      · have hge : ¬ (n : Int) ≤ (k : Int) := by omega
        go_wp2_with fail
        refine (putP_room x y HBa.out (by rw [List.length_map, List.length_take]; omega)).mono ?_
        rintro e w3 ⟨rfl, hB3, hk3⟩
        have HB3 := Lib.hid hB3
        have HK3 := Lib.hid (HKa.out.then hk3 (fun i h => by omega))
        clear hB3 hk3 HBa HKa
        go_wp2
        go_roundw
        case rel =>
          refine ⟨k + 1, by omega, by go_num, Lib.hid ?_, HK3⟩
          have h3 := HB3.out
          rw [Nat.min_eq_left (by omega)] at h3 ⊢
          rw [HT.out]
          simpa using h3
        case measure => simp [intOf]; omega
      · have hge : (n : Int) ≤ (k : Int) := by omega
        go_wp2_with fail
        refine (putP_full x y HBa.out (by rw [List.length_map, List.length_take]; omega)).mono ?_
        rintro e w3 ⟨rfl, hB3, hk3⟩
        have HB3 := Lib.hid hB3
        have HK3 := Lib.hid (HKa.out.then hk3 (fun i h => by omega))
        clear hB3 hk3 HBa HKa
        go_wp2
        go_roundw
        case rel =>
          refine ⟨k + 1, by omega, by go_num, Lib.hid ?_, HK3⟩
          have h3 := HB3.out
          rw [Nat.min_eq_right (by omega)] at h3 ⊢
          exact h3
        case measure => simp [intOf]; omega
    · obtain rfl : k = l.length := by omega
      go_wp2_with fail
      obtain ⟨ks, hks⟩ : ∃ ks, ks = l.take (min l.length n) := ⟨_, rfl⟩
      have hkl : ks.length = min l.length n := by rw [hks, List.length_take]; omega
      rw [← hks] at HB
      refine (cloneP (by intro v hv; obtain ⟨o, _, rfl⟩ := List.mem_map.1 hv; exact ⟨_, _, rfl⟩) HB.out (by rw [List.length_map]; omega) (by omega)).mono ?_
      rintro e w4 ⟨b', c', rfl, hb', hc', hD, hB, hk4⟩
      have HD4 := Lib.hid hD
      have HB4 := Lib.hid hB
      have HK4 := Lib.hid (HK.out.then hk4 (fun i h => by omega))
      have hbs := HB.out.lt
      have hdl := hD.lt
      have hbl := hB.lt
      have hcc : c' ≠ w.heap.size := by omega
      have hbc : b' ≠ w.heap.size := by omega
      clear hD hB hk4 HB HK
      go_upto_region 17 with (fail)
      go_cut [64, 65, 66] (fun s m z wx => s = .slice a ks.length cap ∧ m = .int .i64 ks.length ∧ z = .int .i64 0 ∧ wx = w4)
      case first =>
        go_wp2_with fail
        all_goals
          go_meet
          first
            | (have e : ks.length = n := by omega
               rw [e]; exact ⟨rfl, rfl, rfl, rfl⟩)
            | (have e : ks.length = l.length := by omega
               rw [e]; exact ⟨rfl, rfl, rfl, rfl⟩)
      case rest =>
        obtain ⟨rfl, rfl, rfl, rfl⟩ := hcut
        have hkll : ks.length ≤ l.length := by omega
        have HKS := Lib.hid hks
        clear hks hkl
        go_wp2_with fail
        go_loopw [66] (fun i wx => ∃ k : Nat, k ≤ ks.length ∧ i = .int .i64 k ∧ Hid (IsBox 81 wx (w.heap.size + 1) w.heap.size n (pvs (ks.drop k))) ∧ Hid (IsBox 81 wx b' c' n (pvs (ks.drop k))) ∧ Hid (KN w wx)) (fun i _ => ks.length - (intOf i).toNat)
        case atStart => exact ⟨0, Nat.zero_le _, rfl, HB4, HD4, HK4⟩
        case round =>
          obtain ⟨k, hk2, rfl, HB, HD, HK⟩ := hrel
          clear HB4 HD4 HK4
          have hs1 := HB.out.lt
          by_cases hlt2 : k < ks.length
          · have hkl2 : k < l.length := by omega
            have hke : ks[k] = l[k] := by have hks := HKS.out; subst hks; exact List.getElem_take
            have HX : Hid (ks.drop k = ks[k] :: ks.drop (k + 1)) := List.drop_eq_getElem_cons hlt2
            rw [hke] at HX
            clear hke
            obtain ⟨b, off, ha, hb, h0, h1⟩ := rd_pair HR.out (List.getElem?_eq_getElem hkl2)
            generalize l[k] = o at h0 h1 HX
            obtain ⟨x, y⟩ := o
            subst ha
            have hB := HK.out.below
            rw [← hB.cell hb] at h0 h1
            clear hB
            have HX2 : Hid (pvs (ks.drop k) = pv x y :: pvs (ks.drop (k + 1))) := by rw [HX.out]; rfl
            rw [HX2.out] at HB HD
            clear HX2
            have hs2 := HD.out.lt
            have HBa := Lib.hid (HB.out.alloc (pb x y))
            have HDa := Lib.hid (HD.out.alloc (pb x y))
            have HKa := Lib.hid (HK.out.alloc (pb x y))
            have HXa := Lib.hid (heap_alloc_same wr (pb x y))
            clear HB HK HD HX
            go_wp2_with fail
            refine (takeP_some HBa.out).mono ?_
            rintro e w5 ⟨rfl, hB5, hk5⟩
            have HB5 := Lib.hid (hB5.alloc (pb x y))
            have HD5 := Lib.hid ((HDa.out.kept hk5 hbc hcc).alloc (pb x y))
            have HK5 := Lib.hid ((HKa.out.then hk5 (fun i h => by omega)).alloc (pb x y))
            have HX5 := Lib.hid (blk_alloc (pb x y) (hk5.blk HXa.out (by omega)))
            have HY5 := Lib.hid (heap_alloc_same w5 (pb x y))
            have hs5 := lt_blk (hk5.blk HXa.out (show wr.heap.size ≠ w.heap.size by omega))
            have hs5' : w5.heap.size < (w5.alloc (pb x y)).heap.size := by simp
            clear hB5 hk5 HBa HDa HKa HXa h0 h1
            go_wp2_with fail
            refine (takeP_some HD5.out).mono ?_
            rintro e w6 ⟨rfl, hD6, hk6⟩
            have HD6 := Lib.hid (hD6.alloc (pb x y))
            have HB6 := Lib.hid ((HB5.out.kept hk6 (by omega) (by omega)).alloc (pb x y))
            have HK6 := Lib.hid ((HK5.out.then hk6 (fun i h => by omega)).alloc (pb x y))
            have hX6 := blk_alloc (pb x y) (hk6.blk HX5.out (show wr.heap.size ≠ c' by omega))
            have hY6 := blk_alloc (pb x y) (hk6.blk HY5.out (show w5.heap.size ≠ c' by omega))
            have hZ6 := heap_alloc_same w6 (pb x y)
            obtain ⟨p0, p1, _, _⟩ := cells2 hX6
            obtain ⟨q0, q1, _, _⟩ := cells2 hY6
            obtain ⟨r0, r1, _, _⟩ := cells2 hZ6
            clear hX6 hY6 hZ6 HB5 HD5 HK5 HX5 HY5 hD6 hk6
            have he := fun w => eqP x y w
            go_wp2_with fail
            go_roundw
            case rel => exact ⟨k + 1, by omega, by go_num, HB6, HD6, HK6⟩
            case measure => simp [intOf]; omega
          · obtain rfl : k = ks.length := by omega
            rw [List.drop_length] at HB HD
            clear hs1
            go_wp2_with fail
            refine (takeP_none HB.out).mono ?_
            rintro e w5 ⟨rfl, hB5, hk5⟩
            have HB5 := Lib.hid hB5
            have HD5 := Lib.hid (HD.out.kept hk5 hbc hcc)
            have HK5 := Lib.hid (HK.out.then hk5 (fun i h => by omega))
            clear hB5 hk5 HB HK HD
            go_wp2_with fail
            refine (takeP_none HD5.out).mono ?_
            rintro e w6 ⟨rfl, hD6, hk6⟩
            have hbs5 := HB5.out.lt
            have hds5 := HD5.out.lt
            have HD6 := Lib.hid (hD6.alloc (pb 0 0))
            have HB6 := Lib.hid ((HB5.out.kept hk6 (by omega) (by omega)).alloc (pb 0 0))
            have HK6 := Lib.hid ((HK5.out.then hk6 (fun i h => by omega)).alloc (pb 0 0))
            clear HD5 HB5 HK5 hD6 hk6
            go_wp2_with (first | (go_at_call 32; refine (lenP HB6.out).mono ?_; rintro e w7 ⟨rfl, rfl⟩) | (go_at_call 33; refine (roomP HD6.out).mono ?_; rintro e w7 ⟨rfl, rfl⟩))
            go_ret
            exact ⟨rfl, HK6.out⟩
end Go.Proofs.Ytohiookmpjeddaa
