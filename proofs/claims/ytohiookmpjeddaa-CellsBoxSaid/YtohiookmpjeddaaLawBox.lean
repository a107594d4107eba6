/- CellsBox: its walk. -/
import Derived.Test.YtohiookmpjeddaaLawSwap
import Derived.Test.YtohiookmpjeddaaRBoxes
namespace Go.Proofs.Ytohiookmpjeddaa
set_option linter.unusedVariables false
set_option linter.unusedSimpArgs false
open Go Go.RowKit

/-- All that waits are texts. -/
def Texts (xs : List Value) : Prop := ∀ u ∈ xs, ∃ s : ByteArray, u = .string s
theorem Texts.one {xs : List Value} (h : Texts xs) : ∀ u ∈ xs, u.oneCell' = true := fun u hu => by obtain ⟨s, rfl⟩ := h u hu; rfl
theorem box_ne {w : World} {b c cap r : Nat} {buf xs : List Value} {room : Int} (h : IsBox 73 w b c cap buf) (h' : IsRBox w r room xs) : b ≠ r ∧ c ≠ r := by
  obtain ⟨v, hr, _⟩ := h'
  obtain ⟨hb, s, q, hc⟩ := h
  exact ⟨ne_blk hb hr (by simp), ne_blk hc hr (by simp)⟩

set_option maxRecDepth 100000 in
set_option maxHeartbeats 4000000 in
theorem box_walk (room : Int) (a : Option Addr) (cap : Nat) (l : List Op8) (w : World) (hl : l.length ≤ maxLen) (hr : Rd Op8.enc 4 w a l) :
    Calls Try.prog 5 #[.int .i64 room, .slice a l.length cap] w fun e w' => e = .returned (.bool true) ∧ KN w w' := by
  unfold maxLen at hl
  have HR := Lib.hid hr
  clear hr
  by_cases hbad : room < 1 ∨ 4096 < room
  · go_enter Try.func5, Try.ntmps5
    go_wp2_with fail
    refine (newBoxS_bad room hbad w).mono ?_
    rintro e w' ⟨rfl, rfl⟩
    go_wp2_with fail
    refine (newRBox_bad room hbad w).mono ?_
    rintro e w' ⟨rfl, rfl⟩
    go_wp2_with fail
    refine (begun_true w).mono ?_
    rintro e w1 ⟨rfl, hk1⟩
    have HK1 := Lib.hid hk1
    clear hk1
    go_wp2
    go_ret
    exact ⟨rfl, HK1.out⟩
  obtain ⟨n, rfl⟩ : ∃ n : Nat, room = n := ⟨room.toNat, by omega⟩
  have hn1 : 1 ≤ n := by omega
  have hn2 : n ≤ 4096 := by omega
  clear hbad
  go_enter Try.func5, Try.ntmps5
  go_wp2_with fail
  refine (newBoxS n hn1 hn2 w).mono ?_
  rintro e w1 ⟨rfl, hw1⟩
  have HB1 := Lib.hid (show IsBox 73 w1 (w.heap.size + 1) w.heap.size n [] by rw [hw1]; exact IsBox.new _ _ _)
  have HK1 := Lib.hid (show KN w w1 by rw [hw1]; exact (kn_alloc _ _).alloc _)
  have hs1 := HB1.out.lt.1
  clear hw1
  go_wp2_with fail
  refine (newRBox n (by omega) (by omega) w1).mono ?_
  rintro e w2 ⟨rfl, hw2⟩
  have HB2 := Lib.hid (show IsBox 73 w2 (w.heap.size + 1) w.heap.size n [] by rw [hw2]; exact HB1.out.alloc _)
  have HR2 := Lib.hid (show IsRBox w2 w1.heap.size n [] by rw [hw2]; exact ⟨_, heap_alloc_same _ _, Sr.nil _ _ _⟩)
  have HK2 := Lib.hid (show KN w w2 by rw [hw2]; exact HK1.out.alloc _)
  clear hw2 HB1 HK1
  go_wp2_with fail
  refine (begun_true w2).mono ?_
  rintro e w3 ⟨rfl, hk3⟩
  have HB3 := Lib.hid (HB2.out.kept hk3 id id)
  have HR3 := Lib.hid (HR2.out.kept hk3 id (fun b h => h.elim))
  have HK3 := Lib.hid (HK2.out.then hk3 (fun _ h => h.elim))
  clear hk3 HB2 HR2 HK2
  go_wp2_with fail
  obtain ⟨r, hr⟩ : ∃ r, r = w1.heap.size := ⟨_, rfl⟩
  rw [← hr] at HR3
  simp only [← hr]
  have hrw : w.heap.size ≤ r := by omega
  clear hr
  go_loopw [5, 48] (fun cb i wr => ∃ (k b c : Nat) (xs : List Value), k ≤ l.length ∧ i = .int .i64 k ∧ cb = .pointer (some ⟨b, 0, none⟩) ∧ w.heap.size ≤ b ∧ w.heap.size ≤ c ∧
    Hid (Texts xs) ∧ xs.length ≤ n ∧ Hid (IsBox 73 wr b c n xs) ∧ Hid (IsRBox wr r n xs) ∧ Hid (KN w wr)) (fun _ i _ => l.length - (intOf i).toNat)
  case atStart => exact ⟨0, w.heap.size + 1, w.heap.size, [], Nat.zero_le _, rfl, rfl, by omega, by omega, (fun u h => by cases h), by simp, HB3, HR3, HK3⟩
  case round =>
    obtain ⟨k, b, c, xs, hk, rfl, rfl, hbw, hcw, HX, hxl, HB, HRr, HK⟩ := hrel
    clear HB3 HR3 HK3
    by_cases hlt : k < l.length
    · obtain ⟨ab, off, ha, hb, h0, h1, h2, h3⟩ := rd_op HR.out (List.getElem?_eq_getElem hlt)
      generalize l[k] = o at h0 h1 h2 h3
      obtain ⟨d, was, is, s⟩ := o
      subst ha
      have hBel := HK.out.bel
      rw [← hBel.cell hb] at h0 h1 h2 h3
      clear hBel
      go_upto_block 2 with (fail)
      go_cut [5] (fun cb' wc => ∃ (b' c' : Nat) (xs' : List Value), cb' = .pointer (some ⟨b', 0, none⟩) ∧ w.heap.size ≤ b' ∧ w.heap.size ≤ c' ∧
        Hid (Texts xs') ∧ xs'.length ≤ n ∧ Hid (IsBox 73 wc b' c' n xs') ∧ Hid (IsRBox wc r n xs') ∧ Hid (KN w wc))
      case first =>
        have HG := Lib.hid (heap_alloc_same wr (.cells #[.int .i64 d, .int .i64 was, .int .i64 is, .string s] 37))
        have HB0 := Lib.hid (HB.out.alloc (.cells #[.int .i64 d, .int .i64 was, .int .i64 is, .string s] 37))
        have HR0 := Lib.hid (HRr.out.kept (kn_alloc wr (.cells #[.int .i64 d, .int .i64 was, .int .i64 is, .string s] 37)) id (fun b h => h.elim))
        have HK0 := Lib.hid (HK.out.alloc (.cells #[.int .i64 d, .int .i64 was, .int .i64 is, .string s] 37))
        have hcg : c ≠ wr.heap.size := by have := HB.out.lt; omega
        have hrg : r ≠ wr.heap.size := by have := HRr.out.lt; omega
        generalize wr.alloc (.cells #[.int .i64 d, .int .i64 was, .int .i64 is, .string s] 37) = W0 at *
        generalize wr.heap.size = g at *
        clear HB HRr HK h0 h1 h2 h3
        obtain ⟨g0, g3⟩ : W0.cell? ⟨g, 0, none⟩ = some (.int .i64 d) ∧ W0.cell? ⟨g, 3, none⟩ = some (.string s) := ⟨cell_blk HG.out rfl, cell_blk HG.out rfl⟩
        have HN := Lib.hid (box_ne HB0.out HR0.out)
        by_cases hd3 : d = 3
        · subst hd3
          go_upto_region 12 with (fail)
          have HNI := Lib.hid (show (n : Int) ≤ 4096 by omega)
          by_cases hx : xs.length < n
          · have HXI := Lib.hid (show (xs.length : Int) < n by omega)
            go_region_held3 (fun w' => w'.cell? ⟨g, 3, none⟩ = some (.string s)) (first | go_keep | (exact cell_kp hk1 (Ne.symm hcg) (by assumption)) | (exact cell_kp hk2 (Ne.symm hrg) (by assumption)))
              (first | (go_at_call 21; refine (putS_room (c := c) (cap := n) (buf := xs) _ ?_ hx).mono ?_; (exact HB0.out); rintro e w' ⟨rfl, hb1, hk1⟩)
                     | (go_at_call 22; refine (rput_room (room := n) (xs := xs) s ?_ HXI.out HNI.out HX.out.one).mono ?_; (exact IsRBox.kept (w := W0.drew) HR0.out hk1 (Ne.symm HN.out.2) (IsBox.noCell (w := W0.drew) HB0.out _)); rintro e w'' ⟨rfl, hr2, hk2⟩))
            go_wp2
            go_meet
            case rel =>
              refine ⟨b, c, xs ++ [Value.string s], rfl, hbw, hcw, ?_, by simp; omega, hb1.kept hk2 HN.out.1 HN.out.2, hr2, ((HK0.out.drew).then hk1 (fun i h => by omega)).then hk2 (fun i h => by omega)⟩
              intro u hu
              rcases List.mem_append.1 hu with h | h
              · exact HX.out u h
              · exact ⟨s, by simpa using h⟩
          · go_region_held3 (fun w' => w'.cell? ⟨g, 3, none⟩ = some (.string s)) (first | go_keep | (subst hm2; go_keep))
              (first | (go_at_call 21; refine (putS_full (c := c) (cap := n) (buf := xs) _ ?_ (by omega)).mono ?_; (exact HB0.out); rintro e w' ⟨rfl, rfl⟩)
                     | (go_at_call 22; refine (rput_full (room := n) (xs := xs) _ ?_ (by omega)).mono ?_; (exact HR0.out); rintro e w'' ⟨rfl, m2, hm2⟩))
            go_wp2
            go_meet
            case rel => exact ⟨b, c, xs, rfl, hbw, hcw, HX, hxl, HB0.out, HR0.out, HK0.out.drewN _⟩
        · have hd3' : (d == 3) = false := by simpa using hd3
          clear hd3
          by_cases hd4 : d = 4
          · subst hd4
            cases xs with
            | nil =>
              go_wp2_with fail
              refine (takeS_none HB0.out).mono ?_
              rintro e w5 ⟨rfl, rfl⟩
              go_wp2_with fail
              refine (rtake_none HR0.out).mono ?_
              rintro e w5 ⟨rfl, rfl⟩
              go_wp2
              go_meet
              case rel => exact ⟨b, c, [], rfl, hbw, hcw, HX, hxl, HB0, HR0, HK0⟩
            | cons x xs =>
              obtain ⟨sx, rfl⟩ := HX.out x (by simp)
              go_wp2_with fail
              refine (takeS_some HB0.out).mono ?_
              rintro e w5 ⟨rfl, hb5, hk5⟩
              have HB5 := Lib.hid hb5
              have HR5 := Lib.hid (HR0.out.kept hk5 (Ne.symm HN.out.2) (HB0.out.noCell _))
              have HK5 := Lib.hid (HK0.out.then hk5 (fun i h => by omega))
              clear hb5 hk5 HB0 HR0 HK0
              simp only [List.length_cons] at hxl
              go_wp2_with fail
              refine (rtake_some HR5.out (by omega)).mono ?_
              rintro e w6 ⟨rfl, hr6, hk6⟩
              have HR6 := Lib.hid hr6
              have HB6 := Lib.hid (HB5.out.kept hk6 HN.out.1 HN.out.2)
              have HK6 := Lib.hid (HK5.out.then hk6 (fun i h => by omega))
              clear hr6 hk6 HB5 HR5 HK5
              go_wp2
              go_meet
              case rel => exact ⟨b, c, xs, rfl, hbw, hcw, fun u hu => HX.out u (by simp [hu]), by omega, HB6, HR6, HK6⟩
          · have hd4' : (d == 4) = false := by simpa using hd4
            clear hd4
            by_cases hd2 : d = 2
            · subst hd2
              go_wp2_with fail
              refine (cloneS HB0.out hxl hn2).mono ?_
              rintro e w5 ⟨b', c', rfl, hb', hc', hB5, hB5', hk5⟩
              have hW0 : w.heap.size ≤ W0.heap.size := HK0.out.size
              have hlt0 := HB0.out.lt
              have HB5 := Lib.hid hB5
              have HO5 := Lib.hid hB5'
              have HR5 := Lib.hid (HR0.out.kept hk5 (Ne.symm HN.out.2) (HB0.out.noCell _))
              have HK5 := Lib.hid (HK0.out.then hk5 (fun i h => by omega))
              have q3 : w5.cell? ⟨g, 3, none⟩ = some (.string s) := cell_kp hk5 (Ne.symm hcg) g3
              clear hB5 hB5' hk5 HB0 HR0 HK0
              go_wp2_with fail
              by_cases hx : xs.length < n
              · refine (putS_room _ HO5.out hx).mono ?_
                rintro e w6 ⟨rfl, hb6, hk6⟩
                have HO6 := Lib.hid hb6
                have HB6 := Lib.hid (HB5.out.kept hk6 (by omega) (by omega))
                have HR6 := Lib.hid (HR5.out.kept hk6 (Ne.symm HN.out.2) (HO5.out.noCell _))
                have HK6 := Lib.hid (HK5.out.then hk6 (fun i h => by omega))
                clear hb6 hk6 HO5 HB5 HR5 HK5
                go_wp2_with fail
                obtain ⟨y, ys, hy⟩ : ∃ y ys, xs ++ [.string s] = y :: ys := by cases xs <;> simp
                rw [hy] at HO6
                refine (takeS_some HO6.out).mono ?_
                rintro e w7 ⟨rfl, hb7, hk7⟩
                have HB7 := Lib.hid (HB6.out.kept hk7 (by omega) (by omega))
                have HR7 := Lib.hid (HR6.out.kept hk7 (Ne.symm HN.out.2) (HO6.out.noCell _))
                have HK7 := Lib.hid (HK6.out.then hk7 (fun i h => by omega))
                clear hy hb7 hk7 HO6 HB6 HR6 HK6
                go_wp2
                go_meet
                case rel => exact ⟨b', c', xs, rfl, by omega, by omega, HX, hxl, HB7, HR7, HK7⟩
              · refine (putS_full _ HO5.out (by omega)).mono ?_
                rintro e w6 ⟨rfl, rfl⟩
                go_wp2_with fail
                obtain ⟨y, ys, hy⟩ : ∃ y ys, xs = y :: ys := by
                  cases xs with
                  | nil => simp at hx; omega
                  | cons y ys => exact ⟨y, ys, rfl⟩
                have HO6 := Lib.hid (hy ▸ HO5.out)
                refine (takeS_some HO6.out).mono ?_
                rintro e w7 ⟨rfl, hb7, hk7⟩
                have HB7 := Lib.hid (HB5.out.kept hk7 (by omega) (by omega))
                have HR7 := Lib.hid (HR5.out.kept hk7 (Ne.symm HN.out.2) (HO6.out.noCell _))
                have HK7 := Lib.hid (HK5.out.then hk7 (fun i h => by omega))
                clear hy hb7 hk7 HO5 HO6 HB5 HR5 HK5
                go_wp2
                go_meet
                case rel => exact ⟨b', c', xs, rfl, by omega, by omega, HX, hxl, HB7, HR7, HK7⟩
            · have hd2' : (d == 2) = false := by simpa using hd2
              clear hd2
              go_wp2
              go_meet
              case rel => exact ⟨b, c, xs, rfl, hbw, hcw, HX, hxl, HB0, HR0, HK0⟩
      case rest =>
        obtain ⟨b', c', xs', rfl, hbw', hcw', HX', hxl', HB', HR', HK'⟩ := hcut
        clear HB HRr HK h0 h1 h2 h3 HX hxl
        obtain ⟨v, hv, hs⟩ := HR'.out
        obtain ⟨av, cv, rfl, _⟩ := hs.form
        obtain ⟨q0, q1, _, _⟩ := cells2 hv
        clear hv hs
        go_wp2
        go_quiet ((first | (go_at_call 26; exact quiet_l (lenS (HB'.out.drewN _))) | (go_at_call 27; exact quiet_l (roomS (HB'.out.drewN _)))))
        go_wp2
        go_roundw
        case rel => exact ⟨k + 1, b', c', xs', by omega, by go_num, rfl, hbw', hcw', HX', hxl', HB', HR', HK'.out.drewN _⟩
        case measure => simp [intOf]; omega
    · obtain rfl : k = l.length := by omega
      obtain ⟨v, hv, hs⟩ := HRr.out
      obtain ⟨av, cv, rfl, _⟩ := hs.form
      obtain ⟨q0, q1, _, _⟩ := cells2 hv
      clear hv hs
      go_wp2_with fail
      go_loopw [121] (fun i w2 => ∃ (k : Nat) (zs : List Value), k + zs.length = xs.length ∧ i = .int .i64 k ∧ zs.length ≤ n ∧ Hid (Texts zs) ∧ Hid (IsBox 73 w2 b c n zs) ∧ Hid (IsRBox w2 r n zs) ∧ Hid (KN w w2)) (fun i _ => xs.length - (intOf i).toNat)
      case atStart => exact ⟨0, xs, by simp, rfl, hxl, HX, HB, HRr, HK⟩
      case round =>
        obtain ⟨k, zs, hkz, rfl, hzn, HZ, HBz, HRz, HKz⟩ := hrel
        clear HX HB HRr HK q0 q1
        cases zs with
        | nil =>
          simp only [List.length_nil, Nat.add_zero] at hkz
          subst hkz
          go_wp2_with fail
          refine (lenS HBz.out).mono ?_
          rintro e w' ⟨rfl, rfl⟩
          simp only [List.length_nil, Int.natCast_zero]
          go_wp2
          go_ret
          exact ⟨rfl, HKz.out⟩
        | cons z zs =>
          obtain ⟨sz, rfl⟩ := HZ.out z (by simp)
          have HN := Lib.hid (box_ne HBz.out HRz.out)
          simp only [List.length_cons] at hkz hzn
          have hlt : k < xs.length := by omega
          go_wp2_with fail
          refine (takeS_some HBz.out).mono ?_
          rintro e w5 ⟨rfl, hb5, hk5⟩
          have HB5 := Lib.hid hb5
          have HR5 := Lib.hid (HRz.out.kept hk5 (Ne.symm HN.out.2) (HBz.out.noCell _))
          have HK5 := Lib.hid (HKz.out.then hk5 (fun i h => by omega))
          clear hb5 hk5 HBz HRz HKz
          go_wp2_with fail
          refine (rtake_some HR5.out (by omega)).mono ?_
          rintro e w6 ⟨rfl, hr6, hk6⟩
          have HR6 := Lib.hid hr6
          have HB6 := Lib.hid (HB5.out.kept hk6 HN.out.1 HN.out.2)
          have HK6 := Lib.hid (HK5.out.then hk6 (fun i h => by omega))
          clear hr6 hk6 HB5 HR5 HK5
          go_wp2
          go_roundw
          case rel => exact ⟨k + 1, zs, by omega, by go_num, by omega, fun u hu => HZ.out u (by simp [hu]), HB6, HR6, HK6⟩
          case measure => simp [intOf]; omega
end Go.Proofs.Ytohiookmpjeddaa
