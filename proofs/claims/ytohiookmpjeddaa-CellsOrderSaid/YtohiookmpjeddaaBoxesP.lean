/- The walks of a box of pairs of numbers. -/
import Derived.Test.YtohiookmpjeddaaBoxes
import Derived.Test.YtohiookmpjeddaaCommD
import Derived.Deep.DrawnRows
namespace Go.Proofs.Ytohiookmpjeddaa
set_option linter.unusedVariables false
set_option linter.unusedSimpArgs false
open Go Go.RowKit Go.Conc Go.Sort

abbrev pv (x y : Int) : Value := .agg #[.int .i64 x, .int .i64 y]
abbrev pb (x y : Int) : Obj := .cells #[.int .i64 x, .int .i64 y] 62
section
variable {b c cap : Nat} {w : World} {buf : List Value}
theorem putP_room (x y : Int) (h : IsBox 81 w b c cap buf) (hr : buf.length < cap) :
    Calls Try.prog 29 #[.pointer (some ⟨b, 0, none⟩), pv x y] w fun e w' => e = .returned (.int .i64 0) ∧ IsBox 81 w' b c cap (buf ++ [pv x y]) ∧ Kp (· = c) w w' := by
  have H := Lib.hid (h.alloc (pb x y))
  have HK : Hid (Kp (· = c) w (w.alloc (pb x y))) := (Kp.refl _ _).alloc _
  obtain ⟨h0, _⟩ := cells1 H.out.1
  obtain ⟨g0, g1, _, _⟩ := cells2 (heap_alloc_same w (pb x y))
  obtain ⟨s, r, hc⟩ := H.out.2
  have HC := Lib.hid hc
  clear h hc
  go_enter Try.func29, Try.ntmps29
  go_upto_region 5 with (go_at_call 38; refine (bnoneP H.out).mono ?_; rintro e w' ⟨rfl, rfl⟩)
  refine wp_comm 0 rfl ?_
  simp only [List.take, List.drop, Nat.zero_add, List.getD_cons_zero]
  refine wpList_nil ?_
  refine ⟨_, _, commSendRoom (v := pv x y) (z := pv 0 0) ?_ HC.out (by simpa using hr), ?_⟩
  · have hz := zeroP
    go_simp
    rfl
  go_wp2
  go_ret
  have := H.out.set (arr := (buf ++ [pv x y]).toArray) (buf' := buf ++ [pv x y]) rfl (s + 1) r
  exact ⟨rfl, this.1, HK.out.trans this.2 (fun _ h => .inl h)⟩
theorem putP_full (x y : Int) (h : IsBox 81 w b c cap buf) (hr : cap ≤ buf.length) :
    Calls Try.prog 29 #[.pointer (some ⟨b, 0, none⟩), pv x y] w fun e w' => e = .returned (.int .i64 5) ∧ IsBox 81 w' b c cap buf ∧ Kp (· = c) w w' := by
  have H := Lib.hid (h.alloc (pb x y))
  have HK : Hid (Kp (· = c) w (w.alloc (pb x y))) := (Kp.refl _ _).alloc _
  obtain ⟨h0, _⟩ := cells1 H.out.1
  obtain ⟨g0, g1, _, _⟩ := cells2 (heap_alloc_same w (pb x y))
  obtain ⟨s, r, hc⟩ := H.out.2
  have HC := Lib.hid hc
  clear h hc
  go_enter Try.func29, Try.ntmps29
  go_upto_region 5 with (go_at_call 38; refine (bnoneP H.out).mono ?_; rintro e w' ⟨rfl, rfl⟩)
  refine wp_comm 0 rfl ?_
  simp only [List.take, List.drop, Nat.zero_add, List.getD_cons_zero]
  refine wpList_nil ?_
  refine ⟨_, _, commSendFull (v := pv x y) (z := pv 0 0) ?_ HC.out (by simpa using hr), ?_⟩
  · have hz := zeroP
    go_simp
    rfl
  go_wp2
  go_ret
  exact ⟨rfl, H.out, HK.out⟩
theorem takeP_some {x y : Int} (h : IsBox 81 w b c cap (pv x y :: buf)) :
    Calls Try.prog 31 #[.pointer (some ⟨b, 0, none⟩)] w fun e w' => e = .returned (.tuple #[pv x y, .int .i64 0]) ∧ IsBox 81 w' b c cap buf ∧ Kp (· = c) w w' := by
  have HB := Lib.hid ((h.alloc (pb 0 0)).alloc (pb 0 0))
  have HK : Hid (Kp (· = c) w ((w.alloc (pb 0 0)).alloc (pb 0 0))) := ((Kp.refl _ _).alloc _).alloc _
  have HR := Lib.hid (blk_alloc (pb 0 0) (heap_alloc_same w (pb 0 0)))
  obtain ⟨h0, _⟩ := cells1 HB.out.1
  obtain ⟨s, r, hc⟩ := HB.out.2
  have HC := Lib.hid hc
  have hlt := h.lt
  clear h hc
  go_enter Try.func31, Try.ntmps31
  go_upto_region 5 with (go_at_call 38; refine (bnoneP HB.out).mono ?_; rintro e w' ⟨rfl, rfl⟩)
  refine wp_comm 0 rfl ?_
  simp only [List.take, List.drop, Nat.zero_add, List.getD_cons_zero]
  refine wpList_nil ?_
  refine ⟨_, _, commRecvSome (z := pv 0 0) ?_ HC.out (by simp), ?_⟩
  · have hz := zeroP
    go_simp
    rfl
  have hv : (pv x y :: buf).toArray.getD 0 undef = pv x y := by simp
  rw [hv]
  have HE := Lib.hid (HB.out.set (arr := (pv x y :: buf).toArray.extract 1 (pv x y :: buf).toArray.size) (buf' := buf) (extract_tail _ _) s (r + 1))
  have HK3 := Lib.hid (HK.out.trans HE.out.2 (fun _ h => .inl h))
  have HR3 := Lib.hid (HE.out.2.blk HR.out (by omega))
  clear HC HB HK HR h0 hv
  generalize ((w.alloc (pb 0 0)).alloc (pb 0 0)).setChan c cap _ false s (r + 1) false = w3 at *
  have hs3 := lt_blk HR3.out
  obtain ⟨q0, q1, qf0, qf1⟩ := cells2 HR3.out
  go_wp2_with fail
  have hb1 : (w3.setCell ⟨w.heap.size, 0, none⟩ (.int .i64 x)).heap[w.heap.size]? = some (.cells #[.int .i64 x, .int .i64 0] 62) := by rw [setCell_setB (.int .i64 x) HR3.out]; exact setB_same _ hs3
  have hb2 : ((w3.setCell ⟨w.heap.size, 0, none⟩ (.int .i64 x)).setCell ⟨w.heap.size, 1, none⟩ (.int .i64 y)).heap[w.heap.size]? = some (pb x y) := by rw [setCell_setB (.int .i64 y) hb1]; exact setB_same _ (lt_blk hb1)
  obtain ⟨r0, r1, _, _⟩ := cells2 (blk_alloc (pb x y) hb2)
  have k5 := ((((Kp.refl (· = w.heap.size) w3).setCell (p := ⟨w.heap.size, 0, none⟩) (.inl rfl) (.int .i64 x)).setCell (p := ⟨w.heap.size, 1, none⟩) (.inl rfl) (.int .i64 y)).alloc (pb x y))
  refine bodyPost_ret (v := .tuple #[pv x y, .int .i64 0]) ?_ rfl ⟨rfl, HE.out.1.kept k5 (by omega) (by omega), HK3.out.trans k5 (fun i h => .inr (by omega))⟩
  simp [results, Try.results31, go_sem, r0, r1]
theorem takeP_none (h : IsBox 81 w b c cap []) :
    Calls Try.prog 31 #[.pointer (some ⟨b, 0, none⟩)] w fun e w' => e = .returned (.tuple #[pv 0 0, .int .i64 4]) ∧ IsBox 81 w' b c cap [] ∧ Kp (· = c) w w' := by
  have HB := Lib.hid ((h.alloc (pb 0 0)).alloc (pb 0 0))
  have HK : Hid (Kp (· = c) w ((w.alloc (pb 0 0)).alloc (pb 0 0))) := ((Kp.refl _ _).alloc _).alloc _
  have HR := Lib.hid (blk_alloc (pb 0 0) (heap_alloc_same w (pb 0 0)))
  obtain ⟨h0, _⟩ := cells1 HB.out.1
  obtain ⟨s, r, hc⟩ := HB.out.2
  have HC := Lib.hid hc
  have hlt := h.lt
  obtain ⟨q0, q1, qf0, qf1⟩ := cells2 HR.out
  obtain ⟨p0, p1, pf0, pf1⟩ := cells2 (heap_alloc_same (w.alloc (pb 0 0)) (pb 0 0))
  clear h hc
  go_enter Try.func31, Try.ntmps31
  go_upto_region 5 with (go_at_call 38; refine (bnoneP HB.out).mono ?_; rintro e w' ⟨rfl, rfl⟩)
  refine wp_comm 0 rfl ?_
  simp only [List.take, List.drop, Nat.zero_add, List.getD_cons_zero]
  refine wpList_nil ?_
  refine ⟨_, _, commRecvNone (z := pv 0 0) ?_ HC.out, ?_⟩
  · have hz := zeroP
    go_simp
    rfl
  go_wp2_with fail
  refine bodyPost_ret (v := .tuple #[pv 0 0, .int .i64 4]) ?_ rfl ⟨rfl, HB.out, HK.out⟩
  simp [results, Try.results31, go_sem, q0, q1]
set_option maxHeartbeats 2000000 in
theorem cloneP (hbuf : ∀ v ∈ buf, ∃ x y, v = pv x y) (h : IsBox 81 w b c cap buf) (hlen : buf.length ≤ cap) (hcap : cap ≤ 4096) :
    Calls Try.prog 30 #[.pointer (some ⟨b, 0, none⟩)] w fun e w' => ∃ b' c', e = .returned (.pointer (some ⟨b', 0, none⟩)) ∧ w.heap.size ≤ b' ∧ w.heap.size ≤ c' ∧ IsBox 81 w' b' c' cap buf ∧ IsBox 81 w' b c cap buf ∧ Kp (· = c) w w' := by
  obtain ⟨h0, _⟩ := cells1 h.1
  obtain ⟨s, r, hc⟩ := h.2
  have hL := run_cap_chan (P := Try.prog) (w := w) 79 3 Try.underlying79 hc
  have H := Lib.hid h
  have hmk := mkChanP cap (by omega)
  have hlt := lt_blk h.1
  have HV := Lib.hid hbuf
  clear h hbuf
  have hL2 := run_len_chan (P := Try.prog) (w := (w.alloc (.chan cap #[] false 0 0 false)).alloc (.cells #[.chan (some w.heap.size)] 81)) 79 3 Try.underlying79 (blk_alloc _ (blk_alloc _ hc))
  have HC := Lib.hid hc
  clear hc
  go_enter Try.func30, Try.ntmps30
  go_wp2_with (go_at_call 38; refine (bnoneP H.out).mono ?_; rintro e w' ⟨rfl, rfl⟩)
  clear hL hL2 h0 hmk
  have HK : Hid (Kp (· = c) w ((w.alloc (.chan cap #[] false 0 0 false)).alloc (.cells #[.chan (some w.heap.size)] 81))) := ((Kp.refl _ _).alloc _).alloc _
  have HB : Hid (IsBox 81 ((w.alloc (.chan cap #[] false 0 0 false)).alloc (.cells #[.chan (some w.heap.size)] 81)) b c cap buf) := (H.out.alloc _).alloc _
  have HD : Hid (IsBox 81 ((w.alloc (.chan cap #[] false 0 0 false)).alloc (.cells #[.chan (some w.heap.size)] 81)) (w.heap.size + 1) w.heap.size cap []) := IsBox.new _ _ _
  have hcw := H.out.lt.2
  clear HC
  go_loopw [20] (fun i wr => ∃ k : Nat, k ≤ buf.length ∧ i = .int .i64 k ∧ Hid (IsBox 81 wr b c cap (buf.drop k ++ buf.take k)) ∧ Hid (IsBox 81 wr (w.heap.size + 1) w.heap.size cap (buf.take k)) ∧ Hid (Kp (· = c) w wr)) (fun i _ => buf.length - (intOf i).toNat)
  case atStart => exact ⟨0, Nat.zero_le _, rfl, by simpa using HB, by simpa using HD, HK⟩
  case round =>
    obtain ⟨k, hk, rfl, HB', HD', HK'⟩ := hrel
    clear HB HD HK H
    by_cases hlt : k < buf.length
    · have HX : Hid (buf.drop k = buf[k] :: buf.drop (k + 1)) := List.drop_eq_getElem_cons hlt
      have HY : Hid (buf.take (k + 1) = buf.take k ++ [buf[k]]) := List.take_succ_eq_append_getElem hlt
      obtain ⟨v, hv⟩ : ∃ v, v = buf[k] := ⟨_, rfl⟩
      obtain ⟨p, q, hpq⟩ := HV.out v (by rw [hv]; exact List.getElem_mem _)
      rw [← hv] at HX HY
      clear hv
      subst hpq
      have HB1 := HB'.out
      rw [HX.out, List.cons_append] at HB1
      have HB1' := Lib.hid HB1
      obtain ⟨h0, _⟩ := cells1 HB1.1
      obtain ⟨s1, r1, hc1⟩ := HB1.2
      have HC1 := Lib.hid hc1
      clear HB1 hc1 HB'
      go_upto_region 6 with (fail)
      refine wp_comm 4 rfl ?_
      simp only [List.take, List.drop, Nat.zero_add, Nat.reduceAdd, List.getD_cons_zero, List.getD_cons_succ]
      repeat go_step
      refine ⟨_, _, commRecv (z := pv 0 0) ?_ HC1.out (by simp), ?_⟩
      · have hz := zeroP
        go_simp
        rfl
      have hv0 : (pv p q :: (buf.drop (k + 1) ++ buf.take k)).toArray.getD 0 undef = pv p q := by simp
      rw [hv0]
      have HE := Lib.hid (HB1'.out.set (arr := (pv p q :: (buf.drop (k + 1) ++ buf.take k)).toArray.extract 1 (pv p q :: (buf.drop (k + 1) ++ buf.take k)).toArray.size) (buf' := buf.drop (k + 1) ++ buf.take k) (extract_tail _ _) s1 (r1 + 1))
      clear hv0 HB1' HC1 h0
      generalize wr.setChan c cap _ false s1 (r1 + 1) false = wr1 at *
      have HD1 := Lib.hid ((HD'.out.kept HE.out.2 (by omega) (by omega)).alloc (pb p q))
      have HK1 := Lib.hid ((HK'.out.trans HE.out.2 (fun _ h => .inl h)).alloc (pb p q))
      have HE1 := Lib.hid (HE.out.1.alloc (pb p q))
      have HG1 := Lib.hid (heap_alloc_same wr1 (pb p q))
      have hgc : wr1.heap.size ≠ c ∧ wr1.heap.size ≠ w.heap.size := ⟨by have := HE.out.1.lt; omega, by have := (HD'.out.kept HE.out.2 (by omega) (by omega)).lt; omega⟩
      clear HD' HK' HE
      go_upto_region 7 with (fail)
      generalize wr1.alloc (pb p q) = wa at *
      generalize wr1.heap.size = gx at *
      obtain ⟨h0, _⟩ := cells1 HE1.out.1
      obtain ⟨g0, g1, _, _⟩ := cells2 HG1.out
      have m0 := fun d os => cell_regrown (d := d) (os := os) h0
      have m1 := fun d os => cell_regrown (d := d) (os := os) g0
      have m2 := fun d os => cell_regrown (d := d) (os := os) g1
      clear h0 g0 g1
      refine wp_region_draw_comm 5 rfl rfl (by kernel_rfl) rfl (by kernel_rfl) ?_
      simp only [List.take_succ_cons, List.take_zero]
      repeat (go_big_quiet_step (fail))
      refine wpQuiet_nil ?_
      intro _ hw'
      obtain ⟨⟨dq, osq⟩, hw''⟩ := hw'
      subst hw''
      clear m0 m1 m2
      have HE2 := Lib.hid (HE1.out.kept (kn_regrown wa dq osq) id id)
      have HD2 := Lib.hid (HD1.out.kept (kn_regrown wa dq osq) id id)
      have HG2 := Lib.hid ((kn_regrown wa dq osq).blk HG1.out id)
      have HK2 := Lib.hid (HK1.out.trans (kn_regrown wa dq osq) (fun _ h => h.elim))
      clear HE1 HD1 HG1 HK1
      generalize grow (redrawn wa dq) osq = wb at *
      obtain ⟨s2, r2, hc2⟩ := HE2.out.2
      refine ⟨_, _, commSend (z := .tuple #[]) (v := pv p q) ?_ hc2 (by simp; omega), ?_⟩
      · go_simp
        rfl
      clear hc2
      have HF := Lib.hid (HE2.out.set (arr := (buf.drop (k + 1) ++ buf.take k).toArray.push (pv p q)) (buf' := buf.drop (k + 1) ++ buf.take (k + 1)) (by rw [HY.out]; simp) (s2 + 1) r2)
      clear HE2
      generalize wb.setChan c cap _ false (s2 + 1) r2 false = wr2 at *
      simp only [Act.put]
      have HD3 := Lib.hid (HD2.out.kept HF.out.2 (by omega) (by omega))
      have HK3 := Lib.hid (HK2.out.trans HF.out.2 (fun _ h => .inl h))
      have HG3 := Lib.hid (HF.out.2.blk HG2.out hgc.1)
      have HF3 := Lib.hid HF.out.1
      clear HD2 HK2 HG2 HF
      go_upto_region 8 with (fail)
      obtain ⟨h0, _⟩ := cells1 HD3.out.1
      obtain ⟨g0, g1, _, _⟩ := cells2 HG3.out
      have m0 := fun d os => cell_regrown (d := d) (os := os) h0
      have m1 := fun d os => cell_regrown (d := d) (os := os) g0
      have m2 := fun d os => cell_regrown (d := d) (os := os) g1
      clear h0 g0 g1
      refine wp_region_draw_comm 5 rfl rfl (by kernel_rfl) rfl (by kernel_rfl) ?_
      simp only [List.take_succ_cons, List.take_zero]
      repeat (go_big_quiet_step (fail))
      refine wpQuiet_nil ?_
      intro _ hw'
      obtain ⟨⟨dq, osq⟩, hw''⟩ := hw'
      subst hw''
      clear m0 m1 m2
      have HF4 := Lib.hid (HF3.out.kept (kn_regrown wr2 dq osq) id id)
      have HD4 := Lib.hid (HD3.out.kept (kn_regrown wr2 dq osq) id id)
      have HK4 := Lib.hid (HK3.out.trans (kn_regrown wr2 dq osq) (fun _ h => h.elim))
      clear HF3 HD3 HG3 HK3
      generalize grow (redrawn wr2 dq) osq = wc at *
      obtain ⟨s3, r3, hc3⟩ := HD4.out.2
      refine ⟨_, _, commSend (z := .tuple #[]) (v := pv p q) ?_ hc3 (by simp; omega), ?_⟩
      · go_simp
        rfl
      clear hc3
      have HG := Lib.hid (HD4.out.set (arr := (buf.take k).toArray.push (pv p q)) (buf' := buf.take (k + 1)) (by rw [HY.out]; simp) (s3 + 1) r3)
      clear HD4
      generalize wc.setChan w.heap.size cap _ false (s3 + 1) r3 false = wr3 at *
      have HF5 := Lib.hid (HF4.out.kept HG.out.2 (by have := HF4.out.lt; omega) (by omega))
      have HK5 := Lib.hid (HK4.out.trans HG.out.2 (fun _ h => .inr (by omega)))
      have HG5 := Lib.hid HG.out.1
      clear HG HF4 HK4
      go_wp2
      go_roundw
      case rel => exact ⟨k + 1, by omega, by go_num, HF5, HG5, HK5⟩
      case measure => simp [intOf]; omega
    · obtain rfl : k = buf.length := by omega
      go_wp2
      go_ret
      refine ⟨w.heap.size + 1, w.heap.size, rfl, by omega, by omega, ?_, ?_, HK'.out⟩
      · have := HD'.out; rwa [List.take_length] at this
      · have := HB'.out; rwa [List.take_length, List.drop_length, List.nil_append] at this
end
end Go.Proofs.Ytohiookmpjeddaa
