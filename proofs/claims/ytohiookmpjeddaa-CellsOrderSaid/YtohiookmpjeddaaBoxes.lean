/- The walks of boxes: one contract a method. Printed by wip/boxes.py. -/
import Derived.Test.YtohiookmpjeddaaProg
import Derived.Test.YtohiookmpjeddaaHeap
import Derived.Test.YtohiookmpjeddaaComm
import Derived.WalkKit
import Derived.KernelRfl
import Derived.Outline
import Derived.Lib.Hide
import Derived.Deep.QuietTactic
import Derived.BigQuiet
import Derived.Deep.DeepCutAuto
import Derived.Conc.LoneSelectN
namespace Go.Proofs.Ytohiookmpjeddaa
set_option linter.unusedVariables false
set_option linter.unusedSimpArgs false
open Go Go.RowKit Go.Conc

theorem extract_tail (v : Value) (l : List Value) : (v :: l).toArray.extract 1 (v :: l).toArray.size = l.toArray := by
  simp

/-- A box of type T: its block, its channel's block, its room, what waits. -/
def IsBox (T : TypeId) (w : World) (b c cap : Nat) (buf : List Value) : Prop :=
  w.heap[b]? = some (.cells #[.chan (some c)] T) ∧ ∃ s r, w.heap[c]? = some (.chan cap buf.toArray false s r false)
theorem IsBox.kept {T : TypeId} {w w' : World} {b c cap : Nat} {buf : List Value} (h : IsBox T w b c cap buf) {S : Nat → Prop} (k : Kp S w w') (hb : ¬ S b) (hc : ¬ S c) : IsBox T w' b c cap buf :=
  ⟨k.blk h.1 hb, let ⟨s, r, hh⟩ := h.2; ⟨s, r, k.blk hh hc⟩⟩
theorem IsBox.alloc {T : TypeId} {w : World} {b c cap : Nat} {buf : List Value} (h : IsBox T w b c cap buf) (o : Obj) : IsBox T (w.alloc o) b c cap buf := h.kept ((Kp.refl (fun _ => False) w).alloc o) id id
theorem IsBox.ne {T : TypeId} {w : World} {b c cap : Nat} {buf : List Value} (h : IsBox T w b c cap buf) : b ≠ c := let ⟨s, r, hh⟩ := h.2; ne_blk h.1 hh (by simp)
theorem IsBox.lt {T : TypeId} {w : World} {b c cap : Nat} {buf : List Value} (h : IsBox T w b c cap buf) : b < w.heap.size ∧ c < w.heap.size := let ⟨s, r, hh⟩ := h.2; ⟨lt_blk h.1, lt_blk hh⟩
theorem IsBox.set {T : TypeId} {w : World} {b c cap : Nat} {buf : List Value} (h : IsBox T w b c cap buf) {arr : Array Value} {buf' : List Value} (ha : arr = buf'.toArray) (s r : Nat) :
    IsBox T (w.setChan c cap arr false s r false) b c cap buf' ∧ Kp (· = c) w (w.setChan c cap arr false s r false) := by
  subst ha
  refine ⟨⟨(setB_other w _ (Ne.symm h.ne)).trans h.1, s, r, setB_same _ h.lt.2⟩, ?_⟩
  exact (Kp.refl (· = c) w).setB (.inl rfl) _
theorem IsBox.drewN {T : TypeId} {w : World} {b c cap : Nat} {buf : List Value} (h : IsBox T w b c cap buf) (n : Nat) : IsBox T (w.drewN n) b c cap buf := h
theorem IsBox.noCell {T : TypeId} {w : World} {b c cap : Nat} {buf : List Value} (h : IsBox T w b c cap buf) (E : TypeId) : ∀ k : Nat, k = c → ∀ cs fr, w.heap[k]? ≠ some (Obj.cells cs E fr) := fun k hk cs fr hh => by
  subst hk
  obtain ⟨_, s, r, hc⟩ := h
  rw [hc] at hh
  cases hh
theorem IsBox.new (w : World) (T : TypeId) (cap : Nat) : IsBox T ((w.alloc (.chan cap #[] false 0 0 false)).alloc (.cells #[.chan (some w.heap.size)] T)) (w.heap.size + 1) w.heap.size cap [] := by
  refine ⟨?_, 0, 0, ?_⟩
  · have := heap_alloc_same (w.alloc (.chan cap #[] false 0 0 false)) (.cells #[.chan (some w.heap.size)] T)
    simpa using this
  · exact blk_alloc _ (heap_alloc_same w _)

theorem zeroS (w : World) : (zeroValue 9).run Try.prog w = .ok (.string ByteArray.empty) w := by kernel_rfl
theorem bytesS : ∃ i, Try.prog.info? 9 = some i ∧ i.bytes = 16 := by
  have h : (Try.prog.info? 9).map (·.bytes) = some 16 := by kernel_rfl
  obtain ⟨i, hi, hb⟩ := Option.map_eq_some_iff.1 h
  exact ⟨i, hi, hb⟩
theorem mkChanS (n : Nat) (h1 : n ≤ 4096) (w : World) : (Instr.makeChan 71 (.int .i64 (n : Int))).run Try.prog w = .ok (.chan (some w.heap.size)) (w.alloc (.chan n #[] false 0 0 false)) := by
  obtain ⟨i, hi, hb⟩ := bytesS
  exact run_makeChan (P := Try.prog) (w := w) Try.underlying71 hi .i64 n (by omega) (by rw [hb]; omega)
theorem newBoxS_bad (n : Int) (h : n < 1 ∨ 4096 < n) (w : World) : Calls Try.prog 19 #[.int .i64 n] w fun e w' => e = .returned (.tuple #[.pointer none, .int .i64 1]) ∧ w = w' := by
  rcases h with h | h
  · go_enter Try.func19, Try.ntmps19
    go_wp2
    go_ret2
    exact ⟨rfl, rfl⟩
  · have h' : ¬ n < 1 := by omega
    go_enter Try.func19, Try.ntmps19
    go_wp2
    go_ret2
    exact ⟨rfl, rfl⟩
theorem newBoxS (n : Nat) (h0 : 1 ≤ n) (h1 : n ≤ 4096) (w : World) : Calls Try.prog 19 #[.int .i64 (n : Int)] w fun e w' => e = .returned (.tuple #[.pointer (some ⟨w.heap.size + 1, 0, none⟩), .int .i64 0]) ∧
    w' = (w.alloc (.chan n #[] false 0 0 false)).alloc (.cells #[.chan (some w.heap.size)] 73) := by
  have h2 : ¬ (n : Int) < 1 := by omega
  have h3 : ¬ 4096 < (n : Int) := by omega
  have hmk := mkChanS n h1
  go_enter Try.func19, Try.ntmps19
  go_wp2
  go_ret2
  exact ⟨rfl, rfl⟩
section
variable {b c cap : Nat} {w : World} {buf : List Value}
theorem bnoneS (h : IsBox 73 w b c cap buf) : Calls Try.prog 37 #[.pointer (some ⟨b, 0, none⟩)] w fun e w' => e = .returned (.bool false) ∧ w = w' := by
  obtain ⟨h0, _⟩ := cells1 h.1
  have he := run_eql_chan Try.underlying71
  clear h
  go_enter Try.func37, Try.ntmps37
  go_wp2
  go_ret
  exact ⟨rfl, rfl⟩
theorem lenS (h : IsBox 73 w b c cap buf) : Calls Try.prog 26 #[.pointer (some ⟨b, 0, none⟩)] w fun e w' => e = .returned (.int .i64 buf.length) ∧ w = w' := by
  obtain ⟨h0, _⟩ := cells1 h.1
  obtain ⟨s, r, hc⟩ := h.2
  have hL := run_len_chan (P := Try.prog) (w := w) 71 3 Try.underlying71 hc
  have H := Lib.hid h
  clear h hc
  go_enter Try.func26, Try.ntmps26
  go_wp2_with (go_at_call 37; refine (bnoneS H.out).mono ?_; rintro e w' ⟨rfl, rfl⟩)
  go_ret
  exact ⟨by simp [goInt], rfl⟩
theorem roomS (h : IsBox 73 w b c cap buf) : Calls Try.prog 27 #[.pointer (some ⟨b, 0, none⟩)] w fun e w' => e = .returned (.int .i64 cap) ∧ w = w' := by
  obtain ⟨h0, _⟩ := cells1 h.1
  obtain ⟨s, r, hc⟩ := h.2
  have hL := run_cap_chan (P := Try.prog) (w := w) 71 3 Try.underlying71 hc
  have H := Lib.hid h
  clear h hc
  go_enter Try.func27, Try.ntmps27
  go_wp2_with (go_at_call 37; refine (bnoneS H.out).mono ?_; rintro e w' ⟨rfl, rfl⟩)
  go_ret
  exact ⟨by simp [goInt], rfl⟩
theorem putS_room (v : Value) (h : IsBox 73 w b c cap buf) (hr : buf.length < cap) :
    Calls Try.prog 21 #[.pointer (some ⟨b, 0, none⟩), v] w fun e w' => e = .returned (.int .i64 0) ∧ IsBox 73 w' b c cap (buf ++ [v]) ∧ Kp (· = c) w w' := by
  obtain ⟨h0, _⟩ := cells1 h.1
  obtain ⟨s, r, hc⟩ := h.2
  have HC := Lib.hid hc
  have H := Lib.hid h
  clear h hc
  go_enter Try.func21, Try.ntmps21
  go_upto_region 5 with (go_at_call 37; refine (bnoneS H.out).mono ?_; rintro e w' ⟨rfl, rfl⟩)
  refine wp_comm 0 rfl ?_
  simp only [List.take, List.drop, Nat.zero_add, List.getD_cons_zero]
  refine wpList_nil ?_
  refine ⟨_, _, commSendRoom (v := v) (z := .string ByteArray.empty) ?_ HC.out (by simpa using hr), ?_⟩
  · have hz := zeroS
    go_simp
    rfl
  go_wp2
  go_ret
  exact ⟨rfl, H.out.set (by simp) _ _⟩
theorem putS_full (v : Value) (h : IsBox 73 w b c cap buf) (hr : cap ≤ buf.length) :
    Calls Try.prog 21 #[.pointer (some ⟨b, 0, none⟩), v] w fun e w' => e = .returned (.int .i64 5) ∧ w = w' := by
  obtain ⟨h0, _⟩ := cells1 h.1
  obtain ⟨s, r, hc⟩ := h.2
  have HC := Lib.hid hc
  have H := Lib.hid h
  clear h hc
  go_enter Try.func21, Try.ntmps21
  go_upto_region 5 with (go_at_call 37; refine (bnoneS H.out).mono ?_; rintro e w' ⟨rfl, rfl⟩)
  refine wp_comm 0 rfl ?_
  simp only [List.take, List.drop, Nat.zero_add, List.getD_cons_zero]
  refine wpList_nil ?_
  refine ⟨_, _, commSendFull (v := v) (z := .string ByteArray.empty) ?_ HC.out (by simpa using hr), ?_⟩
  · have hz := zeroS
    go_simp
    rfl
  go_wp2
  go_ret
  exact ⟨rfl, rfl⟩
theorem takeS_some {v : Value} (h : IsBox 73 w b c cap (v :: buf)) :
    Calls Try.prog 23 #[.pointer (some ⟨b, 0, none⟩)] w fun e w' => e = .returned (.tuple #[v, .int .i64 0]) ∧ IsBox 73 w' b c cap buf ∧ Kp (· = c) w w' := by
  obtain ⟨h0, _⟩ := cells1 h.1
  obtain ⟨s, r, hc⟩ := h.2
  have HC := Lib.hid hc
  have H := Lib.hid h
  clear h hc
  go_enter Try.func23, Try.ntmps23
  go_upto_region 5 with (go_at_call 37; refine (bnoneS H.out).mono ?_; rintro e w' ⟨rfl, rfl⟩)
  refine wp_comm 0 rfl ?_
  simp only [List.take, List.drop, Nat.zero_add, List.getD_cons_zero]
  refine wpList_nil ?_
  refine ⟨_, _, commRecvSome (z := .string ByteArray.empty) ?_ HC.out (by simp), ?_⟩
  · have hz := zeroS
    go_simp
    rfl
  have hv : (v :: buf).toArray.getD 0 undef = v := by simp
  rw [hv]
  go_wp2
  go_ret2
  exact ⟨rfl, H.out.set (by simp) _ _⟩
theorem takeS_none (h : IsBox 73 w b c cap []) :
    Calls Try.prog 23 #[.pointer (some ⟨b, 0, none⟩)] w fun e w' => e = .returned (.tuple #[.string ByteArray.empty, .int .i64 4]) ∧ w = w' := by
  obtain ⟨h0, _⟩ := cells1 h.1
  obtain ⟨s, r, hc⟩ := h.2
  have HC := Lib.hid hc
  have H := Lib.hid h
  clear h hc
  go_enter Try.func23, Try.ntmps23
  go_upto_region 5 with (go_at_call 37; refine (bnoneS H.out).mono ?_; rintro e w' ⟨rfl, rfl⟩)
  refine wp_comm 0 rfl ?_
  simp only [List.take, List.drop, Nat.zero_add, List.getD_cons_zero]
  refine wpList_nil ?_
  refine ⟨_, _, commRecvNone (z := .string ByteArray.empty) ?_ HC.out, ?_⟩
  · have hz := zeroS
    go_simp
    rfl
  go_wp2
  go_ret2
  exact ⟨rfl, rfl⟩
theorem cloneS (h : IsBox 73 w b c cap buf) (hlen : buf.length ≤ cap) (hcap : cap ≤ 4096) :
    Calls Try.prog 25 #[.pointer (some ⟨b, 0, none⟩)] w fun e w' => ∃ b' c', e = .returned (.pointer (some ⟨b', 0, none⟩)) ∧ w.heap.size ≤ b' ∧ w.heap.size ≤ c' ∧ IsBox 73 w' b' c' cap buf ∧ IsBox 73 w' b c cap buf ∧ Kp (· = c) w w' := by
  obtain ⟨h0, _⟩ := cells1 h.1
  obtain ⟨s, r, hc⟩ := h.2
  have hL := run_cap_chan (P := Try.prog) (w := w) 71 3 Try.underlying71 hc
  have H := Lib.hid h
  have hmk := mkChanS cap (by omega)
  have hlt := lt_blk h.1
  clear h
  have hL2 := run_len_chan (P := Try.prog) (w := (w.alloc (.chan cap #[] false 0 0 false)).alloc (.cells #[.chan (some w.heap.size)] 73)) 71 3 Try.underlying71 (blk_alloc _ (blk_alloc _ hc))
  have HC := Lib.hid hc
  clear hc
  go_enter Try.func25, Try.ntmps25
  go_wp2_with (go_at_call 37; refine (bnoneS H.out).mono ?_; rintro e w' ⟨rfl, rfl⟩)
  clear hL hL2 h0 hmk
  have HK : Hid (Kp (· = c) w ((w.alloc (.chan cap #[] false 0 0 false)).alloc (.cells #[.chan (some w.heap.size)] 73))) := ((Kp.refl _ _).alloc _).alloc _
  have HB : Hid (IsBox 73 ((w.alloc (.chan cap #[] false 0 0 false)).alloc (.cells #[.chan (some w.heap.size)] 73)) b c cap buf) := (H.out.alloc _).alloc _
  have HD : Hid (IsBox 73 ((w.alloc (.chan cap #[] false 0 0 false)).alloc (.cells #[.chan (some w.heap.size)] 73)) (w.heap.size + 1) w.heap.size cap []) := IsBox.new _ _ _
  have hcw := H.out.lt.2
  clear HC
  go_loopw [20] (fun i wr => ∃ k : Nat, k ≤ buf.length ∧ i = .int .i64 k ∧ Hid (IsBox 73 wr b c cap (buf.drop k ++ buf.take k)) ∧ Hid (IsBox 73 wr (w.heap.size + 1) w.heap.size cap (buf.take k)) ∧ Hid (Kp (· = c) w wr)) (fun i _ => buf.length - (intOf i).toNat)
  case atStart => exact ⟨0, Nat.zero_le _, rfl, by simpa using HB, by simpa using HD, HK⟩
  case round =>
    obtain ⟨k, hk, rfl, HB', HD', HK'⟩ := hrel
    clear HB HD HK H
    by_cases hlt : k < buf.length
    · have HX : Hid (buf.drop k = buf[k] :: buf.drop (k + 1)) := List.drop_eq_getElem_cons hlt
      have HY : Hid (buf.take (k + 1) = buf.take k ++ [buf[k]]) := List.take_succ_eq_append_getElem hlt
      obtain ⟨v, hv⟩ : ∃ v, v = buf[k] := ⟨_, rfl⟩
      rw [← hv] at HX HY
      clear hv
      have HB1 := HB'.out
      rw [HX.out, List.cons_append] at HB1
      have HB1' := Lib.hid HB1
      obtain ⟨h0, _⟩ := cells1 HB1.1
      obtain ⟨s1, r1, hc1⟩ := HB1.2
      have HC1 := Lib.hid hc1
      clear HB1 hc1 HB'
      go_upto_region 6 with (fail)
      refine wp_comm 4 rfl ?_
      simp only [List.take, List.drop, Nat.zero_add, Nat.reduceAdd, List.getD_cons_zero, List.getD_cons_succ]
      repeat go_step
      refine ⟨_, _, commRecv (z := .string ByteArray.empty) ?_ HC1.out (by simp), ?_⟩
      · have hz := zeroS
        go_simp
        rfl
      have hv0 : (v :: (buf.drop (k + 1) ++ buf.take k)).toArray.getD 0 undef = v := by simp
      rw [hv0]
      have HE := Lib.hid (HB1'.out.set (arr := (v :: (buf.drop (k + 1) ++ buf.take k)).toArray.extract 1 (v :: (buf.drop (k + 1) ++ buf.take k)).toArray.size) (buf' := buf.drop (k + 1) ++ buf.take k) (extract_tail _ _) s1 (r1 + 1))
      clear hv0 HB1' HC1 h0
      generalize wr.setChan c cap _ false s1 (r1 + 1) false = wr1 at *
      have HD1 := Lib.hid (HD'.out.kept HE.out.2 (by omega) (by omega))
      have HK1 := Lib.hid (HK'.out.trans HE.out.2 (fun _ h => .inl h))
      clear HD' HK'
      obtain ⟨h0, _⟩ := cells1 HE.out.1.1
      obtain ⟨s2, r2, hc2⟩ := HE.out.1.2
      have HC2 := Lib.hid hc2
      clear hc2
      go_upto_region 7 with (fail)
      refine wp_comm 5 rfl ?_
      simp only [List.take, List.drop, Nat.zero_add, Nat.reduceAdd, List.getD_cons_zero, List.getD_cons_succ]
      repeat go_step
      refine ⟨_, _, commSend (z := .tuple #[]) (v := v) ?_ HC2.out (by simp; omega), ?_⟩
      · go_simp
        rfl
      have HF := Lib.hid (HE.out.1.set (arr := (buf.drop (k + 1) ++ buf.take k).toArray.push v) (buf' := buf.drop (k + 1) ++ buf.take (k + 1)) (by rw [HY.out]; simp) (s2 + 1) r2)
      clear HE HC2 h0
      generalize wr1.setChan c cap _ false (s2 + 1) r2 false = wr2 at *
      have HD2 := Lib.hid (HD1.out.kept HF.out.2 (by omega) (by omega))
      have HK2 := Lib.hid (HK1.out.trans HF.out.2 (fun _ h => .inl h))
      clear HD1 HK1
      obtain ⟨h0, _⟩ := cells1 HD2.out.1
      obtain ⟨s3, r3, hc3⟩ := HD2.out.2
      have HC3 := Lib.hid hc3
      clear hc3
      go_upto_region 8 with (fail)
      refine wp_comm 5 rfl ?_
      simp only [List.take, List.drop, Nat.zero_add, Nat.reduceAdd, List.getD_cons_zero, List.getD_cons_succ]
      repeat go_step
      refine ⟨_, _, commSend (z := .tuple #[]) (v := v) ?_ HC3.out (by simp; omega), ?_⟩
      · go_simp
        rfl
      have HG := Lib.hid (HD2.out.set (arr := (buf.take k).toArray.push v) (buf' := buf.take (k + 1)) (by rw [HY.out]; simp) (s3 + 1) r3)
      clear HC3 h0
      generalize wr2.setChan w.heap.size cap _ false (s3 + 1) r3 false = wr3 at *
      have HF3 := Lib.hid (HF.out.1.kept HG.out.2 (by have := HF.out.1.lt; omega) (by omega))
      have HK3 := Lib.hid (HK2.out.trans HG.out.2 (fun _ h => .inr (by omega)))
      have HG3 := Lib.hid HG.out.1
      clear HG HF HD2 HK2
      go_wp2
      go_roundw
      case rel => exact ⟨k + 1, by omega, by go_num, HF3, HG3, HK3⟩
      case measure => simp [intOf]; omega
    · obtain rfl : k = buf.length := by omega
      go_wp2
      go_ret
      refine ⟨w.heap.size + 1, w.heap.size, rfl, by omega, by omega, ?_, ?_, HK'.out⟩
      · have := HD'.out; rwa [List.take_length] at this
      · have := HB'.out; rwa [List.take_length, List.drop_length, List.nil_append] at this
end
theorem zeroP (w : World) : (zeroValue 62).run Try.prog w = .ok (.agg #[.int .i64 0, .int .i64 0]) w := by kernel_rfl
theorem bytesP : ∃ i, Try.prog.info? 62 = some i ∧ i.bytes = 16 := by
  have h : (Try.prog.info? 62).map (·.bytes) = some 16 := by kernel_rfl
  obtain ⟨i, hi, hb⟩ := Option.map_eq_some_iff.1 h
  exact ⟨i, hi, hb⟩
theorem mkChanP (n : Nat) (h1 : n ≤ 4096) (w : World) : (Instr.makeChan 79 (.int .i64 (n : Int))).run Try.prog w = .ok (.chan (some w.heap.size)) (w.alloc (.chan n #[] false 0 0 false)) := by
  obtain ⟨i, hi, hb⟩ := bytesP
  exact run_makeChan (P := Try.prog) (w := w) Try.underlying79 hi .i64 n (by omega) (by rw [hb]; omega)
theorem newBoxP_bad (n : Int) (h : n < 1 ∨ 4096 < n) (w : World) : Calls Try.prog 28 #[.int .i64 n] w fun e w' => e = .returned (.tuple #[.pointer none, .int .i64 1]) ∧ w = w' := by
  rcases h with h | h
  · go_enter Try.func28, Try.ntmps28
    go_wp2
    go_ret2
    exact ⟨rfl, rfl⟩
  · have h' : ¬ n < 1 := by omega
    go_enter Try.func28, Try.ntmps28
    go_wp2
    go_ret2
    exact ⟨rfl, rfl⟩
theorem newBoxP (n : Nat) (h0 : 1 ≤ n) (h1 : n ≤ 4096) (w : World) : Calls Try.prog 28 #[.int .i64 (n : Int)] w fun e w' => e = .returned (.tuple #[.pointer (some ⟨w.heap.size + 1, 0, none⟩), .int .i64 0]) ∧
    w' = (w.alloc (.chan n #[] false 0 0 false)).alloc (.cells #[.chan (some w.heap.size)] 81) := by
  have h2 : ¬ (n : Int) < 1 := by omega
  have h3 : ¬ 4096 < (n : Int) := by omega
  have hmk := mkChanP n h1
  go_enter Try.func28, Try.ntmps28
  go_wp2
  go_ret2
  exact ⟨rfl, rfl⟩
section
variable {b c cap : Nat} {w : World} {buf : List Value}
theorem bnoneP (h : IsBox 81 w b c cap buf) : Calls Try.prog 38 #[.pointer (some ⟨b, 0, none⟩)] w fun e w' => e = .returned (.bool false) ∧ w = w' := by
  obtain ⟨h0, _⟩ := cells1 h.1
  have he := run_eql_chan Try.underlying79
  clear h
  go_enter Try.func38, Try.ntmps38
  go_wp2
  go_ret
  exact ⟨rfl, rfl⟩
theorem lenP (h : IsBox 81 w b c cap buf) : Calls Try.prog 32 #[.pointer (some ⟨b, 0, none⟩)] w fun e w' => e = .returned (.int .i64 buf.length) ∧ w = w' := by
  obtain ⟨h0, _⟩ := cells1 h.1
  obtain ⟨s, r, hc⟩ := h.2
  have hL := run_len_chan (P := Try.prog) (w := w) 79 3 Try.underlying79 hc
  have H := Lib.hid h
  clear h hc
  go_enter Try.func32, Try.ntmps32
  go_wp2_with (go_at_call 38; refine (bnoneP H.out).mono ?_; rintro e w' ⟨rfl, rfl⟩)
  go_ret
  exact ⟨by simp [goInt], rfl⟩
theorem roomP (h : IsBox 81 w b c cap buf) : Calls Try.prog 33 #[.pointer (some ⟨b, 0, none⟩)] w fun e w' => e = .returned (.int .i64 cap) ∧ w = w' := by
  obtain ⟨h0, _⟩ := cells1 h.1
  obtain ⟨s, r, hc⟩ := h.2
  have hL := run_cap_chan (P := Try.prog) (w := w) 79 3 Try.underlying79 hc
  have H := Lib.hid h
  clear h hc
  go_enter Try.func33, Try.ntmps33
  go_wp2_with (go_at_call 38; refine (bnoneP H.out).mono ?_; rintro e w' ⟨rfl, rfl⟩)
  go_ret
  exact ⟨by simp [goInt], rfl⟩
end
end Go.Proofs.Ytohiookmpjeddaa
