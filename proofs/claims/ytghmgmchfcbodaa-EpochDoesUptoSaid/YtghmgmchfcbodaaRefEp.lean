/- The reference's epochs: in memory; New, Pin, Unpin, Pinned. -/
import Derived.Test.YtghmgmchfcbodaaEpochI
import Derived.Test.YtghmgmchfcbodaaPostL
import Derived.StillTailTactics
namespace Go.Proofs.Ytghmgmchfcbodaa
set_option linter.unusedVariables false
set_option linter.unusedSimpArgs false
open Go Go.RowKit

/-- The plain reference. -/
structure Rps where
  now : Nat
  is : List Bool
  at_ : List Int
  limbo : List PW
structure Rps.Fit (ρ : Rps) : Prop where
  pos : 0 < ρ.now
  top : ρ.now < 4611686018427387904
  ilen : ρ.is.length = 17
  alen : ρ.at_.length = 17
def encW (x : PW) : List Value := .int .i64 x.1 :: Re.enc x.2
theorem encW4 (x : PW) : (encW x).length = 4 := rfl
theorem encW1 (x : PW) : ∀ u ∈ encW x, u.oneCell' = true := by
  intro u hu
  rcases List.mem_cons.1 hu with h | h
  · subst h; rfl
  · exact re_one x.2 u h
theorem elt_W : Elt Try.prog 58 88 (.agg #[.int .i64 0, .int .i64 0, .int .i64 0, .int .i64 0]) 4 32 := ⟨Try.underlying58, by kernel_rfl, rfl, by decide⟩
def RC (now : Int) (bs : List Bool) (ts : List Int) (v : Value) : List Value := .int .i64 now :: (bs.map .bool ++ (ts.map (.int .i64) ++ [v]))
def RObj (now : Int) (bs : List Bool) (ts : List Int) (v : Value) : Obj := .cells (RC now bs ts v).toArray 60
def RAt (b : Nat) (ρ : Rps) (a : Option Addr) (cap : Nat) : Asr := All [Blk b (RObj ρ.now ρ.is ρ.at_ (.slice a ρ.limbo.length cap)), RowA 88 4 (.slice a ρ.limbo.length cap) ρ.limbo.length (ρ.limbo.flatMap encW)]
def ReA (b : Nat) (ρ : Rps) : Asr where
  on := fun w F => ∃ a cap, (RAt b ρ a cap).on w F
  keep := fun h k hS => by
    obtain ⟨a, cap, h⟩ := h
    exact ⟨a, cap, (RAt b _ a cap).keep h k hS⟩
  lt := fun h => by
    obtain ⟨a, cap, h⟩ := h
    exact (RAt b _ a cap).lt h
def Rps.isAt (ρ : Rps) (s : Int) : Bool := ρ.is.getD s.toNat false
def Rps.atAt (ρ : Rps) (s : Int) : Int := ρ.at_.getD s.toNat 0
def Rps.pin (ρ : Rps) (s : Int) : Rps × Int := if inS s then (if ρ.isAt s then (ρ, 60) else (⟨ρ.now, ρ.is.set s.toNat true, ρ.at_.set s.toNat ρ.now, ρ.limbo⟩, 0)) else (ρ, 1)
def Rps.unpin (ρ : Rps) (s : Int) : Rps × Int := if inS s then (if ρ.isAt s then (⟨ρ.now, ρ.is.set s.toNat false, ρ.at_, ρ.limbo⟩, 0) else (ρ, 61)) else (ρ, 1)
def Rps.pinned (ρ : Rps) (s : Int) : Int × Bool := if inS s && ρ.isAt s then (ρ.atAt s, true) else (0, false)
section
variable {b : Nat} {ρ : Rps} {w w' : World} {F : Nat → Prop} {a : Option Addr} {cap : Nat} {now : Int} {bs : List Bool} {ts : List Int} {v : Value}
theorem rc_now : (RC now bs ts v).toArray[0]? = some (.int .i64 now) := rfl
theorem rc_is (hb : bs.length = 17) {i : Nat} (hi : i < 17) : (RC now bs ts v).toArray[1 + i]? = some (.bool (bs.getD i false)) := by
  simp only [RC, List.getElem?_toArray]
  rw [Nat.add_comm, List.getElem?_cons_succ, List.getElem?_append_left (by rw [List.length_map]; omega), List.getElem?_map, List.getD, List.getElem?_eq_getElem (by omega)]
  rfl
theorem rc_at (hb : bs.length = 17) (ht : ts.length = 17) {i : Nat} (hi : i < 17) : (RC now bs ts v).toArray[18 + i]? = some (.int .i64 (ts.getD i 0)) := by
  simp only [RC, List.getElem?_toArray]
  rw [show 18 + i = (17 + i) + 1 by omega, List.getElem?_cons_succ, List.getElem?_append_right (by rw [List.length_map]; omega), List.length_map, hb, Nat.add_sub_cancel_left, List.getElem?_append_left (by rw [List.length_map]; omega), List.getElem?_map, List.getD, List.getElem?_eq_getElem (by omega)]
  rfl
theorem rc_v (hb : bs.length = 17) (ht : ts.length = 17) : (RC now bs ts v).toArray[35]? = some v := by
  simp only [RC, List.getElem?_toArray]
  rw [show 35 = 34 + 1 from rfl, List.getElem?_cons_succ, List.getElem?_append_right (by rw [List.length_map]; omega), List.length_map, hb, List.getElem?_append_right (by rw [List.length_map]; omega), List.length_map, ht]
  rfl
theorem rc_set_now {n : Int} : (RC now bs ts v).toArray.setIfInBounds 0 (.int .i64 n) = (RC n bs ts v).toArray := by simp [RC]
theorem rc_set_is (hb : bs.length = 17) {i : Nat} (hi : i < 17) (x : Bool) : (RC now bs ts v).toArray.setIfInBounds (1 + i) (.bool x) = (RC now (bs.set i x) ts v).toArray := by
  simp only [RC, List.setIfInBounds_toArray]
  rw [Nat.add_comm, List.set_cons_succ, List.set_append_left _ _ (by rw [List.length_map]; omega), List.map_set]
theorem rc_set_at (hb : bs.length = 17) (ht : ts.length = 17) {i : Nat} (hi : i < 17) (x : Int) : (RC now bs ts v).toArray.setIfInBounds (18 + i) (.int .i64 x) = (RC now bs (ts.set i x) v).toArray := by
  simp only [RC, List.setIfInBounds_toArray]
  rw [show 18 + i = (17 + i) + 1 by omega, List.set_cons_succ, List.set_append_right _ _ (by rw [List.length_map]; omega), List.length_map, hb, Nat.add_sub_cancel_left, List.set_append_left _ _ (by rw [List.length_map]; omega), List.map_set]
theorem rc_set_v (hb : bs.length = 17) (ht : ts.length = 17) (u : Value) : (RC now bs ts v).toArray.setIfInBounds 35 u = (RC now bs ts u).toArray := by
  simp only [RC, List.setIfInBounds_toArray]
  rw [show 35 = 34 + 1 from rfl, List.set_cons_succ, List.set_append_right _ _ (by rw [List.length_map]; omega), List.length_map, hb, List.set_append_right _ _ (by rw [List.length_map]; omega), List.length_map, ht]
  rfl
theorem RAt.blk (h : (RAt b ρ a cap).on w F) : w.heap[b]? = some (RObj ρ.now ρ.is ρ.at_ (.slice a ρ.limbo.length cap)) := by
  obtain ⟨F1, F2, ⟨h1, _⟩, _⟩ := h
  exact h1
theorem RAt.rl (h : (RAt b ρ a cap).on w F) : Rl encW 4 w (.slice a ρ.limbo.length cap) ρ.limbo := by
  obtain ⟨F1, h1, _⟩ := Stars.get (i := 1) h rfl
  exact Rl.of_row encW4 rfl h1
/-- Another block of the same slice. -/
theorem RAt.put (h : (RAt b ρ a cap).on w F) (n : Nat) (bs : List Bool) (ts : List Int) : Post (RAt b ⟨n, bs, ts, ρ.limbo⟩ a cap) F w (setB w b (RObj n bs ts (.slice a ρ.limbo.length cap))) := by
  obtain ⟨F1, h1, _, hup⟩ := Stars.get (i := 0) h rfl
  exact hup _ _ (post_setB _ h1)
theorem RAt.setIs (h : (RAt b ρ a cap).on w F) (hb : ρ.is.length = 17) {i : Nat} (hi : i < 17) (x : Bool) : Post (RAt b ⟨ρ.now, ρ.is.set i x, ρ.at_, ρ.limbo⟩ a cap) F w (w.setCell ⟨b, 1 + i, none⟩ (.bool x)) := by
  rw [setCell_setB (i := 1 + i) (.bool x) (RAt.blk h), rc_set_is hb hi]
  exact RAt.put h _ _ _
theorem RAt.setAt (h : (RAt b ρ a cap).on w F) (hb : ρ.is.length = 17) (ht : ρ.at_.length = 17) {i : Nat} (hi : i < 17) (x : Int) : Post (RAt b ⟨ρ.now, ρ.is, ρ.at_.set i x, ρ.limbo⟩ a cap) F w (w.setCell ⟨b, 18 + i, none⟩ (.int .i64 x)) := by
  rw [setCell_setB (i := 18 + i) (.int .i64 x) (RAt.blk h), rc_set_at hb ht hi]
  exact RAt.put h _ _ _
theorem RAt.setNow (h : (RAt b ρ a cap).on w F) (n : Nat) : Post (RAt b ⟨n, ρ.is, ρ.at_, ρ.limbo⟩ a cap) F w (w.setCell ⟨b, 0, none⟩ (.int .i64 n)) := by
  rw [setCell_setB (i := 0) (.int .i64 n) (RAt.blk h), rc_set_now]
  exact RAt.put h _ _ _
end
def ref0 : Rps := ⟨1, List.replicate 17 false, List.replicate 17 0, []⟩
theorem rfit0 : ref0.Fit := ⟨by decide, by decide, rfl, rfl⟩
theorem new_r (w : World) : Calls Try.prog 20 #[] w fun e w' => ∃ b, e = .returned (.pointer (some ⟨b, 0, none⟩)) ∧ Post (ReA b ref0) (fun _ => False) w w' := by
  have HP := Lib.hid (show Post (ReA w.heap.size ref0) (fun _ => False) w (w.alloc (RObj 1 (List.replicate 17 false) (List.replicate 17 0) (.slice none 0 0))) from by
    have h := (((One.nil w).alloc (RObj 1 (List.replicate 17 false) (List.replicate 17 0) (.slice none 0 0))).nilRow 88 4).perm (List.Perm.swap _ _ _)
    exact ((One.all (l2 := [])).1 h |>.post 0 rfl).imp fun F' h' => ⟨none, 0, h'⟩)
  go_enter Try.func20, Try.ntmps20
  go_wp2
  go_ret
  exact ⟨w.heap.size, rfl, HP.out⟩
theorem session_r (s : Int) (w : World) : Calls Try.prog 42 #[.int .i64 s] w fun e w' => e = .returned (.bool (inS s)) ∧ w = w' := by
  by_cases h0 : 0 ≤ s
  · by_cases h1 : s ≤ 16
    · have he := Lib.hid (show inS s = true by simp [inS, h0, h1])
      go_enter Try.func42, Try.ntmps42
      go_wp2
      go_ret
      exact ⟨by rw [he.out] <;> rfl, rfl⟩
    · have he := Lib.hid (show inS s = false by simp [inS, h1])
      go_enter Try.func42, Try.ntmps42
      go_wp2
      go_ret
      exact ⟨by rw [he.out] <;> rfl, rfl⟩
  · have he := Lib.hid (show inS s = false by simp [inS, h0])
    go_enter Try.func42, Try.ntmps42
    go_wp2
    go_ret
    exact ⟨by rw [he.out] <;> rfl, rfl⟩
section
variable {b : Nat} {ρ : Rps} {w w' : World} {F : Nat → Prop}
/-- What is known of a session's cells. -/
theorem RAt.cells {a : Option Addr} {cap : Nat} (h : (RAt b ρ a cap).on w F) (hf : ρ.Fit) {i : Nat} (hi : i < 17) : w.cell? ⟨b, 0, none⟩ = some (.int .i64 ρ.now) ∧ w.cell? ⟨b, 1 + i, none⟩ = some (.bool (ρ.isAt i)) ∧ w.cell? ⟨b, 18 + i, none⟩ = some (.int .i64 (ρ.atAt i)) ∧ (∀ j, w.frozen? ⟨b, j, none⟩ = false) ∧ b < w.heap.size :=
  ⟨cell_blk (RAt.blk h) rc_now, cell_blk (RAt.blk h) (rc_is hf.ilen hi), cell_blk (RAt.blk h) (rc_at hf.ilen hf.alen hi), fun j => free_blk (RAt.blk h), lt_blk (RAt.blk h)⟩
theorem pinned_r (h : (ReA b ρ).on w F) (hf : ρ.Fit) (s : Int) : Calls Try.prog 35 #[.pointer (some ⟨b, 0, none⟩), .int .i64 s] w fun e w' => e = .returned (.tuple #[.int .i64 (ρ.pinned s).1, .bool (ρ.pinned s).2]) ∧ w = w' := by
  obtain ⟨a, cap, h⟩ := h
  have HS := Lib.hid (session_r s)
  have HH := Lib.hid h
  have HF := Lib.hid hf
  clear h hf
  cases hs : inS s with
  | false =>
    have HE := Lib.hid (show ρ.pinned s = (0, false) by simp [Rps.pinned, hs])
    rw [hs] at HS
    clear hs
    go_enter Try.func35, Try.ntmps35
    go_wp2_with fail
    refine (HS.out _).mono ?_
    rintro e w' ⟨rfl, rfl⟩
    go_wp2
    go_ret2
    exact ⟨by rw [HE.out] <;> rfl, rfl⟩
  | true =>
    obtain ⟨i, rfl, hi⟩ := inS_lt hs
    have HI := Lib.hid hs
    rw [hs] at HS
    obtain ⟨c0, ci, ca, _, _⟩ := RAt.cells HH.out HF.out hi
    have hz0 : (0 : Int) ≤ (i : Int) := by omega
    have hz1 : (i : Int) < 17 := by omega
    cases hq : ρ.isAt i with
    | false =>
      have HE := Lib.hid (show ρ.pinned i = (0, false) by simp [Rps.pinned, hs, hq])
      rw [hq] at ci
      clear hs hq
      go_enter Try.func35, Try.ntmps35
      go_wp2_with fail
      refine (HS.out _).mono ?_
      rintro e w' ⟨rfl, rfl⟩
      go_wp2
      go_ret2
      exact ⟨by rw [HE.out] <;> rfl, rfl⟩
    | true =>
      have HE := Lib.hid (show ρ.pinned i = (ρ.atAt i, true) by simp [Rps.pinned, hs, hq])
      rw [hq] at ci
      clear hs hq
      go_enter Try.func35, Try.ntmps35
      go_wp2_with fail
      refine (HS.out _).mono ?_
      rintro e w' ⟨rfl, rfl⟩
      go_wp2
      go_ret2
      exact ⟨by rw [HE.out] <;> rfl, rfl⟩
theorem unpin_r (h : (ReA b ρ).on w F) (hf : ρ.Fit) (s : Int) : Calls Try.prog 31 #[.pointer (some ⟨b, 0, none⟩), .int .i64 s] w fun e w' => e = .returned (.int .i64 (ρ.unpin s).2) ∧ Post (ReA b (ρ.unpin s).1) F w w' := by
  obtain ⟨a, cap, h⟩ := h
  have HS := Lib.hid (session_r s)
  have HH := Lib.hid h
  have HF := Lib.hid hf
  clear h hf
  cases hs : inS s with
  | false =>
    have HE := Lib.hid (show ρ.unpin s = (ρ, 1) by simp [Rps.unpin, hs])
    rw [hs] at HS
    clear hs
    go_enter Try.func31, Try.ntmps31
    go_wp2_with fail
    refine (HS.out _).mono ?_
    rintro e w' ⟨rfl, rfl⟩
    go_wp2
    go_ret
    exact ⟨by rw [HE.out] <;> rfl, by rw [HE.out]; exact .same ⟨a, cap, HH.out⟩ (Kp.refl _ _)⟩
  | true =>
    obtain ⟨i, rfl, hi⟩ := inS_lt hs
    have HI := Lib.hid hs
    rw [hs] at HS
    obtain ⟨c0, ci, ca, fr, hb⟩ := RAt.cells HH.out HF.out hi
    have hz0 : (0 : Int) ≤ (i : Int) := by omega
    have hz1 : (i : Int) < 17 := by omega
    cases hq : ρ.isAt i with
    | false =>
      have HE := Lib.hid (show ρ.unpin i = (ρ, 61) by simp [Rps.unpin, hs, hq])
      rw [hq] at ci
      clear hs hq
      go_enter Try.func31, Try.ntmps31
      go_wp2_with fail
      refine (HS.out _).mono ?_
      rintro e w' ⟨rfl, rfl⟩
      go_wp2
      go_ret
      exact ⟨by rw [HE.out] <;> rfl, by rw [HE.out]; exact .same ⟨a, cap, HH.out⟩ (Kp.refl _ _)⟩
    | true =>
      have HE := Lib.hid (show ρ.unpin i = (⟨ρ.now, ρ.is.set i false, ρ.at_, ρ.limbo⟩, 0) by simp [Rps.unpin, hs, hq])
      rw [hq] at ci
      clear hs hq
      go_enter Try.func31, Try.ntmps31
      go_wp2_with fail
      refine (HS.out _).mono ?_
      rintro e w' ⟨rfl, rfl⟩
      go_wp2
      go_ret
      exact ⟨by rw [HE.out] <;> rfl, by rw [HE.out]; exact (RAt.setIs HH.out HF.out.ilen hi false).imp fun F' h' => ⟨a, cap, h'⟩⟩
theorem pin_r (h : (ReA b ρ).on w F) (hf : ρ.Fit) (s : Int) : Calls Try.prog 30 #[.pointer (some ⟨b, 0, none⟩), .int .i64 s] w fun e w' => e = .returned (.int .i64 (ρ.pin s).2) ∧ Post (ReA b (ρ.pin s).1) F w w' := by
  obtain ⟨a, cap, h⟩ := h
  have HS := Lib.hid (session_r s)
  have HH := Lib.hid h
  have HF := Lib.hid hf
  clear h hf
  cases hs : inS s with
  | false =>
    have HE := Lib.hid (show ρ.pin s = (ρ, 1) by simp [Rps.pin, hs])
    rw [hs] at HS
    clear hs
    go_enter Try.func30, Try.ntmps30
    go_wp2_with fail
    refine (HS.out _).mono ?_
    rintro e w' ⟨rfl, rfl⟩
    go_wp2
    go_ret
    exact ⟨by rw [HE.out] <;> rfl, by rw [HE.out]; exact .same ⟨a, cap, HH.out⟩ (Kp.refl _ _)⟩
  | true =>
    obtain ⟨i, rfl, hi⟩ := inS_lt hs
    have HI := Lib.hid hs
    rw [hs] at HS
    obtain ⟨c0, ci, ca, fr, hb⟩ := RAt.cells HH.out HF.out hi
    have hz0 : (0 : Int) ≤ (i : Int) := by omega
    have hz1 : (i : Int) < 17 := by omega
    cases hq : ρ.isAt i with
    | true =>
      have HE := Lib.hid (show ρ.pin i = (ρ, 60) by simp [Rps.pin, hs, hq])
      rw [hq] at ci
      clear hs hq
      go_enter Try.func30, Try.ntmps30
      go_wp2_with fail
      refine (HS.out _).mono ?_
      rintro e w' ⟨rfl, rfl⟩
      go_wp2
      go_ret
      exact ⟨by rw [HE.out] <;> rfl, by rw [HE.out]; exact .same ⟨a, cap, HH.out⟩ (Kp.refl _ _)⟩
    | false =>
      have HE := Lib.hid (show ρ.pin i = (⟨ρ.now, ρ.is.set i true, ρ.at_.set i ρ.now, ρ.limbo⟩, 0) by simp [Rps.pin, hs, hq])
      rw [hq] at ci
      clear hs hq
      go_enter Try.func30, Try.ntmps30
      go_wp2_with fail
      refine (HS.out _).mono ?_
      rintro e w' ⟨rfl, rfl⟩
      go_upto_region 6 with fail
      have HP := Lib.hid (RAt.setIs HH.out HF.out.ilen hi true)
      clear c0 ci ca fr hb
      generalize w.setCell ⟨b, 1 + i, none⟩ (.bool true) = w1 at *
      have HF1 := Lib.hid (show Rps.Fit ⟨ρ.now, ρ.is.set i true, ρ.at_, ρ.limbo⟩ from ⟨HF.out.pos, HF.out.top, by simpa using HF.out.ilen, HF.out.alen⟩)
      obtain ⟨c0, ci, ca, fr, hb⟩ : w1.cell? ⟨b, 0, none⟩ = some (.int .i64 ρ.now) ∧ w1.cell? ⟨b, 1 + i, none⟩ = some (.bool _) ∧ w1.cell? ⟨b, 18 + i, none⟩ = some (.int .i64 (ρ.atAt i)) ∧ (∀ j, w1.frozen? ⟨b, j, none⟩ = false) ∧ b < w1.heap.size := by
        obtain ⟨F', h', _⟩ := HP.out
        exact RAt.cells h' HF1.out hi
      clear ci
      go_still_tail 9, (by kernel_rfl)
      go_wp2_with fail
      go_ret
      refine ⟨by rw [HE.out] <;> rfl, ?_⟩
      rw [HE.out]
      refine (HP.out.trans fun F' h' => ((RAt.setAt h' HF1.out.ilen HF1.out.alen hi (ρ.now : Int)).kn (Kp.refl _ _).drew)).imp fun F' h' => ⟨a, cap, ?_⟩
      exact h'
end
end Go.Proofs.Ytghmgmchfcbodaa
