/- The walks of the mapping table: its operations. -/
import Derived.Test.YtkjkaliblkihmaaTables
import Derived.Deep.DeepCutAuto
import Derived.Deep.RegionHeld3
import Derived.Deep.DrawnRows
namespace Go.Proofs.Ytkjkaliblkihmaa
set_option linter.unusedVariables false
set_option linter.unusedSimpArgs false
open Go Go.RowKit

section
variable {w : World} {t p m : Nat} {F : Nat → Prop} {pgs : List Pg} {aps : List AP} {x : Int}
theorem IsTab.alloc (h : IsTab w t F p m pgs aps x) (o : Obj) : IsTab (w.alloc o) t F p m pgs aps x := h.kept (kn_alloc w o) (fun _ _ h => h)
theorem IsTab.kn {w' : World} (h : IsTab w t F p m pgs aps x) (k : KN w w') : IsTab w' t F p m pgs aps x := h.kept k (fun _ _ h => h)
theorem alloc_zero (h : IsTab w t F p m pgs aps x) : Calls Try.prog 9 #[.pointer (some ⟨t, 0, none⟩), hv (0, 0)] w fun e w' => e = .returned (.tuple #[.int .i64 0, .int .i64 1]) ∧ KN w w' := by
  have HT := Lib.hid (h.alloc (.cells #[.int .i64 0, .int .i64 0] 23))
  clear h
  go_enter Try.func9, Try.ntmps9
  go_wp2_with (go_at_call 25; refine (none_tab HT.out).mono ?_; rintro e w' ⟨rfl, rfl⟩)
  go_ret2
  exact ⟨rfl, kn_alloc _ _⟩
/-- The round of Alloc's loop: what is behind is not free. -/
theorem alloc_full (hh : Int × Int) (hz : hh ≠ (0, 0)) (h : IsTab w t F p m pgs aps x) (hf : ∀ a ∈ aps, a.1 ≠ 0) :
    Calls Try.prog 9 #[.pointer (some ⟨t, 0, none⟩), hv hh] w fun e w' => e = .returned (.tuple #[.int .i64 0, .int .i64 5]) ∧ KN w w' := by
  have HT := Lib.hid (h.alloc (.cells #[.int .i64 hh.1, .int .i64 hh.2] 23))
  have hq : ∀ w, (binOp .eql 23 (hv hh) (hv (0, 0))).run Try.prog w = .ok (.bool false) w := fun w => by rw [run_eql_hv]; simp [hz]
  have hpg : ∀ i, (hi : i < pgs.length) → ∃ s, (s == 0) = false ∧ w.cell? ⟨p, i * 2, none⟩ = some (.int .i64 s) := by
    intro i hi
    have hi' : i < aps.length := by rw [← h.len]; exact hi
    refine ⟨(pgs[i]).st, ?_, (h.page (List.getElem?_eq_getElem hi)).1⟩
    rw [(h.rd i _ _ (List.getElem?_eq_getElem hi) (List.getElem?_eq_getElem hi')).1]
    simpa using hf _ (List.getElem_mem hi')
  have HP := Lib.hid hpg
  have hm := h.most
  obtain ⟨c0, c1, _, _⟩ := cells2 h.tb
  have hlt := lt_blk h.tb
  obtain ⟨arr, ha, _⟩ := h.pg
  have hplt := lt_blk ha
  clear h hf hz hpg ha
  go_enter Try.func9, Try.ntmps9
  go_wp2_with (go_at_call 25; refine (none_tab HT.out).mono ?_; rintro e w' ⟨rfl, rfl⟩)
  go_loop [17] (fun i => ∃ k : Nat, k ≤ pgs.length ∧ i = .int .i64 k) (fun i => pgs.length - (intOf i).toNat)
  case atStart => exact ⟨0, Nat.zero_le _, rfl⟩
  case round =>
    obtain ⟨k, hk, rfl⟩ := hrel
    by_cases hlt' : k < pgs.length
    · obtain ⟨s, hs, hc⟩ := HP.out k hlt'
      go_wp2
      go_round
      case rel => exact ⟨k + 1, by omega, by go_num⟩
      case measure => simp [intOf]; omega
    · obtain rfl : k = pgs.length := by omega
      go_wp2
      go_ret2
      exact ⟨rfl, kn_alloc _ _⟩

/-- What Alloc leaves. -/
def AllocAt (w : World) (t : Nat) (F : Nat → Prop) (p m : Nat) (aps : List AP) (x : Int) (i : Nat) (hh : Int × Int) (e : Ending) (w' : World) : Prop :=
  e = .returned (.tuple #[.int .i64 (i : Int), .int .i64 0]) ∧ ∃ F' pgs', IsTab w' t F' p m pgs' (aps.set i (1, hh)) x ∧ Kp (· = p) w w' ∧ ∀ b, F' b → F b ∨ w.heap.size ≤ b

set_option maxHeartbeats 1000000 in
theorem alloc_at (hh : Int × Int) (hz : hh ≠ (0, 0)) (h : IsTab w t F p m pgs aps x) {i : Nat} {a : AP} (hai : aps[i]? = some a) (ha0 : a.1 = 0) (hf : ∀ j, j < i → ∀ b, aps[j]? = some b → b.1 ≠ 0) :
    Calls Try.prog 9 #[.pointer (some ⟨t, 0, none⟩), hv hh] w (AllocAt w t F p m aps x i hh) := by
  have HH := Lib.hid h
  have HT := Lib.hid (h.alloc (.cells #[.int .i64 hh.1, .int .i64 hh.2] 23))
  have hq : ∀ w, (binOp .eql 23 (hv hh) (hv (0, 0))).run Try.prog w = .ok (.bool false) w := fun w => by rw [run_eql_hv]; simp [hz]
  have hil : i < pgs.length := by rw [h.len]; exact (List.getElem?_eq_some_iff.1 hai).1
  have hpg : ∀ k, k < i → ∃ s, (s == 0) = false ∧ w.cell? ⟨p, k * 2, none⟩ = some (.int .i64 s) := by
    intro k hk
    have hkp : k < pgs.length := by omega
    have hka : k < aps.length := by rw [← h.len]; exact hkp
    refine ⟨(pgs[k]).st, ?_, (h.page (List.getElem?_eq_getElem hkp)).1⟩
    rw [(h.rd k _ _ (List.getElem?_eq_getElem hkp) (List.getElem?_eq_getElem hka)).1]
    simpa using hf k hk _ (List.getElem?_eq_getElem hka)
  have HP := Lib.hid hpg
  have hqi := List.getElem?_eq_getElem hil
  have HS := Lib.hid (show w.cell? ⟨p, i * 2, none⟩ = some (.int .i64 0) ∧ ∃ v, w.cell? ⟨p, i * 2 + 1, none⟩ = some v by
    have h1 := h.page hqi
    rw [(h.rd i _ _ hqi hai).1, ha0] at h1
    exact ⟨h1.1, _, h1.2⟩)
  have HF := Lib.hid (h.free)
  have hm := h.most
  obtain ⟨c0, c1, _, _⟩ := cells2 h.tb
  have hlt := lt_blk h.tb
  obtain ⟨arr, ha, _⟩ := h.pg
  have hplt := lt_blk ha
  clear h hf hz hpg ha hai ha0 hqi
  go_enter Try.func9, Try.ntmps9
  go_wp2_with (go_at_call 25; refine (none_tab HT.out).mono ?_; rintro e w' ⟨rfl, rfl⟩)
  go_loop [17] (fun v => ∃ k : Nat, k ≤ i ∧ v = .int .i64 k) (fun v => i + 1 - (intOf v).toNat)
  case atStart => exact ⟨0, Nat.zero_le _, rfl⟩
  case round =>
    obtain ⟨k, hk, rfl⟩ := hrel
    by_cases hlt' : k < i
    · obtain ⟨s, hs, hc⟩ := HP.out k hlt'
      have hkl : k < pgs.length := by omega
      go_wp2
      go_round
      case rel => exact ⟨k + 1, by omega, by go_num⟩
      case measure => simp [intOf]; omega
    · obtain rfl : k = i := by omega
      obtain ⟨hs0, v1, hs1⟩ := HS.out
      go_upto_region 9 with (fail)
      have HG := Lib.hid (heap_alloc_same w (.cells #[.int .i64 hh.1, .int .i64 hh.2] 23))
      have HKN := Lib.hid (kn_alloc w (.cells #[.int .i64 hh.1, .int .i64 hh.2] 23))
      have f0 := HT.out.free (k * 2)
      have f1 := HT.out.free (k * 2 + 1)
      obtain ⟨d0, d1, _, _⟩ := cells2 HT.out.tb
      have b0 := cell_kp HKN.out id hs0
      have b1 := cell_kp HKN.out id hs1
      have hpl : p < (w.alloc (.cells #[.int .i64 hh.1, .int .i64 hh.2] 23)).heap.size := by simp; omega
      have pt : p ≠ t := Ne.symm HT.out.ne3.1
      have pg : p ≠ w.heap.size := by omega
      obtain ⟨g0, g1, _, _⟩ := cells2 HG.out
      clear c0 c1 hs0 hs1
      generalize w.alloc (.cells #[.int .i64 hh.1, .int .i64 hh.2] 23) = W at *
      generalize w.heap.size = g at *
      have hki : (0 : Int) ≤ (k : Int) := by omega
      have hkl : (k : Int) < pgs.length := by omega
      go_region_held3 (fun w' => w'.cell? ⟨t, 0, none⟩ = some (.slice (some ⟨p, 0, none⟩) pgs.length pgs.length) ∧ w'.cell? ⟨g, 0, none⟩ = some (.int .i64 hh.1) ∧ w'.cell? ⟨g, 1, none⟩ = some (.int .i64 hh.2)) (first | go_keep | (exact ⟨cell_kp hkk id (by assumption), cell_kp hkk id (by assumption), cell_kp hkk id (by assumption)⟩) | (refine ⟨?_, ?_, ?_⟩ <;> (rw [World.cell?_setCell_far _ _ _ (by assumption), World.cell?_setCell_far _ _ _ (by assumption)]; assumption)) | (refine ⟨?_, ?_, ?_⟩ <;> (rw [World.cell?_setCell_far _ _ _ (by assumption)]; assumption)))
        (first | (go_at_call 26; refine (newH hh _).mono ?_; rintro e w' ⟨nb, rfl, hnb, hnbb, hkk⟩; have q0 := cell_kp hkk id b0; have q1 := cell_kp hkk id b1; have fq0 := free_kp hkk id hpl f0; have fq1 := free_kp hkk id hpl f1))
      go_wp2
      go_ret2
      have hk1 : Kp (fun _ => False) w w' := (HKN.out.drew).trans hkk (fun _ h => .inl h)
      have hgs : ∀ b, w'.heap.size ≤ b → False ∨ True := fun _ _ => .inr trivial
      obtain ⟨F', hnew⟩ : ∃ F', F' = fun b => F b ∨ ((1 : Int) = 1 ∧ some nb = some b) := ⟨_, rfl⟩
      have hq := List.getElem?_eq_getElem hil
      have hT' := HH.out.kn hk1
      have hold : ∀ (j : Nat) (r : Pg), pgs[j]? = some r → j ≠ k → r.st = 1 → r.hd ≠ some nb := by
        intro j r hr _ h1 h2
        have hja : j < aps.length := by rw [← HH.out.len]; exact (List.getElem?_eq_some_iff.1 hr).1
        obtain ⟨e1, e2⟩ := HH.out.rd j r _ hr (List.getElem?_eq_getElem hja)
        obtain ⟨b, n, e3, _, e5⟩ := e2 (by rw [← e1, h1])
        rw [h2] at e3; cases e3
        have := lt_blk e5
        have := HKN.out.size
        have : W.heap.size ≤ nb := hnb
        omega
      obtain ⟨r1, r2⟩ := hT'.setpg hq ⟨1, some nb⟩ (1, hh) rfl (fun _ => ⟨nb, 0, rfl, hnbb, hold⟩)
      refine ⟨rfl, _, _, r1, (hk1.mono (fun _ h => h.elim)).trans r2 (fun _ h => .inl h), fun b hb => hb.imp id (fun h => ?_)⟩
      obtain ⟨_, e⟩ := h
      cases e
      have := HKN.out.size
      exact Nat.le_trans this hnb
end
/-- A table at block t, with its blocks. -/
def Tab (t : Nat) (aps : List AP) (x : Int) : Asr :=
  ⟨fun w F => ∃ p m pgs, IsTab w t F p m pgs aps x, fun ⟨p, m, pgs, h⟩ k hS => ⟨p, m, pgs, h.kept k hS⟩, fun ⟨p, m, pgs, h⟩ => h.lt⟩

/-- What a table answers. -/
def allocOf (aps : List AP) (h : Int × Int) : (Int × Int) × List AP :=
  if h = (0, 0) then ((0, 1), aps) else match aps.findIdx? (fun a => a.1 == 0) with
    | none => ((0, 5), aps)
    | some i => (((i : Nat), 0), aps.set i (1, h))
def headOf (aps : List AP) (n : Int) : Int × Int := ((aps[n.toNat]?).map (·.2)).getD (0, 0)
def loadOf (aps : List AP) (n : Int) : (Int × Int) × Int := if looksOf aps n 1 = 0 then (headOf aps n, 0) else ((0, 0), 4)
def swapOf (aps : List AP) (x : Int) (n : Int) (was is : Int × Int) : (Bool × Int) × List AP × Int :=
  if looksOf aps n 1 = 0 then
    if is = (0, 0) then ((false, 1), aps, x)
    else if headOf aps n = was then ((true, 0), aps.set n.toNat (1, is), x)
    else ((false, 0), aps, wrap64 (x + 1))
  else ((false, 4), aps, x)
def retireOf (aps : List AP) (n : Int) : Int × List AP := if looksOf aps n 1 = 0 then (0, aps.set n.toNat (2, (0, 0))) else (4, aps)
def releaseOf (aps : List AP) (n : Int) : Int × List AP := if looksOf aps n 2 = 0 then (0, aps.set n.toNat (0, (0, 0))) else (4, aps)

section
variable {w : World} {t : Nat} {F : Nat → Prop} {aps : List AP} {x : Int}
theorem tab_new (n : Nat) (h0 : 1 ≤ n) (h1 : n ≤ 65536) (w : World) : Calls Try.prog 7 #[.int .i64 (n : Int)] w fun e w' => ∃ t, e = .returned (.tuple #[.pointer (some ⟨t, 0, none⟩), .int .i64 0]) ∧ Post (Tab t (List.replicate n (0, (0, 0))) 0) (fun _ => False) w w' :=
  (new_tab n h0 h1 w).mono fun e w' ⟨t, F, p, m, h1, h2, h3, h4⟩ => ⟨t, h1, F, ⟨p, m, _, h2⟩, h3, fun b hb => .inr (h4 b hb)⟩
theorem tab_alloc (hh : Int × Int) (h : (Tab t aps x).on w F) : Calls Try.prog 9 #[.pointer (some ⟨t, 0, none⟩), hv hh] w fun e w' =>
    e = .returned (.tuple #[.int .i64 (allocOf aps hh).1.1, .int .i64 (allocOf aps hh).1.2]) ∧ Post (Tab t (allocOf aps hh).2 x) F w w' := by
  have h' := h
  obtain ⟨p, m, pgs, h⟩ := h
  by_cases hz : hh = (0, 0)
  · subst hz
    refine (alloc_zero h).mono ?_
    rintro e w' ⟨rfl, hk⟩
    have e1 : allocOf aps (0, 0) = ((0, 1), aps) := if_pos rfl
    rw [e1]
    exact ⟨rfl, .same h' hk⟩
  · unfold allocOf
    rw [if_neg hz]
    cases hf : aps.findIdx? (fun a => a.1 == 0) with
    | none =>
      rw [List.findIdx?_eq_none_iff] at hf
      refine (alloc_full hh hz h (fun a ha => by simpa using hf a ha)).mono ?_
      rintro e w' ⟨rfl, hk⟩
      exact ⟨rfl, .same h' hk⟩
    | some i =>
      rw [List.findIdx?_eq_some_iff_getElem] at hf
      obtain ⟨hi, h1, h2⟩ := hf
      refine (alloc_at hh hz h (List.getElem?_eq_getElem hi) (by simpa using h1) (fun j hj b hb => ?_)).mono ?_
      · have := h2 j hj
        have hj' : j < aps.length := by omega
        rw [List.getElem?_eq_getElem hj'] at hb
        cases hb
        simpa using this
      · rintro e w' ⟨rfl, F', pgs', h3, h4, h5⟩
        exact ⟨rfl, F', ⟨p, m, pgs', h3⟩, h4.mono (fun b hb => by subst hb; exact h.fp), h5⟩
theorem tab_looks {n st : Int} (h : (Tab t aps x).on w F) : Calls Try.prog 27 #[.pointer (some ⟨t, 0, none⟩), .int .i64 n, .int .i64 st] w fun e w' => e = .returned (.int .i64 (looksOf aps n st)) ∧ w = w' := by
  obtain ⟨p, m, pgs, h⟩ := h
  exact looks_tab h n st
theorem tab_none (h : (Tab t aps x).on w F) : Calls Try.prog 25 #[.pointer (some ⟨t, 0, none⟩)] w fun e w' => e = .returned (.bool false) ∧ w = w' := by
  obtain ⟨p, m, pgs, h⟩ := h
  exact none_tab h
theorem looks_two (aps : List AP) (n st : Int) : looksOf aps n st = 0 ∨ looksOf aps n st = 4 := by unfold looksOf; split <;> simp
theorem tab_load (n : Int) (h : (Tab t aps x).on w F) : Calls Try.prog 14 #[.pointer (some ⟨t, 0, none⟩), .int .i64 n] w fun e w' =>
    e = .returned (.tuple #[hv (loadOf aps n).1, .int .i64 (loadOf aps n).2]) ∧ KN w w' := by
  have HL := Lib.hid ((Tab t aps x).kn h (kn_alloc w (.cells #[.int .i64 0, .int .i64 0] 23)))
  unfold loadOf
  rcases looks_two aps n 1 with hl | hl
  · rw [if_pos hl]
    obtain ⟨i, a, rfl, hai, ha1⟩ := looks_ok hl
    have e0 : headOf aps i = a.2 := by simp [headOf, hai]
    rw [e0]
    obtain ⟨p, m, pgs, h⟩ := h
    obtain ⟨q, b, k, hq, hb, hFb, hcell⟩ := h.live hai ha1
    obtain ⟨g0, g1⟩ := h.page hq
    rw [hb] at g1
    obtain ⟨c0, c1, _, _⟩ := cells2 h.tb
    have hil : (i : Int) < pgs.length := by have := (List.getElem?_eq_some_iff.1 hq).1; omega
    have hm := h.most
    have HC := Lib.hid hcell
    have hplt := (h.lt p h.fp)
    have htlt := (h.lt t h.ft)
    clear h e0 hai ha1 hcell hq hb hFb g0
    rw [← hl]
    have hl' : (looksOf aps i 1 != 0) = false := by simpa using hl
    generalize hlo : looksOf aps i 1 = lo at *
    have hl2 : ∀ w : World, (Tab t aps x).on w F → Calls Try.prog 27 #[.pointer (some ⟨t, 0, none⟩), .int .i64 i, .int .i64 1] w fun e w' => e = .returned (.int .i64 lo) ∧ w = w' := fun w hw => hlo ▸ tab_looks hw
    subst hl
    clear hlo
    go_enter Try.func14, Try.ntmps14
    go_wp2_with (first | (go_at_call 27; refine (hl2 _ HL.out).mono ?_; rintro e w' ⟨rfl, rfl⟩) | (go_at_call 31; refine (loadH (blk_alloc _ HC.out)).mono ?_; rintro e w' ⟨rfl, hkk⟩; obtain ⟨r0, r1, r2, r3⟩ := cells2_al (hkk.blk (heap_alloc_same _ _) id)))
    refine bodyPost_ret (v := .tuple #[hv a.2, .int .i64 0]) (by simp [results, Try.results14, go_sem, r0, r1, r2, r3]) rfl ⟨rfl, ?_⟩
    exact ((((kn_alloc _ _).trans hkk (fun _ h => .inl h)).alloc _).setCell (.inr (Nat.le_refl _)) _).setCell (.inr (Nat.le_refl _)) _
  · rw [if_neg (by omega)]
    have hl' : (looksOf aps n 1 != 0) = true := by rw [hl]; rfl
    have hl2 : ∀ w : World, (Tab t aps x).on w F → Calls Try.prog 27 #[.pointer (some ⟨t, 0, none⟩), .int .i64 n, .int .i64 1] w fun e w' => e = .returned (.int .i64 4) ∧ w = w' := fun w hw => hl ▸ tab_looks hw
    clear h hl' hl
    go_enter Try.func14, Try.ntmps14
    go_wp2_with (first | (go_at_call 27; refine (hl2 _ HL.out).mono ?_; rintro e w' ⟨rfl, rfl⟩))
    refine bodyPost_ret (v := .tuple #[hv (0, 0), .int .i64 4]) (by simp [results, Try.results14, go_sem]) rfl ⟨rfl, ?_⟩
    repeat (first | exact Kp.refl _ _ | apply Kp.alloc | apply Kp.drewN | apply Kp.drew | refine Kp.setCell ?_ (.inr (by simp; try omega)) _)
theorem headOf_at {i : Nat} {a : AP} (h : aps[i]? = some a) : headOf aps i = a.2 := by simp [headOf, h]
theorem looks_at {i : Nat} {a : AP} {st : Int} (h : aps[i]? = some a) (h1 : a.1 = st) : looksOf aps i st = 0 := by
  have := (List.getElem?_eq_some_iff.1 h).1
  unfold looksOf stOf
  rw [if_pos ⟨by omega, by omega, by simp [h, h1]⟩]
theorem tab_swap (n : Int) (was is : Int × Int) (h : (Tab t aps x).on w F) : Calls Try.prog 10 #[.pointer (some ⟨t, 0, none⟩), .int .i64 n, hv was, hv is] w fun e w' =>
    e = .returned (.tuple #[.bool (swapOf aps x n was is).1.1, .int .i64 (swapOf aps x n was is).1.2]) ∧ Post (Tab t (swapOf aps x n was is).2.1 (swapOf aps x n was is).2.2) F w w' := by
  have HL0 := Lib.hid h
  have HL := Lib.hid ((Tab t aps x).kn h ((kn_alloc w (.cells #[.int .i64 was.1, .int .i64 was.2] 23)).alloc (.cells #[.int .i64 is.1, .int .i64 is.2] 23)))
  unfold swapOf
  rcases looks_two aps n 1 with hl | hl
  · rw [if_pos hl]
    have hl2 : ∀ w : World, (Tab t aps x).on w F → Calls Try.prog 27 #[.pointer (some ⟨t, 0, none⟩), .int .i64 n, .int .i64 1] w fun e w' => e = .returned (.int .i64 0) ∧ w = w' := fun w hw => hl ▸ tab_looks hw
    by_cases hz : is = (0, 0)
    · rw [if_pos hz]
      have hq : ∀ w, (binOp .eql 23 (hv is) (hv (0, 0))).run Try.prog w = .ok (.bool true) w := fun w => by rw [run_eql_hv]; simp [hz]
      clear h hl hz
      go_enter Try.func10, Try.ntmps10
      go_wp2_with (first | (go_at_call 27; refine (hl2 _ HL.out).mono ?_; rintro e w' ⟨rfl, rfl⟩))
      go_ret2
      exact ⟨rfl, .same HL0.out ((kn_alloc _ _).alloc _)⟩
    · rw [if_neg hz]
      have hq : ∀ w, (binOp .eql 23 (hv is) (hv (0, 0))).run Try.prog w = .ok (.bool false) w := fun w => by rw [run_eql_hv]; simp [hz]
      obtain ⟨i, a, rfl, hai, ha1⟩ := looks_ok hl
      rw [headOf_at hai]
      obtain ⟨p, m, pgs, h⟩ := h
      obtain ⟨q, b, k, hqp, hb, hFb, hcell⟩ := h.live hai ha1
      obtain ⟨g0, g1⟩ := h.page hqp
      rw [hb] at g1
      replace g1 : w.cell? ⟨p, i * 2 + 1, none⟩ = some (.pointer (some ⟨b, 0, none⟩)) := g1
      obtain ⟨c0, c1, _, _⟩ := cells2 h.tb
      have hil : (i : Int) < pgs.length := by have := (List.getElem?_eq_some_iff.1 hqp).1; omega
      have hm := h.most
      have HI := Lib.hid h
      have HC := Lib.hid (blk_alloc (.cells #[.int .i64 is.1, .int .i64 is.2] 23) (blk_alloc (.cells #[.int .i64 was.1, .int .i64 was.2] 23) hcell))
      have HC0 := Lib.hid hcell
      have HM := Lib.hid h.ms
      have hplt := (h.lt p h.fp)
      have htlt := (h.lt t h.ft)
      by_cases hw : a.2 = was
      · rw [if_pos hw]
        subst hw
        clear h hcell hl hz g0
        go_enter Try.func10, Try.ntmps10
        go_upto_region 6 with (first | (go_at_call 27; refine (hl2 _ HL.out).mono ?_; rintro e w' ⟨rfl, rfl⟩))
        have HK := Lib.hid ((kn_alloc w (.cells #[.int .i64 a.2.1, .int .i64 a.2.2] 23)).alloc (.cells #[.int .i64 is.1, .int .i64 is.2] 23))
        have b0 := cell_kp HK.out id c0
        have b1 := cell_kp HK.out id g1
        have HG1 := Lib.hid (blk_alloc (.cells #[.int .i64 is.1, .int .i64 is.2] 23) (heap_alloc_same w (.cells #[.int .i64 a.2.1, .int .i64 a.2.2] 23)))
        have HG2 := Lib.hid (heap_alloc_two w (.cells #[.int .i64 a.2.1, .int .i64 a.2.2] 23) (.cells #[.int .i64 is.1, .int .i64 is.2] 23))
        obtain ⟨x0, x1, _, _⟩ := cells2 HG1.out
        obtain ⟨y0, y1, _, _⟩ := cells2 HG2.out
        have hblt := lt_blk HC0.out
        have n1 : ¬ w.heap.size = b := by omega
        have n2 : ¬ w.heap.size + 1 = b := by omega
        have n3 : ¬ t = b := (HI.out.ne HC0.out).1
        have n4 : ¬ p = b := (HI.out.ne HC0.out).2.1
        clear c0 c1 g1
        generalize (w.alloc (.cells #[.int .i64 a.2.1, .int .i64 a.2.2] 23)).alloc (.cells #[.int .i64 is.1, .int .i64 is.2] 23) = W at *
        go_region_held3 (fun w' => (w'.cell? ⟨t, 0, none⟩ = some (.slice (some ⟨p, 0, none⟩) pgs.length pgs.length) ∧ w'.cell? ⟨p, i * 2 + 1, none⟩ = some (.pointer (some ⟨b, 0, none⟩))) ∧ (w'.cell? ⟨w.heap.size, 0, none⟩ = some (.int .i64 a.2.1) ∧ w'.cell? ⟨w.heap.size, 1, none⟩ = some (.int .i64 a.2.2)) ∧ w'.cell? ⟨w.heap.size + 1, 0, none⟩ = some (.int .i64 is.1) ∧ w'.cell? ⟨w.heap.size + 1, 1, none⟩ = some (.int .i64 is.2)) (first | go_keep | (exact ⟨⟨cell_kp hkk (by assumption) (by assumption), cell_kp hkk (by assumption) (by assumption)⟩, ⟨cell_kp hkk (by assumption) (by assumption), cell_kp hkk (by assumption) (by assumption)⟩, cell_kp hkk (by assumption) (by assumption), cell_kp hkk (by assumption) (by assumption)⟩))
          (first | (go_at_call 28; refine (swapH_yes (h := a.2) (n := k) is ?_).mono ?_; exact HC.out; rintro e w' ⟨rfl, hb', hkk⟩))
        go_wp2
        go_ret2
        have hk1 : Kp (· = b) w w' := (HK.out.drew.mono (fun _ h => h.elim)).trans hkk (fun _ h => .inl h)
        exact ⟨rfl, F, ⟨p, m, pgs, HI.out.sethead hqp hai ha1 hb is HC0.out hb' hk1⟩, hk1.mono (fun c hc => by subst hc; exact hFb), fun c hc => .inl hc⟩
      · rw [if_neg hw]
        clear h hcell hl hz g0
        go_enter Try.func10, Try.ntmps10
        go_upto_region 6 with (first | (go_at_call 27; refine (hl2 _ HL.out).mono ?_; rintro e w' ⟨rfl, rfl⟩))
        have HK := Lib.hid ((kn_alloc w (.cells #[.int .i64 was.1, .int .i64 was.2] 23)).alloc (.cells #[.int .i64 is.1, .int .i64 is.2] 23))
        have b0 := cell_kp HK.out id c0
        have b1 := cell_kp HK.out id g1
        have HG1 := Lib.hid (blk_alloc (.cells #[.int .i64 is.1, .int .i64 is.2] 23) (heap_alloc_same w (.cells #[.int .i64 was.1, .int .i64 was.2] 23)))
        have HG2 := Lib.hid (heap_alloc_two w (.cells #[.int .i64 was.1, .int .i64 was.2] 23) (.cells #[.int .i64 is.1, .int .i64 is.2] 23))
        obtain ⟨x0, x1, _, _⟩ := cells2 HG1.out
        obtain ⟨y0, y1, _, _⟩ := cells2 HG2.out
        have hblt := lt_blk HC0.out
        have n1 : ¬ w.heap.size = b := by omega
        have n2 : ¬ w.heap.size + 1 = b := by omega
        have n3 : ¬ t = b := (HI.out.ne HC0.out).1
        have n4 : ¬ p = b := (HI.out.ne HC0.out).2.1
        clear c0 c1 g1
        generalize (w.alloc (.cells #[.int .i64 was.1, .int .i64 was.2] 23)).alloc (.cells #[.int .i64 is.1, .int .i64 is.2] 23) = W at *
        go_region_held3 (fun w' => (w'.cell? ⟨t, 0, none⟩ = some (.slice (some ⟨p, 0, none⟩) pgs.length pgs.length) ∧ w'.cell? ⟨p, i * 2 + 1, none⟩ = some (.pointer (some ⟨b, 0, none⟩))) ∧ (w'.cell? ⟨w.heap.size, 0, none⟩ = some (.int .i64 was.1) ∧ w'.cell? ⟨w.heap.size, 1, none⟩ = some (.int .i64 was.2)) ∧ w'.cell? ⟨w.heap.size + 1, 0, none⟩ = some (.int .i64 is.1) ∧ w'.cell? ⟨w.heap.size + 1, 1, none⟩ = some (.int .i64 is.2)) (first | go_keep | (exact ⟨⟨cell_kp hkk id (by assumption), cell_kp hkk id (by assumption)⟩, ⟨cell_kp hkk id (by assumption), cell_kp hkk id (by assumption)⟩, cell_kp hkk id (by assumption), cell_kp hkk id (by assumption)⟩))
          (first | (go_at_call 28; refine (swapH_no (h := a.2) (n := k) is hw ?_).mono ?_; exact HC.out; rintro e w' ⟨rfl, hkk⟩))
        have k2 : KN w w' := HK.out.drew.trans hkk (fun _ h => .inl h)
        have HI2 := Lib.hid (HI.out.kn k2)
        have HM2 := Lib.hid HI2.out.ms
        obtain ⟨e0, e1, _, _⟩ := cells2 HI2.out.tb
        go_wp2_with (first | (go_at_call 29; refine (aadd 1 HM2.out).mono ?_; rintro e w2 ⟨rfl, rfl⟩))
        go_ret2
        exact ⟨rfl, F, ⟨p, m, pgs, (HI2.out.setmiss _).1⟩, (k2.mono (fun _ h => h.elim)).trans (HI2.out.setmiss _).2 (fun c hc => by subst hc; exact .inl HI2.out.fm), fun c hc => .inl hc⟩
  · rw [if_neg (by omega)]
    have hl' : (looksOf aps n 1 != 0) = true := by rw [hl]; rfl
    have hl2 : ∀ w : World, (Tab t aps x).on w F → Calls Try.prog 27 #[.pointer (some ⟨t, 0, none⟩), .int .i64 n, .int .i64 1] w fun e w' => e = .returned (.int .i64 4) ∧ w = w' := fun w hw => hl ▸ tab_looks hw
    clear h hl' hl
    go_enter Try.func10, Try.ntmps10
    go_wp2_with (first | (go_at_call 27; refine (hl2 _ HL.out).mono ?_; rintro e w' ⟨rfl, rfl⟩))
    go_ret2
    exact ⟨rfl, .same HL0.out ((kn_alloc _ _).alloc _)⟩
theorem tab_retire (n : Int) (h : (Tab t aps x).on w F) : Calls Try.prog 12 #[.pointer (some ⟨t, 0, none⟩), .int .i64 n] w fun e w' =>
    e = .returned (.int .i64 (retireOf aps n).1) ∧ Post (Tab t (retireOf aps n).2 x) F w w' := by
  have HL := Lib.hid h
  unfold retireOf
  rcases looks_two aps n 1 with hl | hl
  · rw [if_pos hl]
    have hl2 : ∀ w : World, (Tab t aps x).on w F → Calls Try.prog 27 #[.pointer (some ⟨t, 0, none⟩), .int .i64 n, .int .i64 1] w fun e w' => e = .returned (.int .i64 0) ∧ w = w' := fun w hw => hl ▸ tab_looks hw
    obtain ⟨i, a, rfl, hai, ha1⟩ := looks_ok hl
    obtain ⟨p, m, pgs, h⟩ := h
    obtain ⟨q, b, k, hqp, hb, hFb, hcell⟩ := h.live hai ha1
    obtain ⟨g0, g1⟩ := h.page hqp
    have f0 := h.free (i * 2)
    have f1 := h.free (i * 2 + 1)
    obtain ⟨c0, c1, _, _⟩ := cells2 h.tb
    have hil : (i : Int) < pgs.length := by have := (List.getElem?_eq_some_iff.1 hqp).1; omega
    have hm := h.most
    have HI := Lib.hid h
    clear h hcell hl
    go_enter Try.func12, Try.ntmps12
    go_wp2_with (first | (go_at_call 27; refine (hl2 _ HL.out).mono ?_; rintro e w' ⟨rfl, rfl⟩))
    go_ret
    obtain ⟨r1, r2⟩ := HI.out.setpg hqp ⟨2, none⟩ (2, (0, 0)) rfl (fun h => by simp at h)
    refine ⟨rfl, _, ⟨p, m, _, r1⟩, r2.mono (fun c hc => by subst hc; exact HI.out.fp), fun c hc => .inl ?_⟩
    rcases hc with hc | hc
    · exact hc
    · simp at hc
  · rw [if_neg (by omega)]
    have hl2 : ∀ w : World, (Tab t aps x).on w F → Calls Try.prog 27 #[.pointer (some ⟨t, 0, none⟩), .int .i64 n, .int .i64 1] w fun e w' => e = .returned (.int .i64 4) ∧ w = w' := fun w hw => hl ▸ tab_looks hw
    clear h hl
    go_enter Try.func12, Try.ntmps12
    go_wp2_with (first | (go_at_call 27; refine (hl2 _ HL.out).mono ?_; rintro e w' ⟨rfl, rfl⟩))
    go_ret
    exact ⟨rfl, .same HL.out (Kp.refl _ _)⟩
theorem tab_release (n : Int) (h : (Tab t aps x).on w F) : Calls Try.prog 13 #[.pointer (some ⟨t, 0, none⟩), .int .i64 n] w fun e w' =>
    e = .returned (.int .i64 (releaseOf aps n).1) ∧ Post (Tab t (releaseOf aps n).2 x) F w w' := by
  have HL := Lib.hid h
  unfold releaseOf
  rcases looks_two aps n 2 with hl | hl
  · rw [if_pos hl]
    have hl2 : ∀ w : World, (Tab t aps x).on w F → Calls Try.prog 27 #[.pointer (some ⟨t, 0, none⟩), .int .i64 n, .int .i64 2] w fun e w' => e = .returned (.int .i64 0) ∧ w = w' := fun w hw => hl ▸ tab_looks hw
    obtain ⟨i, a, rfl, hai, ha1⟩ := looks_ok hl
    obtain ⟨p, m, pgs, h⟩ := h
    obtain ⟨q, hqp⟩ : ∃ q, pgs[i]? = some q := ⟨_, List.getElem?_eq_getElem (show i < pgs.length by rw [h.len]; exact (List.getElem?_eq_some_iff.1 hai).1)⟩
    obtain ⟨g0, g1⟩ := h.page hqp
    have f0 := h.free (i * 2)
    have f1 := h.free (i * 2 + 1)
    obtain ⟨c0, c1, _, _⟩ := cells2 h.tb
    have hil : (i : Int) < pgs.length := by have := (List.getElem?_eq_some_iff.1 hqp).1; omega
    have hm := h.most
    have HI := Lib.hid h
    clear h hl
    go_enter Try.func13, Try.ntmps13
    go_wp2_with (first | (go_at_call 27; refine (hl2 _ HL.out).mono ?_; rintro e w' ⟨rfl, rfl⟩))
    go_ret
    obtain ⟨r1, r2⟩ := HI.out.setpg hqp ⟨0, none⟩ (0, (0, 0)) rfl (fun h => by simp at h)
    refine ⟨rfl, _, ⟨p, m, _, r1⟩, r2.mono (fun c hc => by subst hc; exact HI.out.fp), fun c hc => .inl ?_⟩
    rcases hc with hc | hc
    · exact hc
    · simp at hc
  · rw [if_neg (by omega)]
    have hl2 : ∀ w : World, (Tab t aps x).on w F → Calls Try.prog 27 #[.pointer (some ⟨t, 0, none⟩), .int .i64 n, .int .i64 2] w fun e w' => e = .returned (.int .i64 4) ∧ w = w' := fun w hw => hl ▸ tab_looks hw
    clear h hl
    go_enter Try.func13, Try.ntmps13
    go_wp2_with (first | (go_at_call 27; refine (hl2 _ HL.out).mono ?_; rintro e w' ⟨rfl, rfl⟩))
    go_ret
    exact ⟨rfl, .same HL.out (Kp.refl _ _)⟩
theorem tab_missed (h : (Tab t aps x).on w F) : Calls Try.prog 11 #[.pointer (some ⟨t, 0, none⟩)] w fun e w' => e = .returned (.int .i64 x) ∧ w = w' := by
  obtain ⟨p, m, pgs, h⟩ := h
  exact missed_tab h
theorem tab_state (n : Int) (h : (Tab t aps x).on w F) : Calls Try.prog 21 #[.pointer (some ⟨t, 0, none⟩), .int .i64 n] w fun e w' => e = .returned (.int .i64 (stOf aps n)) ∧ w = w' := by
  obtain ⟨p, m, pgs, h⟩ := h
  exact state_tab h n
end
end Go.Proofs.Ytkjkaliblkihmaa
