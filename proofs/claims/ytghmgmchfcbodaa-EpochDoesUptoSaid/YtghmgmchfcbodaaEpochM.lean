/- Epochs: the plain epoch; session, looks, Pin, Unpin, Pinned. -/
import Derived.Test.YtghmgmchfcbodaaEpochN
import Derived.Deep.RegionHeld3
namespace Go.Proofs.Ytghmgmchfcbodaa
set_option linter.unusedVariables false
set_option linter.unusedSimpArgs false
open Go Go.RowKit

/-- The plain epoch: the epoch, the pins, what waits in each row. -/
structure Eps where
  now : Nat
  xs : List Int
  ls : List (List Re)
/-- It is one: its sizes, and its number is neither nothing nor too great. -/
structure Eps.Fit (σ : Eps) : Prop where
  pos : 0 < σ.now
  top : σ.now < 4611686018427387904
  xlen : σ.xs.length = 17
  llen : σ.ls.length = 3
  inx : ∀ x ∈ σ.xs, 0 ≤ x ∧ x < 4611686018427387904
def EpA (b : Nat) (σ : Eps) : Asr where
  on := fun w F => ∃ ps rs, ps.length = 17 ∧ rs.map (fun r : Lim => r.2.2) = σ.ls ∧ (Ep b σ.now ps σ.xs rs).on w F
  keep := fun h k hS => by
    obtain ⟨ps, rs, h1, h2, h⟩ := h
    exact ⟨ps, rs, h1, h2, (Ep b _ ps _ rs).keep h k hS⟩
  lt := fun h => by
    obtain ⟨ps, rs, _, _, h⟩ := h
    exact (Ep b _ ps _ rs).lt h
theorem Post.some {α : Type} {A : Asr} {w w' : World} {F : Nat → Prop} {B : Asr} (h : Post A F w w') (hi : ∀ F', A.on w' F' → B.on w' F') : Post B F w w' := h.imp hi
def inS (s : Int) : Bool := decide (0 ≤ s) && decide (s ≤ 16)
def Eps.at (σ : Eps) (s : Int) : Int := σ.xs.getD s.toNat 0
def Eps.put (σ : Eps) (s x : Int) : Eps := ⟨σ.now, σ.xs.set s.toNat x, σ.ls⟩
def Eps.looks (s : Int) : Int := if inS s then 0 else 1
def Eps.pin (σ : Eps) (s : Int) : Eps × Int := if inS s then (if σ.at s = 0 then (σ.put s σ.now, 0) else (σ, 60)) else (σ, 1)
def Eps.unpin (σ : Eps) (s : Int) : Eps × Int := if inS s then (σ.put s 0, if σ.at s = 0 then 61 else 0) else (σ, 1)
def Eps.pinned (σ : Eps) (s : Int) : Int × Bool := if inS s then (σ.at s, σ.at s != 0) else (0, false)
section
variable {b : Nat} {σ : Eps} {w w' : World} {F : Nat → Prop}
theorem none_a (h : (EpA b σ).on w F) (hf : σ.Fit) : Calls Try.prog 27 #[.pointer (some ⟨b, 0, none⟩)] w fun e w' => e = .returned (.bool false) ∧ w = w' := by
  obtain ⟨ps, rs, _, _, h⟩ := h
  exact none_ep h (by have := hf.pos; omega)
theorem now_a (h : (EpA b σ).on w F) (hf : σ.Fit) : Calls Try.prog 19 #[.pointer (some ⟨b, 0, none⟩)] w fun e w' => e = .returned (.int .i64 σ.now) ∧ w = w' := by
  obtain ⟨ps, rs, _, _, h⟩ := h
  exact now_ep h (by have := hf.pos; omega)
theorem session_a (s : Int) (w : World) : Calls Try.prog 38 #[.int .i64 s] w fun e w' => e = .returned (.bool (inS s)) ∧ w = w' := by
  by_cases h0 : 0 ≤ s
  · by_cases h1 : s ≤ 16
    · have he := Lib.hid (show inS s = true by simp [inS, h0, h1])
      go_enter Try.func38, Try.ntmps38
      go_wp2
      go_ret
      exact ⟨by rw [he.out] <;> rfl, rfl⟩
    · have he := Lib.hid (show inS s = false by simp [inS, h1])
      go_enter Try.func38, Try.ntmps38
      go_wp2
      go_ret
      exact ⟨by rw [he.out] <;> rfl, rfl⟩
  · have he := Lib.hid (show inS s = false by simp [inS, h0])
    go_enter Try.func38, Try.ntmps38
    go_wp2
    go_ret
    exact ⟨by rw [he.out] <;> rfl, rfl⟩
theorem looks_a (h : (EpA b σ).on w F) (hf : σ.Fit) (s : Int) : Calls Try.prog 24 #[.pointer (some ⟨b, 0, none⟩), .int .i64 s] w fun e w' => e = .returned (.int .i64 (Eps.looks s)) ∧ w = w' := by
  have HC := Lib.hid (none_a h hf)
  clear h
  have HS := Lib.hid (session_a s)
  cases hs : inS s with
  | true =>
    have HE := Lib.hid (show Eps.looks s = 0 by simp [Eps.looks, hs])
    rw [hs] at HS
    clear hs
    go_enter Try.func24, Try.ntmps24
    go_wp2_with fail
    refine HC.out.mono ?_
    rintro e w' ⟨rfl, rfl⟩
    go_wp2_with fail
    refine (HS.out _).mono ?_
    rintro e w' ⟨rfl, rfl⟩
    go_wp2
    go_ret
    exact ⟨by rw [HE.out] <;> rfl, rfl⟩
  | false =>
    have HE := Lib.hid (show Eps.looks s = 1 by simp [Eps.looks, hs])
    rw [hs] at HS
    clear hs
    go_enter Try.func24, Try.ntmps24
    go_wp2_with fail
    refine HC.out.mono ?_
    rintro e w' ⟨rfl, rfl⟩
    go_wp2_with fail
    refine (HS.out _).mono ?_
    rintro e w' ⟨rfl, rfl⟩
    go_wp2
    go_ret
    exact ⟨by rw [HE.out] <;> rfl, rfl⟩
end
theorem inS_lt {s : Int} (h : inS s = true) : ∃ i : Nat, s = i ∧ i < 17 := by
  simp only [inS, Bool.and_eq_true, decide_eq_true_eq] at h
  exact ⟨s.toNat, by omega, by omega⟩
/-- What is known of a session's cell. -/
theorem EpA.pin {b : Nat} {σ : Eps} {w : World} {F : Nat → Prop} (h : (EpA b σ).on w F) (hf : σ.Fit) {i : Nat} (hi : i < 17) : ∃ p, w.cell? ⟨b, 0, none⟩ = some (.int .i64 σ.now) ∧ w.cell? ⟨b, 1 + i, none⟩ = some (.pointer (some ⟨p, 0, none⟩)) ∧ w.heap[p]? = some (atom (σ.at i)) ∧ ∀ y, Post (EpA b (σ.put i y)) F w (setB w p (atom y)) := by
  obtain ⟨ps, rs, h1, h2, h⟩ := h
  have hp : ps[i]? = some ps[i] := List.getElem?_eq_getElem (by omega)
  have hx : σ.xs[i]? = some (σ.xs[i]'(by have := hf.xlen; omega)) := List.getElem?_eq_getElem (by have := hf.xlen; omega)
  have ha : σ.at i = σ.xs[i]'(by have := hf.xlen; omega) := by simp [Eps.at, List.getD, hx]
  obtain ⟨c1, c2, c3⟩ := EpO.pin h (by rw [h1, hf.xlen]) hp hx
  exact ⟨ps[i], cell_blk (EpO.blk h).1 ec_now, cell_blk (EpO.blk h).1 (ec_pin (by rw [List.getElem?_map, hp]; rfl)), by rw [ha]; exact c1, fun y => (c3 y).imp fun F' h' => ⟨ps, rs, h1, h2, h'⟩⟩
theorem EpA.pin2 {b : Nat} {σ : Eps} {w : World} {F : Nat → Prop} (h : (EpA b σ).on w F) (hf : σ.Fit) {i : Nat} (hi : i < 17) : ∃ p, w.cell? ⟨b, 0, none⟩ = some (.int .i64 σ.now) ∧ w.cell? ⟨b, 1 + i, none⟩ = some (.pointer (some ⟨p, 0, none⟩)) ∧ w.heap[p]? = some (atom (σ.at i)) ∧ p ≠ b ∧ ∀ w0, KN w w0 → ∀ y, Post (EpA b (σ.put i y)) F w (setB w0 p (atom y)) := by
  obtain ⟨p, c0, ci, hp, _⟩ := EpA.pin h hf hi
  refine ⟨p, c0, ci, hp, ?_, fun w0 k y => ?_⟩
  · obtain ⟨ps, rs, h1, h2, h⟩ := h
    exact ne_blk hp (EpO.blk h).1 (by intro e; injection e with e1 e2; exact absurd e2 (by decide))
  · obtain ⟨p', c0', ci', hp', hu⟩ := EpA.pin ((EpA b σ).kn h k) hf hi
    have e : p' = p := by
      have h1 := (World.cell?_of_block (w := w) (w' := w0) (a := ⟨b, 1 + i, none⟩) (k.block b (World.block_lt_of_cell? w _ ci) id)).trans ci
      rw [ci'] at h1
      cases h1; rfl
    rw [e] at hu
    exact (hu y).pre k
theorem looks_in {s : Int} (h : inS s = true) : Eps.looks s = 0 := by simp [Eps.looks, h]
theorem looks_out {s : Int} (h : inS s = false) : Eps.looks s = 1 := by simp [Eps.looks, h]
section
variable {b : Nat} {σ : Eps} {w w' : World} {F : Nat → Prop}
theorem pin_a (h : (EpA b σ).on w F) (hf : σ.Fit) (s : Int) : Calls Try.prog 10 #[.pointer (some ⟨b, 0, none⟩), .int .i64 s] w fun e w' => e = .returned (.int .i64 (σ.pin s).2) ∧ Post (EpA b (σ.pin s).1) F w w' := by
  have HL := Lib.hid (looks_a h hf s)
  have HH := Lib.hid h
  have HF := Lib.hid hf
  clear h hf
  cases hs : inS s with
  | false =>
    have HE := Lib.hid (show σ.pin s = (σ, 1) by simp [Eps.pin, hs])
    rw [looks_out hs] at HL
    clear hs
    go_enter Try.func10, Try.ntmps10
    go_wp2_with fail
    refine HL.out.mono ?_
    rintro e w' ⟨rfl, rfl⟩
    go_wp2
    go_ret
    exact ⟨by rw [HE.out] <;> rfl, by rw [HE.out]; exact .same HH.out (Kp.refl _ _)⟩
  | true =>
    obtain ⟨i, rfl, hi⟩ := inS_lt hs
    have HI := Lib.hid hs
    rw [looks_in hs] at HL
    obtain ⟨p, c0, ci, hp, hne, hup⟩ := EpA.pin2 HH.out HF.out hi
    have hne := Lib.hid hne
    have HC := Lib.hid (fun W (k : KN w W) => acas 0 σ.now ((k.block p (lt_blk hp) id).trans hp))
    have HU := Lib.hid hup
    have hz0 : (0 : Int) ≤ (i : Int) := by omega
    have hz1 : (i : Int) < 17 := by omega
    clear hs hp hup
    cases hx : decide (σ.at i = 0) with
    | true =>
      have hx0 : σ.at i = 0 := by simpa using hx
      have HE := Lib.hid (show σ.pin i = (σ.put i σ.now, 0) by simp [Eps.pin, HI.out, hx0])
      simp only [hx, if_pos hx0] at HC
      clear hx hx0
      go_enter Try.func10, Try.ntmps10
      go_wp2_with fail
      refine HL.out.mono ?_
      rintro e w' ⟨rfl, rfl⟩
      go_wp2_with fail
      go_region_held3 (fun w' => w'.cell? ⟨b, 0, none⟩ = some (.int .i64 σ.now) ∧ w'.cell? ⟨b, 1 + i, none⟩ = some (.pointer (some ⟨p, 0, none⟩))) (first | (with_reducible exact K1.out) | go_keep) ((refine (HC.out _ (Kp.refl _ _).drew).mono ?_; rintro e w' ⟨rfl, hw⟩; have HW := Lib.hid hw; have K1 := Lib.hid (show w'.cell? ⟨b, 0, none⟩ = some (.int .i64 σ.now) ∧ w'.cell? ⟨b, 1 + i, none⟩ = some (.pointer (some ⟨p, 0, none⟩)) from by rw [hw]; exact ⟨(cell_setB' _ hne.out).trans c0, (cell_setB' _ hne.out).trans ci⟩); clear hw))
      go_wp2
      go_ret
      exact ⟨by rw [HE.out] <;> rfl, by rw [HE.out, HW.out]; exact HU.out _ (Kp.refl _ _).drew _⟩
    | false =>
      have hx0 : ¬ σ.at i = 0 := by simpa using hx
      have HE := Lib.hid (show σ.pin i = (σ, 60) by simp [Eps.pin, HI.out, hx0])
      simp only [hx, if_neg hx0] at HC
      clear hx hx0
      go_enter Try.func10, Try.ntmps10
      go_wp2_with fail
      refine HL.out.mono ?_
      rintro e w' ⟨rfl, rfl⟩
      go_wp2_with fail
      go_region_held3 (fun w' => w'.cell? ⟨b, 0, none⟩ = some (.int .i64 σ.now) ∧ w'.cell? ⟨b, 1 + i, none⟩ = some (.pointer (some ⟨p, 0, none⟩))) (first | (with_reducible exact K1.out) | go_keep) ((refine (HC.out _ (Kp.refl _ _).drew).mono ?_; rintro e w' ⟨rfl, hw⟩; have HW := Lib.hid hw; have K1 := Lib.hid (show w'.cell? ⟨b, 0, none⟩ = some (.int .i64 σ.now) ∧ w'.cell? ⟨b, 1 + i, none⟩ = some (.pointer (some ⟨p, 0, none⟩)) from by rw [hw]; exact ⟨c0, ci⟩); clear hw))
      go_wp2
      go_ret
      exact ⟨by rw [HE.out] <;> rfl, by rw [HE.out, HW.out]; exact .same HH.out (Kp.refl _ _).drew⟩
theorem unpin_a (h : (EpA b σ).on w F) (hf : σ.Fit) (s : Int) : Calls Try.prog 11 #[.pointer (some ⟨b, 0, none⟩), .int .i64 s] w fun e w' => e = .returned (.int .i64 (σ.unpin s).2) ∧ Post (EpA b (σ.unpin s).1) F w w' := by
  have HL := Lib.hid (looks_a h hf s)
  have HH := Lib.hid h
  have HF := Lib.hid hf
  clear h hf
  cases hs : inS s with
  | false =>
    have HE := Lib.hid (show σ.unpin s = (σ, 1) by simp [Eps.unpin, hs])
    rw [looks_out hs] at HL
    clear hs
    go_enter Try.func11, Try.ntmps11
    go_wp2_with fail
    refine HL.out.mono ?_
    rintro e w' ⟨rfl, rfl⟩
    go_wp2
    go_ret
    exact ⟨by rw [HE.out] <;> rfl, by rw [HE.out]; exact .same HH.out (Kp.refl _ _)⟩
  | true =>
    obtain ⟨i, rfl, hi⟩ := inS_lt hs
    have HI := Lib.hid hs
    rw [looks_in hs] at HL
    obtain ⟨p, c0, ci, hp, hup⟩ := EpA.pin HH.out HF.out hi
    have HC := Lib.hid (aswap 0 hp)
    have HU := Lib.hid hup
    have hz0 : (0 : Int) ≤ (i : Int) := by omega
    have hz1 : (i : Int) < 17 := by omega
    have HE := Lib.hid (show σ.unpin i = (σ.put i 0, if σ.at i = 0 then 61 else 0) by simp [Eps.unpin, HI.out])
    clear hs hp hup c0
    generalize σ.at i = x at *
    go_enter Try.func11, Try.ntmps11
    go_wp2_with fail
    refine HL.out.mono ?_
    rintro e w' ⟨rfl, rfl⟩
    go_wp2_with fail
    refine HC.out.mono ?_
    rintro e w' ⟨rfl, hw⟩
    have HW := Lib.hid hw
    clear hw
    by_cases hx : x = 0
    · subst hx
      go_wp2
      go_ret
      exact ⟨by rw [HE.out]; rfl, by rw [HE.out, HW.out]; exact HU.out _⟩
    · have HX := Lib.hid hx
      have hb : (x == 0) = false := beq_false_of_ne hx
      clear hx
      go_wp2
      go_ret
      exact ⟨by rw [HE.out, if_neg HX.out] <;> rfl, by rw [HE.out, HW.out]; exact HU.out _⟩
theorem pinned_a (h : (EpA b σ).on w F) (hf : σ.Fit) (s : Int) : Calls Try.prog 16 #[.pointer (some ⟨b, 0, none⟩), .int .i64 s] w fun e w' => e = .returned (.tuple #[.int .i64 (σ.pinned s).1, .bool (σ.pinned s).2]) ∧ w = w' := by
  have HL := Lib.hid (looks_a h hf s)
  have HH := Lib.hid h
  have HF := Lib.hid hf
  clear h hf
  cases hs : inS s with
  | false =>
    have HE := Lib.hid (show σ.pinned s = (0, false) by simp [Eps.pinned, hs])
    rw [looks_out hs] at HL
    clear hs
    go_enter Try.func16, Try.ntmps16
    go_wp2_with fail
    refine HL.out.mono ?_
    rintro e w' ⟨rfl, rfl⟩
    go_wp2
    go_ret2
    exact ⟨by rw [HE.out] <;> rfl, rfl⟩
  | true =>
    obtain ⟨i, rfl, hi⟩ := inS_lt hs
    have HI := Lib.hid hs
    rw [looks_in hs] at HL
    obtain ⟨p, c0, ci, hp, hup⟩ := EpA.pin HH.out HF.out hi
    have HC := Lib.hid (aload hp)
    have hz0 : (0 : Int) ≤ (i : Int) := by omega
    have hz1 : (i : Int) < 17 := by omega
    have HE := Lib.hid (show σ.pinned i = (σ.at i, σ.at i != 0) by simp [Eps.pinned, HI.out])
    clear hs hp hup c0
    generalize σ.at i = x at *
    go_enter Try.func16, Try.ntmps16
    go_wp2_with fail
    refine HL.out.mono ?_
    rintro e w' ⟨rfl, rfl⟩
    go_wp2_with fail
    refine HC.out.mono ?_
    rintro e w' ⟨rfl, rfl⟩
    go_wp2
    go_ret2
    exact ⟨by rw [HE.out] <;> rfl, rfl⟩
end
end Go.Proofs.Ytghmgmchfcbodaa
