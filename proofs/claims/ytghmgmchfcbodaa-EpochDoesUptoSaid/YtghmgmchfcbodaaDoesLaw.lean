/- EpochDoes: the plain law: the epoch and the reference go side by side. -/
import Derived.Test.YtghmgmchfcbodaaLawAges
import Derived.Test.YtghmgmchfcbodaaEndsLaw
import Derived.Test.YtghmgmchfcbodaaRefEp3
namespace Go.Proofs.Ytghmgmchfcbodaa
set_option linter.unusedVariables false
set_option linter.unusedSimpArgs false
open Go Go.RowKit

structure Sim (k : Nat) (σ : Eps) (ρ : Rps) : Prop where
  good : Good k σ
  rfit : ρ.Fit
  now : ρ.now = σ.now
  is : ∀ s : Nat, s < 17 → ρ.isAt s = (σ.at s != 0)
  at_ : ∀ s : Nat, s < 17 → ρ.isAt s = true → ρ.atAt s = σ.at s
  limbo : ρ.limbo = σ.limbo
  len : σ.limbo.length ≤ k
theorem sim0 : Sim 0 ep0 ref0 := by
  refine ⟨good0, rfit0, rfl, fun s hs => ?_, fun s hs h => ?_, rfl, by decide⟩
  · have h1 : ep0.at s = 0 := by
      show (List.replicate 17 (0 : Int)).getD s 0 = 0
      simp only [List.getD, List.getElem?_replicate, if_pos hs]; rfl
    have h2 : ref0.isAt s = false := by
      show (List.replicate 17 false).getD s false = false
      simp only [List.getD, List.getElem?_replicate, if_pos hs]; rfl
    rw [h1, h2]; rfl
  · have h2 : ref0.isAt s = false := by
      show (List.replicate 17 false).getD s false = false
      simp only [List.getD, List.getElem?_replicate, if_pos hs]; rfl
    rw [h2] at h; cases h
theorem at_put' {σ : Eps} (hf : σ.Fit) {i j : Nat} {x : Int} (hi : i < 17) : (σ.put i x).at j = if i = j then x else σ.at j := by
  simp only [Eps.put, Eps.at, Int.toNat_natCast, List.getD, List.getElem?_set]
  by_cases e : i = j
  · subst e; rw [if_pos rfl, if_pos (by have := hf.xlen; omega), if_pos rfl]; rfl
  · rw [if_neg e, if_neg e]
theorem isAt_set {n : Nat} {is : List Bool} {ts : List Int} {l : List PW} {i j : Nat} {x : Bool} (hl : is.length = 17) (hi : i < 17) : (⟨n, is.set i x, ts, l⟩ : Rps).isAt j = if i = j then x else is.getD j false := by
  simp only [Rps.isAt, Int.toNat_natCast, List.getD, List.getElem?_set]
  by_cases e : i = j
  · subst e; rw [if_pos rfl, if_pos (by omega), if_pos rfl]; rfl
  · rw [if_neg e, if_neg e]
theorem atAt_set {n : Nat} {is : List Bool} {ts : List Int} {l : List PW} {i j : Nat} {x : Int} (hl : ts.length = 17) (hi : i < 17) : (⟨n, is, ts.set i x, l⟩ : Rps).atAt j = if i = j then x else ts.getD j 0 := by
  simp only [Rps.atAt, Int.toNat_natCast, List.getD, List.getElem?_set]
  by_cases e : i = j
  · subst e; rw [if_pos rfl, if_pos (by omega), if_pos rfl]; rfl
  · rw [if_neg e, if_neg e]
section
variable {k : Nat} {σ : Eps} {ρ : Rps}
theorem sim_mono {k' : Nat} (h : Sim k σ ρ) (hk : k ≤ k') : Sim k' σ ρ := ⟨good_mono h.good hk, h.rfit, h.now, h.is, h.at_, h.limbo, Nat.le_trans h.len hk⟩
theorem sim_pinned (h : Sim k σ ρ) (s : Int) : ρ.pinned s = σ.pinned s := by
  unfold Rps.pinned Eps.pinned
  cases hs : inS s with
  | false => simp
  | true =>
    obtain ⟨i, rfl, hi⟩ := inS_lt hs
    have h1 := h.is i hi
    by_cases hz : σ.at i = 0
    · rw [hz] at h1
      have h2 : ρ.isAt i = false := h1
      simp [h2, hz]
    · have h2 : ρ.isAt i = true := by rw [h1]; simp [hz]
      simp [h2, hz, h.at_ i hi h2]
theorem sim_pin (h : Sim k σ ρ) (s : Int) : (ρ.pin s).2 = (σ.pin s).2 ∧ Sim (k + 1) (σ.pin s).1 (ρ.pin s).1 := by
  have hgp := good_pin h.good s
  cases hs : inS s with
  | false =>
    have e1 : ρ.pin s = (ρ, 1) := by simp [Rps.pin, hs]
    have e2 : σ.pin s = (σ, 1) := by simp [Eps.pin, hs]
    rw [e1, e2]; exact ⟨rfl, sim_mono h (by omega)⟩
  | true =>
    obtain ⟨i, rfl, hi⟩ := inS_lt hs
    have h1 := h.is i hi
    by_cases hz : σ.at i = 0
    · rw [hz] at h1
      have h2 : ρ.isAt i = false := h1
      have e1 : ρ.pin i = (⟨ρ.now, ρ.is.set i true, ρ.at_.set i ρ.now, ρ.limbo⟩, 0) := by simp [Rps.pin, hs, h2]
      have e2 : σ.pin i = (σ.put i σ.now, 0) := by simp [Eps.pin, hs, hz]
      rw [e2] at hgp
      rw [e1, e2]
      have hp := h.good.fit.pos
      refine ⟨rfl, good_mono hgp (by omega), ⟨h.rfit.pos, h.rfit.top, by simpa using h.rfit.ilen, by simpa using h.rfit.alen⟩, h.now, fun j hj => ?_, fun j hj hq => ?_, h.limbo, Nat.le_succ_of_le h.len⟩
      · rw [isAt_set h.rfit.ilen hi, at_put' h.good.fit hi]
        by_cases e : i = j
        · rw [if_pos e, if_pos e]; simp; omega
        · rw [if_neg e, if_neg e]; exact h.is j hj
      · rw [at_put' h.good.fit hi]
        have : (⟨ρ.now, ρ.is.set i true, ρ.at_.set i ρ.now, ρ.limbo⟩ : Rps).atAt j = if i = j then (ρ.now : Int) else ρ.at_.getD j 0 := atAt_set h.rfit.alen hi
        rw [this]
        rw [isAt_set h.rfit.ilen hi] at hq
        by_cases e : i = j
        · rw [if_pos e, if_pos e, h.now]
        · rw [if_neg e] at hq ⊢
          rw [if_neg e]
          exact h.at_ j hj hq
    · have h2 : ρ.isAt i = true := by rw [h1]; simp [hz]
      have e1 : ρ.pin i = (ρ, 60) := by simp [Rps.pin, hs, h2]
      have e2 : σ.pin i = (σ, 60) := by simp [Eps.pin, hs, hz]
      rw [e1, e2]; exact ⟨rfl, sim_mono h (by omega)⟩
theorem sim_unpin (h : Sim k σ ρ) (s : Int) : (ρ.unpin s).2 = (σ.unpin s).2 ∧ Sim (k + 1) (σ.unpin s).1 (ρ.unpin s).1 := by
  have hgp := good_unpin h.good s
  cases hs : inS s with
  | false =>
    have e1 : ρ.unpin s = (ρ, 1) := by simp [Rps.unpin, hs]
    have e2 : σ.unpin s = (σ, 1) := by simp [Eps.unpin, hs]
    rw [e1, e2]; exact ⟨rfl, sim_mono h (by omega)⟩
  | true =>
    obtain ⟨i, rfl, hi⟩ := inS_lt hs
    have h1 := h.is i hi
    by_cases hz : σ.at i = 0
    · rw [hz] at h1
      have h2 : ρ.isAt i = false := h1
      have e1 : ρ.unpin i = (ρ, 61) := by simp [Rps.unpin, hs, h2]
      have e2 : σ.unpin i = (σ, 61) := by unfold Eps.unpin; rw [if_pos hs, if_pos hz, put_same (by have := h.good.fit.xlen; omega) hz]
      rw [e1, e2]; exact ⟨rfl, sim_mono h (by omega)⟩
    · have h2 : ρ.isAt i = true := by rw [h1]; simp [hz]
      have e1 : ρ.unpin i = (⟨ρ.now, ρ.is.set i false, ρ.at_, ρ.limbo⟩, 0) := by simp [Rps.unpin, hs, h2]
      have e2 : σ.unpin i = (σ.put i 0, 0) := by unfold Eps.unpin; rw [if_pos hs, if_neg hz]
      rw [e2] at hgp
      rw [e1, e2]
      refine ⟨rfl, good_mono hgp (by omega), ⟨h.rfit.pos, h.rfit.top, by simpa using h.rfit.ilen, h.rfit.alen⟩, h.now, fun j hj => ?_, fun j hj hq => ?_, h.limbo, Nat.le_succ_of_le h.len⟩
      · rw [isAt_set h.rfit.ilen hi, at_put' h.good.fit hi]
        by_cases e : i = j
        · rw [if_pos e, if_pos e]; rfl
        · rw [if_neg e, if_neg e]; exact h.is j hj
      · rw [isAt_set h.rfit.ilen hi] at hq
        rw [at_put' h.good.fit hi]
        by_cases e : i = j
        · rw [if_pos e] at hq; cases hq
        · rw [if_neg e] at hq ⊢
          exact h.at_ j hj hq
theorem limbo_form (hp : 0 < σ.now) (hg : σ.Gap) : σ.limbo = (σ.row ((σ.now + 2) % 3)).map (fun x => ((σ.now : Int) - 1, x)) ++ (σ.row (σ.now % 3)).map (fun x => ((σ.now : Int), x)) := by
  by_cases e : σ.now = 1
  · unfold Eps.limbo Eps.upto
    rw [e]
    simp only [show (1 : Nat) - 2 = 0 from rfl, show 1 + 1 - 0 = 2 from rfl, List.range'_succ, List.range'_zero, List.flatMap_cons, List.flatMap_nil, List.append_nil]
    rfl
  · obtain ⟨n, hn⟩ : ∃ n, σ.now = n + 2 := ⟨σ.now - 2, by omega⟩
    unfold Eps.limbo Eps.upto
    unfold Eps.Gap at hg
    rw [hn] at hg ⊢
    rw [show n + 2 - 2 = n by omega, show n + 2 + 1 - n = 3 by omega]
    simp only [List.range'_succ, List.range'_zero, List.flatMap_cons, List.flatMap_nil, List.append_nil]
    rw [show n % 3 = (n + 2 + 1) % 3 by omega, hg, List.map_nil, List.nil_append, show (n + 1) % 3 = (n + 2 + 2) % 3 by omega, show (((n + 1 : Nat)) : Int) = ((n + 2 : Nat) : Int) - 1 by omega]
theorem limbo_retire (hg : Good k σ) (x : Re) : (σ.retire x).limbo = σ.limbo ++ [((σ.now : Int), x)] := by
  have h2 := good_retire hg x
  rw [limbo_form h2.fit.pos h2.gap, limbo_form hg.fit.pos hg.gap]
  have h3 : (σ.retire x).row ((σ.now + 2) % 3) = σ.row ((σ.now + 2) % 3) := by
    unfold Eps.retire
    rw [row_set hg.fit.llen, if_neg (by omega)]
  have h4 : (σ.retire x).row (σ.now % 3) = σ.row (σ.now % 3) ++ [x] := by
    unfold Eps.retire
    rw [row_set hg.fit.llen, if_pos (by omega)]
  show ((σ.retire x).row ((σ.now + 2) % 3)).map (fun y => ((σ.now : Int) - 1, y)) ++ ((σ.retire x).row (σ.now % 3)).map (fun y => ((σ.now : Int), y)) = _
  rw [h3, h4, List.map_append, List.append_assoc]
  rfl
theorem sim_retire (h : Sim k σ ρ) (x : Re) : Sim (k + 1) (σ.retire x) (ρ.retire x) :=
  ⟨good_retire h.good x, ⟨h.rfit.pos, h.rfit.top, h.rfit.ilen, h.rfit.alen⟩, h.now, h.is, h.at_, by rw [limbo_retire h.good, ← h.limbo, ← h.now]; rfl, by rw [limbo_retire h.good, List.length_append]; have := h.len; simp; omega⟩
theorem held_sim (h : Sim k σ ρ) : ρ.held = σ.held := by
  cases hh : σ.held with
  | true =>
    unfold Eps.held at hh
    rw [List.any_eq_true] at hh
    obtain ⟨x, hx, hq⟩ := hh
    obtain ⟨i, hi⟩ := List.getElem?_of_mem hx
    simp only [Bool.and_eq_true, bne_iff_ne, ne_eq, decide_eq_true_eq] at hq
    have hil := (List.getElem?_eq_some_iff.1 hi).1
    rw [h.good.fit.xlen] at hil
    have hat : σ.at i = x := by simp only [Eps.at, Int.toNat_natCast, List.getD, hi]; rfl
    have h1 : ρ.isAt i = true := by rw [h.is i hil, hat]; simp [hq.1]
    exact rheld_yes hil h1 (by rw [h.at_ i hil h1, hat, h.now]; exact hq.2)
  | false =>
    refine rheld_no fun i hi => ?_
    by_cases hz : σ.at i = 0
    · left; rw [h.is i hi, hz]; rfl
    · right
      have h1 : ρ.isAt i = true := by rw [h.is i hi]; simp [hz]
      rw [h.at_ i hi h1, h.now]
      have hxs : σ.xs[i]? = some (σ.at i) := by
        have : i < σ.xs.length := by have := h.good.fit.xlen; omega
        simp only [Eps.at, Int.toNat_natCast, List.getD, List.getElem?_eq_getElem this]
        rfl
      by_cases hlt : σ.at i < σ.now
      · rw [held_yes hxs hz hlt] at hh; cases hh
      · omega
theorem sim_adv (h : Sim k σ ρ) (hk : k + 2 < 4611686018427387904) : ρ.advance.2 = σ.advance.2 ∧ Sim (k + 1) σ.advance.1 ρ.advance.1 := by
  have hga := good_advance h.good hk
  unfold Rps.advance
  rw [held_sim h]
  cases hh : σ.held with
  | true =>
    have e : σ.advance = (σ, [], 62) := by unfold Eps.advance; rw [if_pos hh]
    rw [e, if_pos rfl]
    exact ⟨rfl, sim_mono h (by omega)⟩
  | false =>
    have e : σ.advance = (⟨σ.now + 1, σ.xs, σ.ls.set ((σ.now + 2) % 3) []⟩, σ.row ((σ.now + 2) % 3), 0) := by unfold Eps.advance; rw [if_neg (by rw [hh]; simp)]
    rw [e] at hga ⊢
    rw [if_neg (by simp)]
    simp only at hga ⊢
    have hf := limbo_form h.good.fit.pos h.good.gap
    have ho : Eps.row ⟨σ.now + 1, σ.xs, σ.ls.set ((σ.now + 2) % 3) []⟩ ((σ.now + 1 + 2) % 3) = σ.row (σ.now % 3) := by
      rw [row_set h.good.fit.llen, if_neg (by omega), show (σ.now + 1 + 2) % 3 = σ.now % 3 by omega]
    have hc : Eps.row ⟨σ.now + 1, σ.xs, σ.ls.set ((σ.now + 2) % 3) []⟩ ((σ.now + 1) % 3) = [] := by
      rw [row_set h.good.fit.llen, if_neg (by omega)]
      exact h.good.gap
    have hl2 : Eps.limbo ⟨σ.now + 1, σ.xs, σ.ls.set ((σ.now + 2) % 3) []⟩ = (σ.row (σ.now % 3)).map (fun x => ((σ.now : Int), x)) := by
      rw [limbo_form hga.fit.pos hga.gap]
      show (Eps.row ⟨σ.now + 1, σ.xs, σ.ls.set ((σ.now + 2) % 3) []⟩ ((σ.now + 1 + 2) % 3)).map (fun x => (((σ.now + 1 : Nat) : Int) - 1, x)) ++ (Eps.row ⟨σ.now + 1, σ.xs, σ.ls.set ((σ.now + 2) % 3) []⟩ ((σ.now + 1) % 3)).map _ = _
      rw [ho, hc, List.map_nil, List.append_nil, show ((σ.now + 1 : Nat) : Int) - 1 = (σ.now : Int) by omega]
    have g1 : ∀ x : Re, gone ((σ.now : Int) + 1) ((σ.now : Int) - 1, x) = true := fun x => by simp [gone]; omega
    have g2 : ∀ x : Re, gone ((σ.now : Int) + 1) ((σ.now : Int), x) = false := fun x => by simp [gone]; omega
    have f1 : ∀ l : List Re, (l.map fun x => ((σ.now : Int) - 1, x)).filter (gone ((σ.now : Int) + 1)) = l.map fun x => ((σ.now : Int) - 1, x) := fun l => by
      rw [List.filter_eq_self]; intro y hy; obtain ⟨x, _, rfl⟩ := List.mem_map.1 hy; exact g1 x
    have f2 : ∀ l : List Re, (l.map fun x => ((σ.now : Int), x)).filter (gone ((σ.now : Int) + 1)) = [] := fun l => by
      rw [List.filter_eq_nil_iff]; intro y hy; obtain ⟨x, _, rfl⟩ := List.mem_map.1 hy; rw [g2 x]; simp
    have f3 : ∀ l : List Re, (l.map fun x => ((σ.now : Int) - 1, x)).filter (fun x => !gone ((σ.now : Int) + 1) x) = [] := fun l => by
      rw [List.filter_eq_nil_iff]; intro y hy; obtain ⟨x, _, rfl⟩ := List.mem_map.1 hy; rw [g1 x]; simp
    have f4 : ∀ l : List Re, (l.map fun x => ((σ.now : Int), x)).filter (fun x => !gone ((σ.now : Int) + 1) x) = l.map fun x => ((σ.now : Int), x) := fun l => by
      rw [List.filter_eq_self]; intro y hy; obtain ⟨x, _, rfl⟩ := List.mem_map.1 hy; rw [g2 x]; rfl
    have hout : outsOf ((σ.now : Int) + 1) σ.limbo = σ.row ((σ.now + 2) % 3) := by
      unfold outsOf
      rw [hf, List.filter_append, f1, f2, List.append_nil, List.map_map]
      exact List.map_id' _
    have hkeep : keepsOf ((σ.now : Int) + 1) σ.limbo = (σ.row (σ.now % 3)).map fun x => ((σ.now : Int), x) := by
      unfold keepsOf
      rw [hf, List.filter_append, f3, f4, List.nil_append]
    rw [h.now, h.limbo, hout, hkeep]
    have hn := h.good.now
    refine ⟨rfl, hga, ⟨by show 0 < σ.now + 1; omega, by show σ.now + 1 < _; omega, h.rfit.ilen, h.rfit.alen⟩, rfl, h.is, h.at_, hl2.symm, ?_⟩
    rw [hl2, List.length_map]
    have := h.len
    rw [hf, List.length_append, List.length_map, List.length_map] at this
    omega
end
end Go.Proofs.Ytghmgmchfcbodaa
