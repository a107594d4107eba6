/- The walks of slices.Clone, Grow, Concat on entries; page.with; the clones. -/
import Derived.Test.YtkdlodjpambelaaSameP
namespace Go.Proofs.Ytkdlodjpambelaa
set_option linter.unusedVariables false
set_option linter.unusedSimpArgs false
open Go Go.RowKit

theorem elt_En : Elt Try.prog 22 28 (.agg #[.string empS, .int .i64 0, .int .i64 0, .int .i64 0]) 4 40 := ⟨Try.underlying22, by kernel_rfl, rfl, by decide⟩
theorem enc4 (x : En) : (En.enc x).length = 4 := rfl
theorem enc1 (x : En) : ∀ u ∈ En.enc x, u.oneCell' = true := by
  intro u hu
  simp [En.enc, Hd.enc] at hu
  rcases hu with rfl | rfl | rfl | rfl <;> rfl
/-- The row of a list of entries. -/
abbrev RowE (a : Option Addr) (cap : Nat) (l : List En) : Asr := RowA 28 4 (.slice a l.length cap) l.length (l.flatMap En.enc)
/-- A new slice that reads as l. -/
def GaveL (l : List En) (w : World) (e : Ending) (w' : World) : Prop := ∃ a cap, e = .returned (.slice a l.length cap) ∧ Post (RowE a cap l) (fun _ => False) w w'
theorem RowE.rl {a : Option Addr} {cap : Nat} {l : List En} {w : World} {F : Nat → Prop} (h : (RowE a cap l).on w F) : Rl En.enc 4 w (.slice a l.length cap) l := Rl.of_row enc4 rfl h
theorem postE_nil (w : World) : Post (RowE none 0 []) (fun _ => False) w w := post_nil 28 4 w

def Parts (w : World) (ps : List (Value × List En)) : Prop := ∀ (i : Nat) (p : Value × List En), ps[i]? = some p → Rl En.enc 4 w p.1 p.2
theorem Parts.kn {w w' : World} {ps : List (Value × List En)} (h : Parts w ps) (k : KN w w') : Parts w' ps := fun i p hp => (h i p hp).kn k
def allOf (ps : List (Value × List En)) : List En := ps.flatMap (·.2)
def vals (ps : List (Value × List En)) : List Value := ps.map (·.1)
theorem allOf_take (ps : List (Value × List En)) (k : Nat) (p : Value × List En) (h : ps[k]? = some p) : allOf (ps.take (k + 1)) = allOf (ps.take k) ++ p.2 := by
  unfold allOf
  rw [List.take_add_one, h, List.flatMap_append]
  simp
theorem allOf_le (ps : List (Value × List En)) (k : Nat) : (allOf (ps.take k)).length ≤ (allOf ps).length := by
  have : allOf ps = allOf (ps.take k) ++ allOf (ps.drop k) := by unfold allOf; rw [← List.flatMap_append, List.take_append_drop]
  rw [this, List.length_append]; omega
/-- What slices.Grow of nothing gives: nothing, but room. -/
def GrowGave (w : World) (e : Ending) (w' : World) : Prop := ∃ a cap, e = .returned (.slice a 0 cap) ∧ Post (RowA 28 4 (.slice a 0 cap) 0 []) (fun _ => False) w w'
set_option maxHeartbeats 1000000 in
theorem grow_nil (n : Nat) (w : World) (h63 : n ≤ maxLen) (hb : n * 40 ≤ 140737488355328) : Calls Try.prog 65 #[.slice none 0 0, .int .i64 n] w (GrowGave w) := by
  unfold maxLen at h63
  by_cases h0 : n = 0
  · subst h0
    go_enter Try.func65, Try.ntmps65
    go_wp2
    go_ret
    exact ⟨none, 0, rfl, post_nil 28 4 w⟩
  · obtain ⟨g, cap, w1, xs, hrun, hcap, hp⟩ := post_zeros (P := Try.prog) w elt_En 22 Try.underlying3 n (by omega) (by unfold maxLen; omega) hb
    have hn : ¬ (n : Int) < 0 := by omega
    have hn2 : (0 : Int) < (n : Int) := by omega
    have HR := Lib.hid hrun
    have HP := Lib.hid hp
    have H0 := Lib.hid h0
    clear hrun hp h0
    go_enter Try.func65, Try.ntmps65
    go_wp2_with (at_builtin; refine Go.Lib.wpList_append_run _ rfl _ _ _ _ rfl _ _ rfl rfl _ _ HR.out ?_)
    go_ret
    obtain ⟨F, ⟨a1, rfl⟩, k, f⟩ := HP.out
    exact ⟨some ⟨g, 0, none⟩, cap, rfl, _, ⟨own_none a1 (by simp), rfl⟩, k, f⟩
/-- slices.Concat: the slices lie in the cells of a block, one behind another. -/
theorem concat_En {b cap : Nat} (ps : List (Value × List En)) (w : World) (hc : ∀ (i : Nat) (p : Value × List En), ps[i]? = some p → w.cell? ⟨b, i, none⟩ = some p.1) (hp : Parts w ps) (h63 : (allOf ps).length ≤ maxLen) (hb : (allOf ps).length * 40 ≤ 140737488355328) (hps : ps.length ≤ 100) :
    Calls Try.prog 60 #[.slice (some ⟨b, 0, none⟩) ps.length cap] w (GaveL (allOf ps) w) := by
  unfold maxLen at h63
  have HC := Lib.hid hc
  have HP := Lib.hid hp
  clear hc hp
  go_enter Try.func60, Try.ntmps60
  go_wp2
  go_loop [3, 5, 11] (fun s _ i => ∃ k : Nat, k ≤ ps.length ∧ i = .int .i64 k ∧ s = .int .i64 (allOf (ps.take k)).length) (fun _ _ i => ps.length - (intOf i).toNat)
  case atStart => exact ⟨0, Nat.zero_le _, rfl, rfl⟩
  case round =>
    obtain ⟨k, hk, rfl, rfl⟩ := hrel
    have hle := allOf_le ps k
    by_cases hlt : k < ps.length
    · obtain ⟨⟨v, l⟩, hx⟩ : ∃ p, ps[k]? = some p := ⟨_, List.getElem?_eq_getElem hlt⟩
      have c0 := HC.out k _ hx
      obtain ⟨a, c, hv, hlc, _⟩ := HP.out k _ hx
      simp only at hv hlc c0
      subst hv
      have hst := allOf_take ps k _ hx
      have hle2 := allOf_le ps (k + 1)
      rw [hst, List.length_append] at hle2
      simp only at hle2
      have HS := Lib.hid hst
      clear hx hst
      have hz : (0 : Int) ≤ (k : Int) := by omega
      go_wp2
      go_round
      case rel => exact ⟨k + 1, by omega, by go_num, by rw [HS.out, List.length_append]; go_num⟩
      case measure => simp [intOf]; omega
    · obtain rfl : k = ps.length := by omega
      have e := List.take_length (l := ps)
      rw [e]
      rw [e] at hle
      clear e
      go_wp2_with fail
      refine (grow_nil _ _ (by unfold maxLen; omega) hb).mono ?_
      rintro e w1 ⟨a1, c1, rfl, hpost⟩
      have HO := Lib.hid ((One.nil w).add hpost)
      clear hpost
      go_wp2_with fail
      go_loopw [6, 8, 27] (fun s _ i wr => ∃ (k : Nat) (a : Option Addr) (c : Nat), k ≤ ps.length ∧ i = .int .i64 k ∧ s = .slice a (allOf (ps.take k)).length c ∧ Hid (One w wr [RowE a c (allOf (ps.take k))])) (fun _ _ i _ => ps.length - (intOf i).toNat)
      case atStart => exact ⟨0, a1, c1, Nat.zero_le _, rfl, rfl, HO⟩
      case round =>
        obtain ⟨k, a, c, hk, rfl, rfl, HR⟩ := hrel
        clear HO hle
        by_cases hlt : k < ps.length
        · obtain ⟨⟨v, l⟩, hx⟩ : ∃ p, ps[k]? = some p := ⟨_, List.getElem?_eq_getElem hlt⟩
          have hk1 := HR.out.old
          have c0 := HC.out k _ hx
          have HL := Lib.hid (show Rl En.enc 4 wr v l from (HP.out k _ hx).kn hk1)
          replace c0 := cell_kp hk1 (a := ⟨b, k, none⟩) id c0
          simp only at c0
          have hst := allOf_take ps k _ hx
          have hle2 := allOf_le ps (k + 1)
          rw [hst, List.length_append] at hle2
          simp only at hle2 hst
          have HS := Lib.hid hst
          clear hx hst hk1
          have hz : (0 : Int) ≤ (k : Int) := by omega
          generalize allOf (ps.take k) = xs at *
          go_wp2_with (at_builtin; go_loud (refine wpList_appL 33 rfl rfl rfl rfl elt_En HR.out 0 rfl rfl rfl enc4 HL.out enc1 (by unfold maxLen; omega) (by omega) ?_); intro a2 c2 w2 ho)
          go_roundw
          case rel =>
            refine ⟨k + 1, a2, c2, by omega, by go_num, ?_, ?_⟩
            · rw [HS.out, List.length_append]
            · rw [HS.out]
              have := Lib.hid ho
              unfold RowE
              rw [List.length_append, List.flatMap_append]
              exact this
          case measure => simp [intOf]; omega
        · obtain rfl : k = ps.length := by omega
          have e := List.take_length (l := ps)
          rw [e] at HR ⊢
          clear e
          go_wp2
          go_ret
          exact ⟨a, c, rfl, HR.out.post 0 rfl⟩
end Go.Proofs.Ytkdlodjpambelaa
