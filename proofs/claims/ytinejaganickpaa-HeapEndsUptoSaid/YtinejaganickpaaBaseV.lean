/- The walks of slices.Grow, Concat on versions. Printed by gen16a.py. -/
import Derived.Test.YtinejaganickpaaTypesHp
import Derived.Test.YtinejaganickpaaBaseA
import Derived.WalkLawsBesides
import Derived.Shelf.Abstract
import Derived.Test.YtinejaganickpaaBaseW
import Derived.RegionTactic
import Derived.Deep.RegionHeld3
import Derived.Deep.DrawnRows
import Derived.Deep.DeepCutAuto
import Derived.Deep.QuietTactic
import Derived.BigQuiet
import Derived.Deep.CutBlock
namespace Go.Proofs.Ytinejaganickpaa
set_option linter.unusedVariables false
set_option linter.unusedSimpArgs false
open Go Go.RowKit

theorem elt_Ve : Elt Try.prog 46 34 (.agg #[.int .i64 0, .string ⟨#[]⟩, .bool false]) 3 32 := ⟨Try.underlying46, by kernel_rfl, rfl, by decide⟩
theorem encV3 (x : Ve) : (Ve.enc x).length = 3 := rfl
theorem oneV (x : Ve) : ∀ u ∈ Ve.enc x, u.oneCell' = true := by
  intro u hu
  simp [Ve.enc] at hu
  rcases hu with rfl | rfl | rfl <;> rfl
/-- The row of a list of entries. -/
abbrev RowV (a : Option Addr) (cap : Nat) (l : List Ve) : Asr := RowA 34 3 (.slice a l.length cap) l.length (l.flatMap Ve.enc)
/-- A new slice that reads as l. -/
def GaveV (l : List Ve) (w : World) (e : Ending) (w' : World) : Prop := ∃ a cap, e = .returned (.slice a l.length cap) ∧ Post (RowV a cap l) (fun _ => False) w w'
theorem RowV.rl {a : Option Addr} {cap : Nat} {l : List Ve} {w : World} {F : Nat → Prop} (h : (RowV a cap l).on w F) : Rl Ve.enc 3 w (.slice a l.length cap) l := Rl.of_row encV3 rfl h
theorem postV_nil (w : World) : Post (RowV none 0 []) (fun _ => False) w w := post_nil 34 3 w

def Parts (w : World) (ps : List (Value × List Ve)) : Prop := ∀ (i : Nat) (p : Value × List Ve), ps[i]? = some p → Rl Ve.enc 3 w p.1 p.2
theorem Parts.kn {w w' : World} {ps : List (Value × List Ve)} (h : Parts w ps) (k : KN w w') : Parts w' ps := fun i p hp => (h i p hp).kn k
def allOf (ps : List (Value × List Ve)) : List Ve := ps.flatMap (·.2)
def vals (ps : List (Value × List Ve)) : List Value := ps.map (·.1)
theorem allOf_take (ps : List (Value × List Ve)) (k : Nat) (p : Value × List Ve) (h : ps[k]? = some p) : allOf (ps.take (k + 1)) = allOf (ps.take k) ++ p.2 := by
  unfold allOf
  rw [List.take_add_one, h, List.flatMap_append]
  simp
theorem allOf_le (ps : List (Value × List Ve)) (k : Nat) : (allOf (ps.take k)).length ≤ (allOf ps).length := by
  have : allOf ps = allOf (ps.take k) ++ allOf (ps.drop k) := by unfold allOf; rw [← List.flatMap_append, List.take_append_drop]
  rw [this, List.length_append]; omega
/-- What slices.Grow of nothing gives: nothing, but room. -/
def GrowGave (w : World) (e : Ending) (w' : World) : Prop := ∃ a cap, e = .returned (.slice a 0 cap) ∧ Post (RowA 34 3 (.slice a 0 cap) 0 []) (fun _ => False) w w'
set_option maxHeartbeats 1000000 in
set_option maxRecDepth 100000 in
theorem grow_nilV (n : Nat) (w : World) (h63 : n ≤ maxLen) (hb : n * 32 ≤ 140737488355328) : Calls Try.prog 80 #[.slice none 0 0, .int .i64 n] w (GrowGave w) := by
  unfold maxLen at h63
  by_cases h0 : n = 0
  · subst h0
    go_enter Try.func80, Try.ntmps80
    go_wp2
    go_ret
    exact ⟨none, 0, rfl, post_nil 34 3 w⟩
  · obtain ⟨g, cap, w1, xs, hrun, hcap, hp⟩ := post_zeros (P := Try.prog) w elt_Ve 46 Try.underlying3 n (by omega) (by unfold maxLen; omega) hb
    have hn : ¬ (n : Int) < 0 := by omega
    have hn2 : (0 : Int) < (n : Int) := by omega
    have HR := Lib.hid hrun
    have HP := Lib.hid hp
    have H0 := Lib.hid h0
    clear hrun hp h0
    go_enter Try.func80, Try.ntmps80
    go_wp2_with (at_builtin; refine Go.Lib.wpList_append_run _ rfl _ _ _ _ rfl _ _ rfl rfl _ _ HR.out ?_)
    go_ret
    obtain ⟨F, ⟨a1, rfl⟩, k, f⟩ := HP.out
    exact ⟨some ⟨g, 0, none⟩, cap, rfl, _, ⟨own_none a1 (by simp), rfl⟩, k, f⟩
set_option maxRecDepth 100000 in
/-- slices.Concat: the slices lie in the cells of a block, one behind another. -/
theorem concat_V {b cap : Nat} (ps : List (Value × List Ve)) (w : World) (hc : ∀ (i : Nat) (p : Value × List Ve), ps[i]? = some p → w.cell? ⟨b, i, none⟩ = some p.1) (hp : Parts w ps) (h63 : (allOf ps).length ≤ maxLen) (hb : (allOf ps).length * 32 ≤ 140737488355328) (hps : ps.length ≤ 100) :
    Calls Try.prog 66 #[.slice (some ⟨b, 0, none⟩) ps.length cap] w (GaveV (allOf ps) w) := by
  unfold maxLen at h63
  have HC := Lib.hid hc
  have HP := Lib.hid hp
  clear hc hp
  go_enter Try.func66, Try.ntmps66
  go_wp2
  go_loop [3, 5, 11] (fun s _ i => ∃ k : Nat, k ≤ ps.length ∧ i = .int .i64 k ∧ s = .int .i64 (allOf (ps.take k)).length) (fun _ _ i => ps.length - (intOf i).toNat)
  case atStart => exact ⟨0, Nat.zero_le _, rfl, rfl⟩
  case round =>
    obtain ⟨k, hk, rfl, rfl⟩ := hrel
    have hle := allOf_le ps k
    by_cases hlt : k < ps.length
    · obtain ⟨⟨v, l⟩, hx⟩ : ∃ p, ps[k]? = some p := ⟨_, List.getElem?_eq_getElem hlt⟩
      have c0 := HC.out k _ hx
      obtain ⟨a, c, hv, hlc, _⟩ := HP.out k _ hx
      simp only at hv hlc c0
      subst hv
      have hst := allOf_take ps k _ hx
      have hle2 := allOf_le ps (k + 1)
      rw [hst, List.length_append] at hle2
      simp only at hle2
      have HS := Lib.hid hst
      clear hx hst
      have hz : (0 : Int) ≤ (k : Int) := by omega
      go_wp2
      go_round
      case rel => exact ⟨k + 1, by omega, by go_num, by rw [HS.out, List.length_append]; go_num⟩
      case measure => simp [intOf]; omega
    · obtain rfl : k = ps.length := by omega
      have e := List.take_length (l := ps)
      rw [e]
      rw [e] at hle
      clear e
      go_wp2_with fail
      refine (grow_nilV _ _ (by unfold maxLen; omega) hb).mono ?_
      rintro e w1 ⟨a1, c1, rfl, hpost⟩
      have HO := Lib.hid ((One.nil w).add hpost)
      clear hpost
      go_wp2_with fail
      go_loopw [6, 8, 27] (fun s _ i wr => ∃ (k : Nat) (a : Option Addr) (c : Nat), k ≤ ps.length ∧ i = .int .i64 k ∧ s = .slice a (allOf (ps.take k)).length c ∧ Hid (One w wr [RowV a c (allOf (ps.take k))])) (fun _ _ i _ => ps.length - (intOf i).toNat)
      case atStart => exact ⟨0, a1, c1, Nat.zero_le _, rfl, rfl, HO⟩
      case round =>
        obtain ⟨k, a, c, hk, rfl, rfl, HR⟩ := hrel
        clear HO hle
        by_cases hlt : k < ps.length
        · obtain ⟨⟨v, l⟩, hx⟩ : ∃ p, ps[k]? = some p := ⟨_, List.getElem?_eq_getElem hlt⟩
          have hk1 := HR.out.old
          have c0 := HC.out k _ hx
          have HL := Lib.hid (show Rl Ve.enc 3 wr v l from (HP.out k _ hx).kn hk1)
          replace c0 := cell_kp hk1 (a := ⟨b, k, none⟩) id c0
          simp only at c0
          have hst := allOf_take ps k _ hx
          have hle2 := allOf_le ps (k + 1)
          rw [hst, List.length_append] at hle2
          simp only at hle2 hst
          have HS := Lib.hid hst
          clear hx hst hk1
          have hz : (0 : Int) ≤ (k : Int) := by omega
          generalize allOf (ps.take k) = xs at *
          go_wp2_with (at_builtin; go_loud (refine wpList_appL 33 rfl rfl rfl rfl elt_Ve HR.out 0 rfl rfl rfl encV3 HL.out oneV (by unfold maxLen; omega) (by omega) ?_); intro a2 c2 w2 ho)
          go_roundw
          case rel =>
            refine ⟨k + 1, a2, c2, by omega, by go_num, ?_, ?_⟩
            · rw [HS.out, List.length_append]
            · rw [HS.out]
              have := Lib.hid ho
              unfold RowV
              rw [List.length_append, List.flatMap_append]
              exact this
          case measure => simp [intOf]; omega
        · obtain rfl : k = ps.length := by omega
          have e := List.take_length (l := ps)
          rw [e] at HR ⊢
          clear e
          go_wp2
          go_ret
          exact ⟨a, c, rfl, HR.out.post 0 rfl⟩
end Go.Proofs.Ytinejaganickpaa

namespace Go.Proofs.Ytinejaganickpaa
set_option linter.unusedVariables false
set_option linter.unusedSimpArgs false
open Go Go.RowKit

abbrev vev (x : Ve) : Value := .agg #[.int .i64 x.tS, .string x.value, .bool x.del]
def ixV (p : Ve → Bool) (l : List Ve) : Int := match l.findIdx? p with | some k => (k : Int) | none => -1
theorem rdV {w : World} {a : Option Addr} {l : List Ve} (h : Rd Ve.enc 3 w a l) {i : Nat} {x : Ve} (hx : l[i]? = some x) : ∃ b off, a = some ⟨b, off, none⟩ ∧ b < w.heap.size ∧
    w.cell? ⟨b, off + i * 3, none⟩ = some (.int .i64 x.tS) ∧ w.cell? ⟨b, off + i * 3 + 1, none⟩ = some (.string x.value) ∧ w.cell? ⟨b, off + i * 3 + 2, none⟩ = some (.bool x.del) := by
  obtain ⟨b, off, ha, hb, hc⟩ := h.at hx
  exact ⟨b, off, ha, hb, hc 0 (by omega), hc 1 (by omega), hc 2 (by omega)⟩
theorem ixV_hit {p : Ve → Bool} {l : List Ve} {k : Nat} {x : Ve} (hx : l[k]? = some x) (h : p x = true) (hm : ∀ m y, m < k → l[m]? = some y → p y = false) : ixV p l = k := by
  unfold ixV
  have hlt : k < l.length := (List.getElem?_eq_some_iff.1 hx).1
  rw [List.findIdx?_eq_some_iff_getElem.2 ⟨hlt, by rw [(List.getElem?_eq_some_iff.1 hx).2]; exact h, fun j hj => by rw [hm j _ hj (List.getElem?_eq_getElem (by omega))]; simp⟩]
theorem ixV_miss {p : Ve → Bool} {l : List Ve} (hm : ∀ (m : Nat) y, l[m]? = some y → p y = false) : ixV p l = -1 := by
  unfold ixV
  rw [List.findIdx?_eq_none_iff.2 (fun x hx => by obtain ⟨i, hi⟩ := List.getElem?_of_mem hx; exact hm i x hi)]
/-- What a predicate on entries says, in whatever later world. -/
def SaysV (p : Ve → Bool) (g : Nat) (lb : Array Value) (w : World) : Prop := ∀ (W : World) (x : Ve), KN w W → Calls Try.prog g (#[vev x] ++ lb) W fun e w' => e = .returned (.bool (p x)) ∧ KN W w'
theorem SaysV.kn {p : Ve → Bool} {g : Nat} {lb : Array Value} {w w' : World} (h : SaysV p g lb w) (k : KN w w') : SaysV p g lb w' := fun W x k' => h W x (k.trans k' (fun _ h => h.elim))
set_option maxHeartbeats 1000000 in
theorem ixV_func (p : Ve → Bool) (g : Nat) (lb : Array Value) (eg : ∀ args w, (callFunc g args).run Try.prog w = .ok (.enter g args) w) (w : World) (hp : SaysV p g lb w) {v : Value} {l : List Ve} (hr : Rl Ve.enc 3 w v l) (hl : l.length ≤ maxLen) :
    Calls Try.prog 70 #[v, .func (.func g) #[] lb] w fun e w' => e = .returned (.int .i64 (ixV p l)) ∧ KN w w' := by
  obtain ⟨a, cap, rfl, hc, hr⟩ := hr
  unfold maxLen at hl
  have HR := Lib.hid hr
  have HP := Lib.hid hp
  clear hr hp
  go_enter Try.func70, Try.ntmps70
  go_wp2
  go_loopw [5, 8] (fun _ s8 wr => ∃ kk : Nat, kk ≤ l.length ∧ s8 = .int .i64 kk ∧ Hid (KN w wr) ∧ Hid (∀ m y, m < kk → l[m]? = some y → p y = false)) (fun _ s8 _ => l.length - (intOf s8).toNat)
  case atStart => exact ⟨0, Nat.zero_le _, rfl, Lib.hid (Kp.refl _ w), Lib.hid (fun m y h => by omega)⟩
  case round =>
    obtain ⟨kk, hkk, rfl, HK, HM⟩ := hrel
    by_cases hlt : kk < l.length
    · obtain ⟨x, hx⟩ : ∃ x, l[kk]? = some x := ⟨_, List.getElem?_eq_getElem hlt⟩
      obtain ⟨b, off, rfl, hb, c0, c1, c2⟩ := rdV (HR.out.kn HK.out) hx
      have hcall := HP.out wr x HK.out
      have HX := Lib.hid hx
      clear hx
      cases hq : p x with
      | true =>
        rw [hq] at hcall
        have HQ := Lib.hid hq
        clear hq
        go_wp2_with (go_at_fn g; refine hcall.mono ?_; rintro e w' ⟨rfl, hb'⟩)
        go_ret
        exact ⟨by rw [ixV_hit HX.out HQ.out HM.out]; rfl, HK.out.then hb' (fun _ h => h.elim)⟩
      | false =>
        rw [hq] at hcall
        have HQ := Lib.hid hq
        clear hq
        go_wp2_with (go_at_fn g; refine hcall.mono ?_; rintro e w' ⟨rfl, hb'⟩)
        go_roundw
        case rel =>
          refine ⟨kk + 1, by omega, by go_num, Lib.hid (HK.out.then hb' (fun _ h => h.elim)), Lib.hid (fun m y hm hy => ?_)⟩
          by_cases e : m = kk
          · subst e; rw [HX.out] at hy; cases hy; exact HQ.out
          · exact HM.out m y (by omega) hy
        case measure => simp [intOf]; omega
    · obtain rfl : kk = l.length := by omega
      go_wp2
      go_ret
      exact ⟨by rw [ixV_miss (fun m y hy => HM.out m y (List.getElem?_eq_some_iff.1 hy).1 hy)]; rfl, HK.out⟩
theorem eg_at1 : ∀ args w, (callFunc 71 args).run Try.prog w = .ok (.enter 71 args) w := enters_of Try.func71 (by kernel_rfl) rfl
theorem says_at1 (ts : Int) (B : Nat) (w : World) (hB : w.cell? ⟨B, 0, none⟩ = some (.int .i64 ts)) : SaysV (fun x => decide (x.tS ≤ ts)) 71 #[.pointer (some ⟨B, 0, none⟩)] w := fun W x k => by
  have hc : W.cell? ⟨B, 0, none⟩ = some (.int .i64 ts) := cell_kp k id hB
  have hBW : B < W.heap.size := World.block_lt_of_cell? W _ hc
  have hne : B ≠ W.heap.size := by omega
  show Calls Try.prog 71 #[.agg #[.int .i64 x.tS, .string x.value, .bool x.del], .pointer (some ⟨B, 0, none⟩)] W _
  clear hB k
  go_enter Try.func71, Try.ntmps71
  go_wp2
  go_ret
  exact ⟨rfl, kn_alloc _ _⟩
end Go.Proofs.Ytinejaganickpaa

namespace Go.Proofs.Ytinejaganickpaa
set_option linter.unusedVariables false
set_option linter.unusedSimpArgs false
open Go Go.RowKit

def keyOk (s : ByteArray) : Int := if s.size = 0 ∨ 64 < s.size then 30 else 0
theorem key_r (s : ByteArray) (hs : s.size ≤ maxLen) (w : World) : Calls Try.prog 35 #[.string s] w fun e w' => e = .returned (.int .i64 (keyOk s)) ∧ w = w' := by
  unfold maxLen at hs
  unfold keyOk
  have hz : (s.toList == []) = decide (s.size = 0) := by
    rw [show s.toList = s.data.toList from ByteArray.toList_eq s, Bool.eq_iff_iff]
    simp only [beq_iff_eq, decide_eq_true_eq]
    have e : s.data.toList.length = s.size := by simp
    constructor
    · intro h; rw [h] at e; exact e.symm
    · intro h; exact List.eq_nil_of_length_eq_zero (by rw [e]; exact h)
  by_cases h0 : s.size = 0
  · rw [if_pos (.inl h0)]
    go_enter Try.func35, Try.ntmps35
    go_wp2
    go_ret
    exact ⟨rfl, rfl⟩
  · by_cases h1 : 64 < s.size
    · rw [if_pos (.inr h1)]
      have h2 : (64 : Int) < (s.size : Int) := by omega
      go_enter Try.func35, Try.ntmps35
      go_wp2
      go_ret
      exact ⟨rfl, rfl⟩
    · rw [if_neg (by omega)]
      have h2 : ¬ (64 : Int) < (s.size : Int) := by omega
      go_enter Try.func35, Try.ntmps35
      go_wp2
      go_ret
      exact ⟨rfl, rfl⟩
theorem value_r (s : ByteArray) (hs : s.size ≤ maxLen) (w : World) : Calls Try.prog 79 #[.string s] w fun e w' => e = .returned (.int .i64 (if 256 < s.size then 31 else 0)) ∧ w = w' := by
  unfold maxLen at hs
  by_cases h1 : 256 < s.size
  · rw [if_pos h1]
    have h2 : (256 : Int) < (s.size : Int) := by omega
    go_enter Try.func79, Try.ntmps79
    go_wp2
    go_ret
    exact ⟨rfl, rfl⟩
  · rw [if_neg h1]
    have h2 : ¬ (256 : Int) < (s.size : Int) := by omega
    go_enter Try.func79, Try.ntmps79
    go_wp2
    go_ret
    exact ⟨rfl, rfl⟩
abbrev zV : Ve := ⟨0, ⟨#[]⟩, false⟩
theorem find_cases (p : Ve → Bool) (l : List Ve) : (l.find? p = none ∧ ixV p l = -1) ∨ ∃ (k : Nat) (x : Ve), l[k]? = some x ∧ l.find? p = some x ∧ ixV p l = k := by
  cases h : l.find? p with
  | none => exact .inl ⟨rfl, ixV_miss (fun m y hy => by
      have := List.find?_eq_none.1 h y (List.mem_of_getElem? hy)
      simpa using this)⟩
  | some x =>
    refine .inr ?_
    obtain ⟨hp, xs, ys, rfl, hm⟩ := List.find?_eq_some_iff_append.1 h
    refine ⟨xs.length, x, by simp, rfl, ixV_hit (x := x) (by simp) hp (fun m y hm' hy => ?_)⟩
    rw [List.getElem?_append_left hm'] at hy
    simpa using hm y (List.mem_of_getElem? hy)
set_option maxHeartbeats 1000000 in
theorem at_v (ts : Int) {v : Value} {l : List Ve} {w : World} (hr : Rl Ve.enc 3 w v l) (hl : l.length ≤ maxLen) :
    Calls Try.prog 48 #[v, .int .i64 ts] w fun e w' => e = .returned (.tuple #[vev ((l.find? fun x => decide (x.tS ≤ ts)).getD zV), .bool (l.find? fun x => decide (x.tS ≤ ts)).isSome]) ∧ KN w w' := by
  obtain ⟨a, cap, rfl, hc, hr⟩ := hr
  have hpre : ∀ W, KN ((w.alloc (.cells #[.int .i64 ts] 2)).alloc (.cells #[.int .i64 0, .string ⟨#[]⟩, .bool false] 34)) W → KN w W := fun W k => ((kn_alloc _ _).alloc _).trans k (fun _ h => h.elim)
  have HPre := Lib.hid hpre
  clear hpre
  have HC := fun W B (k : KN w W) (hB : W.cell? ⟨B, 0, none⟩ = some (.int .i64 ts)) => ixV_func (fun x => decide (x.tS ≤ ts)) 71 #[.pointer (some ⟨B, 0, none⟩)] eg_at1 W (says_at1 ts B W hB) (Rl.of_rd (hr.kn k) hc) hl
  have hz := heap_alloc_same (w.alloc (.cells #[.int .i64 ts] 2)) (.cells #[.int .i64 0, .string ⟨#[]⟩, .bool false] 34)
  rw [show (w.alloc (.cells #[.int .i64 ts] 2)).heap.size = w.heap.size + 1 by simp] at hz
  have HZ := Lib.hid hz
  have HR := Lib.hid hr
  unfold maxLen at hl
  clear hr hz
  rcases find_cases (fun x => decide (x.tS ≤ ts)) l with ⟨hf, hix⟩ | ⟨k, x, hx, hf, hix⟩
  · rw [hf]
    have HC2 := Lib.hid HC
    rw [hix] at HC2
    clear HC hf hix
    go_enter Try.func48, Try.ntmps48
    go_wp2_with fail
    refine (HC2.out _ _ (((Kp.refl _ w).alloc _).alloc _) (by simp)).mono ?_
    rintro e w1 ⟨rfl, k1⟩
    have hb := k1.blk HZ.out id
    have z0 := cell_blk hb (i := 0) (v := .int .i64 0) rfl
    have z1 := cell_blk hb (i := 1) (v := .string ⟨#[]⟩) rfl
    have z2 := cell_blk hb (i := 2) (v := .bool false) rfl
    have zf : ∀ j, w1.frozen? ⟨w.heap.size + 1, j, none⟩ = false := fun j => free_blk hb
    clear hb
    go_wp2_with fail
    have hk6 := kn_row (g := w.heap.size + 1) (base := 0) (by omega) [(0, .int .i64 0), (1, .string ⟨#[]⟩), (2, .bool false)] (HPre.out _ k1)
    simp only [List.foldl_cons, List.foldl_nil, Nat.zero_add] at hk6
    have hb := blk_row (base := 0) [(0, .int .i64 0), (1, .string ⟨#[]⟩), (2, .bool false)] (k1.blk HZ.out id)
    simp only [List.foldl_cons, List.foldl_nil, Nat.zero_add] at hb
    have r0 := cell_blk hb (i := 0) (v := .int .i64 0) rfl
    have r1 := cell_blk hb (i := 1) (v := .string ⟨#[]⟩) rfl
    have r2 := cell_blk hb (i := 2) (v := .bool false) rfl
    exact bodyPost_ret (v := .tuple #[vev zV, .bool false]) (by simp [results, Try.results48, go_sem, r0, r1, r2]) rfl ⟨rfl, hk6⟩
  · rw [hf]
    have HC2 := Lib.hid HC
    rw [hix] at HC2
    have hkl : k < l.length := (List.getElem?_eq_some_iff.1 hx).1
    obtain ⟨b, off, ha, hbl, hcc⟩ := HR.out.at hx
    subst ha
    have HX := Lib.hid hcc
    clear HC hf hix hx hcc
    go_enter Try.func48, Try.ntmps48
    go_wp2_with fail
    refine (HC2.out _ _ (((Kp.refl _ w).alloc _).alloc _) (by simp)).mono ?_
    rintro e w1 ⟨rfl, k1⟩
    have hb := k1.blk HZ.out id
    have z0 := cell_blk hb (i := 0) (v := .int .i64 0) rfl
    have z1 := cell_blk hb (i := 1) (v := .string ⟨#[]⟩) rfl
    have z2 := cell_blk hb (i := 2) (v := .bool false) rfl
    have zf : ∀ j, w1.frozen? ⟨w.heap.size + 1, j, none⟩ = false := fun j => free_blk hb
    have c0 : w1.cell? ⟨b, off + k * 3, none⟩ = some (.int .i64 x.tS) := cell_kp (HPre.out _ k1) id (HX.out 0 (by omega))
    have c1 : w1.cell? ⟨b, off + k * 3 + 1, none⟩ = some (.string x.value) := cell_kp (HPre.out _ k1) id (HX.out 1 (by omega))
    have c2 : w1.cell? ⟨b, off + k * 3 + 2, none⟩ = some (.bool x.del) := cell_kp (HPre.out _ k1) id (HX.out 2 (by omega))
    have hz0 : (0 : Int) ≤ (k : Int) := by omega
    clear hb
    go_wp2_with fail
    have hk6 := kn_row (g := w.heap.size + 1) (base := 0) (by omega) [(0, .int .i64 x.tS), (1, .string x.value), (2, .bool x.del)] (HPre.out _ k1)
    simp only [List.foldl_cons, List.foldl_nil, Nat.zero_add] at hk6
    have hb := blk_row (base := 0) [(0, .int .i64 x.tS), (1, .string x.value), (2, .bool x.del)] (k1.blk HZ.out id)
    simp only [List.foldl_cons, List.foldl_nil, Nat.zero_add] at hb
    have r0 := cell_blk hb (i := 0) (v := .int .i64 x.tS) rfl
    have r1 := cell_blk hb (i := 1) (v := .string x.value) rfl
    have r2 := cell_blk hb (i := 2) (v := .bool x.del) rfl
    exact bodyPost_ret (v := .tuple #[vev x, .bool true]) (by simp [results, Try.results48, go_sem, r0, r1, r2]) rfl ⟨rfl, hk6⟩
end Go.Proofs.Ytinejaganickpaa

namespace Go.Proofs.Ytinejaganickpaa
set_option linter.unusedVariables false
set_option linter.unusedSimpArgs false
open Go Go.RowKit

def mayV (v : Ve) : Bool := decide (1 ≤ v.tS) && decide (v.tS ≤ 1099511627776) && decide (v.value.size ≤ 256) && (!v.del || decide (v.value.size = 0))
theorem empty_iff (s : ByteArray) : (s.toList == []) = decide (s.size = 0) := by
  rw [show s.toList = s.data.toList from ByteArray.toList_eq s, Bool.eq_iff_iff]
  simp only [beq_iff_eq, decide_eq_true_eq]
  have e : s.data.toList.length = s.size := by simp
  constructor
  · intro h; rw [h] at e; exact e.symm
  · intro h; exact List.eq_nil_of_length_eq_zero (by rw [e]; exact h)
theorem may_v (v : Ve) (hs : v.value.size ≤ maxLen) (w : World) : Calls Try.prog 65 #[vev v] w fun e w' => e = .returned (.bool (mayV v)) ∧ KN w w' := by
  obtain ⟨ts, s, del⟩ := v
  have hk := kn_alloc w (.cells #[.int .i64 ts, .string s, .bool del] 34)
  unfold mayV
  simp only at hs ⊢
  by_cases h1 : 1 ≤ ts
  · by_cases h2 : ts ≤ 1099511627776
    · by_cases h3 : s.size ≤ 256
      · have HV := Lib.hid (fun w => show Calls Try.prog 79 #[.string s] w (fun e w' => e = .returned (.int .i64 0) ∧ w = w') from by
          have := value_r s hs w
          rw [if_neg (by omega)] at this
          exact this)
        cases del with
        | true =>
          have he := empty_iff s
          cases h4 : decide (s.size = 0) with
          | true =>
            rw [h4] at he
            have e3 : decide (s.size ≤ 256) = true := by simpa using h3
            rw [e3]
            clear h3 e3 h4 hs
            go_enter Try.func65, Try.ntmps65
            go_wp2_with (go_at_call 79; refine (HV.out _).mono ?_; rintro e w' ⟨rfl, rfl⟩)
            go_ret
            exact ⟨by simp [h1, h2], hk⟩
          | false =>
            rw [h4] at he
            clear h3 h4 hs
            go_enter Try.func65, Try.ntmps65
            go_wp2_with (go_at_call 79; refine (HV.out _).mono ?_; rintro e w' ⟨rfl, rfl⟩)
            go_ret
            exact ⟨by simp, hk⟩
        | false =>
          have e3 : decide (s.size ≤ 256) = true := by simpa using h3
          rw [e3]
          clear h3 e3 hs
          go_enter Try.func65, Try.ntmps65
          go_wp2_with (go_at_call 79; refine (HV.out _).mono ?_; rintro e w' ⟨rfl, rfl⟩)
          go_ret
          exact ⟨by simp [h1, h2], hk⟩
      · have HV := Lib.hid (fun w => show Calls Try.prog 79 #[.string s] w (fun e w' => e = .returned (.int .i64 31) ∧ w = w') from by
          have := value_r s hs w
          rw [if_pos (by omega)] at this
          exact this)
        have e3 : decide (s.size ≤ 256) = false := by simpa using h3
        rw [e3]
        clear h3 e3 hs
        go_enter Try.func65, Try.ntmps65
        go_wp2_with (go_at_call 79; refine (HV.out _).mono ?_; rintro e w' ⟨rfl, rfl⟩)
        go_ret
        exact ⟨by simp, hk⟩
    · have e3 : decide (ts ≤ 1099511627776) = false := by simpa using h2
      clear hs
      go_enter Try.func65, Try.ntmps65
      go_wp2_with fail
      go_ret
      exact ⟨by simp [e3], hk⟩
  · have e3 : decide (1 ≤ ts) = false := by simpa using h1
    clear hs
    go_enter Try.func65, Try.ntmps65
    go_wp2_with fail
    go_ret
    exact ⟨by simp [e3], hk⟩
theorem rl_ve {w : World} {g : Nat} {v : Ve} {fr : Nat × Nat} {T : TypeId} {cap : Nat} (h : w.heap[g]? = some (.cells #[.int .i64 v.tS, .string v.value, .bool v.del] T fr)) (hc : 1 ≤ cap := by decide) : Rl Ve.enc 3 w (.slice (some ⟨g, 0, none⟩) 1 cap) [v] := by
  refine Rl.of_rd (l := [v]) (.inr ⟨g, 0, rfl, lt_blk h, fun i x hx j hj => ?_⟩) hc
  obtain rfl : i = 0 := by
    have := (List.getElem?_eq_some_iff.1 hx).1
    simpa using this
  cases hx
  have : j = 0 ∨ j = 1 ∨ j = 2 := by omega
  rcases this with rfl | rfl | rfl
  · exact cell_blk h rfl
  · exact cell_blk h rfl
  · exact cell_blk h rfl
def headLe (l : List Ve) (v : Ve) : Bool := match l with | [] => false | x :: _ => decide (v.tS ≤ x.tS)
def putV (l : List Ve) (v : Ve) : Int := if mayV v = false then 151 else if headLe l v = true then 150 else if 1024 ≤ l.length then 3 else 0
set_option maxHeartbeats 2000000 in
set_option maxRecDepth 100000 in
theorem put_v (v : Ve) (hs : v.value.size ≤ maxLen) {sv : Value} {l : List Ve} {w : World} (hr : Rl Ve.enc 3 w sv l) (hl : l.length ≤ maxLen) :
    Calls Try.prog 38 #[sv, vev v] w fun e w' => (∃ s, e = .returned (.tuple #[s, .int .i64 (putV l v)])) ∧ KN w w' := by
  have HM := Lib.hid (fun w => may_v v hs w)
  have hk1 := kn_alloc w (.cells #[.int .i64 v.tS, .string v.value, .bool v.del] 34)
  obtain ⟨p0, p1, p2, _⟩ := cells3 (heap_alloc_same w (.cells #[.int .i64 v.tS, .string v.value, .bool v.del] 34))
  have HP := Lib.hid (heap_alloc_same w (.cells #[.int .i64 v.tS, .string v.value, .bool v.del] 34))
  unfold putV
  cases hm : mayV v with
  | false =>
    rw [hm] at HM
    clear hs hr hl HP
    go_enter Try.func38, Try.ntmps38
    go_wp2_with (go_at_call 65; refine (HM.out _).mono ?_; rintro e w2 ⟨rfl, hk2⟩)
    go_ret2
    exact ⟨⟨_, rfl⟩, hk1.then hk2 (fun _ h => h.elim)⟩
  | true =>
    rw [hm] at HM
    obtain ⟨a, cap, rfl, hc, hr⟩ := hr
    have HR := Lib.hid hr
    rw [if_neg (by simp)]
    unfold maxLen at hl
    have hq : ∃ b : Bool, b = headLe l v := ⟨_, rfl⟩
    obtain ⟨q, hq⟩ := hq
    rw [← hq]
    have HQ := Lib.hid hq
    clear hs hr hm hq
    go_enter Try.func38, Try.ntmps38
    go_wp2_with fail
    refine (HM.out _).mono ?_
    rintro e w2 ⟨rfl, hk2⟩
    have HK2 := Lib.hid (hk1.then hk2 (fun _ h => h.elim))
    have HP2 := Lib.hid (hk2.blk HP.out id)
    obtain ⟨q0, q1, q2, _⟩ := cells3 HP2.out
    clear hk1 hk2 p0 p1 p2 HP HM
    go_upto_region 3 with fail
    go_cut [10] (fun s wx => s = .bool q ∧ ∃ n, wx = w2.drewN n)
    case first =>
      cases l with
      | nil =>
        have hz : ¬ (0 : Int) < 0 := by omega
        have e := HQ.out
        subst e
        go_quiet (fail)
        go_wp2_with fail
        go_meet
        exact ⟨rfl, _, rfl⟩
      | cons x r =>
        have e := HQ.out
        subst e
        obtain ⟨b, off, ha, hb, hcc⟩ := (HR.out.kn HK2.out).at (i := 0) (x := x) rfl
        subst ha
        have c0 : w2.cell? ⟨b, off, none⟩ = some (.int .i64 x.tS) := by
          have h := hcc 0 (by omega)
          simp only [Nat.zero_mul, Nat.add_zero] at h
          exact h
        have hz : (0 : Int) < ((r.length : Int) + 1) := by omega
        clear hcc
        go_quiet (fail)
        go_wp2_with fail
        go_meet
        exact ⟨rfl, _, rfl⟩
    case rest =>
      obtain ⟨rfl, n, rfl⟩ := hcut
      have HK3 := Lib.hid (HK2.out.then ((Kp.refl (fun _ => False) w2).drewN n) (fun _ h => h.elim))
      have HP3 := Lib.hid (((Kp.refl (fun _ => False) w2).drewN n).blk HP2.out id)
      generalize w2.drewN n = w3 at *
      obtain ⟨q0, q1, q2, _⟩ := cells3 HP3.out
      clear HK2 HP2
      cases q with
      | true =>
        go_wp2_with fail
        go_ret2
        exact ⟨⟨_, rfl⟩, HK3.out⟩
      | false =>
        by_cases hlen : 1024 ≤ l.length
        · have h2 : (1024 : Int) ≤ (l.length : Int) := by omega
          have HL := Lib.hid hlen
          clear hlen
          go_wp2_with fail
          go_ret2
          exact ⟨⟨_, rfl⟩, HK3.out⟩
        · have HL := Lib.hid hlen
          have h2 : ¬ (1024 : Int) ≤ (l.length : Int) := by omega
          have HC := Lib.hid (fun (W : World) (g1 g2 : Nat) (cp : Nat) (k : KN w W) (h1 : W.heap[g1]? = some (.cells #[.int .i64 v.tS, .string v.value, .bool v.del] 34)) (h2 : W.heap[g2]? = some (.cells #[.slice (some ⟨g1, 0, none⟩) 1 1, .slice a l.length cap] 46)) => concat_V (b := g2) (cap := cp) [(.slice (some ⟨g1, 0, none⟩) 1 1, [v]), (.slice a l.length cap, l)] W
            (fun i p hp => by
              have : i < 2 := by have := (List.getElem?_eq_some_iff.1 hp).1; simpa using this
              have : i = 0 ∨ i = 1 := by omega
              rcases this with rfl | rfl
              · cases hp; exact cell_blk h2 rfl
              · cases hp; exact cell_blk h2 rfl)
            (fun i p hp => by
              have : i < 2 := by have := (List.getElem?_eq_some_iff.1 hp).1; simpa using this
              have : i = 0 ∨ i = 1 := by omega
              rcases this with rfl | rfl
              · cases hp; exact rl_ve h1
              · cases hp; exact Rl.of_rd (HR.out.kn k) hc)
            (by simp [allOf]; unfold maxLen; omega) (by simp [allOf]; omega) (by simp))
          have hsz : ∀ o, (w3.alloc o).heap.size = w3.heap.size + 1 := fun o => by simp
          go_wp2_with fail
          have hb := heap_alloc_same (w3.alloc (.cells #[.int .i64 v.tS, .string v.value, .bool v.del] 34)) (.cells #[.slice (some ⟨w3.heap.size, 0, none⟩) 1 1, .slice a l.length cap] 46)
          rw [hsz] at hb
          refine (HC.out _ w3.heap.size (w3.heap.size + 1) 2 ((HK3.out.alloc _).alloc _) (blk_alloc _ (heap_alloc_same _ _)) hb).mono ?_
          rintro e w4 ⟨a4, c4, rfl, hp4⟩
          have HK4 := Lib.hid (((HK3.out.alloc (.cells #[.int .i64 v.tS, .string v.value, .bool v.del] 34)).alloc (.cells #[.slice (some ⟨w3.heap.size, 0, none⟩) 1 1, .slice a l.length cap] 46)).then hp4.kp (fun _ h => h.elim))
          clear hp4 hb hsz HC
          go_wp2_with fail
          go_ret2
          exact ⟨⟨_, rfl⟩, HK4.out⟩
end Go.Proofs.Ytinejaganickpaa

namespace Go.Proofs.Ytinejaganickpaa
set_option linter.unusedVariables false
set_option linter.unusedSimpArgs false
open Go Go.RowKit

/-- What one version adds: to what is kept, to what is gone; and whether one at the mark or below was met. -/
def prStep (mark : Int) (s : List Ve × List Ve × Bool) (v : Ve) : List Ve × List Ve × Bool :=
  if (decide (mark < v.tS) || (!s.2.2 && !v.del)) = true then (s.1 ++ [v], s.2.1, s.2.2 || decide (v.tS ≤ mark)) else (s.1, s.2.1 ++ [v], s.2.2 || decide (v.tS ≤ mark))
def pruneS (mark : Int) (l : List Ve) : List Ve × List Ve × Bool := l.foldl (prStep mark) ([], [], false)
theorem pruneS_snoc (mark : Int) (l : List Ve) (v : Ve) : pruneS mark (l ++ [v]) = prStep mark (pruneS mark l) v := by
  unfold pruneS; rw [List.foldl_append]; rfl
theorem prFold_len (mark : Int) : ∀ (l : List Ve) (s : List Ve × List Ve × Bool), (l.foldl (prStep mark) s).1.length + (l.foldl (prStep mark) s).2.1.length = s.1.length + s.2.1.length + l.length
  | [], s => rfl
  | v :: l, s => by
    rw [List.foldl_cons, prFold_len mark l]
    unfold prStep
    split
    · simp; omega
    · simp; omega
theorem pruneS_len (mark : Int) (l : List Ve) : (pruneS mark l).1.length + (pruneS mark l).2.1.length = l.length := by
  have := prFold_len mark l ([], [], false)
  simpa [pruneS] using this
/-- What Prune gives. -/
def GavePr (mark : Int) (l : List Ve) (w : World) (e : Ending) (w' : World) : Prop := ∃ a1 c1 a2 c2, e = .returned (.tuple #[.slice a1 (pruneS mark l).1.length c1, .slice a2 (pruneS mark l).2.1.length c2]) ∧ One w w' [RowV a1 c1 (pruneS mark l).1, RowV a2 c2 (pruneS mark l).2.1]
set_option maxRecDepth 100000 in
set_option maxHeartbeats 4000000 in
theorem prune_v (mark : Int) {sv : Value} {l : List Ve} {w : World} (hr : Rl Ve.enc 3 w sv l) (hl : l.length ≤ 1048576) : Calls Try.prog 43 #[sv, .int .i64 mark] w (GavePr mark l w) := by
  obtain ⟨a, cap, rfl, hc, hr⟩ := hr
  have HR := Lib.hid hr
  clear hr
  go_enter Try.func43, Try.ntmps43
  go_wp2_with fail
  have HO0 := Lib.hid (((One.nil w).add (postV_nil w)).add (postV_nil w))
  go_loopw [6, 7, 8, 14] (fun s6 s7 s8 s14 wr => ∃ (k : Nat) (a1 : Option Addr) (c1 : Nat) (a2 : Option Addr) (c2 : Nat) (K G : List Ve) (f : Bool), k ≤ l.length ∧ s14 = .int .i64 k ∧ s6 = .slice a1 K.length c1 ∧ s7 = .slice a2 G.length c2 ∧ s8 = .bool f ∧
    Hid ((K, G, f) = pruneS mark (l.take k)) ∧ Hid (One w wr [RowV a1 c1 K, RowV a2 c2 G])) (fun _ _ _ s14 _ => l.length - (intOf s14).toNat)
  case atStart => exact ⟨0, none, 0, none, 0, [], [], false, Nat.zero_le _, rfl, rfl, rfl, rfl, Lib.hid rfl, HO0⟩
  case round =>
    obtain ⟨k, a1, c1, a2, c2, K, G, f, hk, rfl, rfl, rfl, rfl, HS, HO⟩ := hrel
    clear HO0
    by_cases hlt : k < l.length
    · have HT : Hid (l.take (k + 1) = l.take k ++ [l[k]]) := List.take_succ_eq_append_getElem hlt
      obtain ⟨b, off, ha, hb, hcc⟩ := (HR.out.kn HO.out.old).at (List.getElem?_eq_getElem hlt)
      generalize l[k] = x at hcc HT
      obtain ⟨ts, s, d⟩ := x
      subst ha
      have e0 : wr.cell? ⟨b, off + k * 3, none⟩ = some (.int .i64 ts) := hcc 0 (by omega)
      have e1 : wr.cell? ⟨b, off + k * 3 + 1, none⟩ = some (.string s) := hcc 1 (by omega)
      have e2 : wr.cell? ⟨b, off + k * 3 + 2, none⟩ = some (.bool d) := hcc 2 (by omega)
      have hlen := pruneS_len mark (l.take k)
      rw [← HS.out, List.length_take] at hlen
      simp only at hlen
      have hnew : K.length + 1 ≤ 1048576 ∧ G.length + 1 ≤ 1048576 := by omega
      have h63 : K.length + 1 ≤ maxLen ∧ G.length + 1 ≤ maxLen := by unfold maxLen; omega
      clear hcc hlen
      by_cases h1 : mark < ts
      · have h2 : ¬ ts ≤ mark := by omega
        have HE : Hid (decide (mark < ts) = true ∧ decide (ts ≤ mark) = false) := ⟨by simpa using h1, by simpa using h2⟩
        cases f with
        | true =>
          cases d with
          | true =>
            have HO2 := Lib.hid ((HO.out.alloc (.cells #[.int .i64 ts, .string s, .bool true] 34)).alloc (.cells #[.int .i64 ts, .string s, .bool true] 34))
            have hb := (HO2.out.blk 0 rfl).1
            rw [show (wr.alloc (.cells #[.int .i64 ts, .string s, .bool true] 34)).heap.size = wr.heap.size + 1 by simp] at hb
            have HB := Lib.hid hb
            have hnl := hnew
            clear hb HO
            go_wp2_with (at_builtin; (refine wpList_appL 42 rfl rfl rfl rfl elt_Ve HO2.out 2 rfl rfl rfl encV3 (rl_ve (v := ⟨ts, s, true⟩) HB.out) oneV (by simp only [List.length_singleton]; omega) (by simp only [List.length_singleton]; omega) ?_; intro an cn w3 ho))
            rw [← List.flatMap_append, ← List.length_append] at ho
            have HO3 := Lib.hid (show One w w3 [RowV an cn (K ++ [⟨ts, s, true⟩]), RowV a2 c2 G] from ho.drop.drop)
            clear ho HO2 HB
            go_roundw
            case rel =>
              refine ⟨k + 1, an, cn, a2, c2, K ++ [⟨ts, s, true⟩], G, true, by omega, by go_num, by simp, by simp, rfl, Lib.hid ?_, HO3⟩
              rw [HT.out, pruneS_snoc, ← HS.out]
              simp [prStep, HE.out]
            case measure => simp [intOf]; omega
          | false =>
            have HO2 := Lib.hid ((HO.out.alloc (.cells #[.int .i64 ts, .string s, .bool false] 34)).alloc (.cells #[.int .i64 ts, .string s, .bool false] 34))
            have hb := (HO2.out.blk 0 rfl).1
            rw [show (wr.alloc (.cells #[.int .i64 ts, .string s, .bool false] 34)).heap.size = wr.heap.size + 1 by simp] at hb
            have HB := Lib.hid hb
            have hnl := hnew
            clear hb HO
            go_wp2_with (at_builtin; (refine wpList_appL 42 rfl rfl rfl rfl elt_Ve HO2.out 2 rfl rfl rfl encV3 (rl_ve (v := ⟨ts, s, false⟩) HB.out) oneV (by simp only [List.length_singleton]; omega) (by simp only [List.length_singleton]; omega) ?_; intro an cn w3 ho))
            rw [← List.flatMap_append, ← List.length_append] at ho
            have HO3 := Lib.hid (show One w w3 [RowV an cn (K ++ [⟨ts, s, false⟩]), RowV a2 c2 G] from ho.drop.drop)
            clear ho HO2 HB
            go_roundw
            case rel =>
              refine ⟨k + 1, an, cn, a2, c2, K ++ [⟨ts, s, false⟩], G, true, by omega, by go_num, by simp, by simp, rfl, Lib.hid ?_, HO3⟩
              rw [HT.out, pruneS_snoc, ← HS.out]
              simp [prStep, HE.out]
            case measure => simp [intOf]; omega
        | false =>
          cases d with
          | true =>
            have HO2 := Lib.hid ((HO.out.alloc (.cells #[.int .i64 ts, .string s, .bool true] 34)).alloc (.cells #[.int .i64 ts, .string s, .bool true] 34))
            have hb := (HO2.out.blk 0 rfl).1
            rw [show (wr.alloc (.cells #[.int .i64 ts, .string s, .bool true] 34)).heap.size = wr.heap.size + 1 by simp] at hb
            have HB := Lib.hid hb
            have hnl := hnew
            clear hb HO
            go_wp2_with (at_builtin; (refine wpList_appL 42 rfl rfl rfl rfl elt_Ve HO2.out 2 rfl rfl rfl encV3 (rl_ve (v := ⟨ts, s, true⟩) HB.out) oneV (by simp only [List.length_singleton]; omega) (by simp only [List.length_singleton]; omega) ?_; intro an cn w3 ho))
            rw [← List.flatMap_append, ← List.length_append] at ho
            have HO3 := Lib.hid (show One w w3 [RowV an cn (K ++ [⟨ts, s, true⟩]), RowV a2 c2 G] from ho.drop.drop)
            clear ho HO2 HB
            go_roundw
            case rel =>
              refine ⟨k + 1, an, cn, a2, c2, K ++ [⟨ts, s, true⟩], G, false, by omega, by go_num, by simp, by simp, rfl, Lib.hid ?_, HO3⟩
              rw [HT.out, pruneS_snoc, ← HS.out]
              simp [prStep, HE.out]
            case measure => simp [intOf]; omega
          | false =>
            have HO2 := Lib.hid ((HO.out.alloc (.cells #[.int .i64 ts, .string s, .bool false] 34)).alloc (.cells #[.int .i64 ts, .string s, .bool false] 34))
            have hb := (HO2.out.blk 0 rfl).1
            rw [show (wr.alloc (.cells #[.int .i64 ts, .string s, .bool false] 34)).heap.size = wr.heap.size + 1 by simp] at hb
            have HB := Lib.hid hb
            have hnl := hnew
            clear hb HO
            go_wp2_with (at_builtin; (refine wpList_appL 42 rfl rfl rfl rfl elt_Ve HO2.out 2 rfl rfl rfl encV3 (rl_ve (v := ⟨ts, s, false⟩) HB.out) oneV (by simp only [List.length_singleton]; omega) (by simp only [List.length_singleton]; omega) ?_; intro an cn w3 ho))
            rw [← List.flatMap_append, ← List.length_append] at ho
            have HO3 := Lib.hid (show One w w3 [RowV an cn (K ++ [⟨ts, s, false⟩]), RowV a2 c2 G] from ho.drop.drop)
            clear ho HO2 HB
            go_roundw
            case rel =>
              refine ⟨k + 1, an, cn, a2, c2, K ++ [⟨ts, s, false⟩], G, false, by omega, by go_num, by simp, by simp, rfl, Lib.hid ?_, HO3⟩
              rw [HT.out, pruneS_snoc, ← HS.out]
              simp [prStep, HE.out]
            case measure => simp [intOf]; omega
      · have h2 : ts ≤ mark := by omega
        have HE : Hid (decide (mark < ts) = false ∧ decide (ts ≤ mark) = true) := ⟨by simpa using h1, by simpa using h2⟩
        cases f with
        | true =>
          cases d with
          | true =>
            have HO2 := Lib.hid ((HO.out.alloc (.cells #[.int .i64 ts, .string s, .bool true] 34)).alloc (.cells #[.int .i64 ts, .string s, .bool true] 34))
            have hb := (HO2.out.blk 0 rfl).1
            rw [show (wr.alloc (.cells #[.int .i64 ts, .string s, .bool true] 34)).heap.size = wr.heap.size + 1 by simp] at hb
            have HB := Lib.hid hb
            have hnl := hnew
            clear hb HO
            go_wp2_with (at_builtin; (refine wpList_appL 46 rfl rfl rfl rfl elt_Ve HO2.out 3 rfl rfl rfl encV3 (rl_ve (v := ⟨ts, s, true⟩) HB.out) oneV (by simp only [List.length_singleton]; omega) (by simp only [List.length_singleton]; omega) ?_; intro an cn w3 ho))
            rw [← List.flatMap_append, ← List.length_append] at ho
            have HO3 := Lib.hid (show One w w3 [RowV a1 c1 K, RowV an cn (G ++ [⟨ts, s, true⟩])] from ho.drop.drop)
            clear ho HO2 HB
            go_roundw
            case rel =>
              refine ⟨k + 1, a1, c1, an, cn, K, G ++ [⟨ts, s, true⟩], true, by omega, by go_num, by simp, by simp, rfl, Lib.hid ?_, HO3⟩
              rw [HT.out, pruneS_snoc, ← HS.out]
              simp [prStep, HE.out]
            case measure => simp [intOf]; omega
          | false =>
            have HO2 := Lib.hid ((HO.out.alloc (.cells #[.int .i64 ts, .string s, .bool false] 34)).alloc (.cells #[.int .i64 ts, .string s, .bool false] 34))
            have hb := (HO2.out.blk 0 rfl).1
            rw [show (wr.alloc (.cells #[.int .i64 ts, .string s, .bool false] 34)).heap.size = wr.heap.size + 1 by simp] at hb
            have HB := Lib.hid hb
            have hnl := hnew
            clear hb HO
            go_wp2_with (at_builtin; (refine wpList_appL 46 rfl rfl rfl rfl elt_Ve HO2.out 3 rfl rfl rfl encV3 (rl_ve (v := ⟨ts, s, false⟩) HB.out) oneV (by simp only [List.length_singleton]; omega) (by simp only [List.length_singleton]; omega) ?_; intro an cn w3 ho))
            rw [← List.flatMap_append, ← List.length_append] at ho
            have HO3 := Lib.hid (show One w w3 [RowV a1 c1 K, RowV an cn (G ++ [⟨ts, s, false⟩])] from ho.drop.drop)
            clear ho HO2 HB
            go_roundw
            case rel =>
              refine ⟨k + 1, a1, c1, an, cn, K, G ++ [⟨ts, s, false⟩], true, by omega, by go_num, by simp, by simp, rfl, Lib.hid ?_, HO3⟩
              rw [HT.out, pruneS_snoc, ← HS.out]
              simp [prStep, HE.out]
            case measure => simp [intOf]; omega
        | false =>
          cases d with
          | true =>
            have HO2 := Lib.hid ((HO.out.alloc (.cells #[.int .i64 ts, .string s, .bool true] 34)).alloc (.cells #[.int .i64 ts, .string s, .bool true] 34))
            have hb := (HO2.out.blk 0 rfl).1
            rw [show (wr.alloc (.cells #[.int .i64 ts, .string s, .bool true] 34)).heap.size = wr.heap.size + 1 by simp] at hb
            have HB := Lib.hid hb
            have hnl := hnew
            clear hb HO
            go_wp2_with (at_builtin; (refine wpList_appL 46 rfl rfl rfl rfl elt_Ve HO2.out 3 rfl rfl rfl encV3 (rl_ve (v := ⟨ts, s, true⟩) HB.out) oneV (by simp only [List.length_singleton]; omega) (by simp only [List.length_singleton]; omega) ?_; intro an cn w3 ho))
            rw [← List.flatMap_append, ← List.length_append] at ho
            have HO3 := Lib.hid (show One w w3 [RowV a1 c1 K, RowV an cn (G ++ [⟨ts, s, true⟩])] from ho.drop.drop)
            clear ho HO2 HB
            go_roundw
            case rel =>
              refine ⟨k + 1, a1, c1, an, cn, K, G ++ [⟨ts, s, true⟩], true, by omega, by go_num, by simp, by simp, rfl, Lib.hid ?_, HO3⟩
              rw [HT.out, pruneS_snoc, ← HS.out]
              simp [prStep, HE.out]
            case measure => simp [intOf]; omega
          | false =>
            have HO2 := Lib.hid ((HO.out.alloc (.cells #[.int .i64 ts, .string s, .bool false] 34)).alloc (.cells #[.int .i64 ts, .string s, .bool false] 34))
            have hb := (HO2.out.blk 0 rfl).1
            rw [show (wr.alloc (.cells #[.int .i64 ts, .string s, .bool false] 34)).heap.size = wr.heap.size + 1 by simp] at hb
            have HB := Lib.hid hb
            have hnl := hnew
            clear hb HO
            go_wp2_with (at_builtin; (refine wpList_appL 42 rfl rfl rfl rfl elt_Ve HO2.out 2 rfl rfl rfl encV3 (rl_ve (v := ⟨ts, s, false⟩) HB.out) oneV (by simp only [List.length_singleton]; omega) (by simp only [List.length_singleton]; omega) ?_; intro an cn w3 ho))
            rw [← List.flatMap_append, ← List.length_append] at ho
            have HO3 := Lib.hid (show One w w3 [RowV an cn (K ++ [⟨ts, s, false⟩]), RowV a2 c2 G] from ho.drop.drop)
            clear ho HO2 HB
            go_roundw
            case rel =>
              refine ⟨k + 1, an, cn, a2, c2, K ++ [⟨ts, s, false⟩], G, true, by omega, by go_num, by simp, by simp, rfl, Lib.hid ?_, HO3⟩
              rw [HT.out, pruneS_snoc, ← HS.out]
              simp [prStep, HE.out]
            case measure => simp [intOf]; omega
    · obtain rfl : k = l.length := by omega
      rw [List.take_length] at HS
      go_wp2_with fail
      go_ret2
      have e := HS.out
      refine ⟨a1, c1, a2, c2, ?_, ?_⟩
      · rw [← e]; rfl
      · rw [← e]; exact HO.out
end Go.Proofs.Ytinejaganickpaa
