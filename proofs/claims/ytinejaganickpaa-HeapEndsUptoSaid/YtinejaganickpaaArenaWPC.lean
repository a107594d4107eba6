/- Arenas of cresset/heap.cell: New, none, Put, at, Get, Set, Free, Slots, Live, Stale. -/
import Derived.Test.YtinejaganickpaaBaseW
import Derived.Test.YtinejaganickpaaTypesHp
import Derived.RegionTactic
import Derived.Deep.RegionHeld3
import Derived.Deep.DrawnRows
import Derived.Deep.DeepCutAuto
import Derived.Deep.RegionLaw
import Derived.Deep.QuietTactic
import Derived.BigQuiet
import Derived.StillTailTactics
namespace Go.Proofs.Ytinejaganickpaa
set_option linter.unusedVariables false
set_option linter.unusedSimpArgs false
open Go Go.RowKit

def enC (s : Slot Cl) : List Value := [.string s.has.key, .int .i64 s.has.newest.slot, .int .i64 s.has.newest.gen, .bool s.has.closed, .bool s.has.retired, .int .i64 s.gen, .bool s.given]
abbrev ArC (t : Nat) (l : List (Slot Cl)) (st : Int) : Asr := ArA 128 134 enC 7 t l st
abbrev PC (t sb m cx : Nat) (v : Value) (arr : Array Value) (l : List (Slot Cl)) (st : Int) : List Asr := ArL 128 134 t sb m cx v arr l st
def zC : Slot Cl := ⟨(⟨⟨#[]⟩, ⟨0, 0⟩, false, false⟩ : Cl), 0, false⟩
theorem elt_C : Elt Try.prog 125 134 (.agg #[.string ⟨#[]⟩, .int .i64 0, .int .i64 0, .bool false, .bool false, .int .i64 0, .bool false]) 7 56 := ⟨Try.underlying125, by kernel_rfl, rfl, by decide⟩
theorem elt_iC : Elt Try.prog 126 3 (.int .i64 0) 1 8 := ⟨Try.underlying126, by kernel_rfl, rfl, by decide⟩
theorem enC_len (s : Slot Cl) : (enC s).length = 7 := rfl
section
variable {t sb m cx : Nat} {v : Value} {arr : Array Value} {l : List (Slot Cl)} {st : Int} {w w' : World} {F : Nat → Prop}
theorem Pw.arC (h : Pw F w w' (PC t sb m cx v arr l st)) (ha : Arr enC 7 arr l) : Post (ArC t l st) F w w' := Post.imp h fun F' h' => ⟨sb, m, cx, v, arr, ha, h'⟩
/-- What is known of it. -/
theorem Pw.atC (h : Pw F w w' (PC t sb m cx v arr l st)) : (w'.cell? ⟨t, 0, none⟩ = some (.slice (some ⟨sb, 0, none⟩) l.length (l.length + cx)) ∧ w'.cell? ⟨t, 1, none⟩ = some v ∧ w'.cell? ⟨t, 2, none⟩ = some (.pointer (some ⟨m, 0, none⟩))) ∧ (∀ i, w'.frozen? ⟨t, i, none⟩ = false) ∧ (∀ i, w'.frozen? ⟨sb, i, none⟩ = false) ∧ w'.heap[m]? = some (atom st) := by
  have h0 := h.blk 0 rfl
  have h1 := h.blk 1 rfl
  exact ⟨⟨cell_blk h0 rfl, cell_blk h0 rfl, cell_blk h0 rfl⟩, fun i => free_blk h0, fun i => free_blk h1, h.blk 3 rfl⟩
theorem Pw.slotC (h : Pw F w w' (PC t sb m cx v arr l st)) (ha : Arr enC 7 arr l) {i : Nat} {s : Slot Cl} (hs : l[i]? = some s) (j : Nat) (hj : j < 7) : w'.cell? ⟨sb, i * 7 + j, none⟩ = (enC s)[j]? := by
  have h1 := h.blk 1 rfl
  have h2 := ha.cell hs hj
  have hl : j < (enC s).length := hj
  rw [List.getElem?_eq_getElem hl] at h2 ⊢
  exact cell_blk h1 h2
theorem none_C (h : Pw F w w' (PC t sb m cx v arr l st)) : Calls Try.prog 63 #[.pointer (some ⟨t, 0, none⟩)] w' fun e w'' => e = .returned (.bool false) ∧ w' = w'' := by
  obtain ⟨⟨h0, h1, h2⟩, _⟩ := h.atC
  clear h
  go_enter Try.func63, Try.ntmps63
  go_wp2
  go_ret
  exact ⟨rfl, rfl⟩
end
/-- What New gives. -/
def GaveNewC (n : Nat) (w : World) (e : Ending) (w' : World) : Prop := ∃ t, e = .returned (.tuple #[.pointer (some ⟨t, 0, none⟩), .int .i64 0]) ∧ Post (ArC t (List.replicate n zC) 0) (fun _ => False) w w'
theorem new_bad_C (n : Int) (hn : n < 1 ∨ 65536 < n) (w : World) : Calls Try.prog 31 #[.int .i64 n] w fun e w' => e = .returned (.tuple #[.pointer none, .int .i64 1]) ∧ w = w' := by
  rcases hn with h | h
  · go_enter Try.func31, Try.ntmps31
    go_wp2
    go_ret2
    exact ⟨rfl, rfl⟩
  · have h2 : ¬ n < 1 := by omega
    go_enter Try.func31, Try.ntmps31
    go_wp2
    go_ret2
    exact ⟨rfl, rfl⟩
set_option maxHeartbeats 4000000 in
theorem new_C (n : Nat) (h0 : 1 ≤ n) (h1 : n ≤ 65536) (w : World) : Calls Try.prog 31 #[.int .i64 (n : Int)] w (GaveNewC n w) := by
  have hmk := fun w => run_mk (w := w) elt_C n (by omega) (by omega)
  have hmk2 := fun w => run_mk (w := w) elt_iC n (by omega) (by omega)
  have h2 : ¬ (n : Int) < 1 := by omega
  have h3 : ¬ 65536 < (n : Int) := by omega
  go_enter Try.func31, Try.ntmps31
  go_upto_region 3 with fail
  go_cut [4] (fun s wx => ∃ t sb fb m : Nat, s = .pointer (some ⟨t, 0, none⟩) ∧ Hid (One w wx [Blk t (.cells #[.slice (some ⟨sb, 0, none⟩) n n, .slice (some ⟨fb, 0, none⟩) n n, .pointer (some ⟨m, 0, none⟩)] 128), Blk sb (.cells (madeCells #[.string ⟨#[]⟩, .int .i64 0, .int .i64 0, .bool false, .bool false, .int .i64 0, .bool false] (n * 7)) 134), Blk fb (.cells (madeCells #[.int .i64 0] n) 3), Blk m (atom 0)]))
  case first =>
    go_region
    all_goals
      go_wp2
      go_meet
      first
        | exact ⟨_, _, _, _, rfl, Lib.hid (((One.al4 (One.nil w) _ _ _ _).kn (Kp.refl _ _).drew).perm (.cons _ (perm4 _ _ _)))⟩
        | exact ⟨_, _, _, _, rfl, Lib.hid (((One.al4 (One.nil w) _ _ _ _).kn (Kp.refl _ _).drew).perm (.cons _ (.refl _)))⟩
        | exact ⟨_, _, _, _, rfl, Lib.hid (((One.al4 (One.nil w) _ _ _ _).kn (Kp.refl _ _).drew).perm (.cons _ (.swap _ _ _)))⟩
        | exact ⟨_, _, _, _, rfl, Lib.hid (((One.al4 (One.nil w) _ _ _ _).kn (Kp.refl _ _).drew).perm (.cons _ (.cons _ (.swap _ _ _))))⟩
        | exact ⟨_, _, _, _, rfl, Lib.hid (((One.al4 (One.nil w) _ _ _ _).kn (Kp.refl _ _).drew).perm (.cons _ (perm5 _ _ _)))⟩
        | exact ⟨_, _, _, _, rfl, Lib.hid (((One.al4 (One.nil w) _ _ _ _).kn (Kp.refl _ _).drew).perm (.cons _ (perm6 _ _ _)))⟩
  case rest =>
    obtain ⟨t, sb, fb, m, rfl, HO⟩ := hcut
    clear hmk hmk2
    obtain ⟨c0, c1, c2, _⟩ := cells3 (HO.out.blk 0 rfl).1
    have HU := Lib.hid (show madeCells #[.int .i64 0] n = upTo 0 n from by have := upTo_zero n; rw [Nat.mul_one] at this; exact this)
    rw [HU.out] at HO
    clear HU
    go_wp2_with fail
    go_loopw [25] (fun s wr => ∃ k : Nat, k ≤ n ∧ s = .int .i64 k ∧ Hid (One w wr [Blk t (.cells #[.slice (some ⟨sb, 0, none⟩) n n, .slice (some ⟨fb, 0, none⟩) n n, .pointer (some ⟨m, 0, none⟩)] 128), Blk sb (.cells (madeCells #[.string ⟨#[]⟩, .int .i64 0, .int .i64 0, .bool false, .bool false, .int .i64 0, .bool false] (n * 7)) 134), Blk fb (.cells (upTo k n) 3), Blk m (atom 0)])) (fun s _ => n - (intOf s).toNat)
    case atStart => exact ⟨0, Nat.zero_le _, rfl, HO⟩
    case round =>
      clear HO c0 c1 c2
      obtain ⟨k, hk, rfl, HO⟩ := hrel
      obtain ⟨c0, c1, c2, _⟩ := cells3 (HO.out.blk 0 rfl).1
      by_cases hlt : k < n
      · have hfb := (HO.out.blk 2 rfl).1
        obtain ⟨u, hu⟩ := upTo_at hlt
        have q0 : wr.cell? ⟨fb, k, none⟩ = some u := cell_blk hfb hu
        have qf : wr.frozen? ⟨fb, k, none⟩ = false := free_blk hfb
        have hz : (k : Int) < (n : Int) := by omega
        clear hfb hu
        go_wp2_with fail
        go_roundw
        case rel =>
          refine ⟨k + 1, by omega, by go_num, Lib.hid ?_⟩
          have := HO.out.setCA 2 rfl (j := k) (.int .i64 (k : Int))
          rw [upTo_set hlt] at this
          exact this
        case measure => simp [intOf]; omega
      · obtain rfl : k = n := by omega
        go_wp2_with fail
        go_ret2
        refine ⟨t, rfl, ?_⟩
        have hw : ∀ F', (Blk fb (.cells (upTo k k) 3)).on wr F' → (WinA 3 (.slice (some ⟨fb, 0, none⟩) k k) (freeOf (List.replicate k zC))).on wr F' := fun F' ⟨h1, h2⟩ => by
          rw [free_new k zC rfl]
          refine .inr ⟨fb, 0, k, upTo k k, by simp, by simp, by omega, by simp [upTo], h1, fun j y hj => ?_, h2⟩
          rw [List.getElem?_map] at hj
          have hjl : j < k := by
            cases hq : (List.range k)[j]? with
            | none => rw [hq] at hj; cases hj
            | some q => have := (List.getElem?_eq_some_iff.1 hq).1; simpa using this
          rw [List.getElem?_range hjl] at hj
          cases hj
          simp [upTo, hjl]
        have h3 := (HO.out.perm ((List.Perm.cons _ (.swap _ _ _)).trans (.swap _ _ _))).imp hw
        have h4 := (h3.perm ((List.Perm.swap _ _ _).trans (.cons _ (.swap _ _ _))))
        have h5 := (One.all (l1 := [_, _, _, _]) (l2 := [])).1 h4
        refine (h5.post 0 rfl).imp fun F' h' => ⟨sb, m, 0, .slice (some ⟨fb, 0, none⟩) k k, _, Arr.made (enc := enC) (n := 7) (z := #[.string ⟨#[]⟩, .int .i64 0, .int .i64 0, .bool false, .bool false, .int .i64 0, .bool false]) (x := zC) rfl (by omega) rfl k, ?_⟩
        unfold ArL
        rw [List.length_replicate]
        exact h'
end Go.Proofs.Ytinejaganickpaa
