/- The walks of the separators; of the closures; slices.IndexFunc. -/
import Derived.Test.YtopmeecgjobofaaKeys1
namespace Go.Proofs.Ytopmeecgjobofaa
set_option linter.unusedVariables false
set_option linter.unusedSimpArgs false
open Go Go.RowKit

theorem sep_hit {a b : ByteArray} {n : Nat} (hn : n ≤ b.size) (h : ltS a (b.extract 0 n) = true) (hm : ∀ m, m < n → ltS a (b.extract 0 m) = false) : sepS a b = (b.extract 0 n, true) := by
  unfold sepS
  rw [List.find?_range_eq_some.2 ⟨h, by simp; omega, fun j hj => by rw [hm j hj]; rfl⟩]
theorem sep_miss {a b : ByteArray} (hm : ∀ m, m ≤ b.size → ltS a (b.extract 0 m) = false) : sepS a b = (empS, false) := by
  unfold sepS
  rw [List.find?_range_eq_none.2 (fun j hj => by rw [hm j (by omega)]; rfl)]
theorem less_pre : ∀ (l m : List UInt8), Op.bytesLess (l ++ m) l = false
  | [], [] => rfl
  | [], _ :: _ => rfl
  | a :: l, m => by simp [Op.bytesLess, UInt8.lt_irrefl, less_pre l m]
theorem le_cut (b : ByteArray) (n : Nat) : ltS b (b.extract 0 n) = false := by
  unfold ltS
  rw [ByteArray.toList_eq, ByteArray.toList_eq, ByteArray.data_extract, Array.toList_extract]
  have := less_pre (b.data.toList.take n) (b.data.toList.drop n)
  rw [List.take_append_drop] at this
  simpa using this
theorem cut_all (b : ByteArray) : b.extract 0 b.size = b := by simp
def StrB (p : ByteArray × Bool) (w : World) (e : Ending) (w' : World) : Prop := e = .returned (.tuple #[.string p.1, .bool p.2]) ∧ w = w'
theorem sep_k (a b : ByteArray) (w : World) (hb : b.size ≤ 281474976710656) : Calls Try.prog 34 #[.string a, .string b] w (StrB (sepS a b) w) := by
  go_enter Try.func34, Try.ntmps34
  go_wp2
  go_loop [10, 6] (fun i _ => ∃ k : Nat, k ≤ b.size + 1 ∧ i = .int .i64 k ∧ Hid (∀ m, m < k → ltS a (b.extract 0 m) = false)) (fun i _ => b.size + 1 - (intOf i).toNat)
  case atStart => exact ⟨0, Nat.zero_le _, rfl, Lib.hid (fun m h => by omega)⟩
  case round =>
    obtain ⟨k, hk, rfl, HM⟩ := hrel
    by_cases hlt : k < b.size + 1
    · have hle : (k : Int) ≤ b.size := by omega
      have hlt' : (k : Int) < b.size + 1 := by omega
      cases hq : ltS a (b.extract 0 k) with
      | true =>
        have HQ := Lib.hid hq
        have hq2 : Op.bytesLess (b.extract 0 k).toList a.toList = false := ltS_asymm hq
        have hq3 : ((b.extract 0 k).toList == a.toList) = false := beq_str_false (fun e => by rw [e, ltS_irrefl] at hq; cases hq)
        clear hq
        go_wp2
        go_ret2
        unfold StrB
        rw [sep_hit (by omega) HQ.out HM.out]
        exact ⟨rfl, rfl⟩
      | false =>
        have HN : Hid (∀ m, m < k + 1 → ltS a (b.extract 0 m) = false) := Lib.hid (fun m h => by
          by_cases e : m = k
          · subst e; exact hq
          · exact HM.out m (by omega))
        have hq2 : (Op.bytesLess (b.extract 0 k).toList a.toList || (b.extract 0 k).toList == a.toList) = true := by
          rw [bytesLe]; show (!ltS a (b.extract 0 k)) = true; rw [hq]; rfl
        simp only [Bool.or_eq_true] at hq2
        clear hq
        rcases hq2 with hq2 | hq2
        all_goals
          go_wp2
          go_round
          case rel => exact ⟨k + 1, by omega, by go_num, HN⟩
          case measure => simp [intOf]; omega
    · have hlt' : ¬ (k : Int) < b.size + 1 := by omega
      go_wp2
      go_ret2
      unfold StrB
      rw [sep_miss (fun m h => HM.out m (by omega))]
      exact ⟨rfl, rfl⟩
theorem sep_r (a b : ByteArray) (w : World) (hb : b.size ≤ 281474976710656) : Calls Try.prog 41 #[.string a, .string b] w (StrB (sepS a b) w) := by
  by_cases hab : ltS a b = true
  · have h1 : Op.bytesLess a.toList b.toList = true := hab
    have HAB := Lib.hid hab
    clear hab
    go_enter Try.func41, Try.ntmps41
    go_wp2
    go_loop [6] (fun i => ∃ k : Nat, k ≤ b.size ∧ i = .int .i64 k ∧ Hid (∀ m, m < k → ltS a (b.extract 0 m) = false)) (fun i => b.size - (intOf i).toNat)
    case atStart => exact ⟨0, Nat.zero_le _, rfl, Lib.hid (fun m h => by omega)⟩
    case round =>
      obtain ⟨k, hk, rfl, HM⟩ := hrel
      clear h1
      by_cases hlt : k < b.size
      · cases hq : ltS a (b.extract 0 k) with
        | true =>
          have HQ := Lib.hid hq
          have hq2 : Op.bytesLess (b.extract 0 k).toList a.toList = false := ltS_asymm hq
          have hq3 : ((b.extract 0 k).toList == a.toList) = false := beq_str_false (fun e => by rw [e, ltS_irrefl] at hq; cases hq)
          clear hq
          go_wp2
          go_ret2
          unfold StrB
          rw [sep_hit (by omega) HQ.out HM.out]
          exact ⟨rfl, rfl⟩
        | false =>
          have HN : Hid (∀ m, m < k + 1 → ltS a (b.extract 0 m) = false) := Lib.hid (fun m h => by
            by_cases e : m = k
            · subst e; exact hq
            · exact HM.out m (by omega))
          have hq2 : (Op.bytesLess (b.extract 0 k).toList a.toList || (b.extract 0 k).toList == a.toList) = true := by
            rw [bytesLe]; show (!ltS a (b.extract 0 k)) = true; rw [hq]; rfl
          simp only [Bool.or_eq_true] at hq2
          clear hq
          rcases hq2 with hq2 | hq2
          all_goals
            go_wp2
            go_round
            case rel => exact ⟨k + 1, by omega, by go_num, HN⟩
            case measure => simp [intOf]; omega
      · obtain rfl : k = b.size := by omega
        go_wp2
        go_ret2
        unfold StrB
        rw [sep_hit (Nat.le_refl _) (by rw [cut_all]; exact HAB.out) HM.out, cut_all]
        exact ⟨rfl, rfl⟩
  · have h1 : Op.bytesLess a.toList b.toList = false := by
      cases q : Op.bytesLess a.toList b.toList with
      | false => rfl
      | true => exact absurd q hab
    have HS := Lib.hid (sep_miss (a := a) (b := b) (fun m h => by
      cases q : ltS a (b.extract 0 m) with
      | false => rfl
      | true => exact absurd (ltS_of_lt_le q (le_cut b m)) hab))
    clear hab
    go_enter Try.func41, Try.ntmps41
    go_wp2
    go_ret2
    unfold StrB
    rw [HS.out]
    exact ⟨rfl, rfl⟩
end Go.Proofs.Ytopmeecgjobofaa
