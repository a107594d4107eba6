/- The pair: next. -/
import Derived.Test.YthbiohfnnjbbgaaRefAr2
import Derived.Test.YthbiohfnnjbbgaaSameAr
namespace Go.Proofs.Ythbiohfnnjbbgaa
set_option linter.unusedVariables false
set_option linter.unusedSimpArgs false
open Go Go.RowKit

abbrev prO (t r : Nat) (v : Value) : Obj := .cells #[.pointer (some ⟨t, 0, none⟩), .pointer (some ⟨r, 0, none⟩), v] 54
theorem next_p {p t r n j : Nat} {v : Value} {R : Rs} {st : Int} {w : World} {F : Nat → Prop} {x : Slot ByteArray} (h0 : w.heap[p]? = some (prO t r v)) (h : (RfA r R st).on w F) (hx : R[n]? = some x) (hg : x.given = true) (hj : j ≤ n) (hno : ∀ i y, j ≤ i → i < n → R[i]? = some y → y.given = false) (hm : R.length ≤ 65536) :
    Calls Try.prog 53 #[.pointer (some ⟨p, 0, none⟩), .int .i64 j] w fun e w' => e = .returned (.int .i64 n) ∧ KN w w' := by
  have hil := (List.getElem?_eq_some_iff.1 hx).1
  have HB := Lib.hid (fun (W : World) (k : KN w W) => k.blk h0 id)
  have HR := Lib.hid (fun (W : World) (k : KN w W) => (RfA r R st).keep h k (fun _ _ h => h))
  have HX := Lib.hid (And.intro hx hg)
  have HN := Lib.hid hno
  clear h0 h hx hg hno
  go_enter Try.func53, Try.ntmps53
  go_wp2_with fail
  go_loopw [1] (fun u wr => ∃ i : Nat, j ≤ i ∧ i ≤ n ∧ u = .int .i64 i ∧ Hid (KN w wr)) (fun u _ => n - (intOf u).toNat)
  case atStart => exact ⟨j, Nat.le_refl _, hj, rfl, Lib.hid (Kp.refl _ _)⟩
  case round =>
    obtain ⟨i, h1, h2, rfl, HK⟩ := hrel
    obtain ⟨b0, b1, b2, _⟩ := cells3 (HB.out _ HK.out)
    have hz : (i : Int) < (R.length : Int) := by omega
    obtain ⟨y, hy⟩ : ∃ y, R[i]? = some y := ⟨_, List.getElem?_eq_getElem (by omega)⟩
    have HY := Lib.hid hy
    go_wp2_with fail
    refine (slots_r (HR.out _ HK.out)).mono ?_
    rintro e w5 ⟨rfl, rfl⟩
    go_wp2_with fail
    refine (at_r (HR.out _ HK.out) HY.out).mono ?_
    rintro e w6 ⟨rfl, hk6⟩
    have HK6 := Lib.hid ((HK.out.trans hk6 (fun _ h => h.elim)).alloc (.cells #[.int .i64 i, .int .i64 y.gen] 30))
    clear hk6
    by_cases hi : i = n
    · subst hi
      have e1 : y.given = true := by
        have := HX.out.1
        rw [hy] at this
        cases this
        exact HX.out.2
      clear hy
      rw [e1]
      go_wp2_with fail
      go_ret
      exact ⟨rfl, HK6.out⟩
    · have e1 : y.given = false := HN.out i y h1 (by omega) hy
      clear hy
      rw [e1]
      go_wp2_with fail
      go_roundw
      case rel => exact ⟨i + 1, by omega, by omega, by go_num, HK6⟩
      case measure => simp [intOf]; omega
end Go.Proofs.Ythbiohfnnjbbgaa
