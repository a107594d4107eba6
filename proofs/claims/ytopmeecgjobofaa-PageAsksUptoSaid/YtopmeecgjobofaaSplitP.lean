/- The walk of page.Split. -/
import Derived.Test.YtopmeecgjobofaaPutP2
import Derived.Test.YtopmeecgjobofaaKeys2
namespace Go.Proofs.Ytopmeecgjobofaa
set_option linter.unusedVariables false
set_option linter.unusedSimpArgs false
open Go Go.RowKit

/-- Two pages that were made, and an error's number. -/
def GaveP2 (x : Pg × Pg × Int) (w : World) (e : Ending) (w' : World) : Prop := ∃ a c b d, e = .returned (.tuple #[pgv x.1 (.slice a x.1.list.length c), pgv x.2.1 (.slice b x.2.1.list.length d), .int .i64 x.2.2]) ∧ One w w' [RowE b d x.2.1.list, RowE a c x.1.list]
theorem One.keep2 {w0 w : World} {A B : Asr} {l : List Asr} (h : One w0 w (A :: B :: l)) : One w0 w [A, B] := by
  have := (One.all (l1 := [A, B]) (l2 := l)).1 h
  obtain ⟨F, ⟨F1, F2, h1, h2, hd, hF⟩, b, c⟩ := this
  exact ⟨F1, h1, fun x hx => b x ((hF x).2 (.inl hx)), c⟩
theorem split_few (p : Pg) (id : Int) (w : World) {v : Value} (hr : Rl En.enc 4 w v p.list) (h : id < 1 ∨ p.list.length < 2) (h63 : p.list.length ≤ maxLen) : Calls Try.prog 10 #[pgv p v, .int .i64 id] w (GaveP2 (splitP p id) w) := by
  obtain ⟨a0, c0, rfl, hc0, hrd⟩ := hr
  unfold maxLen at h63
  have HO := Lib.hid ((((One.nil w).nilRow 34 4).nilRow 34 4).alloc3 (.cells #[.bool p.leaf, .string p.low, .string p.high, .int .i64 p.right, .slice a0 p.list.length c0] 24) (.cells #[.bool false, .string empS, .string empS, .int .i64 0, .slice none 0 0] 24) (.cells #[.bool false, .string empS, .string empS, .int .i64 0, .slice none 0 0] 24))
  clear hrd
  by_cases h1 : id < 1
  · have hP : splitP p id = (zeroPg, zeroPg, 1) := by unfold splitP; rw [if_pos h1]
    rw [hP]
    clear hP h
    obtain ⟨lf, lo, hi, r, l⟩ := p
    go_enter Try.func10, Try.ntmps10
    go_wp2_with fail
    exact bodyPost_ret (res_c2t rfl rfl (load_pg (HO.out.blk 1 rfl).1) rfl (load_pg (HO.out.blk 0 rfl).1) rfl) rfl ⟨none, 0, none, 0, rfl, HO.out.drop.drop.drop⟩
  · have h2 : p.list.length < 2 := by omega
    have hP : splitP p id = (zeroPg, zeroPg, 71) := by unfold splitP; rw [if_neg h1, if_pos h2]
    rw [hP]
    clear hP h
    obtain ⟨lf, lo, hi, r, l⟩ := p
    simp only at h2
    go_enter Try.func10, Try.ntmps10
    go_wp2_with fail
    exact bodyPost_ret (res_c2t rfl rfl (load_pg (HO.out.blk 1 rfl).1) rfl (load_pg (HO.out.blk 0 rfl).1) rfl) rfl ⟨none, 0, none, 0, rfl, HO.out.drop.drop.drop⟩
end Go.Proofs.Ytopmeecgjobofaa
