/- delta.must, caught, and the closure that Fold defers. -/
import Derived.Recover
import Derived.Defers
import Derived.Test.YtkdlodjpambelaaClones
namespace Go.Proofs.Ytkdlodjpambelaa
set_option linter.unusedVariables false
set_option linter.unusedSimpArgs false
open Go Go.RowKit

/-- What must panics with. -/
def failv (e : Int) : Value := .iface 77 (.agg #[.int .i64 e])
theorem must_ok (w : World) : Calls Try.prog 49 #[.int .i64 0] w fun e w' => e = .returned (.tuple #[]) ∧ w = w' := by
  go_enter Try.func49, Try.ntmps49
  go_wp2
  go_end0
  exact ⟨rfl, rfl⟩
theorem must_no (n : Int) (hn : n ≠ 0) (w : World) : Calls Try.prog 49 #[.int .i64 n] w fun e w' => e = .panicked [{ v := failv n, recovered := false }] ∧ w = w' := by
  have h1 : (n != 0) = true := by simpa using hn
  go_enter Try.func49, Try.ntmps49
  go_wp2
  exact ⟨rfl, rfl, rfl⟩
theorem ta_fail (v : Value) (w : World) : (Instr.typeAssert (.iface 77 v) 20 77 true).run Try.prog w = .ok (.tuple #[v, .bool true]) w := by
  simp only [Instr.typeAssert]
  go_simp
theorem caught_k (n : Int) (w : World) : Calls Try.prog 33 #[failv n] w fun e w' => e = .returned (.int .i64 n) ∧ KN w w' := by
  unfold failv
  have hta := ta_fail
  go_enter Try.func33, Try.ntmps33
  go_wp2
  go_ret
  exact ⟨rfl, kn_alloc _ _⟩
theorem set51 {w : World} {b c : Nat} {v0 v1 v2 v3 v4 x u0 u1 u2 u3 u4 y : Value} {T T' : TypeId} (hb : w.heap[b]? = some (.cells #[v0, v1, v2, v3, v4] T)) (hc : w.heap[c]? = some (.cells #[x] T')) (hne : b ≠ c) :
    ((((((w.setCell ⟨b, 0, none⟩ u0).setCell ⟨b, 1, none⟩ u1).setCell ⟨b, 2, none⟩ u2).setCell ⟨b, 3, none⟩ u3).setCell ⟨b, 4, none⟩ u4).setCell ⟨c, 0, none⟩ y) = setB (setB w b (.cells #[u0, u1, u2, u3, u4] T)) c (.cells #[y] T') := by
  have hl := lt_blk hb
  rw [setCell_setB u0 hb, setCell_setB u1 (setB_same _ hl), setB_setB, setCell_setB u2 (setB_same _ hl), setB_setB, setCell_setB u3 (setB_same _ hl), setB_setB, setCell_setB u4 (setB_same _ hl), setB_setB]
  rw [setCell_setB y ((setB_other _ _ hne).trans hc)]
  rfl
theorem catch_panicking (b c : Nat) (n : Int) (older : List PanicEntry) (w : World) {v0 v1 v2 v3 v4 x : Value} (hb : w.heap[b]? = some (.cells #[v0, v1, v2, v3, v4] 24)) (hc : w.heap[c]? = some (.cells #[x] 31)) (hne : b ≠ c) :
    CallsD Try.prog 32 #[.pointer (some ⟨b, 0, none⟩), .pointer (some ⟨c, 0, none⟩)] (.panicking ({ v := failv n, recovered := false } :: older)) w fun e u' w' =>
      e = .returned (.tuple #[]) ∧ u' = .panicking ({ v := failv n, recovered := true } :: older) ∧ w'.heap[b]? = some (.cells #[.bool false, .string ⟨#[]⟩, .string ⟨#[]⟩, .int .i64 0, .slice none 0 0] 24) ∧ w'.heap[c]? = some (.cells #[.int .i64 n] 31) ∧ Kp (fun k => k = b ∨ k = c) w w' := by
  refine callsD_of_wpS Try.func32 rfl fun c₀ cs hu => ?_
  apply wpS_seq
  apply wpS_region
  simp [wpOpsS, go_sem, recoverD, hu, Try.ntmps32, Exit.thenS]
  refine wpS_of_wp ?_
  have HC := Lib.hid (fun W => caught_k n W)
  have HB := Lib.hid (And.intro hb hc)
  unfold failv at HC ⊢
  simp only [List.size_toArray, List.length_cons, List.length_nil, Nat.reduceAdd, Nat.reduceSub, Array.replicate_succ, Array.replicate_zero, List.push_toArray, List.append_toArray, List.nil_append, List.cons_append, List.setIfInBounds_toArray, List.set_cons_zero, List.set_cons_succ]
  clear hu hb hc
  go_wp2_with fail
  refine (HC.out _).mono ?_
  rintro e w1 ⟨rfl, k1⟩
  have hb1 := k1.blk HB.out.1 id
  have hc1 := k1.blk HB.out.2 id
  obtain ⟨x0, x1, x2, x3, x4, xf⟩ := cells5 hb1
  obtain ⟨y0, yf⟩ := cells1 hc1
  have HS := Lib.hid (fun u0 u1 u2 u3 u4 y => set51 (u0 := u0) (u1 := u1) (u2 := u2) (u3 := u3) (u4 := u4) (y := y) hb1 hc1 hne)
  have HL := Lib.hid (And.intro (lt_blk hb1) (lt_blk hc1))
  clear hb1 hc1
  go_wp2
  rw [HS.out]
  have q1 : (setB (setB w1 b (.cells #[.bool false, .string ⟨#[]⟩, .string ⟨#[]⟩, .int .i64 0, .slice none 0 0] 24)) c (.cells #[.int .i64 n] 31)).heap[b]? = some (.cells #[.bool false, .string ⟨#[]⟩, .string ⟨#[]⟩, .int .i64 0, .slice none 0 0] 24) :=
    (setB_other _ _ (Ne.symm hne)).trans (setB_same _ HL.out.1)
  have q2 := setB_same (w := setB w1 b (.cells #[.bool false, .string ⟨#[]⟩, .string ⟨#[]⟩, .int .i64 0, .slice none 0 0] 24)) (b := c) (.cells #[.int .i64 n] 31) (by simpa [setB] using HL.out.2)
  have q3 : Kp (fun k => k = b ∨ k = c) w (setB (setB w1 b (.cells #[.bool false, .string ⟨#[]⟩, .string ⟨#[]⟩, .int .i64 0, .slice none 0 0] 24)) c (.cells #[.int .i64 n] 31)) :=
    (((Kp.refl (fun k => k = b ∨ k = c) w).trans k1 (fun _ h => h.elim)).setB (.inl (.inl rfl)) _).setB (.inl (.inr rfl)) _
  clear HS HL x0 x1 x2 x3 x4 xf y0 yf
  generalize setB (setB w1 b (.cells #[.bool false, .string ⟨#[]⟩, .string ⟨#[]⟩, .int .i64 0, .slice none 0 0] 24)) c (.cells #[.int .i64 n] 31) = w2 at *
  simp [bodyPostS, results, Try.results32, go_sem]
  exact ⟨q1, q2, q3⟩
theorem catch_idle (b c : Nat) (w : World) :
    CallsD Try.prog 32 #[.pointer (some ⟨b, 0, none⟩), .pointer (some ⟨c, 0, none⟩)] .returning w fun e u' w' => e = .returned (.tuple #[]) ∧ u' = .returning ∧ w' = w := by
  refine callsD_of_wpS Try.func32 rfl fun c₀ cs hu => ?_
  apply wpS_seq
  apply wpS_region
  simp [wpOpsS, go_sem, recoverD, hu, Try.ntmps32, Exit.thenS]
  refine wpS_of_wp ?_
  simp only [List.size_toArray, List.length_cons, List.length_nil, Nat.reduceAdd, Nat.reduceSub, Array.replicate_succ, Array.replicate_zero, List.push_toArray, List.append_toArray, List.nil_append, List.cons_append, List.setIfInBounds_toArray, List.set_cons_zero, List.set_cons_succ]
  go_wp2
  cases c₀
  simp_all [bodyPostS, results, Try.results32]
end Go.Proofs.Ytkdlodjpambelaa
