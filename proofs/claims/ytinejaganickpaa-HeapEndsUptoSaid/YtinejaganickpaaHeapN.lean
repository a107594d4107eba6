/- Heaps: New. -/
import Derived.Test.YtinejaganickpaaBaseH
import Derived.Test.YtinejaganickpaaBaseE
namespace Go.Proofs.Ytinejaganickpaa
set_option linter.unusedVariables false
set_option linter.unusedSimpArgs false
open Go Go.RowKit Go.Sort

/-- An empty heap. -/
def hp0 (n m : Nat) : Hps := ⟨List.replicate n zC, 0, List.replicate m zN, 0, List.replicate 17 ⟨false, 0, 0⟩⟩
def GaveHp (n m e : Nat) (w : World) (e' : Ending) (w' : World) : Prop := ∃ b, e' = .returned (.tuple #[.pointer (some ⟨b, 0, none⟩), .int .i64 0]) ∧ Post (HpA b e (hp0 n m)) (fun _ => False) w w'
set_option maxRecDepth 100000 in
set_option maxHeartbeats 2000000 in
theorem new_h {ep : Nat} {ε : Eps} {w : World} {F : Nat → Prop} (h : (EpA ep ε).on w F) (hf : ε.Fit) (n m : Nat) (h0 : 1 ≤ n ∧ n ≤ 65536) (h1 : 1 ≤ m ∧ m ≤ 65536) :
    Calls Try.prog 8 #[.int .i64 (n : Int), .int .i64 (m : Int), .pointer (some ⟨ep, 0, none⟩)] w (GaveHp n m ep w) := by
  have HN := Lib.hid (now_a h hf)
  have hn : ¬ ((ε.now : Int) = 0) := by have := hf.pos; omega
  have hn' : ((ε.now : Int) == 0) = false := by simpa using hn
  clear h hn
  generalize (ε.now : Int) = nw at *
  go_enter Try.func8, Try.ntmps8
  go_wp2_with (go_at_call 30; refine HN.out.mono ?_; rintro e w3 ⟨rfl, rfl⟩)
  refine (new_C n h0.1 h0.2 _).mono ?_
  rintro e w1 ⟨c, rfl, hp1⟩
  have HO1 := Lib.hid ((One.nil w).add hp1)
  clear hp1
  go_wp2_with fail
  refine (new_N m h1.1 h1.2 _).mono ?_
  rintro e w2 ⟨v, rfl, hp2⟩
  have HO2 := Lib.hid ((HO1.out).add hp2)
  clear hp2 HO1
  go_wp2_with fail
  go_ret2
  have h3 := HO2.out.alloc (.cells (hpCells c v ep (List.replicate 17 ⟨false, 0, 0⟩)) 70)
  have h4 := h3.perm (.cons _ (.swap _ _ _))
  have h5 := (One.all (l1 := [_, _, _]) (l2 := [])).1 h4
  exact ⟨w2.heap.size, rfl, (h5.post 0 rfl).imp fun F' h' => ⟨c, v, h'⟩⟩
end Go.Proofs.Ytinejaganickpaa
