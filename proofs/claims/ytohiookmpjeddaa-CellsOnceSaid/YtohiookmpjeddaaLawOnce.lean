/- CellsOnce: its walk. -/
import Derived.Test.YtohiookmpjeddaaBegun
import Derived.Test.YtohiookmpjeddaaOpen
namespace Go.Proofs.Ytohiookmpjeddaa
set_option linter.unusedVariables false
set_option linter.unusedSimpArgs false
open Go Go.RowKit

/-- What has come of the swaps so far: nothing, and all were the first value; or one was done. -/
def OnceInv (first : ByteArray) (l : List ByteArray) (d : Nat) (last : ByteArray) : Prop :=
  (d = 0 ∧ last = first ∧ ∀ x ∈ l, x = first) ∨ (d = 1 ∧ last ≠ first)

theorem rd_str {w : World} {b off : Nat} {l : List ByteArray} (h : ∀ i x, l[i]? = some x → ∀ j, j < 1 → w.cell? ⟨b, off + (i * 1 + j), none⟩ = ([Value.string x])[j]?) {k : Nat} {x : ByteArray} (hx : l[k]? = some x) :
    w.cell? ⟨b, off + k, none⟩ = some (.string x) := by
  simpa using h k x hx 0 (by omega)

set_option maxHeartbeats 2000000 in
theorem once_walk (first : ByteArray) (a : Option Addr) (cap : Nat) (l : List ByteArray) (w : World) (hl : l.length ≤ maxLen) (hr : Rd (fun s : ByteArray => [.string s]) 1 w a l) :
    Calls Try.prog 3 #[.string first, .slice a l.length cap] w fun e w' => e = .returned (.bool true) ∧ KN w w' := by
  unfold maxLen at hl
  go_enter Try.func3, Try.ntmps3
  go_wp2_with fail
  refine (newS first w).mono ?_
  rintro e w1 ⟨rfl, hw1⟩
  have HC1 := Lib.hid (show w1.heap[w.heap.size]? = some (cellS first 0) by rw [hw1]; exact heap_alloc_same _ _)
  have HK1 := Lib.hid (show KN w w1 by rw [hw1]; exact kn_alloc _ _)
  clear hw1
  go_wp2_with fail
  refine (begun_true w1).mono ?_
  rintro e w2 ⟨rfl, hk2⟩
  have HC2 := Lib.hid (hk2.blk HC1.out id)
  have HK2 := Lib.hid (HK1.out.then hk2 (fun _ h => h.elim))
  clear hk2 HC1 HK1
  have hcell : ∀ (k : Nat) (x : ByteArray), l[k]? = some x → ∃ b off, a = some ⟨b, off, none⟩ ∧ b < w.heap.size ∧ w.cell? ⟨b, off + k, none⟩ = some (.string x) := by
    intro k x hx
    rcases hr with h0 | ⟨b, off, ha, hb, hc⟩
    · rw [h0] at hx; cases hx
    · exact ⟨b, off, ha, hb, rd_str hc hx⟩
  have HCELL := Lib.hid hcell
  clear hcell hr
  go_wp2_with fail
  go_loopw [6, 7, 25] (fun d la i wr => ∃ (k dn : Nat) (lst : ByteArray), k ≤ l.length ∧ i = .int .i64 k ∧ d = .int .i64 dn ∧ la = .string lst ∧ Hid (OnceInv first (l.take k) dn lst) ∧ Hid (wr.heap[w.heap.size]? = some (cellS lst dn)) ∧ Hid (KN w wr)) (fun _ _ i _ => l.length - (intOf i).toNat)
  case atStart => exact ⟨0, 0, first, Nat.zero_le _, rfl, rfl, rfl, .inl ⟨rfl, rfl, by simp⟩, HC2, HK2⟩
  case round =>
    obtain ⟨k, dn, lst, hk, rfl, rfl, rfl, HI, HC, HK⟩ := hrel
    clear HC2 HK2
    by_cases hlt : k < l.length
    · have HT : Hid (l.take (k + 1) = l.take k ++ [l[k]]) := List.take_succ_eq_append_getElem hlt
      obtain ⟨b, off, ha, hb, hx⟩ := HCELL.out k l[k] (List.getElem?_eq_getElem hlt)
      generalize l[k] = x at HT hx
      subst ha
      have hx' : wr.cell? ⟨b, off + k, none⟩ = some (.string x) := by rw [← hx]; exact HK.out.below.cell hb
      clear hx
      by_cases hxf : x = first
      · subst hxf
        go_wp2
        go_roundw
        case rel =>
          refine ⟨k + 1, dn, lst, by omega, by go_num, rfl, rfl, ?_, HC, HK⟩
          rcases HI.out with ⟨h1, h2, h3⟩ | h1
          · refine .inl ⟨h1, h2, ?_⟩
            rw [HT.out]
            intro y hy
            rcases List.mem_append.1 hy with h | h
            · exact h3 y h
            · simpa using h
          · exact .inr h1
        case measure => simp [intOf]; omega
      · have hne := beq_str_false hxf
        have HXF := Lib.hid hxf
        clear hxf
        rcases HI.out with ⟨rfl, rfl, h3⟩ | ⟨rfl, h2⟩
        · clear h3
          go_wp2_with fail
          refine (swapS _ x HC.out).mono ?_
          rintro e w3 ⟨rfl, hw3⟩
          rw [if_pos rfl] at hw3
          have HC3 := Lib.hid (show w3.heap[w.heap.size]? = some (cellS x (1 : Nat)) by rw [hw3]; exact (setB_same _ (lt_blk HC.out)).trans (by rw [show wrap64 (((0 : Nat) : Int) + 1) = ((1 : Nat) : Int) by unfold wrap64; omega]))
          have HK3 := Lib.hid (HK.out.then (show Kp (· = w.heap.size) wr w3 by rw [hw3]; exact (Kp.refl (· = w.heap.size) _).setB (.inl rfl) _) (fun i h => by omega))
          clear hw3
          simp only [decide_true]
          go_wp2
          go_roundw
          case rel => exact ⟨k + 1, 1, x, by omega, by go_num, rfl, rfl, .inr ⟨rfl, HXF.out⟩, HC3, HK3⟩
          case measure => simp [intOf]; omega
        · have HL := Lib.hid h2
          clear h2
          go_wp2_with fail
          refine (swapS first x HC.out).mono ?_
          rintro e w3 ⟨rfl, hw3⟩
          rw [if_neg HL.out] at hw3
          subst hw3
          rw [decide_eq_false HL.out]
          go_wp2
          go_roundw
          case rel => exact ⟨k + 1, 1, lst, by omega, by go_num, rfl, rfl, .inr ⟨rfl, HL.out⟩, HC, HK⟩
          case measure => simp [intOf]; omega
    · obtain rfl : k = l.length := by omega
      rw [List.take_length] at HI
      go_wp2_with fail
      refine (loadS HC.out).mono ?_
      rintro e w4 ⟨rfl, m, hw4⟩
      have HK4 := Lib.hid (show KN w w4 by rw [hw4]; exact HK.out.drewN _)
      clear hw4 HC
      have hd : dn ≤ 1 := by rcases HI.out with h | h <;> omega
      go_wp2_with fail
      go_loop [59] (fun i => ∃ k : Nat, k ≤ l.length ∧ i = .int .i64 k) (fun i => l.length - (intOf i).toNat)
      case atStart => exact ⟨0, Nat.zero_le _, rfl⟩
      case round =>
        obtain ⟨k, hk, rfl⟩ := hrel
        by_cases hlt : k < l.length
        · obtain ⟨b, off, ha, hb, hx⟩ := HCELL.out k l[k] (List.getElem?_eq_getElem hlt)
          have hmem : l[k] ∈ l := List.getElem_mem hlt
          generalize l[k] = x at hmem hx
          subst ha
          have hx' : w4.cell? ⟨b, off + k, none⟩ = some (.string x) := by rw [← hx]; exact HK4.out.below.cell hb
          clear hx
          by_cases hxf : x = first
          · subst hxf
            go_wp2
            go_round
            case rel => exact ⟨k + 1, by omega, by go_num⟩
            case measure => simp [intOf]; omega
          · have hne := beq_str_false hxf
            have hdn : dn = 1 := by
              rcases HI.out with ⟨h1, h2, h3⟩ | ⟨h1, _⟩
              · exact absurd (h3 x hmem) hxf
              · exact h1
            clear hxf
            subst hdn
            go_wp2
            go_round
            case rel => exact ⟨k + 1, by omega, by go_num⟩
            case measure => simp [intOf]; omega
        · obtain rfl : k = l.length := by omega
          go_wp2
          go_ret
          exact ⟨rfl, HK4.out⟩
end Go.Proofs.Ytohiookmpjeddaa
