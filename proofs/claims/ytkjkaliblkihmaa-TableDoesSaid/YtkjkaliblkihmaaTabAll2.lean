/- The walks of the mapping table: All. -/
import Derived.Test.YtkjkaliblkihmaaTabAll
import Derived.Test.YtkjkaliblkihmaaOwnRow
import Derived.Test.YtkjkaliblkihmaaGoneLaw
import Derived.Test.YtkjkaliblkihmaaLists
namespace Go.Proofs.Ytkjkaliblkihmaa
set_option linter.unusedVariables false
set_option linter.unusedSimpArgs false
open Go Go.RowKit

/-- The live pages below k, in order. -/
def livesTo (aps : List AP) (k : Nat) : List PH := (List.range k).filterMap fun (i : Nat) => if stOf aps (i : Int) = 1 then some ((i : Int), headOf aps (i : Int)) else none
def livesOf (aps : List AP) : List PH := livesTo aps aps.length
theorem lives_step (aps : List AP) (k : Nat) : livesTo aps (k + 1) = livesTo aps k ++ if stOf aps k = 1 then [((k : Int), headOf aps k)] else [] := by
  unfold livesTo
  rw [List.range_succ, List.filterMap_append]
  congr 1
  by_cases h : stOf aps k = 1 <;> simp [h]
theorem lives_le (aps : List AP) (k : Nat) : (livesTo aps k).length ≤ k := by
  unfold livesTo
  exact Nat.le_trans (List.length_filterMap_le _ _) (by simp)
theorem elt_int : Elt Try.prog 77 3 (.int .i64 0) 1 8 := ⟨Try.underlying77, by kernel_rfl, rfl, by decide⟩
theorem elt_hd : Elt Try.prog 24 23 (.agg #[.int .i64 0, .int .i64 0]) 2 16 := ⟨Try.underlying24, by kernel_rfl, rfl, by decide⟩

theorem flat_get {α : Type} {enc : α → List Value} {sz : Nat} (hl : ∀ x, (enc x).length = sz) : ∀ (l : List α) (i : Nat) (x : α), l[i]? = some x → ∀ (j : Nat) (u : Value), (enc x)[j]? = some u → (l.flatMap enc)[i * sz + j]? = some u
  | [], i, x, h, j, u, hu => by simp at h
  | y :: l, 0, x, h, j, u, hu => by
    simp at h; subst h
    rw [List.flatMap_cons, Nat.zero_mul, Nat.zero_add, List.getElem?_append_left (List.getElem?_eq_some_iff.1 hu).1]
    exact hu
  | y :: l, i + 1, x, h, j, u, hu => by
    rw [List.flatMap_cons, List.getElem?_append_right (by rw [hl, Nat.succ_mul]; omega), hl, show (i + 1) * sz + j - sz = i * sz + j by rw [Nat.succ_mul]; omega]
    exact flat_get hl l i x (by simpa using h) j u hu
theorem own_row_rd {α : Type} {E sz n : Nat} {w : World} {a : Option Addr} {cap : Nat} {enc : α → List Value} {l : List α} {G : Nat → Prop} (h : (RowA E sz (.slice a n cap) n (l.flatMap enc)).on w G) (hl : ∀ x, (enc x).length = sz) (hn : l.length = n) : RdN G enc sz w a l := by
  obtain ⟨ho, rfl⟩ := h
  intro i x hx
  have hi := (List.getElem?_eq_some_iff.1 hx).1
  obtain ⟨b, off, cap', hv, _, hb, hc⟩ := (Sr.of_own ho).cells (by omega)
  cases hv
  refine ⟨b, off, rfl, rfl, fun j u hu => ?_⟩
  have := hc (i * sz + j) u (flat_get hl l i x hx j u hu)
  rw [Nat.add_assoc]; exact this
theorem load_live {aps : List AP} {k : Int} (h : stOf aps k = 1) : loadOf aps k = (headOf aps k, 0) := by unfold loadOf; rw [if_pos ((looks_iff (by decide)).2 h)]
theorem load_not {aps : List AP} {k : Int} (h : ¬ stOf aps k = 1) : loadOf aps k = ((0, 0), 4) := by unfold loadOf; rw [if_neg (fun e => h ((looks_iff (by decide)).1 e))]
def AllGave (aps : List AP) (w : World) (e : Ending) (w' : World) : Prop :=
  ∃ b1 b2, e = .returned (.func (.func 48) #[] #[.pointer (some ⟨b1, 0, none⟩), .pointer (some ⟨b2, 0, none⟩)]) ∧ Post (AllA b1 b2 (livesOf aps)) (fun _ => False) w w'
theorem encH2 (x : PH) : (encH x).length = 2 := rfl
theorem encI1 (x : PH) : (encI x).length = 1 := rfl
theorem all_of {b1 b2 : Nat} {a1 a2 : Option Addr} {c1 c2 : Nat} {xs : List PH} {w : World} {F : Nat → Prop} (h : (All [Blk b2 (.cells #[.slice a2 xs.length c2] 24), Blk b1 (.cells #[.slice a1 xs.length c1] 77), RowA 23 2 (.slice a2 xs.length c2) xs.length (xs.flatMap encH), RowA 3 1 (.slice a1 xs.length c1) xs.length (xs.flatMap encI)]).on w F) : (AllA b1 b2 xs).on w F := by
  have hlt := (All _).lt h
  obtain ⟨G1, r1, ⟨h1, e1⟩, ⟨G2, r2, ⟨h2, e2⟩, ⟨G3, r3, h3, ⟨G4, r4, h4, _, _, hF4⟩, _, hF3⟩, _, hF2⟩, _, hF⟩ := h
  have q1 : F b2 := (hF b2).2 (.inl (by rw [e1]))
  have q2 : F b1 := (hF b1).2 (.inr ((hF2 b1).2 (.inl (by rw [e2]))))
  have q3 : ∀ b, G3 b → F b := fun b hb => (hF b).2 (.inr ((hF2 b).2 (.inr ((hF3 b).2 (.inl hb)))))
  have q4 : ∀ b, G4 b → F b := fun b hb => (hF b).2 (.inr ((hF2 b).2 (.inr ((hF3 b).2 (.inr ((hF4 b).2 (.inl hb)))))))
  refine ⟨⟨⟨a1, c1, a2, c2, ⟨(cells1 h2).1, (cells1 h1).1⟩, (own_row_rd h4 encI1 rfl).mono q4, (own_row_rd h3 encH2 rfl).mono q3⟩, q2, q1⟩, hlt⟩
set_option maxHeartbeats 1000000 in
theorem tab_all {w : World} {t : Nat} {F : Nat → Prop} {aps : List AP} {x : Int} (hlen : aps.length ≤ 65536) (h : (Tab t aps x).on w F) : Calls Try.prog 38 #[.pointer (some ⟨t, 0, none⟩)] w (AllGave aps w) := by
  have HT := Lib.hid h
  clear h
  go_enter Try.func38, Try.ntmps38
  go_upto_region 3 with fail
  have HO := Lib.hid ((((One.nil w).nilRow 3 1).nilRow 23 2).alloc2 (.cells #[.slice none 0 0] 77) (.cells #[.slice none 0 0] 24))
  generalize (w.alloc (.cells #[.slice none 0 0] 77)).alloc (.cells #[.slice none 0 0] 24) = W at *
  generalize w.heap.size = g at *
  go_wp2_with (first | (go_at_call 22; refine (tab_pages ((Tab t aps x).kn HT.out HO.out.old)).mono ?_; rintro e w' ⟨rfl, rfl⟩))
  go_loopw [10] (fun i wr => ∃ (k : Nat) (a1 : Option Addr) (c1 : Nat) (a2 : Option Addr) (c2 : Nat), k ≤ aps.length ∧ i = .int .i64 k ∧
    Hid (One w wr [Blk (g + 1) (.cells #[.slice a2 (livesTo aps k).length c2] 24), Blk g (.cells #[.slice a1 (livesTo aps k).length c1] 77), RowA 23 2 (.slice a2 (livesTo aps k).length c2) (livesTo aps k).length ((livesTo aps k).flatMap encH),
      RowA 3 1 (.slice a1 (livesTo aps k).length c1) (livesTo aps k).length ((livesTo aps k).flatMap encI)])) (fun i _ => aps.length - (intOf i).toNat)
  case atStart => exact ⟨0, none, 0, none, 0, Nat.zero_le _, rfl, HO⟩
  case round =>
    obtain ⟨k, a1, c1, a2, c2, hk, rfl, HR⟩ := hrel
    clear HO
    have hle := lives_le aps k
    by_cases hlt : k < aps.length
    · have hst := lives_step aps k
      by_cases h1 : stOf aps k = 1
      · rw [if_pos h1] at hst
        have e3 := Lib.hid (load_live h1)
        have HS := Lib.hid hst
        clear hst h1
        generalize livesTo aps k = xs at *
        generalize headOf aps k = hd at *
        go_wp2_with fail
        refine (tab_load k ((Tab t aps x).kn HT.out HR.out.old)).mono ?_
        rw [e3.out]
        rintro e w5 ⟨rfl, hk5⟩
        have HR5 := Lib.hid (HR.out.kn hk5)
        clear HR hk5
        go_upto_region 8 with fail
        have HR6 := Lib.hid (HR5.out.alloc (.cells #[.int .i64 hd.1, .int .i64 hd.2] 23))
        clear HR5
        generalize w5.alloc (.cells #[.int .i64 hd.1, .int .i64 hd.2] 23) = w6 at *
        generalize w5.heap.size = g5 at *
        obtain ⟨p0, p1⟩ := cells1 (HR6.out.blk 2 rfl).1
        go_upto_region 9 with (at_builtin; go_loud (refine wpList_appO 24 rfl rfl rfl rfl elt_int (HR6.out.kn (kn_alloc _ (.cells #[.int .i64 k] 3))) 4 rfl rfl rfl (sr_new (cs := [.int .i64 k]) (heap_alloc_same _ _) rfl (Nat.le_refl _)) (fun u hu => by rw [List.mem_singleton] at hu; subst hu; rfl) (by unfold maxLen; omega) (by omega) ?_); intro a3 c3 w7 ho7; have HR7 := Lib.hid (show One w w7 [Blk g5 (.cells #[.int .i64 hd.1, .int .i64 hd.2] 23), Blk (g + 1) (.cells #[.slice a2 xs.length c2] 24), Blk g (.cells #[.slice a1 xs.length c1] 77), RowA 23 2 (.slice a2 xs.length c2) xs.length (xs.flatMap encH),
              RowA 3 1 (.slice a3 (xs.length + 1) c3) (xs.length + 1) (xs.flatMap encI ++ [.int .i64 k])] from ho7); obtain ⟨q0, q1⟩ := cells1 (HR7.out.blk 2 rfl).1)
        have HR8 := Lib.hid (show One w (w7.setCell ⟨g, 0, none⟩ (.slice a3 (xs.length + 1) c3)) [Blk g5 (.cells #[.int .i64 hd.1, .int .i64 hd.2] 23), Blk (g + 1) (.cells #[.slice a2 xs.length c2] 24), Blk g (.cells #[.slice a3 (xs.length + 1) c3] 77), RowA 23 2 (.slice a2 xs.length c2) xs.length (xs.flatMap encH),
              RowA 3 1 (.slice a3 (xs.length + 1) c3) (xs.length + 1) (xs.flatMap encI ++ [.int .i64 k])] from HR7.out.set1 2 rfl _)
        clear HR6 HR7 ho7 p0 p1 q0 q1
        generalize w7.setCell ⟨g, 0, none⟩ (.slice a3 (xs.length + 1) c3) = w8 at *
        obtain ⟨p0, p1⟩ := cells1 (HR8.out.blk 1 rfl).1
        obtain ⟨r0, r1, _, _⟩ := cells2 (HR8.out.blk 0 rfl).1
        go_wp2_with (at_builtin; refine wpList_appO 28 rfl rfl rfl rfl elt_hd (HR8.out.kn (kn_alloc _ (.cells #[.int .i64 hd.1, .int .i64 hd.2] 23))) 3 rfl rfl rfl (sr_new (cs := [.int .i64 hd.1, .int .i64 hd.2]) (heap_alloc_same _ _) rfl (Nat.le_refl _)) (fun u hu => by simp at hu; rcases hu with rfl | rfl <;> rfl) (by unfold maxLen; omega) (by omega) ?_; intro a4 c4 w9 ho9; have HR9 := Lib.hid (show One w w9 [Blk g5 (.cells #[.int .i64 hd.1, .int .i64 hd.2] 23), Blk (g + 1) (.cells #[.slice a2 xs.length c2] 24), Blk g (.cells #[.slice a3 (xs.length + 1) c3] 77), RowA 23 2 (.slice a4 (xs.length + 1) c4) (xs.length + 1) (xs.flatMap encH ++ [.int .i64 hd.1, .int .i64 hd.2]),
              RowA 3 1 (.slice a3 (xs.length + 1) c3) (xs.length + 1) (xs.flatMap encI ++ [.int .i64 k])] from ho9); obtain ⟨q0, q1⟩ := cells1 (HR9.out.blk 1 rfl).1)
        go_roundw
        case rel =>
          refine ⟨k + 1, a3, c3, a4, c4, by omega, by go_num, ?_⟩
          have HRa := Lib.hid (One.drop (HR9.out.set1 1 rfl (.slice a4 (xs.length + 1) c4)))
          rw [HS.out, List.length_append, List.flatMap_append, List.flatMap_append]
          exact HRa
        case measure => simp [intOf]; omega
      · rw [if_neg h1, List.append_nil] at hst
        have e3 := Lib.hid (load_not h1)
        have HS := Lib.hid hst
        clear hst h1
        go_wp2_with fail
        refine (tab_load k ((Tab t aps x).kn HT.out HR.out.old)).mono ?_
        rw [e3.out]
        rintro e w5 ⟨rfl, hk5⟩
        have HR5 := Lib.hid (HR.out.kn hk5)
        clear HR hk5
        go_wp2
        go_roundw
        case rel => exact ⟨k + 1, a1, c1, a2, c2, by omega, by go_num, by rw [HS.out]; exact Lib.hid (HR5.out.kn (kn_alloc _ _))⟩
        case measure => simp [intOf]; omega
    · obtain rfl : k = aps.length := by omega
      go_wp2
      go_ret
      exact ⟨g, g + 1, rfl, One.post (One.imp ((One.all (l1 := [_, _, _, _]) (l2 := [])).1 HR.out) (fun F h => all_of h)) 0 rfl⟩
end Go.Proofs.Ytkjkaliblkihmaa
