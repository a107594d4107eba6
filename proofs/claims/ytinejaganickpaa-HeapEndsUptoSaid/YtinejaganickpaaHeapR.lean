/- Heaps: retires. -/
import Derived.Test.YtinejaganickpaaBaseH
import Derived.Test.YtinejaganickpaaEpochR
import Derived.Test.YtinejaganickpaaBaseA
namespace Go.Proofs.Ytinejaganickpaa
set_option linter.unusedVariables false
set_option linter.unusedSimpArgs false
open Go Go.RowKit Go.Sort

/-- What the epoch is behind several versions that retire. -/
def Eps.retires (ε : Eps) (l : List Hd) : Eps := l.foldl (fun ε h => ε.retire ⟨3, h⟩) ε
theorem retires_take (ε : Eps) (l : List Hd) {k : Nat} {x : Hd} (hx : l[k]? = some x) : ε.retires (l.take (k + 1)) = (ε.retires (l.take k)).retire ⟨3, x⟩ := by
  unfold Eps.retires
  rw [List.take_add_one, hx, List.foldl_append]
  rfl
theorem fit_retire {ε : Eps} (h : ε.Fit) (x : Re) : (ε.retire x).Fit := ⟨h.pos, h.top, h.xlen, by simpa [Eps.retire] using h.llen, h.inx⟩
theorem row_retire (ε : Eps) (x : Re) (j : Nat) : ((ε.retire x).row j).length ≤ (ε.row j).length + 1 := by
  unfold Eps.retire Eps.row
  simp only [List.getD, List.getElem?_set]
  by_cases e : ε.now % 3 = j
  · subst e
    rw [if_pos rfl]
    split
    · simp
    · simp
  · rw [if_neg e]; omega
theorem fit_retires : ∀ (l : List Hd) {ε : Eps}, ε.Fit → (ε.retires l).Fit
  | [], _, h => h
  | x :: l, _, h => fit_retires l (fit_retire h ⟨3, x⟩)
theorem row_retires : ∀ (l : List Hd) (ε : Eps) (j : Nat), ((ε.retires l).row j).length ≤ (ε.row j).length + l.length
  | [], ε, j => by simp [Eps.retires]
  | x :: l, ε, j => by
    have h1 := row_retires l (ε.retire ⟨3, x⟩) j
    have h2 := row_retire ε ⟨3, x⟩ j
    rw [List.length_cons]
    exact Nat.le_trans h1 (by omega)
abbrev hdV (x : Hd) : Value := .agg #[.int .i64 x.slot, .int .i64 x.gen]
set_option maxRecDepth 100000 in
set_option maxHeartbeats 2000000 in
/-- retires: the heap's block and the row are none of the epoch's. -/
theorem retires_h {b e : Nat} {ε : Eps} {w : World} {G : Nat → Prop} {a : Option Addr} {cap : Nat} {l : List Hd} (hE : (EpA e ε).on w G) (hf : ε.Fit) (hp : w.cell? ⟨b, 2, none⟩ = some (.pointer (some ⟨e, 0, none⟩))) (hb : ¬ G b)
    (hr : Rd Hd.enc 2 w a l) (ha : ∀ p, a = some p → ¬ G p.block) (hl : l.length ≤ 1000000) (hrow : ∀ j, (ε.row j).length ≤ 100000000) :
    Calls Try.prog 47 #[.pointer (some ⟨b, 0, none⟩), .slice a l.length cap] w fun e' w' => e' = .returned (.tuple #[]) ∧ Post (EpA e (ε.retires l)) G w w' := by
  have HE := Lib.hid (show Post (EpA e (ε.retires (l.take 0))) G w w from Post.same hE (Kp.refl _ _))
  have HP := Lib.hid hp
  have HR := Lib.hid hr
  have HF := Lib.hid (And.intro hf hrow)
  clear hE hp hr hf hrow
  go_enter Try.func47, Try.ntmps47
  go_wp2_with fail
  go_loopw [8] (fun s wr => ∃ k : Nat, k ≤ l.length ∧ s = .int .i64 k ∧ Hid (Post (EpA e (ε.retires (l.take k))) G w wr)) (fun s _ => l.length - (intOf s).toNat)
  case atStart => exact ⟨0, Nat.zero_le _, rfl, HE⟩
  case round =>
    obtain ⟨k, hk, rfl, HO⟩ := hrel
    clear HE
    by_cases hlt : k < l.length
    · obtain ⟨x, hx⟩ : ∃ x, l[k]? = some x := ⟨_, List.getElem?_eq_getElem hlt⟩
      have HT := Lib.hid (retires_take ε l hx)
      obtain ⟨bl, off, rfl, hbl, hcc⟩ := HR.out.at hx
      have hG : ¬ G bl := ha _ rfl
      have k0 : wr.cell? ⟨bl, off + k * 2, none⟩ = some (.int .i64 x.slot) := cell_kp HO.out.kp hG (hcc 0 (by omega))
      have k1 : wr.cell? ⟨bl, off + k * 2 + 1, none⟩ = some (.int .i64 x.gen) := cell_kp HO.out.kp hG (hcc 1 (by omega))
      have c2 : wr.cell? ⟨b, 2, none⟩ = some (.pointer (some ⟨e, 0, none⟩)) := cell_kp HO.out.kp hb HP.out
      clear hx hcc
      go_upto_region 3 with fail
      obtain ⟨F', hon, kp, hs⟩ := HO.out
      have hlF := (EpA e (ε.retires (l.take k))).lt hon
      obtain ⟨y0, y1, _, _⟩ := cells2 (heap_alloc_same wr (.cells #[.int .i64 x.slot, .int .i64 x.gen] 36))
      have c2' : (wr.alloc (.cells #[.int .i64 x.slot, .int .i64 x.gen] 36)).cell? ⟨b, 2, none⟩ = some (.pointer (some ⟨e, 0, none⟩)) := cell_kp (kn_alloc wr (.cells #[.int .i64 x.slot, .int .i64 x.gen] 36)) id c2
      have hbw : b < w.heap.size := World.block_lt_of_cell? w _ HP.out
      have hFb : ¬ F' b := fun h => by rcases hs b h with h | h; exact hb h; omega
      have hFn : ¬ F' wr.heap.size := fun h => by have := hlF _ h; omega
      have hro := row_retires (l.take k) ε ((ε.retires (l.take k)).now % 3)
      have hro2 := HF.out.2 ((ε.retires (l.take k)).now % 3)
      have hro3 : (l.take k).length ≤ l.length := by rw [List.length_take]; omega
      have HRe := Lib.hid (fun (W : World) (k' : KN (wr.alloc (.cells #[.int .i64 x.slot, .int .i64 x.gen] 36)) W) => show Calls Try.prog 52 #[.pointer (some ⟨e, 0, none⟩), ren ⟨3, x⟩] W (fun e' w'' => e' = .returned (.int .i64 0) ∧ Post (EpA e (ε.retires (l.take (k + 1)))) G w w'' ∧ Kp F' W w'') from by
        have k2 : KN wr W := (kn_alloc wr (.cells #[.int .i64 x.slot, .int .i64 x.gen] 36)).trans k' (fun _ h => h.elim)
        refine (retire_a ((EpA e (ε.retires (l.take k))).kn hon k2) (fit_retires _ HF.out.1) ⟨3, x⟩ (by omega)).mono ?_
        rintro e' w'' ⟨he, hp'⟩
        refine ⟨he, ?_, hp'.kp⟩
        rw [HT.out]
        obtain ⟨F'', b'', k'', s''⟩ := hp'
        refine ⟨F'', b'', (kp.trans k2 (fun _ h => h.elim)).trans k'' hs, fun q hq => ?_⟩
        rcases s'' q hq with h | h
        · exact hs q h
        · exact .inr (Nat.le_trans (kp.trans k2 (fun _ h => h.elim)).size h))
      clear c2 k0 k1 hro hro2 hro3 hs hon kp HO
      generalize wr.alloc (.cells #[.int .i64 x.slot, .int .i64 x.gen] 36) = w2 at *
      go_region_held3 (fun W => W.cell? ⟨b, 2, none⟩ = some (.pointer (some ⟨e, 0, none⟩)) ∧ W.cell? ⟨wr.heap.size, 0, none⟩ = some (.int .i64 x.slot) ∧ W.cell? ⟨wr.heap.size, 1, none⟩ = some (.int .i64 x.gen)) (first | with_reducible exact s7 | go_keep) ((go_at_call 52; refine (HRe.out _ (Kp.refl _ _).drew).mono ?_; rintro e5 w7 ⟨rfl, hp7, hk7⟩; have HP7 := Lib.hid hp7; have s7 : w7.cell? ⟨b, 2, none⟩ = some (.pointer (some ⟨e, 0, none⟩)) ∧ w7.cell? ⟨wr.heap.size, 0, none⟩ = some (.int .i64 x.slot) ∧ w7.cell? ⟨wr.heap.size, 1, none⟩ = some (.int .i64 x.gen) := ⟨cell_kp hk7 hFb c2', cell_kp hk7 hFn y0, cell_kp hk7 hFn y1⟩; clear hp7 hk7))
      go_wp2_with fail
      go_roundw
      case rel => exact ⟨k + 1, by omega, by go_num, HP7⟩
      case measure => simp [intOf]; omega
    · obtain rfl : k = l.length := by omega
      rw [List.take_length] at HO
      go_wp2_with fail
      exact bodyPost_end (v := .tuple #[]) (by simp [results, Try.results47, go_sem]) rfl ⟨rfl, HO.out⟩
end Go.Proofs.Ytinejaganickpaa
