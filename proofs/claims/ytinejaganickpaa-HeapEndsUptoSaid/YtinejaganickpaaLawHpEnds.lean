/- HeapEnds: its walk. -/
import Derived.Test.YtinejaganickpaaLawHpNeeds
import Derived.Test.YtinejaganickpaaEndsHp
import Derived.Laws.Cover4
namespace Go.Proofs.Ytinejaganickpaa
set_option linter.unusedVariables false
set_option linter.unusedSimpArgs false
open Go Go.RowKit Go.Sort

def keyK : ByteArray := ⟨#[107]⟩
theorem mul_le {K n : Nat} (hK : K ≤ 30) (hn : n ≤ 5) : K * (n + 1) ≤ 180 := Nat.le_trans (Nat.mul_le_mul hK (Nat.succ_le_succ hn)) (by decide)
theorem live_rep {α : Type} {z : Slot α} (q : Nat) (hz : z.given = false) : liveOf (List.replicate q z) = 0 := by
  unfold liveOf
  rw [free_new q z hz, List.length_map, List.length_range, List.length_replicate]
  omega
theorem hp0_res {A B K P : Nat} (hK : K ≤ A) (hP : P ≤ B) : (hp0 A B).mayReserve 0 K P = 0 ∧ (hp0 A B).reserve 0 K P = ⟨List.replicate A zC, 0, List.replicate B zN, 0, (List.replicate 17 ⟨false, 0, 0⟩).set 0 ⟨true, K, P⟩⟩ := by
  have hm : (hp0 A B).mayReserve 0 K P = 0 := may3 (n := A) (m := B) (by decide) (by omega) (by omega)
  refine ⟨hm, ?_⟩
  unfold Hps.reserve
  rw [if_pos hm]
  rfl
theorem hp0_rb {A B : Nat} : ∀ r ∈ (hp0 A B).rs, 0 ≤ r.cells ∧ r.cells ≤ 65536 ∧ 0 ≤ r.versions ∧ r.versions ≤ 65536 := fun r hr => by
  rw [List.eq_of_mem_replicate hr]; decide
theorem hp0_len {A B : Nat} : (hp0 A B).rs.length = 17 ∧ (hp0 A B).L.length = A ∧ (hp0 A B).V.length = B := ⟨rfl, List.length_replicate, List.length_replicate⟩
theorem btwA {A B K P : Nat} (hA : 1 ≤ A ∧ A ≤ 65536) (hB : 1 ≤ B ∧ B ≤ 65536) (h40 : A = 40) (h200 : B = 200) (hK : K ≤ A) (hP : P ≤ B) : Btw 0 ((hp0 A B).reserve 0 K P) K P [] := by
  have ho := (ok0 hA hB).reserve 0 K P
  have hs : ((hp0 A B).reserve 0 K P).rs[0]? = some ⟨true, K, P⟩ := by rw [(hp0_res hK hP).2]; rfl
  refine ⟨ho, hs, ?_, ?_, ?_, ?_⟩ <;> rw [(hp0_res hK hP).2]
  · exact ⟨fun x hx => (List.not_mem_nil hx).elim, List.Pairwise.nil, live_rep B rfl, live_rep A rfl⟩
  · exact ⟨rfl, rfl⟩
  · exact ⟨List.length_replicate.trans h40, List.length_replicate.trans h200⟩
  · intro m h0 hl
    refine (List.getElem?_set_ne (Ne.symm h0)).trans ?_
    rw [List.getElem?_replicate, if_pos hl]
theorem btw0 {b e : Nat} {ε : Eps} {w0 w : World} {K P : Nat} (hK : K ≤ 30) (hP : P ≤ 180) (H : One w0 w [EpA e ε, HpA b e (hp0 40 200)]) : ∃ σ : Hps, Btw 0 σ K P [] ∧ ∀ W, KN w W → Calls Try.prog 10 #[.pointer (some ⟨b, 0, none⟩), .int .i64 0, .int .i64 K, .int .i64 P] W fun e' w' => e' = .returned (.int .i64 0) ∧ One w0 w' [EpA e ε, HpA b e σ] := by
  refine ⟨_, btwA (A := 40) (B := 200) (by omega) (by omega) rfl rfl (by omega) (by omega), fun W k => ?_⟩
  have h := (H.kn k).lift 1 rfl (fun F h => reserve_h h hp0_len.1 ⟨by rw [hp0_len.2.1]; omega, by rw [hp0_len.2.2]; omega⟩ hp0_rb 0 K P)
  rw [(hp0_res (A := 40) (B := 200) (by omega) (by omega)).1] at h
  exact h
/-- Behind the release. -/
structure Fin (σ : Hps) (R : List Re) : Prop where
  fr : FreeOk σ R
  st : σ.sl = 0 ∧ σ.sv = 0
  sz : σ.L.length = 40 ∧ σ.V.length = 200
  rl : σ.rs.length = 17
  rs : ∀ r ∈ σ.rs, r = ⟨false, 0, 0⟩
theorem btw_release (w0 : World) (e b : Nat) (ε : Eps) (M : List Asr) {k : Nat} {σ : Hps} {r v : Int} {R : List Re} (B : Btw k σ r v R) : ∃ σ' : Hps, (∀ W, One w0 W (EpA e ε :: HpA b e σ :: M) →
    Calls Try.prog 11 #[.pointer (some ⟨b, 0, none⟩), .int .i64 0] W fun e' w' => e' = .returned (.int .i64 0) ∧ One w0 w' (EpA e ε :: HpA b e σ' :: M)) ∧ Fin σ' R := by
  have hh : σ.holds 0 = 0 := by
    rcases holds_cases B.ok.rs 0 with ⟨_, hn⟩ | ⟨i, r', _, _, _, _, _, hn⟩
    · exfalso
      have : σ.has 0 = some ⟨true, r, v⟩ := by
        unfold Hps.has
        simp [B.rs]
      rw [this] at hn; cases hn
    · exact hn
  have hrel : σ.release 0 = ⟨σ.L, σ.sl, σ.V, σ.sv, σ.rs.set 0 ⟨false, 0, 0⟩⟩ := by
    unfold Hps.release
    rw [if_pos hh]
    rfl
  refine ⟨⟨σ.L, σ.sl, σ.V, σ.sv, σ.rs.set 0 ⟨false, 0, 0⟩⟩, fun W H => ?_, ⟨B.fr.all, B.fr.apart, B.fr.nV, B.fr.nL⟩, B.st, B.sz, List.length_set.trans B.ok.rs, fun q hq => ?_⟩
  · have h := H.lift 1 rfl (fun F h => release_h h B.ok.rs 0)
    rw [hh, hrel] at h
    exact h
  · obtain ⟨i, hi⟩ := List.mem_iff_getElem?.1 hq
    have hl : i < 17 := by
      have := (List.getElem?_eq_some_iff.1 hi).1
      rw [List.length_set, B.ok.rs] at this
      exact this
    by_cases h0 : i = 0
    · subst h0
      rw [List.getElem?_set_self (by rw [B.ok.rs]; decide)] at hi
      cases hi; rfl
    · rw [List.getElem?_set_ne (Ne.symm h0), B.oth i h0 hl] at hi
      cases hi; rfl
theorem fin_free (w0 : World) (e b : Nat) (ε : Eps) (M : List Asr) {σ : Hps} {kd sl gn : Int} {R : List Re} (B : Fin σ (⟨kd, ⟨sl, gn⟩⟩ :: R)) : ∃ σ' : Hps, (∀ W, One w0 W (EpA e ε :: HpA b e σ :: M) →
    Calls Try.prog 22 #[.pointer (some ⟨b, 0, none⟩), .agg #[.int .i64 kd, .int .i64 sl, .int .i64 gn]] W fun e' w' => e' = .returned (.int .i64 0) ∧ One w0 w' (EpA e ε :: HpA b e σ' :: M)) ∧ Fin σ' R := by
  obtain ⟨σ', h1, h2, h3, h4, h5, h6, h7⟩ := B.fr.free
  refine ⟨σ', fun W H => ?_, h2, ⟨h3.trans B.st.1, h4.trans B.st.2⟩, ⟨h6.trans B.sz.1, h7.trans B.sz.2⟩, by rw [h5]; exact B.rl, by rw [h5]; exact B.rs⟩
  have h := H.lift 1 rfl (fun F h => free_h h ⟨by rw [B.sz.1]; decide, by rw [B.sz.2]; decide⟩ ⟨⟨by rw [B.st.1]; decide, by rw [B.st.1]; decide⟩, ⟨by rw [B.st.2]; decide, by rw [B.st.2]; decide⟩⟩ kd sl gn)
  simp only at h1
  rw [h1] at h
  exact h
/-- The three states of the epoch. -/
def Step (i : Nat) (ε : Eps) (R' R : List Re) : Prop := (i = 0 ∧ ε = epR R ∧ R' = R) ∨ (i = 1 ∧ ε = epR2 R ∧ R' = R) ∨ (i = 2 ∧ ε = epR3 ∧ R' = [])
theorem Step.next {i : Nat} {ε : Eps} {R' R : List Re} (h : Step i ε R' R) (hi : i < 2) : ∃ (ε' : Eps) (l R'' : List Re), ε.Fit ∧ ε.advance = (ε', l, 0) ∧ R' = l ++ R'' ∧ Step (i + 1) ε' R'' R ∧ l.length ≤ R.length := by
  rcases h with ⟨rfl, rfl, rfl⟩ | ⟨rfl, rfl, rfl⟩ | ⟨rfl, _, _⟩
  · exact ⟨_, [], R', epR_fit R', epR_adv R', rfl, .inr (.inl ⟨rfl, rfl, rfl⟩), Nat.zero_le _⟩
  · exact ⟨_, R', [], epR2_fit R', epR2_adv R', by simp, .inr (.inr ⟨rfl, rfl, rfl⟩), Nat.le_refl _⟩
  · omega
theorem Btw.more {k k' : Nat} {σ : Hps} {r v : Int} {R : List Re} (h : Btw k σ r v R) (hk : k ≤ k') : Btw k' σ r v R := ⟨h.ok.mono hk, h.rs, h.fr, h.st, h.sz, h.oth⟩
section
variable {b e k jc : Nat} {σ : Hps} {ε : Eps} {w0 : World} {r v g : Int} {key : ByteArray} {h : Hd} {xs : List (Hd × No)} {R : List Re} {M : List Asr}
theorem mid_prune2 (w0 : World) (e b : Nat) (ε : Eps) (M : List Asr) {mark : Int} (D : Mid k σ r v jc g key h false xs R) (hnz : h ≠ zH) (ha : ∀ z ∈ xs.map (·.2.has), z.tS ≤ mark) (hd : ∃ z l, xs.map (·.2.has) = z :: l ∧ z.del = true) : ∃ σ' : Hps, (∀ W, One w0 W (EpA e ε :: HpA b e σ :: M) →
    Calls Try.prog 14 #[.pointer (some ⟨b, 0, none⟩), .agg #[.int .i64 jc, .int .i64 g], .int .i64 mark] W fun e' w' => e' = .returned (.tuple #[.int .i64 0, .bool true, .int .i64 0]) ∧ One w0 w' (EpA e ε :: HpA b e σ' :: M)) ∧ Mid k σ' r v jc g key h true xs R :=
  ⟨_, fun W H => mid_prune D hnz ha hd H, D.set true⟩
theorem mid_reopen2 (w0 : World) (e b : Nat) (ε : Eps) (M : List Asr) (D : Mid k σ r v jc g key h true xs R) : ∃ σ' : Hps, (∀ W, One w0 W (EpA e ε :: HpA b e σ :: M) →
    Calls Try.prog 17 #[.pointer (some ⟨b, 0, none⟩), .agg #[.int .i64 jc, .int .i64 g]] W fun e' w' => e' = .returned (.int .i64 0) ∧ One w0 w' (EpA e ε :: HpA b e σ' :: M)) ∧ Mid k σ' r v jc g key h false xs R :=
  ⟨_, fun W H => mid_reopen D H, D.set false⟩
theorem mid_kept2 (w0 : World) (e b : Nat) (ε : Eps) (M : List Asr) (D : Mid k σ r v jc g key h false xs R) : ∃ σ' : Hps, (∀ W, One w0 W (EpA e ε :: HpA b e σ :: M) →
    Calls Try.prog 17 #[.pointer (some ⟨b, 0, none⟩), .agg #[.int .i64 jc, .int .i64 g]] W fun e' w' => e' = .returned (.int .i64 162) ∧ One w0 w' (EpA e ε :: HpA b e σ' :: M)) ∧ Mid k σ' r v jc g key h false xs R :=
  ⟨_, fun W H => mid_kept D H, D.set false⟩
theorem mid_retire2 (w0 : World) (e b : Nat) (M : List Asr) (D : Mid k σ r v jc g key h true xs R) (hR : R.length ≤ 90000000) : ∃ σ' : Hps, (∀ W, One w0 W (EpA e (epR R) :: HpA b e σ :: M) →
    Calls Try.prog 18 #[.pointer (some ⟨b, 0, none⟩), .agg #[.int .i64 jc, .int .i64 g]] W fun e' w' => e' = .returned (.int .i64 0) ∧ One w0 w' (EpA e (epR (R ++ R3 xs ++ [(⟨4, ⟨jc, g⟩⟩ : Re)])) :: HpA b e σ' :: M)) ∧
    (∀ W, One w0 W (EpA e (epR (R ++ R3 xs ++ [(⟨4, ⟨jc, g⟩⟩ : Re)])) :: HpA b e σ' :: M) → Calls Try.prog 18 #[.pointer (some ⟨b, 0, none⟩), .agg #[.int .i64 jc, .int .i64 g]] W fun e' w' => e' = .returned (.int .i64 162) ∧ One w0 w' (EpA e (epR (R ++ R3 xs ++ [(⟨4, ⟨jc, g⟩⟩ : Re)])) :: HpA b e σ' :: M)) ∧ Btw k σ' r v (R ++ R3 xs ++ [(⟨4, ⟨jc, g⟩⟩ : Re)]) := by
  refine ⟨_, fun W H => ?_, fun W H => ?_, D.retire⟩
  · have h1 := mid_retire D (epR_fit R) (fun j => Nat.le_trans (epR_row R j) hR) H
    rw [epR_retires, epR_retire, List.map_map] at h1
    exact h1
  · exact H.still (fun c d F1 hp => retire_kept_h (s := ⟨⟨key, zH, true, true⟩, g, true⟩) hp (List.getElem?_set_self (List.getElem?_eq_some_iff.1 D.cell).1) rfl (.inr rfl))
end
set_option maxRecDepth 100000 in
set_option maxHeartbeats 4000000 in
theorem hends_walk (a0 : Option Addr) (cap0 : Nat) (st : List Int) (many : Int) (w : World) (hc0 : st.length ≤ cap0) (hm : 0 ≤ many ∧ many ≤ 255) (hl : st.length ≤ 1048576) (hr0 : Rd encU 1 w a0 st) :
    Calls Try.prog 5 #[.slice a0 st.length cap0, .int .u8 many] w fun e w' => e = .returned (.bool true) ∧ KN w w' := by
  obtain ⟨K, hK, hK1⟩ : ∃ N : Nat, min (st.length : Int) 30 = (N : Int) ∧ N ≤ 30 ∧ N ≤ st.length := ⟨min st.length 30, by omega, by omega, by omega⟩
  obtain ⟨n, hn, hn1⟩ : ∃ n : Nat, many % 5 + 1 = (n : Int) ∧ 1 ≤ n ∧ n ≤ 5 := ⟨((many % 5) + 1).toNat, by omega, by omega, by omega⟩
  obtain ⟨Pn, hPn⟩ : ∃ Pn : Nat, K * (n + 1) = Pn := ⟨_, rfl⟩
  have hP1 : Pn ≤ 180 := hPn ▸ mul_le hK1.1 hn1.2
  have hPi : (K : Int) * ((n : Int) + 1) = (Pn : Int) := by rw [← hPn]; push_cast; rfl
  obtain ⟨a3, hcut, _⟩ := cutU hr0 hc0 hK1.2
  have HPN := Lib.hid hPn
  clear hr0 hPn
  go_enter Try.func5, Try.ntmps5
  go_wp2_with fail
  refine (new_a w).mono ?_
  rintro e w1 ⟨eb, rfl, hp⟩
  have HO1 := Lib.hid ((One.nil w).add hp)
  clear hp
  go_wp2_with fail
  refine (show Calls Try.prog 8 #[.int .i64 40, .int .i64 200, .pointer (some ⟨eb, 0, none⟩)] w1 (GaveHp 40 200 eb w1) from HO1.out.rd 0 rfl (fun F h => new_h h fit0 40 200 (by omega) (by omega))).mono ?_
  rintro e w2 ⟨b, rfl, hp⟩
  have HO2 := Lib.hid (((HO1.out).add hp).perm (List.Perm.swap _ _ _))
  clear hp HO1
  obtain ⟨σ0, hB, hC⟩ := btw0 hK1.1 hP1 HO2.out
  have HB := Lib.hid hB
  have HC := Lib.hid hC
  clear hB hC
  go_upto_region 5 with (go_at_call 9; refine (begun_true _).mono ?_; rintro e w3 ⟨rfl, k3⟩)
  have hcut' := hcut
  go_upto_region 7 with fail
  go_wp2_with (go_at_call 10; refine (HC.out _ k3).mono ?_; rintro e w4 ⟨rfl, ho⟩)
  have HO4 := Lib.hid ho
  clear ho HC k3 HO2
  clear hcut hcut'
  go_loopw [62] (fun s62 wr => ∃ (q rem : Nat) (σ : Hps) (R : List Re), q + rem = K ∧ s62 = .int .i64 q ∧ Hid (Btw (10 * q) σ (rem : Int) ((rem * (n + 1) : Nat) : Int) R ∧ R.length = q * (n + 2) ∧ R.countP (fun x : Re => x.kind == 3) = q * (n + 1) ∧ R.countP (fun x : Re => x.kind == 4) = q) ∧ Hid (One w wr [EpA eb (epR R), HpA b eb σ])) (fun s62 _ => K - (intOf s62).toNat)
  case atStart => exact ⟨0, K, σ0, [], by omega, rfl, Lib.hid ⟨by have := HB.out; rw [HPN.out]; exact this, by simp, by simp, by simp⟩, HO4⟩
  case round =>
    obtain ⟨q, rem, σ, R, hq, rfl, HI, HO⟩ := hrel
    clear HB HO4
    by_cases hlt : q < K
    · obtain ⟨rm, rfl⟩ : ∃ rm, rem = rm + 1 := ⟨rem - 1, by omega⟩
      obtain ⟨RN, hRN⟩ : ∃ RN, rm * (n + 1) = RN := ⟨_, rfl⟩
      have HRN := Lib.hid (show (rm + 1) * (n + 1) = RN + (n + 1) by rw [Nat.succ_mul, hRN])
      have HRM := Lib.hid hRN
      clear hRN
      obtain ⟨σ1, j0, g0, hC, hD⟩ := btw_cell (key := keyK) HI.out.1 (by omega) (by omega) (by decide) (by decide) HO.out
      have HC := Lib.hid (show Calls Try.prog 12 #[.pointer (some ⟨b, 0, none⟩), .int .i64 0, .string ⟨#[107]⟩] wr _ from hC)
      have HD := Lib.hid hD
      clear hC hD
      have hqK : (q : Int) < (K : Int) := by omega
      go_upto_region 12 with (go_at_call 12; refine HC.out.mono ?_; rintro e5 w5 ⟨rfl, ho⟩; have HO5 := Lib.hid ((One.alloc ho (.cells #[.int .i64 j0, .int .i64 g0] 36)).perm (List.perm_append_comm (l₁ := [_]) (l₂ := [_, _]))); clear ho)
      generalize w5.alloc (.cells #[.int .i64 j0, .int .i64 g0] 36) = w6 at *
      generalize w5.heap.size = gc at *
      clear HC HO
      go_wp2_with fail
      go_loopw [72] (fun s72 wr => ∃ (p : Nat) (σ : Hps) (h0 : Hd) (xs : List (Hd × No)), p ≤ n ∧ s72 = .int .i64 p ∧ Hid (Mid (10 * q + 1 + p) σ (rm : Int) (((RN + (n + 1) : Nat) : Int) - p) j0 g0 keyK h0 false xs R ∧ xs.length = p ∧ ∀ z ∈ xs.map (·.2.has), z.tS ≤ (p : Int)) ∧ Hid (One w wr (EpA eb (epR R) :: HpA b eb σ :: [Blk gc (.cells #[.int .i64 j0, .int .i64 g0] 36)]))) (fun s72 _ => n - (intOf s72).toNat)
      case atStart => exact ⟨0, σ1, zH, [], by omega, rfl, Lib.hid ⟨by
        have := HD.out
        rw [HRN.out] at this
        rw [show (rm : Int) = ((rm + 1 : Nat) : Int) - 1 by omega, show (((RN + (n + 1) : Nat) : Int) - (0 : Nat)) = ((RN + (n + 1) : Nat) : Int) by omega]
        exact this, rfl, by simp⟩, HO5⟩
      case round =>
        obtain ⟨p, σ2, h0, xs, hp, rfl, HI2, HO6⟩ := hrel
        clear HO5
        by_cases hpn : p < n
        · obtain ⟨σ3, h1, hC, hD⟩ := mid_inst ⟨(p : Int) + 1, ⟨#[118]⟩, false⟩ HI2.out.1 (by omega) (by omega) (put_gt (by rw [List.length_map]; have := HI2.out.2.1; omega) (fun z hz => by have := HI2.out.2.2 z hz; simp only; omega) (by simp only; omega) ⟨show (⟨#[118]⟩ : ByteArray).size ≤ 256 from by decide, fun h => by cases h⟩) (show (⟨#[118]⟩ : ByteArray).size ≤ maxLen from by decide) (by have := HI2.out.2.1; omega) HO6.out
          have HC := Lib.hid (show Calls Try.prog 13 #[.pointer (some ⟨b, 0, none⟩), .int .i64 0, .agg #[.int .i64 j0, .int .i64 g0], .agg #[.int .i64 ((p : Int) + 1), .string ⟨#[118]⟩, .bool false]] wr _ from hC)
          have HD := Lib.hid hD
          clear hC hD
          obtain ⟨c0, c1, _, _⟩ := cells2 (HO6.out.blk 2 rfl).1
          have hpi : (p : Int) < (n : Int) := by omega
          go_wp2_with (go_at_call 13; refine HC.out.mono ?_; rintro e7 w7 ⟨rfl, ho⟩; have HO7 := Lib.hid ho; clear ho)
          go_roundw
          case rel =>
            exact ⟨p + 1, σ3, h1, _, by omega, by go_num, Lib.hid ⟨by
              have := HD.out
              rw [show (((RN + (n + 1) : Nat) : Int) - ((p + 1 : Nat) : Int)) = ((RN + (n + 1) : Nat) : Int) - p - 1 by omega]
              exact this, by have := HI2.out.2.1; simp only [List.length_cons]; omega, fun z hz => by
              rcases List.mem_cons.1 hz with rfl | hz
              · simp only; omega
              · have := HI2.out.2.2 z hz; omega⟩, HO7⟩
          case measure => simp [intOf]; omega
        · obtain rfl : p = n := by omega
          have hnn : ¬ ((p : Int) < (p : Int)) := by omega
          obtain ⟨σ3, h1, hC, D3⟩ := mid_inst ⟨(p : Int) + 1, ⟨#[]⟩, true⟩ HI2.out.1 (by omega) (by omega) (put_gt (by rw [List.length_map]; have := HI2.out.2.1; omega) (fun z hz => by have := HI2.out.2.2 z hz; simp only; omega) (by simp only; omega) ⟨show (⟨#[]⟩ : ByteArray).size ≤ 256 from by decide, fun _ => show (⟨#[]⟩ : ByteArray).size = 0 from by decide⟩) (show (⟨#[]⟩ : ByteArray).size ≤ maxLen from by decide) (by have := HI2.out.2.1; omega) HO6.out
          have hall : ∀ z ∈ ((h1, (⟨⟨(p : Int) + 1, ⟨#[]⟩, true⟩, h0⟩ : No)) :: xs).map (·.2.has), z.tS ≤ (p : Int) + 1 := fun z hz => by
            rcases List.mem_cons.1 hz with rfl | hz
            · exact Int.le_refl _
            · have := HI2.out.2.2 z hz; omega
          have hxl : ((h1, (⟨⟨(p : Int) + 1, ⟨#[]⟩, true⟩, h0⟩ : No)) :: xs).length = p + 1 := by rw [List.length_cons, HI2.out.2.1]
          have hdl : ∃ z l, ((h1, (⟨⟨(p : Int) + 1, ⟨#[]⟩, true⟩, h0⟩ : No)) :: xs).map (·.2.has) = z :: l ∧ z.del = true := ⟨_, _, rfl, rfl⟩
          generalize ((h1, (⟨⟨(p : Int) + 1, ⟨#[]⟩, true⟩, h0⟩ : No)) :: xs) = ys at *
          have hnz : h1 ≠ zH := by
            obtain ⟨z, l, e, _⟩ := hdl
            have hch := D3.ch
            cases ys with
            | nil => cases e
            | cons y ys => exact hch.2.1
          obtain ⟨σ4, p1, D4⟩ := mid_prune2 w eb b (epR R) [Blk gc (.cells #[.int .i64 j0, .int .i64 g0] 36)] (mark := (p : Int) + 1) D3 hnz hall hdl
          have PC := Lib.hid (fun (W : World) (H : One w W (EpA eb (epR R) :: HpA b eb σ4 :: [Blk gc (.cells #[.int .i64 j0, .int .i64 g0] 36)])) => show Calls Try.prog 13 #[.pointer (some ⟨b, 0, none⟩), .int .i64 0, .agg #[.int .i64 j0, .int .i64 g0], .agg #[.int .i64 ((p : Int) + 2), .string ⟨#[]⟩, .bool false]] W _ from mid_closed ⟨(p : Int) + 2, ⟨#[]⟩, false⟩ D4 H)
          obtain ⟨σ5, p2, D5⟩ := mid_reopen2 w eb b (epR R) [Blk gc (.cells #[.int .i64 j0, .int .i64 g0] 36)] D4
          obtain ⟨σ6, p3, D6⟩ := mid_kept2 w eb b (epR R) [Blk gc (.cells #[.int .i64 j0, .int .i64 g0] 36)] D5
          obtain ⟨σ7, p4, D7⟩ := mid_prune2 w eb b (epR R) [Blk gc (.cells #[.int .i64 j0, .int .i64 g0] 36)] (mark := (p : Int) + 1) D6 hnz hall hdl
          have hRl : R.length ≤ 90000000 := by
            have h1 := HI.out.2.1
            have h2 : q * (p + 2) ≤ 30 * 7 := Nat.mul_le_mul (by omega) (by omega)
            omega
          obtain ⟨σ8, p5, p6, B8⟩ := mid_retire2 w eb b [Blk gc (.cells #[.int .i64 j0, .int .i64 g0] 36)] D7 hRl
          have P1 := Lib.hid p1
          have P2 := Lib.hid p2
          have P3 := Lib.hid p3
          have P4 := Lib.hid p4
          have P5 := Lib.hid p5
          have P6 := Lib.hid p6
          have hcnt := count3 R ys ⟨j0, g0⟩
          rw [hxl, HI.out.2.1, HI.out.2.2.1, HI.out.2.2.2] at hcnt
          generalize hR8 : R ++ R3 ys ++ [(⟨4, ⟨j0, g0⟩⟩ : Re)] = R8 at *
          have HI8 : Hid (Btw (10 * (q + 1)) σ8 (rm : Int) ((rm * (p + 1) : Nat) : Int) R8 ∧ R8.length = (q + 1) * (p + 2) ∧ R8.countP (fun x : Re => x.kind == 3) = (q + 1) * (p + 1) ∧ R8.countP (fun x : Re => x.kind == 4) = q + 1) := Lib.hid ⟨by
            rw [HRM.out]
            have := B8.more (k' := 10 * (q + 1)) (by omega)
            rw [show (((RN + (p + 1) : Nat) : Int) - (p : Int) - 1) = (RN : Int) by omega] at this
            exact this, by rw [hcnt.2.2, Nat.succ_mul]; omega, by rw [hcnt.1, Nat.succ_mul], hcnt.2.1⟩
          have HC := Lib.hid (show Calls Try.prog 13 #[.pointer (some ⟨b, 0, none⟩), .int .i64 0, .agg #[.int .i64 j0, .int .i64 g0], .agg #[.int .i64 ((p : Int) + 1), .string ⟨#[]⟩, .bool true]] wr _ from hC)
          clear p1 p2 p3 p4 p5 p6 hC D3 D4 D5 D6 D7 B8 hcnt hR8 hRl hnz hall hdl hxl HI2 HI
          obtain ⟨c0, c1, _, _⟩ := cells2 (HO6.out.blk 2 rfl).1
          go_upto_region 22 with (go_at_call 13; refine HC.out.mono ?_; rintro e7 w7 ⟨rfl, ho⟩; have HO7 := Lib.hid ho; clear ho; obtain ⟨c0, c1, _, _⟩ := cells2 (HO7.out.blk 2 rfl).1)
          clear HC HO6
          go_upto_region 25 with (go_at_call 14; refine (P1.out _ HO7.out).mono ?_; rintro e8 w8 ⟨rfl, ho⟩; have HO8 := Lib.hid ho; clear ho; obtain ⟨c0, c1, _, _⟩ := cells2 (HO8.out.blk 2 rfl).1)
          go_upto_region 27 with (first
            | (go_at_call 13; (refine (PC.out _ HO8.out).mono ?_; rintro e9 w9 ⟨rfl, ho⟩; have HO9 := Lib.hid ho; clear ho; obtain ⟨c0, c1, _, _⟩ := cells2 (HO9.out.blk 2 rfl).1))
            | (go_at_call 17; first
              | (refine (P3.out _ HO10.out).mono ?_; rintro e11 w11 ⟨rfl, ho⟩; have HO11 := Lib.hid ho; clear ho; obtain ⟨c0, c1, _, _⟩ := cells2 (HO11.out.blk 2 rfl).1)
              | (refine (P2.out _ HO9.out).mono ?_; rintro e10 w10 ⟨rfl, ho⟩; have HO10 := Lib.hid ho; clear ho; obtain ⟨c0, c1, _, _⟩ := cells2 (HO10.out.blk 2 rfl).1)))
          go_wp2_with (first
            | (go_at_call 14; (refine (P4.out _ HO11.out).mono ?_; rintro e12 w12 ⟨rfl, ho⟩; have HO12 := Lib.hid ho; clear ho; obtain ⟨c0, c1, _, _⟩ := cells2 (HO12.out.blk 2 rfl).1))
            | (go_at_call 18; first
              | (refine (P6.out _ HO13.out).mono ?_; rintro e14 w14 ⟨rfl, ho⟩; have HO14 := Lib.hid (One.drop (ho.perm (List.perm_append_comm (l₁ := [_, _]) (l₂ := [_])))); clear ho)
              | (refine (P5.out _ HO12.out).mono ?_; rintro e13 w13 ⟨rfl, ho⟩; have HO13 := Lib.hid ho; clear ho; obtain ⟨c0, c1, _, _⟩ := cells2 (HO13.out.blk 2 rfl).1)))
          go_roundw
          case rel => exact ⟨q + 1, rm, σ8, R8, by omega, by go_num, HI8, HO14⟩
          case measure => simp [intOf]; omega
    · obtain rfl : q = K := by omega
      have hnL : liveOf σ.L = (q : Int) := by rw [HI.out.1.fr.nL, HI.out.2.2.2]
      have hnV : liveOf σ.V = (Pn : Int) := by rw [HI.out.1.fr.nV, HI.out.2.2.1, HPN.out]
      have hqK : ¬ ((q : Int) < (q : Int)) := by omega
      have hR210 : R.length ≤ 210 := by
        have h1 := HI.out.2.1
        have h2 : q * (n + 2) ≤ 30 * 7 := Nat.mul_le_mul (by omega) (by omega)
        omega
      obtain ⟨σf, pr, hF⟩ := btw_release w eb b (epR R) [] HI.out.1
      have PCe := Lib.hid (fun (W : World) (H : One w W (EpA eb (epR R) :: HpA b eb σ :: [])) => show Calls Try.prog 19 #[.pointer (some ⟨b, 0, none⟩)] W (fun e' w' => e' = .returned (.int .i64 q) ∧ One w w' (EpA eb (epR R) :: HpA b eb σ :: [])) from H.still (fun c d F1 hp => by
        have h := cells_h hp (by rw [HI.out.1.sz.1]; decide)
        rw [hnL] at h
        exact h))
      have PVe := Lib.hid (fun (W : World) (H : One w W (EpA eb (epR R) :: HpA b eb σ :: [])) => show Calls Try.prog 20 #[.pointer (some ⟨b, 0, none⟩)] W (fun e' w' => e' = .returned (.int .i64 Pn) ∧ One w w' (EpA eb (epR R) :: HpA b eb σ :: [])) from H.still (fun c d F1 hp => by
        have h := versions_h hp (by rw [HI.out.1.sz.2]; decide)
        rw [hnV] at h
        exact h))
      have PR := Lib.hid pr
      have HF := Lib.hid hF
      clear pr hF hnL hnV HI
      go_upto_region 33 with (first
        | (go_at_call 19; refine (PCe.out _ HO.out).mono ?_; rintro e5 w5 ⟨rfl, ho⟩; have HO5 := Lib.hid ho; clear ho)
        | (go_at_call 20; refine (PVe.out _ HO5.out).mono ?_; rintro e6 w6 ⟨rfl, ho⟩; have HO6 := Lib.hid ho; clear ho)
        | (go_at_call 11; refine (PR.out _ HO6.out).mono ?_; rintro e7 w7 ⟨rfl, ho⟩; have HO7 := Lib.hid ho; clear ho))
      clear PCe PVe PR HO HO5 HO6
      go_wp2_with fail
      go_loopw [176] (fun s176 wr => ∃ (i : Nat) (σ : Hps) (ε : Eps) (R' : List Re), i ≤ 2 ∧ s176 = .int .i64 i ∧ Hid (Fin σ R' ∧ Step i ε R' R) ∧ Hid (One w wr (EpA eb ε :: HpA b eb σ :: []))) (fun s176 _ => 2 - (intOf s176).toNat)
      case atStart => exact ⟨0, σf, epR R, R, by omega, rfl, Lib.hid ⟨HF.out, .inl ⟨rfl, rfl, rfl⟩⟩, HO7⟩
      case round =>
        obtain ⟨i, σ1, ε, R', hi, rfl, HI, HO⟩ := hrel
        clear HF HO7
        by_cases hi2 : i < 2
        · obtain ⟨ε', l, R'', hfit, hadv, hRe, hst, hlR⟩ := HI.out.2.next hi2
          have hA := One.adv' HO.out hfit
          rw [hadv] at hA
          have HA := Lib.hid (show Calls Try.prog 21 #[.pointer (some ⟨eb, 0, none⟩)] wr (fun e w' => ∃ a5 c5, e = .returned (.tuple #[.slice a5 l.length c5, .int .i64 0]) ∧ One w w' (EpA eb ε' :: RowA 59 3 (.slice a5 l.length c5) l.length (l.flatMap Re.enc) :: [HpA b eb σ1])) from hA)
          have hF0 := HI.out.1
          rw [hRe] at hF0
          have HF0 := Lib.hid hF0
          have HST := Lib.hid hst
          have hii : (i : Int) < 2 := by omega
          have hl210 : l.length ≤ 210 := by omega
          clear hlR
          clear hA hadv hRe hst hF0 hfit HI HO
          go_upto_region 36 with (go_at_call 21; refine HA.out.mono ?_; rintro e5 w5 ⟨a5, c5, rfl, ho⟩; have HO5 := Lib.hid (ho.perm (.cons _ (List.Perm.swap _ _ _))); clear ho)
          clear HA
          go_wp2_with fail
          go_loopw [187] (fun s187 wr => ∃ (j : Nat) (σ : Hps), j ≤ l.length ∧ s187 = .int .i64 j ∧ Hid (Fin σ (l.drop j ++ R'')) ∧ Hid (One w wr (EpA eb ε' :: HpA b eb σ :: [RowA 59 3 (.slice a5 l.length c5) l.length (l.flatMap Re.enc)]))) (fun s187 _ => l.length - (intOf s187).toNat)
          case atStart => exact ⟨0, σ1, by omega, rfl, HF0, HO5⟩
          case round =>
            obtain ⟨j, σ2, hj, rfl, HF2, HO6⟩ := hrel
            clear HF0 HO5
            by_cases hjl : j < l.length
            · obtain ⟨x, hx⟩ : ∃ x, l[j]? = some x := ⟨_, List.getElem?_eq_getElem hjl⟩
              have hrl : Rl Re.enc 3 wr (.slice a5 l.length c5) l := by
                obtain ⟨F1, hr, _⟩ := HO6.out.get 2 rfl
                exact Rl.of_row enc3 rfl hr
              obtain ⟨a', cap', hvv, _, hrd⟩ := hrl
              injection hvv with ea eb' ec
              subst ea
              clear eb' ec
              obtain ⟨bx, ox, rfl, hbx, z0, z1, z2⟩ := rd3 hrd hx
              have hd : l.drop j = x :: l.drop (j + 1) := by
                rw [List.drop_eq_getElem_cons hjl]
                rw [List.getElem?_eq_getElem hjl] at hx
                injection hx with hx
                rw [hx]
              have hF2 := HF2.out
              rw [hd] at hF2
              obtain ⟨kd, ⟨sl, gn⟩⟩ := x
              simp only at z0 z1 z2
              have HF3 := Lib.hid (show Fin σ2 (⟨kd, ⟨sl, gn⟩⟩ :: (l.drop (j + 1) ++ R'')) from hF2)
              have hjj : (j : Int) < (l.length : Int) := by omega
              clear hrd hbx hx hd hF2 HF2
              go_upto_region 41 with fail
              have HO7 := Lib.hid ((One.alloc HO6.out (.cells #[.int .i64 kd, .int .i64 sl, .int .i64 gn] 59)).perm (List.perm_append_comm (l₁ := [_]) (l₂ := [_, _, _])))
              clear z0 z1 z2 HO6
              generalize wr.alloc (.cells #[.int .i64 kd, .int .i64 sl, .int .i64 gn] 59) = W7 at *
              generalize wr.heap.size = gx at *
              obtain ⟨c0, c1, c2, _⟩ := cells3 (HO7.out.blk 3 rfl).1
              obtain ⟨σ3, pf, hF3⟩ := fin_free w eb b ε' [RowA 59 3 (.slice (some ⟨bx, ox, none⟩) l.length c5) l.length (l.flatMap Re.enc), Blk gx (.cells #[.int .i64 kd, .int .i64 sl, .int .i64 gn] 59)] HF3.out
              have PF := Lib.hid pf
              have HF4 := Lib.hid hF3
              clear pf hF3 HF3
              go_wp2_with (go_at_call 22; refine (PF.out _ HO7.out).mono ?_; rintro e8 w8 ⟨rfl, ho⟩; have HO8 := Lib.hid (One.drop (ho.perm (List.perm_append_comm (l₁ := [_, _, _]) (l₂ := [_])))); clear ho)
              go_roundw
              case rel => exact ⟨j + 1, σ3, by omega, by go_num, HF4, HO8⟩
              case measure => simp [intOf]; omega
            · obtain rfl : j = l.length := by omega
              have hjj : ¬ ((l.length : Int) < (l.length : Int)) := by omega
              have hF2 := HF2.out
              rw [List.drop_length, List.nil_append] at hF2
              have HF4 := Lib.hid hF2
              have HO8 := Lib.hid (One.drop (HO6.out.perm (List.perm_append_comm (l₁ := [_, _]) (l₂ := [_]))))
              clear hF2 HF2 HO6
              go_wp2_with fail
              go_roundw
              case rel => exact ⟨i + 1, σ2, ε', R'', by omega, by go_num, Lib.hid ⟨HF4.out, HST.out⟩, HO8⟩
              case measure => simp [intOf]; omega
        · obtain rfl : i = 2 := by omega
          obtain ⟨rfl, rfl⟩ : ε = epR3 ∧ R' = [] := by
            rcases HI.out.2 with ⟨h, _⟩ | ⟨h, _⟩ | ⟨_, h1, h2⟩
            · omega
            · omega
            · exact ⟨h1, h2⟩
          have hF := HI.out.1
          have hnL : liveOf σ1.L = 0 := hF.fr.nL
          have hnV : liveOf σ1.V = 0 := hF.fr.nV
          have hrm := room_none hF.rs hnL hnV
          rw [hF.sz.1, hF.sz.2] at hrm
          have hr1 := congrArg Prod.fst hrm
          have hr2 := congrArg Prod.snd hrm
          have hrb : ∀ r ∈ σ1.rs, 0 ≤ r.cells ∧ r.cells ≤ 65536 ∧ 0 ≤ r.versions ∧ r.versions ≤ 65536 := fun r hr => by rw [hF.rs r hr]; decide
          have hm1 : σ1.L.length ≤ 65536 := by rw [hF.sz.1]; decide
          have hm2 : σ1.V.length ≤ 65536 := by rw [hF.sz.2]; decide
          have PRo := Lib.hid (fun (W : World) (H : One w W (EpA eb epR3 :: HpA b eb σ1 :: [])) => show Calls Try.prog 23 #[.pointer (some ⟨b, 0, none⟩)] W (fun e' w' => e' = .returned (.tuple #[.int .i64 40, .int .i64 200]) ∧ One w w' (EpA eb epR3 :: HpA b eb σ1 :: [])) from H.still (fun c d F1 hp => by
            have h := room_h hp hF.rl ⟨hm1, hm2⟩ hrb
            rw [show roomOf σ1.L.length (liveOf σ1.L) (·.cells) σ1.rs = 40 from hr1, show roomOf σ1.V.length (liveOf σ1.V) (·.versions) σ1.rs = 200 from hr2] at h
            exact h))
          have PCe := Lib.hid (fun (W : World) (H : One w W (EpA eb epR3 :: HpA b eb σ1 :: [])) => show Calls Try.prog 19 #[.pointer (some ⟨b, 0, none⟩)] W (fun e' w' => e' = .returned (.int .i64 0) ∧ One w w' (EpA eb epR3 :: HpA b eb σ1 :: [])) from H.still (fun c d F1 hp => by
            have h := cells_h hp hm1
            rw [hnL] at h
            exact h))
          have PVe := Lib.hid (fun (W : World) (H : One w W (EpA eb epR3 :: HpA b eb σ1 :: [])) => show Calls Try.prog 20 #[.pointer (some ⟨b, 0, none⟩)] W (fun e' w' => e' = .returned (.int .i64 0) ∧ One w w' (EpA eb epR3 :: HpA b eb σ1 :: [])) from H.still (fun c d F1 hp => by
            have h := versions_h hp hm2
            rw [hnV] at h
            exact h))
          have PSt := Lib.hid (fun (W : World) (H : One w W (EpA eb epR3 :: HpA b eb σ1 :: [])) => show Calls Try.prog 16 #[.pointer (some ⟨b, 0, none⟩)] W (fun e' w' => e' = .returned (.int .i64 0) ∧ One w w' (EpA eb epR3 :: HpA b eb σ1 :: [])) from H.still (fun c d F1 hp => by
            have h := stale_h hp (by rw [hF.st.1, hF.st.2]; decide)
            rw [hF.st.1, hF.st.2] at h
            exact h))
          have PWa := Lib.hid (fun (W : World) (H : One w W (EpA eb epR3 :: HpA b eb σ1 :: [])) => show Calls Try.prog 24 #[.pointer (some ⟨eb, 0, none⟩)] W (fun e' w' => e' = .returned (.int .i64 0) ∧ KN W w') from H.rd 0 rfl (fun F h => waiting_a h epR3_fit (by decide)))
          clear hF hnL hnV hrm hr1 hr2 hrb hm1 hm2 HI
          go_wp2_with (first
            | (go_at_call 23; refine (PRo.out _ HO.out).mono ?_; rintro e5 w5 ⟨rfl, ho⟩; have HO5 := Lib.hid ho; clear ho)
            | (go_at_call 19; refine (PCe.out _ HO5.out).mono ?_; rintro e6 w6 ⟨rfl, ho⟩; have HO6 := Lib.hid ho; clear ho)
            | (go_at_call 20; refine (PVe.out _ HO6.out).mono ?_; rintro e7 w7 ⟨rfl, ho⟩; have HO7 := Lib.hid ho; clear ho)
            | (go_at_call 16; refine (PSt.out _ HO7.out).mono ?_; rintro e8 w8 ⟨rfl, ho⟩; have HO8 := Lib.hid ho; clear ho)
            | (go_at_call 24; refine (PWa.out _ HO8.out).mono ?_; rintro e9 w9 ⟨rfl, k9⟩))
          go_ret
          exact ⟨rfl, (HO8.out.kn k9).old⟩
end Go.Proofs.Ytinejaganickpaa
