/- HeapKeeps: its walk. -/
import Derived.Test.YtinejaganickpaaBaseS
namespace Go.Proofs.Ytinejaganickpaa
set_option linter.unusedVariables false
set_option linter.unusedSimpArgs false
open Go Go.RowKit Go.Sort

def keyK : ByteArray := ⟨#[107]⟩
def valV : ByteArray := ⟨#[118]⟩
theorem valV_le : valV.size ≤ maxLen := by decide
theorem valV_1 : valV.size ≤ 1 := by decide
theorem nilS_le : (⟨#[]⟩ : ByteArray).size ≤ maxLen := by decide
theorem nilS_1 : (⟨#[]⟩ : ByteArray).size ≤ 1 := by decide
theorem keyK_le : keyK.size ≤ maxLen := by decide
theorem keyK_ok : keyOk keyK = 0 := by decide
theorem put_next {l : List Ve} {f : Nat} (hl : l.length < 1024) (hh : ∀ z, l.head? = some z → z.tS = f) (s : ByteArray) (hs : s.size ≤ 1) (hf : f ≤ 1000000) : putV l ⟨(f : Int) + 1, s, false⟩ = 0 := by
  have hm : mayV ⟨(f : Int) + 1, s, false⟩ = true := by
    unfold mayV
    simp only [Bool.and_eq_true, decide_eq_true_eq, Bool.not_false, Bool.true_or, and_true]
    omega
  have hd : headLe l ⟨(f : Int) + 1, s, false⟩ = false := by
    cases l with
    | nil => rfl
    | cons z l =>
      have := hh z rfl
      unfold headLe
      simp only [decide_eq_false_iff_not]
      omega
  unfold putV
  rw [hm, hd, if_neg (by simp), if_neg (by simp), if_neg (by omega)]
set_option maxRecDepth 100000 in
set_option maxHeartbeats 8000000 in
theorem hkeeps_walk (c v : Int) (m : Pair22) (a : Option Addr) (cap : Nat) (l : List Op16) (w : World) (hc : 0 ≤ c ∧ c ≤ 255) (hv : 0 ≤ v ∧ v ≤ 255) (hp : 0 ≤ m.p ∧ m.p ≤ 255) (hq : 0 ≤ m.q ∧ m.q ≤ 255) (hl : l.length ≤ 1048576) (hz : ∀ x ∈ l, x.key.size ≤ maxLen ∧ x.v.value.size ≤ maxLen) (hr : Rd Op16.enc 13 w a l) :
    Calls Try.prog 3 #[.int .u8 c, .int .u8 v, .agg #[.int .u8 m.p, .int .u8 m.q], .slice a l.length cap] w fun e w' => e = .returned (.bool true) ∧ KN w w' := by
  obtain ⟨n, hn, hn1⟩ : ∃ n : Nat, c % 9 + 1 = n ∧ 1 ≤ n ∧ n ≤ 9 := ⟨(c % 9 + 1).toNat, by omega, by omega⟩
  obtain ⟨k, hk, hk1⟩ : ∃ n : Nat, v % 12 + 1 = n ∧ 1 ≤ n ∧ n ≤ 12 := ⟨(v % 12 + 1).toNat, by omega, by omega⟩
  have ht1 : c.tmod 9 = c % 9 := Int.tmod_eq_emod_of_nonneg hc.1
  have ht2 : v.tmod 12 = v % 12 := Int.tmod_eq_emod_of_nonneg hv.1
  have HR := Lib.hid hr
  have HZ := Lib.hid hz
  clear hr hz
  go_enter Try.func3, Try.ntmps3
  go_upto_region 2 with fail
  have HO := Lib.hid ((One.nil w).alloc (.cells #[.int .u8 m.p, .int .u8 m.q] 22))
  generalize w.alloc (.cells #[.int .u8 m.p, .int .u8 m.q] 22) = w0 at *
  generalize w.heap.size = gm at *
  go_wp2_with fail
  refine (new_a w0).mono ?_
  rintro e w1 ⟨eb, rfl, hp⟩
  have HO1 := Lib.hid (HO.out.add hp)
  clear hp HO
  go_wp2_with fail
  refine (HO1.out.rd 0 rfl (fun F h => new_h h fit0 n k (by omega) (by omega))).mono ?_
  rintro e w2 ⟨b, rfl, hp⟩
  have HO2 := Lib.hid (((HO1.out).add hp).perm (List.Perm.swap _ _ _))
  clear hp HO1
  go_wp2_with (go_at_call 9; refine (begun_true _).mono ?_; rintro e w3 ⟨rfl, k3⟩; have HO3 := Lib.hid (HO2.out.kn k3); obtain ⟨p0, p1, _, _⟩ := cells2 (HO3.out.blk 2 rfl).1)
  have ht3 : m.p.tmod ((n : Int) + 1) = m.p % ((n : Int) + 1) := Int.tmod_eq_emod_of_nonneg hp.1
  have ht4 : m.q.tmod ((k : Int) + 1) = m.q % ((k : Int) + 1) := Int.tmod_eq_emod_of_nonneg hq.1
  have hnz : ((n : Int) + 1 == 0) = false := by simp; omega
  have hkz : ((k : Int) + 1 == 0) = false := by simp; omega
  go_quiet (fail)
  have HO4 := Lib.hid ((HO3.out.kn ((Kp.refl _ w3).drewN nq)).perm (List.reverse_perm _).symm)
  have HO4 := Lib.hid (show One w (w3.drewN nq) [EpA eb ep0, HpA b eb (hp0 n k)] from (One.drop HO4.out).perm (List.Perm.swap _ _ _))
  obtain ⟨X, hX, hX1⟩ : ∃ X : Nat, m.p % ((n : Int) + 1) = X ∧ X ≤ n := ⟨(m.p % ((n : Int) + 1)).toNat, by have := Int.emod_nonneg m.p (show (n : Int) + 1 ≠ 0 by omega); omega, by have := Int.emod_nonneg m.p (show (n : Int) + 1 ≠ 0 by omega); have := Int.emod_lt_of_pos m.p (show 0 < (n : Int) + 1 by omega); omega⟩
  obtain ⟨Y, hY, hY1⟩ : ∃ Y : Nat, m.q % ((k : Int) + 1) = Y ∧ Y ≤ k := ⟨(m.q % ((k : Int) + 1)).toNat, by have := Int.emod_nonneg m.q (show (k : Int) + 1 ≠ 0 by omega); omega, by have := Int.emod_nonneg m.q (show (k : Int) + 1 ≠ 0 by omega); have := Int.emod_lt_of_pos m.q (show 0 < (k : Int) + 1 by omega); omega⟩
  rw [hX, hY]
  have HKs := Lib.hid (kps0 (n := n) (m := k) (by omega) (by omega) (x := X) (y := Y) (by omega) (by omega))
  have HC := Lib.hid (HO4.out.lift 1 rfl (fun F h => reserve_h h (by simp [hp0]) ⟨by simp [hp0]; omega, by simp [hp0]; omega⟩ (fun r hr => by rw [List.eq_of_mem_replicate hr]; decide) 3 X Y))
  rw [may3 (by decide) (by omega) (by omega)] at HC
  clear HO2 HO3 HO4 ht1 ht2 ht3 ht4 hnz hkz hX hY hn hk p0 p1 hc hv hp hq
  generalize w3.drewN nq = w4 at *
  go_wp2_with fail
  refine HC.out.mono ?_
  rintro e w5 ⟨rfl, ho⟩
  generalize (hp0 n k).reserve 3 ↑X ↑Y = σ0 at *
  have HO5 := Lib.hid (((show One w w5 [EpA eb ep0, HpA b eb σ0] from ho).nilRow 36 2).perm ((List.Perm.swap _ _ _).trans (.cons _ (.swap _ _ _))))
  clear HC ho
  go_wp2_with fail
  go_loopw [16, 71] (fun s16 s71 wr => ∃ (j : Nat) (σ : Hps) (hs : List Hd) (a6 : Option Addr) (c6 : Nat), j ≤ l.length ∧ s71 = .int .i64 j ∧ s16 = .slice a6 hs.length c6 ∧ Hid (Kps j σ X Y hs) ∧ Hid (One w wr [EpA eb ep0, HpA b eb σ, RowA 36 2 (.slice a6 hs.length c6) hs.length (hs.flatMap Hd.enc)])) (fun _ s71 _ => l.length - (intOf s71).toNat)
  case atStart => exact ⟨0, σ0, [], none, 0, Nat.zero_le _, rfl, rfl, HKs, HO5⟩
  case round =>
    obtain ⟨j, σ, hs, a6, c6, hj, rfl, rfl, HK, HO⟩ := hrel
    clear HKs HO5
    by_cases hlt : j < l.length
    · obtain ⟨o, ho⟩ : ∃ o, l[j]? = some o := ⟨_, List.getElem?_eq_getElem hlt⟩
      obtain ⟨bo, off, rfl, hbo, hcc⟩ := (HR.out.kn HO.out.old).at ho
      have HZo := Lib.hid (HZ.out o (List.mem_of_getElem? ho))
      have e0 : wr.cell? ⟨bo, off + j * 13, none⟩ = some (.int .i64 o.do_) := hcc 0 (by omega)
      have e1 : wr.cell? ⟨bo, off + j * 13 + 1, none⟩ = some (.int .i64 o.s) := hcc 1 (by omega)
      have e2 : wr.cell? ⟨bo, off + j * 13 + 2, none⟩ = some (.int .i64 o.a) := hcc 2 (by omega)
      have e3 : wr.cell? ⟨bo, off + j * 13 + 3, none⟩ = some (.int .i64 o.b) := hcc 3 (by omega)
      have e4 : wr.cell? ⟨bo, off + j * 13 + 4, none⟩ = some (.int .i64 o.use) := hcc 4 (by omega)
      have e5 : wr.cell? ⟨bo, off + j * 13 + 5, none⟩ = some (.string o.key) := hcc 5 (by omega)
      have e6 : wr.cell? ⟨bo, off + j * 13 + 6, none⟩ = some (.int .i64 o.v.tS) := hcc 6 (by omega)
      have e7 : wr.cell? ⟨bo, off + j * 13 + 7, none⟩ = some (.string o.v.value) := hcc 7 (by omega)
      have e8 : wr.cell? ⟨bo, off + j * 13 + 8, none⟩ = some (.bool o.v.del) := hcc 8 (by omega)
      have e9 : wr.cell? ⟨bo, off + j * 13 + 9, none⟩ = some (.int .i64 o.tS) := hcc 9 (by omega)
      have e10 : wr.cell? ⟨bo, off + j * 13 + 10, none⟩ = some (.int .i64 o.odd.slot) := hcc 10 (by omega)
      have e11 : wr.cell? ⟨bo, off + j * 13 + 11, none⟩ = some (.int .i64 o.odd.gen) := hcc 11 (by omega)
      have e12 : wr.cell? ⟨bo, off + j * 13 + 12, none⟩ = some (.int .i64 o.kind) := hcc 12 (by omega)
      clear hcc ho
      obtain ⟨od, os, oa, ob, ou, ok, ⟨vt, vv, vd⟩, ot, ⟨o1, o2⟩, okd⟩ := o
      simp only at e0 e1 e2 e3 e4 e5 e6 e7 e8 e9 e10 e11 e12 HZo
      have HOb := Lib.hid ((HO.out.alloc (.cells #[.int .i64 od, .int .i64 os, .int .i64 oa, .int .i64 ob, .int .i64 ou, .string ok, .int .i64 vt, .string vv, .bool vd, .int .i64 ot, .int .i64 o1, .int .i64 o2, .int .i64 okd] 38)).perm (List.perm_append_comm (l₁ := [_]) (l₂ := [_, _, _])))
      go_upto_region 13 with fail
      clear e0 e1 e2 e3 e4 e5 e6 e7 e8 e9 e10 e11 e12 HO
      generalize wr.alloc (.cells #[.int .i64 od, .int .i64 os, .int .i64 oa, .int .i64 ob, .int .i64 ou, .string ok, .int .i64 vt, .string vv, .bool vd, .int .i64 ot, .int .i64 o1, .int .i64 o2, .int .i64 okd] 38) = W at *
      generalize wr.heap.size = go at *
      have hcb := (HOb.out.blk 3 rfl).1
      have c0 : W.cell? ⟨go, 0, none⟩ = some (.int .i64 od) := cell_blk hcb rfl
      have c1 : W.cell? ⟨go, 1, none⟩ = some (.int .i64 os) := cell_blk hcb rfl
      have c2 : W.cell? ⟨go, 2, none⟩ = some (.int .i64 oa) := cell_blk hcb rfl
      have c3 : W.cell? ⟨go, 3, none⟩ = some (.int .i64 ob) := cell_blk hcb rfl
      have c4 : W.cell? ⟨go, 4, none⟩ = some (.int .i64 ou) := cell_blk hcb rfl
      have c5 : W.cell? ⟨go, 5, none⟩ = some (.string ok) := cell_blk hcb rfl
      have c6' : W.cell? ⟨go, 6, none⟩ = some (.int .i64 vt) := cell_blk hcb rfl
      have c7 : W.cell? ⟨go, 7, none⟩ = some (.string vv) := cell_blk hcb rfl
      have c8 : W.cell? ⟨go, 8, none⟩ = some (.bool vd) := cell_blk hcb rfl
      clear hcb
      by_cases h3 : os = 3
      · subst h3
        by_cases h0 : od = 0
        · subst h0
          go_wp2_with fail
          refine (HOb.out.lift 1 rfl (fun F h => reserve_h h HK.out.ok.rs HK.out.ok.len HK.out.ok.bounds _ _ _)).mono ?_
          rintro e5 w5 ⟨rfl, ho⟩
          have HO9 := Lib.hid (One.drop (ho.perm (List.perm_append_comm (l₁ := [_, _, _]) (l₂ := [_]))))
          clear ho
          go_wp2_with fail
          go_roundw
          case rel => exact ⟨j + 1, _, _, _, _, by omega, by go_num, rfl, Lib.hid (HK.out.reserve (by first | exact h3 | decide) _ _), HO9⟩
          case measure => simp [intOf]; omega
        · by_cases h1 : od = 1
          · subst h1
            go_wp2_with fail
            refine (HOb.out.lift 1 rfl (fun F h => release_h h HK.out.ok.rs _)).mono ?_
            rintro e5 w5 ⟨rfl, ho⟩
            have HO9 := Lib.hid (One.drop (ho.perm (List.perm_append_comm (l₁ := [_, _, _]) (l₂ := [_]))))
            clear ho
            go_wp2_with fail
            go_roundw
            case rel => exact ⟨j + 1, _, _, _, _, by omega, by go_num, rfl, Lib.hid (HK.out.release (by first | exact h3 | decide)), HO9⟩
            case measure => simp [intOf]; omega
          · by_cases h2 : od = 2
            · subst h2
              go_wp2_with fail
              refine (cell_t HK.out.ok (by omega) _ _ HZo.out.1 HOb.out).mono ?_
              rintro e5 w5 ⟨σ', q, err, rfl, hR, ho⟩
              have HK2 := Lib.hid (HK.out.cell (by first | exact h3 | decide) hR)
              have HO5 := Lib.hid (One.alloc (One.drop (ho.perm (List.perm_append_comm (l₁ := [_, _, _]) (l₂ := [_])))) (.cells #[.int .i64 q.slot, .int .i64 q.gen] 36))
              clear ho hR c0 c1 c2 c3 c4 c5 c6' c7 c8 HOb
              go_upto_region 23 with fail
              generalize w5.alloc (.cells #[.int .i64 q.slot, .int .i64 q.gen] 36) = w6 at *
              generalize w5.heap.size = gq at *
              by_cases he : err = 0
              · subst he
                rw [if_pos rfl] at HK2
                obtain ⟨z0, z1, _, _⟩ := cells2 (HO5.out.blk 0 rfl).1
                have hhl := HK.out.len
                have HA := Lib.hid (One.app (P := Try.prog) (m := [q]) elt_Hd 32 (HO5.out.alloc (.cells #[.int .i64 q.slot, .int .i64 q.gen] 36)) 4 rfl encH2 (rl_hd (v := q) (cap := 1) (heap_alloc_same w6 _)) oneH (by unfold maxLen; simp only [List.length_singleton]; omega) (by simp only [List.length_singleton]; omega))
                simp only [List.length_singleton, List.set_cons_zero, List.set_cons_succ] at HA
                go_wp2_with (at_builtin; refine wpList_appX 110 rfl rfl rfl rfl (v := .slice a6 hs.length c6) (s := .slice (some ⟨w6.heap.size, 0, none⟩) 1 1) rfl rfl HA.out ?_; rintro r' w7 ⟨a7, c7, rfl, ho⟩)
                have HO9 := Lib.hid (One.drop (One.drop ho))
                rw [← List.flatMap_append, ← List.length_singleton (a := q), ← List.length_append] at HO9
                have hsl : Hid (Value.slice a7 (hs.length + 1) c7 = Value.slice a7 (hs ++ [q]).length c7) := Lib.hid (by simp)
                clear ho HA
                go_roundw
                case rel => exact ⟨j + 1, σ', hs ++ [q], a7, c7, by omega, by go_num, hsl.out, HK2, HO9⟩
                case measure => simp [intOf]; omega
              · rw [if_neg he] at HK2
                have HO9 := Lib.hid (One.drop HO5.out)
                go_wp2_with fail
                go_roundw
                case rel => exact ⟨j + 1, σ', hs, a6, c6, by omega, by go_num, rfl, HK2, HO9⟩
                case measure => simp [intOf]; omega
            · by_cases h4 : od = 3
              · subst h4
                by_cases h0 : hs.length = 0
                · have HH0 := Lib.hid h0
                  have h0' : ¬ (0 : Int) < (hs.length : Int) := by omega
                  clear h0
                  have HO9 := Lib.hid (One.drop (HOb.out.perm (List.perm_append_comm (l₁ := [_, _, _]) (l₂ := [_]))))
                  go_wp2_with fail
                  go_roundw
                  case rel => exact ⟨j + 1, _, _, _, _, by omega, by go_num, rfl, Lib.hid (HK.out.step), HO9⟩
                  case measure => simp [intOf]; omega
                · have h0' : (0 : Int) < (hs.length : Int) := by omega
                  have hhl := HK.out.len
                  obtain ⟨q, hqm, hql⟩ : ∃ q : Nat, (ou.tmod (hs.length : Int) + (hs.length : Int)).tmod (hs.length : Int) = (q : Int) ∧ q < hs.length := by
                    have h1 := Int.lt_tmod_of_pos ou h0'
                    have h2 := Int.tmod_lt_of_pos ou h0'
                    have h3 := Int.tmod_lt_of_pos (ou.tmod (hs.length : Int) + (hs.length : Int)) h0'
                    have h4 := Int.tmod_nonneg (hs.length : Int) (show 0 ≤ ou.tmod (hs.length : Int) + (hs.length : Int) by omega)
                    exact ⟨((ou.tmod (hs.length : Int) + (hs.length : Int)).tmod (hs.length : Int)).toNat, by omega, by omega⟩
                  obtain ⟨x, hx⟩ : ∃ x, hs[q]? = some x := ⟨_, List.getElem?_eq_getElem hql⟩
                  obtain ⟨t, ht⟩ := HK.out.good x (List.mem_of_getElem? hx)
                  obtain ⟨i, hi1, hi2, hi3, hi4⟩ := goodAt_some ht
                  obtain ⟨xs, hch, hxl⟩ := HK.out.ok.ch t (List.mem_of_getElem? hi2) hi3
                  have HI := Lib.hid (And.intro hi2 (And.intro hi3 (And.intro hch hxl)))
                  have HRH : Rl Hd.enc 2 W (.slice a6 hs.length c6) hs := by
                    obtain ⟨F1, hr, _⟩ := HOb.out.get 2 rfl
                    exact Rl.of_row encH2 rfl hr
                  obtain ⟨a', cap', hv, _, hrd⟩ := HRH
                  injection hv with ea eb' ec
                  subst ea
                  subst ec
                  obtain ⟨bh, oh, rfl, hbh, hcc⟩ := hrd.at hx
                  have f0 : W.cell? ⟨bh, oh + q * 2, none⟩ = some (.int .i64 i) := by have := hcc 0 (by decide); rw [← hi1]; exact this
                  have f1 : W.cell? ⟨bh, oh + q * 2 + 1, none⟩ = some (.int .i64 t.gen) := by have := hcc 1 (by decide); rw [hi4]; exact this
                  have hw1 : IntKind.i64.wrap (ou.tmod (hs.length : Int)) = ou.tmod (hs.length : Int) := Go.IntWalk.i64_in _ (by have h1 := Int.lt_tmod_of_pos ou h0'; have h2 := Int.tmod_lt_of_pos ou h0'; omega)
                  have hw2 : IntKind.i64.wrap (ou.tmod (hs.length : Int) + (hs.length : Int)) = ou.tmod (hs.length : Int) + (hs.length : Int) := Go.IntWalk.i64_in _ (by have h1 := Int.lt_tmod_of_pos ou h0'; have h2 := Int.tmod_lt_of_pos ou h0'; omega)
                  have hz1 : ¬ (hs.length : Int) = 0 := by omega
                  have hq0 : (q : Int) < (hs.length : Int) := by omega
                  clear hcc hrd hbh hx hi1 hi4 ht hch hxl hi2 hi3 h0
                  go_upto_region 27 with fail
                  have m1 := fun d os => cell_regrown (d := d) (os := os) c4
                  have m2 := fun d os => cell_regrown (d := d) (os := os) c6'
                  have m3 := fun d os => cell_regrown (d := d) (os := os) c7
                  have m4 := fun d os => cell_regrown (d := d) (os := os) c8
                  have m5 := fun d os => cell_regrown (d := d) (os := os) f0
                  have m6 := fun d os => cell_regrown (d := d) (os := os) f1
                  refine wp_region_below_tail 18 (by kernel_rfl) (by kernel_rfl) ?_
                  simp only [List.take_succ_cons, List.take_zero, List.drop_succ_cons, List.drop_zero]
                  repeat (go_big_quiet_step (fail))
                  refine wpQuiet_nil ?_
                  intro _ hw'
                  obtain ⟨⟨dq, osq⟩, hw''⟩ := hw'
                  subst hw''
                  have HO6 := Lib.hid (HOb.out.kn (kn_regrown W dq osq))
                  clear c0 c1 c2 c3 c4 c5 c6' c7 c8 f0 f1 m1 m2 m3 m4 m5 m6 HOb
                  generalize grow (redrawn W dq) osq = w6 at *
                  go_wp2_with fail
                  refine (install_t HK.out.ok (by omega) 4 HI.out.1 HI.out.2.1 HI.out.2.2.1 HI.out.2.2.2 ⟨vt, vv, vd⟩ HZo.out.2 HO6.out).mono ?_
                  rintro e7 w7 ⟨σ', err, rfl, hI, ho⟩
                  have HK2 := Lib.hid (HK.out.install (by first | exact h3 | decide) HI.out.1 HI.out.2.2.1 hI)
                  have HO9 := Lib.hid (One.drop (ho.perm (List.perm_append_comm (l₁ := [_, _, _]) (l₂ := [_]))))
                  clear ho
                  clear hI
                  go_wp2_with fail
                  go_roundw
                  case rel => exact ⟨j + 1, _, _, _, _, by omega, by go_num, rfl, HK2, HO9⟩
                  case measure => simp [intOf]; omega
              · have HO9 := Lib.hid (One.drop (HOb.out.perm (List.perm_append_comm (l₁ := [_, _, _]) (l₂ := [_]))))
                go_wp2_with fail
                go_roundw
                case rel => exact ⟨j + 1, _, _, _, _, by omega, by go_num, rfl, Lib.hid (HK.out.step), HO9⟩
                case measure => simp [intOf]; omega
      · by_cases h0 : od = 0
        · subst h0
          go_wp2_with fail
          refine (HOb.out.lift 1 rfl (fun F h => reserve_h h HK.out.ok.rs HK.out.ok.len HK.out.ok.bounds _ _ _)).mono ?_
          rintro e5 w5 ⟨rfl, ho⟩
          have HO9 := Lib.hid (One.drop (ho.perm (List.perm_append_comm (l₁ := [_, _, _]) (l₂ := [_]))))
          clear ho
          go_wp2_with fail
          go_roundw
          case rel => exact ⟨j + 1, _, _, _, _, by omega, by go_num, rfl, Lib.hid (HK.out.reserve (by first | exact h3 | decide) _ _), HO9⟩
          case measure => simp [intOf]; omega
        · by_cases h1 : od = 1
          · subst h1
            go_wp2_with fail
            refine (HOb.out.lift 1 rfl (fun F h => release_h h HK.out.ok.rs _)).mono ?_
            rintro e5 w5 ⟨rfl, ho⟩
            have HO9 := Lib.hid (One.drop (ho.perm (List.perm_append_comm (l₁ := [_, _, _]) (l₂ := [_]))))
            clear ho
            go_wp2_with fail
            go_roundw
            case rel => exact ⟨j + 1, _, _, _, _, by omega, by go_num, rfl, Lib.hid (HK.out.release (by first | exact h3 | decide)), HO9⟩
            case measure => simp [intOf]; omega
          · by_cases h2 : od = 2
            · subst h2
              go_wp2_with fail
              refine (cell_t HK.out.ok (by omega) _ _ HZo.out.1 HOb.out).mono ?_
              rintro e5 w5 ⟨σ', q, err, rfl, hR, ho⟩
              have HK2 := Lib.hid (HK.out.cell (by first | exact h3 | decide) hR)
              have HO5 := Lib.hid (One.alloc (One.drop (ho.perm (List.perm_append_comm (l₁ := [_, _, _]) (l₂ := [_])))) (.cells #[.int .i64 q.slot, .int .i64 q.gen] 36))
              clear ho hR c0 c1 c2 c3 c4 c5 c6' c7 c8 HOb
              go_upto_region 23 with fail
              generalize w5.alloc (.cells #[.int .i64 q.slot, .int .i64 q.gen] 36) = w6 at *
              generalize w5.heap.size = gq at *
              by_cases he : err = 0
              · subst he
                rw [if_pos rfl] at HK2
                obtain ⟨z0, z1, _, _⟩ := cells2 (HO5.out.blk 0 rfl).1
                have hhl := HK.out.len
                have HA := Lib.hid (One.app (P := Try.prog) (m := [q]) elt_Hd 32 (HO5.out.alloc (.cells #[.int .i64 q.slot, .int .i64 q.gen] 36)) 4 rfl encH2 (rl_hd (v := q) (cap := 1) (heap_alloc_same w6 _)) oneH (by unfold maxLen; simp only [List.length_singleton]; omega) (by simp only [List.length_singleton]; omega))
                simp only [List.length_singleton, List.set_cons_zero, List.set_cons_succ] at HA
                go_wp2_with (at_builtin; refine wpList_appX 110 rfl rfl rfl rfl (v := .slice a6 hs.length c6) (s := .slice (some ⟨w6.heap.size, 0, none⟩) 1 1) rfl rfl HA.out ?_; rintro r' w7 ⟨a7, c7, rfl, ho⟩)
                have HO9 := Lib.hid (One.drop (One.drop ho))
                rw [← List.flatMap_append, ← List.length_singleton (a := q), ← List.length_append] at HO9
                have hsl : Hid (Value.slice a7 (hs.length + 1) c7 = Value.slice a7 (hs ++ [q]).length c7) := Lib.hid (by simp)
                clear ho HA
                go_roundw
                case rel => exact ⟨j + 1, σ', hs ++ [q], a7, c7, by omega, by go_num, hsl.out, HK2, HO9⟩
                case measure => simp [intOf]; omega
              · rw [if_neg he] at HK2
                have HO9 := Lib.hid (One.drop HO5.out)
                go_wp2_with fail
                go_roundw
                case rel => exact ⟨j + 1, σ', hs, a6, c6, by omega, by go_num, rfl, HK2, HO9⟩
                case measure => simp [intOf]; omega
            · by_cases h4 : od = 3
              · subst h4
                by_cases h0 : hs.length = 0
                · have HH0 := Lib.hid h0
                  have h0' : ¬ (0 : Int) < (hs.length : Int) := by omega
                  clear h0
                  have HO9 := Lib.hid (One.drop (HOb.out.perm (List.perm_append_comm (l₁ := [_, _, _]) (l₂ := [_]))))
                  go_wp2_with fail
                  go_roundw
                  case rel => exact ⟨j + 1, _, _, _, _, by omega, by go_num, rfl, Lib.hid (HK.out.step), HO9⟩
                  case measure => simp [intOf]; omega
                · have h0' : (0 : Int) < (hs.length : Int) := by omega
                  have hhl := HK.out.len
                  obtain ⟨q, hqm, hql⟩ : ∃ q : Nat, (ou.tmod (hs.length : Int) + (hs.length : Int)).tmod (hs.length : Int) = (q : Int) ∧ q < hs.length := by
                    have h1 := Int.lt_tmod_of_pos ou h0'
                    have h2 := Int.tmod_lt_of_pos ou h0'
                    have h3 := Int.tmod_lt_of_pos (ou.tmod (hs.length : Int) + (hs.length : Int)) h0'
                    have h4 := Int.tmod_nonneg (hs.length : Int) (show 0 ≤ ou.tmod (hs.length : Int) + (hs.length : Int) by omega)
                    exact ⟨((ou.tmod (hs.length : Int) + (hs.length : Int)).tmod (hs.length : Int)).toNat, by omega, by omega⟩
                  obtain ⟨x, hx⟩ : ∃ x, hs[q]? = some x := ⟨_, List.getElem?_eq_getElem hql⟩
                  obtain ⟨t, ht⟩ := HK.out.good x (List.mem_of_getElem? hx)
                  obtain ⟨i, hi1, hi2, hi3, hi4⟩ := goodAt_some ht
                  obtain ⟨xs, hch, hxl⟩ := HK.out.ok.ch t (List.mem_of_getElem? hi2) hi3
                  have HI := Lib.hid (And.intro hi2 (And.intro hi3 (And.intro hch hxl)))
                  have HRH : Rl Hd.enc 2 W (.slice a6 hs.length c6) hs := by
                    obtain ⟨F1, hr, _⟩ := HOb.out.get 2 rfl
                    exact Rl.of_row encH2 rfl hr
                  obtain ⟨a', cap', hv, _, hrd⟩ := HRH
                  injection hv with ea eb' ec
                  subst ea
                  subst ec
                  obtain ⟨bh, oh, rfl, hbh, hcc⟩ := hrd.at hx
                  have f0 : W.cell? ⟨bh, oh + q * 2, none⟩ = some (.int .i64 i) := by have := hcc 0 (by decide); rw [← hi1]; exact this
                  have f1 : W.cell? ⟨bh, oh + q * 2 + 1, none⟩ = some (.int .i64 t.gen) := by have := hcc 1 (by decide); rw [hi4]; exact this
                  have hw1 : IntKind.i64.wrap (ou.tmod (hs.length : Int)) = ou.tmod (hs.length : Int) := Go.IntWalk.i64_in _ (by have h1 := Int.lt_tmod_of_pos ou h0'; have h2 := Int.tmod_lt_of_pos ou h0'; omega)
                  have hw2 : IntKind.i64.wrap (ou.tmod (hs.length : Int) + (hs.length : Int)) = ou.tmod (hs.length : Int) + (hs.length : Int) := Go.IntWalk.i64_in _ (by have h1 := Int.lt_tmod_of_pos ou h0'; have h2 := Int.tmod_lt_of_pos ou h0'; omega)
                  have hz1 : ¬ (hs.length : Int) = 0 := by omega
                  have hq0 : (q : Int) < (hs.length : Int) := by omega
                  clear hcc hrd hbh hx hi1 hi4 ht hch hxl hi2 hi3 h0
                  go_upto_region 27 with fail
                  have m1 := fun d os => cell_regrown (d := d) (os := os) c4
                  have m2 := fun d os => cell_regrown (d := d) (os := os) c6'
                  have m3 := fun d os => cell_regrown (d := d) (os := os) c7
                  have m4 := fun d os => cell_regrown (d := d) (os := os) c8
                  have m5 := fun d os => cell_regrown (d := d) (os := os) f0
                  have m6 := fun d os => cell_regrown (d := d) (os := os) f1
                  refine wp_region_below_tail 18 (by kernel_rfl) (by kernel_rfl) ?_
                  simp only [List.take_succ_cons, List.take_zero, List.drop_succ_cons, List.drop_zero]
                  repeat (go_big_quiet_step (fail))
                  refine wpQuiet_nil ?_
                  intro _ hw'
                  obtain ⟨⟨dq, osq⟩, hw''⟩ := hw'
                  subst hw''
                  have HO6 := Lib.hid (HOb.out.kn (kn_regrown W dq osq))
                  clear c0 c1 c2 c3 c4 c5 c6' c7 c8 f0 f1 m1 m2 m3 m4 m5 m6 HOb
                  generalize grow (redrawn W dq) osq = w6 at *
                  go_wp2_with fail
                  refine (install_t HK.out.ok (by omega) os HI.out.1 HI.out.2.1 HI.out.2.2.1 HI.out.2.2.2 ⟨vt, vv, vd⟩ HZo.out.2 HO6.out).mono ?_
                  rintro e7 w7 ⟨σ', err, rfl, hI, ho⟩
                  have HK2 := Lib.hid (HK.out.install (by first | exact h3 | decide) HI.out.1 HI.out.2.2.1 hI)
                  have HO9 := Lib.hid (One.drop (ho.perm (List.perm_append_comm (l₁ := [_, _, _]) (l₂ := [_]))))
                  clear ho
                  clear hI
                  go_wp2_with fail
                  go_roundw
                  case rel => exact ⟨j + 1, _, _, _, _, by omega, by go_num, rfl, HK2, HO9⟩
                  case measure => simp [intOf]; omega
              · have HO9 := Lib.hid (One.drop (HOb.out.perm (List.perm_append_comm (l₁ := [_, _, _]) (l₂ := [_]))))
                go_wp2_with fail
                go_roundw
                case rel => exact ⟨j + 1, _, _, _, _, by omega, by go_num, rfl, Lib.hid (HK.out.step), HO9⟩
                case measure => simp [intOf]; omega
    · obtain rfl : j = l.length := by omega
      have HO6 := Lib.hid ((HO.out.alloc (.cells #[.int .i64 0, .int .i64 0] 36)).perm ((List.Perm.swap _ _ _).trans (.cons _ (.swap _ _ _))))
      have HP0 := Lib.hid (And.intro HK.out.ok HK.out.mine)
      clear HK HO4 HR HZ hlt
      generalize l.length = kk at *
      go_upto_region 30 with fail
      clear HO
      generalize wr.alloc (.cells #[.int .i64 0, .int .i64 0] 36) = W6 at *
      generalize wr.heap.size = gc at *
      go_wp2_with fail
      go_loopw [13, 137] (fun s13 s137 wq => ∃ (i : Nat) (σ : Hps) (q : Hd), i ≤ X ∧ s137 = .int .i64 i ∧ s13 = .int .i64 0 ∧ Hid (σ.Ok (kk + i) ∧ σ.rs[3]? = some ⟨true, (X : Int) - i, Y⟩ ∧ (i = 0 ∨ ∃ jc : Nat, q.slot = jc ∧ σ.L[jc]? = some ⟨⟨keyK, ⟨0, 0⟩, false, false⟩, q.gen, true⟩)) ∧ Hid (One w wq [EpA eb ep0, HpA b eb σ, Blk gc (.cells #[.int .i64 q.slot, .int .i64 q.gen] 36), RowA 36 2 (.slice a6 hs.length c6) hs.length (hs.flatMap Hd.enc)])) (fun _ s137 _ => X - (intOf s137).toNat)
      case atStart => exact ⟨0, σ, zH, Nat.zero_le _, rfl, rfl, Lib.hid ⟨HP0.out.1, by have := HP0.out.2; simpa using this, .inl rfl⟩, HO6⟩
      case round =>
        obtain ⟨i, σ', q, hi, rfl, rfl, HI, HO7⟩ := hrel
        clear HP0 HO6
        by_cases hlt : i < X
        · have hix : (i : Int) < (X : Int) := by omega
          obtain ⟨σ2, j, g2, hC, hN⟩ := cell_step (i := 3) (key := keyK) HO7.out HI.out.1 (by omega) (by decide) HI.out.2.1 (by omega) keyK_ok keyK_le
          have HC := Lib.hid (show Calls Try.prog 12 #[.pointer (some ⟨b, 0, none⟩), .int .i64 3, .string ⟨#[107]⟩] wr _ from hC)
          have HN := Lib.hid hN
          clear hC hN
          obtain ⟨z0, z1, zf0, zf1⟩ := cells2 (HO7.out.blk 2 rfl).1
          go_wp2_with fail
          refine HC.out.mono ?_
          rintro e8 w8 ⟨rfl, ho⟩
          have HO8 := Lib.hid ho
          clear ho z0 z1 zf0 zf1
          obtain ⟨z0, z1, zf0, zf1⟩ := cells2 (HO8.out.blk 2 rfl).1
          go_wp2_with fail
          have HO9 := Lib.hid ((HO8.out.setCA 2 rfl (j := 0) (.int .i64 (j : Int))).setCA 2 rfl (j := 1) (.int .i64 g2))
          go_roundw
          case rel => exact ⟨i + 1, σ2, ⟨j, g2⟩, by omega, by go_num, rfl, Lib.hid ⟨HN.out.1, by have := HN.out.2.1; rw [this]; congr 2; omega, .inr ⟨j, rfl, HN.out.2.2.1⟩⟩, HO9⟩
          case measure => simp [intOf]; omega
        · obtain rfl : i = X := by omega
          have hix : ¬ (i : Int) < (i : Int) := by omega
          have HI1 := Lib.hid (show σ'.rs[3]? = some ⟨true, 0, (Y : Int)⟩ by have := HI.out.2.1; rw [this]; congr 2; omega)
          have HC := Lib.hid (show Calls Try.prog 12 #[.pointer (some ⟨b, 0, none⟩), .int .i64 3, .string ⟨#[107]⟩] wr (fun e' w' => e' = .returned (.tuple #[.agg #[.int .i64 0, .int .i64 0], .int .i64 5]) ∧ One w w' (EpA eb ep0 :: HpA b eb σ' :: [Blk gc (.cells #[.int .i64 q.slot, .int .i64 q.gen] 36), RowA 36 2 (.slice a6 hs.length c6) hs.length (hs.flatMap Hd.enc)])) from
            HO7.out.still (fun c d F1 hp => cell_zero_h (i := 3) (key := keyK) hp HI.out.1.rs (by decide) HI1.out rfl (by decide) keyK_ok rfl))
          go_wp2_with fail
          refine HC.out.mono ?_
          rintro e8 w8 ⟨rfl, ho⟩
          have HO8 := Lib.hid (One.alloc ho (.cells #[.int .i64 0, .int .i64 0] 36))
          clear ho HC
          go_upto_region 37 with fail
          generalize w8.alloc (.cells #[.int .i64 0, .int .i64 0] 36) = w9 at *
          by_cases hx0 : i = 0
          · subst hx0
            go_wp2_with fail
            go_ret
            exact ⟨rfl, HO8.out.old⟩
          · have hx0' : ((i : Int) == 0) = false := by simpa using hx0
            obtain ⟨jc, hjc, hL⟩ := HI.out.2.2.resolve_left hx0
            obtain ⟨qs, qg⟩ := q
            simp only at hjc hL HO8
            subst hjc
            have HO9 := Lib.hid (One.drop HO8.out)
            have HP1 := Lib.hid (show σ'.Ok (kk + i) ∧ σ'.rs[3]? = some ⟨true, 0, (Y : Int)⟩ ∧ σ'.L[jc]? = some ⟨⟨keyK, ⟨0, 0⟩, false, false⟩, qg, true⟩ from ⟨HI.out.1, HI1.out, hL⟩)
            clear HI HI1 hL HO8 HO7 hx0
            go_upto_region 41 with fail
            go_wp2_with fail
            go_loopw [157] (fun s157 wq => ∃ (f : Nat) (σ : Hps) (h0 : Hd) (xs : List (Hd × No)), f ≤ Y ∧ s157 = .int .i64 f ∧ Hid (σ.Ok (kk + i + f) ∧ σ.rs[3]? = some ⟨true, 0, (Y : Int) - f⟩ ∧ σ.L[jc]? = some ⟨⟨keyK, h0, false, false⟩, qg, true⟩ ∧ Ch σ.V h0 xs ∧ xs.length = f ∧ ∀ z, (xs.map (·.2.has)).head? = some z → z.tS = f) ∧ Hid (One w wq [EpA eb ep0, HpA b eb σ, Blk gc (.cells #[.int .i64 jc, .int .i64 qg] 36), RowA 36 2 (.slice a6 hs.length c6) hs.length (hs.flatMap Hd.enc)])) (fun s157 _ => Y - (intOf s157).toNat)
            case atStart => exact ⟨0, σ', zH, [], Nat.zero_le _, rfl, Lib.hid ⟨HP1.out.1, by have := HP1.out.2.1; simpa using this, HP1.out.2.2, rfl, rfl, by simp⟩, HO9⟩
            case round =>
              obtain ⟨f, σ2, h0, xs, hf, rfl, HI, HO7⟩ := hrel
              clear HP1 HO9
              obtain ⟨z0, z1, _, _⟩ := cells2 (HO7.out.blk 2 rfl).1
              have hput : ∀ s : ByteArray, s.size ≤ 1 → putV (xs.map (·.2.has)) ⟨(f : Int) + 1, s, false⟩ = 0 := fun s hs1 => put_next (by have := HI.out.2.2.2.2.1; rw [List.length_map]; omega) HI.out.2.2.2.2.2 s hs1 (by omega)
              have HPt := Lib.hid hput
              clear hput
              by_cases hlt : f < Y
              · have hfy : (f : Int) < (Y : Int) := by omega
                obtain ⟨σ3, h1, hC, hN⟩ := inst_step (i := 3) ⟨(f : Int) + 1, valV, false⟩ HO7.out HI.out.1 (by omega) (by decide) HI.out.2.1 (by omega) HI.out.2.2.1 HI.out.2.2.2.1 (HPt.out valV valV_1) valV_le
                have HC := Lib.hid (show Calls Try.prog 13 #[.pointer (some ⟨b, 0, none⟩), .int .i64 3, .agg #[.int .i64 jc, .int .i64 qg], .agg #[.int .i64 ((f : Int) + 1), .string ⟨#[118]⟩, .bool false]] wr _ from hC)
                have HN := Lib.hid hN
                clear hC hN
                go_wp2_with fail
                refine HC.out.mono ?_
                rintro e8 w8 ⟨rfl, ho⟩
                have HO8 := Lib.hid ho
                clear ho
                go_wp2_with fail
                go_roundw
                case rel => exact ⟨f + 1, σ3, _, _, by omega, by go_num, Lib.hid ⟨HN.out.1, by have := HN.out.2.1; rw [this]; congr 2; omega, HN.out.2.2.1, HN.out.2.2.2.1, by have := HI.out.2.2.2.2.1; simp [this], by simp⟩, HO8⟩
                case measure => simp [intOf]; omega
              · obtain rfl : f = Y := by omega
                have hfy : ¬ (f : Int) < (f : Int) := by omega
                have hi1 := HI.out.2.1
                rw [Int.sub_self] at hi1
                have HC := Lib.hid (show Calls Try.prog 13 #[.pointer (some ⟨b, 0, none⟩), .int .i64 3, .agg #[.int .i64 jc, .int .i64 qg], .agg #[.int .i64 ((f : Int) + 1), .string ⟨#[]⟩, .bool false]] wr _ from inst_none (i := 3) ⟨(f : Int) + 1, ⟨#[]⟩, false⟩ HO7.out HI.out.1 (by decide) hi1 HI.out.2.2.1 HI.out.2.2.2.1 (HPt.out ⟨#[]⟩ nilS_1) nilS_le)
                clear hi1
                go_wp2_with fail
                refine HC.out.mono ?_
                rintro e8 w8 ⟨rfl, ho⟩
                have HO8 := Lib.hid ho
                clear ho
                go_wp2_with fail
                go_ret
                exact ⟨rfl, HO8.out.old⟩
end Go.Proofs.Ytinejaganickpaa
