/- HeapNeeds: its walk. -/
import Derived.Test.YtinejaganickpaaNeedsHp
import Derived.Laws.Cover4
namespace Go.Proofs.Ytinejaganickpaa
set_option linter.unusedVariables false
set_option linter.unusedSimpArgs false
open Go Go.RowKit Go.Sort

abbrev encU (x : Int) : List Value := [.int .u8 x]
abbrev encB (x : Bool) : List Value := [.bool x]
theorem cutU {w : World} {a : Option Addr} {c : Nat} {l : List Int} (h : Rd encU 1 w a l) (hc : l.length ≤ c) {i : Nat} (hi : i ≤ l.length) :
    ∃ a1, (∀ W, (Instr.slice 44 (.slice a l.length c) none (some (.int .i64 (i : Int))) none).run Try.prog W = .ok (.slice a1 i c) W) ∧ Rl encU 1 w (.slice a1 i c) (l.take i) := by
  refine ⟨if c = 0 then a else a.map (·.add (0 * 1)), fun W => ?_, ?_⟩
  · rw [run_slice_h (P := Try.prog) W 44 a l.length c (by kernel_rfl) .i64 i (by omega) (by omega)]
    have : ∀ w, (sizeOf (Try.prog.elem 44)).run Try.prog w = .ok 1 w := fun w => by kernel_rfl
    rw [this]
    simp [sliced, Result.andThen]
  · have hl : (l.take i).length = i := by rw [List.length_take]; omega
    refine ⟨_, c, by rw [hl], by omega, ?_⟩
    rcases h with rfl | ⟨b, off, rfl, hb, hx⟩
    · simp
      exact .inl rfl
    · refine .inr ⟨b, off, by split <;> simp [Addr.add], hb, fun j x hj q hq => hx j x ?_ q hq⟩
      rw [List.getElem?_take] at hj
      split at hj
      · exact hj
      · cases hj
theorem put_need {ls xs : List Ve} {ts ts' : Int} {s : ByteArray} {d : Bool} (hx : xs = ls.reverse) (hl : ls.length < 1024) (hh : ∀ v ∈ ls, v.tS ≤ ts) (h0 : ts < ts') (h1 : 1 ≤ ts' ∧ ts' ≤ 1000000) (hs : s.size ≤ 256 ∧ (d = true → s.size = 0)) (hd : True) : putV xs ⟨ts', s, d⟩ = 0 := by
  have hm : mayV ⟨ts', s, d⟩ = true := by
    unfold mayV
    cases d with
    | true => have := hs.2 rfl; simp only [Bool.and_eq_true, decide_eq_true_eq, Bool.not_true, Bool.false_or]; omega
    | false => simp only [Bool.and_eq_true, decide_eq_true_eq, Bool.not_false, Bool.true_or, and_true]; omega
  have hd : headLe xs ⟨ts', s, d⟩ = false := by
    subst hx
    cases hr : ls.reverse with
    | nil => rfl
    | cons z l =>
      have hz : z ∈ ls := by
        have : z ∈ ls.reverse := by rw [hr]; exact List.mem_cons_self ..
        simpa using this
      have := hh z hz
      unfold headLe
      simp only [decide_eq_false_iff_not]
      omega
  unfold putV
  rw [hm, hd, if_neg (by simp), if_neg (by simp), if_neg (by rw [hx, List.length_reverse]; omega)]
theorem fall_more {ls : List Ve} {ts : Int} {v : Ve} (h : Fall ls.reverse) (hh : ∀ x ∈ ls, x.tS ≤ ts) (hv : ts < v.tS) : Fall (ls ++ [v]).reverse := by
  rw [List.reverse_append]
  refine List.pairwise_cons.2 ⟨fun x hx => ?_, h⟩
  have hx' : x ∈ ls := by simpa using hx
  have := hh x hx'
  omega
theorem run_neq_ve (t : Int) (s : ByteArray) (d : Bool) (w : World) : (binOp .neq 34 (.agg #[.int .i64 t, .string s, .bool d]) (.agg #[.int .i64 t, .string s, .bool d])).run Try.prog w = .ok (.bool false) w := by go_simp
theorem ep0_row0 (j : Nat) : (ep0.row j).length = 0 := by
  unfold ep0 Eps.row
  match j with
  | 0 => rfl
  | 1 => rfl
  | 2 => rfl
  | j + 3 => simp
theorem nds0 {σ : Hps} {j0 : Nat} {g : Int} {key : ByteArray} {h0 : Hd} {xs : List (Hd × No)} {l : List Ve} (hL : σ.L[j0]? = some ⟨⟨key, h0, false, false⟩, g, true⟩) (hc : Ch σ.V h0 xs) (hx : xs.map (·.2.has) = l) (hl : xs.length ≤ 50) (hs : σ.sl = 0 ∧ σ.sv = 0) : Nds σ ep0 j0 g l 0 := by
  refine ⟨⟨key, h0, xs, false, l.length, hL, hc, by rw [List.take_length]; exact hx, fun at' _ hn v hv => ?_, fun j => ?_⟩, hs, fit0⟩
  · rw [List.take_length, hv] at hn; cases hn
  · have := ep0_row0 j; omega
def keyAn : ByteArray := ⟨#[97]⟩
set_option maxRecDepth 100000 in
set_option maxHeartbeats 8000000 in
theorem hneeds_walk (a0 : Option Addr) (cap0 : Nat) (st : List Int) (a1 : Option Addr) (cap1 : Nat) (ds : List Bool) (a2 : Option Addr) (cap2 : Nat) (ms : List Int) (w : World) (hc0 : st.length ≤ cap0) (hs : ∀ x ∈ st, 0 ≤ x ∧ x ≤ 255) (hm : ∀ x ∈ ms, 0 ≤ x ∧ x ≤ 255) (hl : st.length ≤ 1048576 ∧ ds.length ≤ 1048576 ∧ ms.length ≤ 1048576) (hr0 : Rd encU 1 w a0 st) (hr1 : Rd encB 1 w a1 ds) (hr2 : Rd encU 1 w a2 ms) :
    Calls Try.prog 4 #[.slice a0 st.length cap0, .slice a1 ds.length cap1, .slice a2 ms.length cap2] w fun e w' => e = .returned (.bool true) ∧ KN w w' := by
  obtain ⟨N, hN, hN1⟩ : ∃ N : Nat, min (st.length : Int) 50 = (N : Int) ∧ N ≤ 50 ∧ N ≤ st.length := ⟨min st.length 50, by omega, by omega, by omega⟩
  obtain ⟨a3, hcut, hr3⟩ := cutU hr0 hc0 hN1.2
  have HR1 := Lib.hid hr1
  have HR2 := Lib.hid hr2
  have HR3 := Lib.hid hr3
  have HSB := Lib.hid (And.intro hs hm)
  clear hr0 hr1 hr2 hr3 hs hm
  go_enter Try.func4, Try.ntmps4
  go_wp2_with fail
  refine (new_a w).mono ?_
  rintro e w1 ⟨eb, rfl, hp⟩
  have HO1 := Lib.hid ((One.nil w).add hp)
  clear hp
  go_wp2_with fail
  refine (show Calls Try.prog 8 #[.int .i64 1, .int .i64 60, .pointer (some ⟨eb, 0, none⟩)] w1 (GaveHp 1 60 eb w1) from HO1.out.rd 0 rfl (fun F h => new_h h fit0 1 60 (by omega) (by omega))).mono ?_
  rintro e w2 ⟨b, rfl, hp⟩
  have HO2 := Lib.hid (((HO1.out).add hp).perm (List.Perm.swap _ _ _))
  clear hp HO1
  have HC := Lib.hid (fun W (k : KN w2 W) => (HO2.out.kn k).lift 1 rfl (fun F h => reserve_h h (by simp [hp0]) ⟨by simp [hp0], by simp [hp0]⟩ (fun r hr => by rw [List.eq_of_mem_replicate hr]; decide) 0 1 50))
  rw [may3 (by decide) (by omega) (by omega)] at HC
  have HS0 := Lib.hid (show ((hp0 1 60).reserve 0 1 50).Ok 0 ∧ ((hp0 1 60).reserve 0 1 50).rs[0]? = some ⟨true, 1, 50⟩ ∧ ((hp0 1 60).reserve 0 1 50).sl = 0 ∧ ((hp0 1 60).reserve 0 1 50).sv = 0 from
    ⟨(ok0 (by omega) (by omega)).reserve 0 1 50, by unfold Hps.reserve; rw [if_pos (may3 (by decide) (by omega) (by omega))]; rfl, by unfold Hps.reserve; rw [if_pos (may3 (by decide) (by omega) (by omega))]; rfl, by unfold Hps.reserve; rw [if_pos (may3 (by decide) (by omega) (by omega))]; rfl⟩)
  go_wp2_with (first
    | (go_at_call 9; refine (begun_true _).mono ?_; rintro e w3 ⟨rfl, k3⟩)
    | (go_at_call 10; refine (HC.out _ k3).mono ?_; rintro e w4 ⟨rfl, ho⟩))
  generalize (hp0 1 60).reserve 0 1 50 = σ0 at *
  have HO4 := Lib.hid (show One w w4 (EpA eb ep0 :: HpA b eb σ0 :: []) from ho)
  clear HC HO2 ho k3
  obtain ⟨σ1, j0, g0, hC, hN2⟩ := cell_step (i := 0) (key := keyAn) HO4.out HS0.out.1 (by omega) (by decide) HS0.out.2.1 (by omega) (by decide) (by decide)
  have HC := Lib.hid (show Calls Try.prog 12 #[.pointer (some ⟨b, 0, none⟩), .int .i64 0, .string ⟨#[97]⟩] w4 _ from hC)
  have HN2 := Lib.hid (show σ1.Ok 1 ∧ σ1.rs[0]? = some ⟨true, 0, 50⟩ ∧ σ1.L[j0]? = some ⟨⟨keyAn, zH, false, false⟩, g0, true⟩ ∧ σ1.sl = 0 ∧ σ1.sv = 0 from ⟨hN2.1, hN2.2.1, hN2.2.2.1, hN2.2.2.2.2.1.trans HS0.out.2.2.1, hN2.2.2.2.2.2.1.trans HS0.out.2.2.2⟩)
  clear hC hN2 HS0
  refine HC.out.mono ?_
  rintro e w5 ⟨rfl, ho⟩
  have HO5 := Lib.hid (((One.alloc ho (.cells #[.int .i64 j0, .int .i64 g0] 36)).perm (List.perm_append_comm (l₁ := [_]) (l₂ := [_, _]))))
  clear ho HC HO4
  go_upto_region 6 with fail
  generalize w5.alloc (.cells #[.int .i64 j0, .int .i64 g0] 36) = w6 at *
  generalize w5.heap.size = gc at *
  have HOR := Lib.hid (show One w w6 (EpA eb ep0 :: HpA b eb σ1 :: [Blk gc (.cells #[.int .i64 j0, .int .i64 g0] 36), RowV none 0 []]) from (HO5.out.add (postV_nil w6)).perm (List.perm_append_comm (l₁ := [_]) (l₂ := [_, _, _])))
  go_upto_region 10 with fail
  go_wp2_with fail
  go_loopw [11, 12, 64] (fun s11 s12 s64 wr => ∃ (k : Nat) (ts : Int) (σ : Hps) (h0 : Hd) (xs : List (Hd × No)) (ls : List Ve) (a5 : Option Addr) (c5 : Nat), k ≤ N ∧ s64 = .int .i64 k ∧ s11 = .int .i64 ts ∧ s12 = .slice a5 ls.length c5 ∧ (0 ≤ ts ∧ ts ≤ 4 * k) ∧
    Hid (σ.Ok (1 + k) ∧ σ.rs[0]? = some ⟨true, 0, (50 : Int) - k⟩ ∧ σ.L[j0]? = some ⟨⟨keyAn, h0, false, false⟩, g0, true⟩ ∧ Ch σ.V h0 xs ∧ xs.map (·.2.has) = ls.reverse ∧ ls.length = k ∧ Fall ls.reverse ∧ (∀ v ∈ ls, v.tS ≤ ts) ∧ σ.sl = 0 ∧ σ.sv = 0) ∧
    Hid (One w wr (EpA eb ep0 :: HpA b eb σ :: [Blk gc (.cells #[.int .i64 j0, .int .i64 g0] 36), RowV a5 c5 ls]))) (fun _ _ s64 _ => N - (intOf s64).toNat)
  case atStart => exact ⟨0, 0, σ1, zH, [], [], none, 0, Nat.zero_le _, rfl, rfl, rfl, by omega, Lib.hid ⟨HN2.out.1, HN2.out.2.1, HN2.out.2.2.1, rfl, rfl, rfl, List.Pairwise.nil, by simp, HN2.out.2.2.2.1, HN2.out.2.2.2.2⟩, HOR⟩
  case round =>
    obtain ⟨k, ts, σ, h0, xs, ls, a5, c5, hk, rfl, rfl, rfl, hts, HI, HO⟩ := hrel
    clear HN2 HO5 hN hcut
    by_cases hlt : k < N
    · obtain ⟨a', cap', hv, _, hrd⟩ := HR3.out.kn HO.out.old
      obtain ⟨x, hx⟩ : ∃ x, (st.take N)[k]? = some x := ⟨_, List.getElem?_eq_getElem (by rw [List.length_take]; omega)⟩
      injection hv with ea eb' ec
      subst ea
      clear eb' ec
      obtain ⟨bs, os, rfl, hbs, hcc⟩ := hrd.at hx
      have e0 : wr.cell? ⟨bs, os + k * 1, none⟩ = some (.int .u8 x) := hcc 0 (by decide)
      rw [Nat.mul_one] at e0
      have e0' : wr.cell? ⟨bs, os + k, none⟩ = some (.int .u8 x) := e0
      have hxb := HSB.out.1 x (List.mem_of_mem_take (List.mem_of_getElem? hx))
      obtain ⟨y, ht4, hx4⟩ : ∃ y : Int, x.tmod 4 = y ∧ 0 ≤ y ∧ y ≤ 3 := ⟨x % 4, Int.tmod_eq_emod_of_nonneg hxb.1, by omega, by omega⟩
      have hkN : (k : Int) < (N : Int) := by omega
      clear hcc hrd hx hbs
      obtain ⟨dl, hdl⟩ : ∃ dl : Bool, dl = (ds[k]?).getD false := ⟨_, rfl⟩
      have HDl := Lib.hid hdl
      clear hdl
      go_upto_region 14 with fail
      go_cut [15] (fun h15 wx => h15 = .pointer (some ⟨wr.heap.size, 0, none⟩) ∧ wx = wr.alloc (.cells #[.int .i64 (ts + (y + 1)), .string ⟨#[]⟩, .bool dl] 34))
      case first =>
        by_cases hkd : k < ds.length
        · obtain ⟨z, hz⟩ : ∃ z, ds[k]? = some z := ⟨_, List.getElem?_eq_getElem hkd⟩
          have hdz := HDl.out
          rw [hz] at hdz
          simp only [Option.getD_some] at hdz
          subst hdz
          obtain ⟨bd, od, rfl, hbd, hcc⟩ := (HR1.out.kn HO.out.old).at hz
          have e1 : wr.cell? ⟨bd, od + k * 1, none⟩ = some (.bool dl) := hcc 0 (by decide)
          rw [Nat.mul_one] at e1
          have hkd' : (k : Int) < (ds.length : Int) := by omega
          clear hcc hz hbd
          go_wp2_with fail
          go_meet
          exact ⟨rfl, rfl⟩
        · have hdz := HDl.out
          rw [List.getElem?_eq_none (by omega)] at hdz
          simp only [Option.getD_none] at hdz
          subst hdz
          have hkd' : ¬ (k : Int) < (ds.length : Int) := by omega
          go_wp2_with fail
          go_meet
          exact ⟨rfl, rfl⟩
      case rest =>
        obtain ⟨rfl, rfl⟩ := hcut
        have HOb := Lib.hid ((HO.out.alloc (.cells #[.int .i64 (ts + (y + 1)), .string ⟨#[]⟩, .bool dl] 34)).perm (List.perm_append_comm (l₁ := [_]) (l₂ := [_, _, _, _])))
        generalize wr.alloc (.cells #[.int .i64 (ts + (y + 1)), .string ⟨#[]⟩, .bool dl] 34) = W at *
        generalize wr.heap.size = gv at *
        clear HO e0 e0' ht4 HDl
        obtain ⟨z0, z1, z2, zf0, zf1, zf2⟩ := cells3 (HOb.out.blk 4 rfl).1
        cases dl with
        | true =>
          have hsz : (⟨#[]⟩ : ByteArray).size ≤ 256 ∧ (true = true → (⟨#[]⟩ : ByteArray).size = 0) := ⟨by decide, fun _ => rfl⟩
          have hszM : (⟨#[]⟩ : ByteArray).size ≤ maxLen := by decide
          go_upto_region 17 with fail
          obtain ⟨σ3, h1, hC, hN⟩ := inst_step (i := 0) ⟨ts + (y + 1), ⟨#[]⟩, true⟩ HOb.out HI.out.1 (by omega) (by decide) HI.out.2.1 (by omega) HI.out.2.2.1 HI.out.2.2.2.1 (put_need HI.out.2.2.2.2.1 (by have := HI.out.2.2.2.2.2.1; omega) HI.out.2.2.2.2.2.2.2.1 (by omega) (by omega) hsz (by simp)) hszM
          have HC := Lib.hid (show Calls Try.prog 13 #[.pointer (some ⟨b, 0, none⟩), .int .i64 0, .agg #[.int .i64 j0, .int .i64 g0], .agg #[.int .i64 (ts + (y + 1)), .string ⟨#[]⟩, .bool true]] _ _ from hC)
          have HN := Lib.hid hN
          clear hC hN
          obtain ⟨c0, c1, _, _⟩ := cells2 (HOb.out.blk 2 rfl).1
          go_wp2_with fail
          refine HC.out.mono ?_
          rintro e8 w8 ⟨rfl, ho⟩
          have HO8 := Lib.hid ho
          clear ho HC c0 c1 z0 z1 z2 zf0 zf1 zf2 HOb
          obtain ⟨z0, z1, z2, _⟩ := cells3 (HO8.out.blk 4 rfl).1
          have hll := HI.out.2.2.2.2.2.1
          have hll2 : ls.length ≤ 50 := by omega
          have HLL := Lib.hid hll
          clear hll
          have HA := Lib.hid (One.app (P := Try.prog) (m := [(⟨ts + (y + 1), ⟨#[]⟩, true⟩ : Ve)]) elt_Ve 46 (HO8.out.alloc (.cells #[.int .i64 (ts + (y + 1)), .string ⟨#[]⟩, .bool true] 34)) 4 rfl encV3 (rl_ve (v := ⟨ts + (y + 1), ⟨#[]⟩, true⟩) (cap := 1) (heap_alloc_same w8 _)) oneV (by unfold maxLen; simp only [List.length_singleton]; omega) (by simp only [List.length_singleton]; omega))
          simp only [List.length_singleton, List.set_cons_zero, List.set_cons_succ] at HA
          go_wp2_with (at_builtin; refine wpList_appX 104 rfl rfl rfl rfl (v := .slice a5 ls.length c5) (s := .slice (some ⟨w8.heap.size, 0, none⟩) 1 1) rfl rfl HA.out ?_; rintro r' w9 ⟨a9, c9, rfl, ho⟩)
          have HO9 := Lib.hid (One.drop ((One.drop ho).perm (List.perm_append_comm (l₁ := [_, _, _, _]) (l₂ := [_]))))
          rw [← List.flatMap_append] at HO9
          have HO10 : Hid (One w w9 (EpA eb ep0 :: HpA b eb σ3 :: [Blk gc (.cells #[.int .i64 j0, .int .i64 g0] 36), RowV a9 c9 (ls ++ [⟨ts + (y + 1), ⟨#[]⟩, true⟩])])) := Lib.hid (by
            have h := HO9.out
            unfold RowV
            rw [List.length_append, List.length_singleton]
            exact h)
          have hsl : Hid (Value.slice a9 (ls.length + 1) c9 = Value.slice a9 (ls ++ [(⟨ts + (y + 1), ⟨#[]⟩, true⟩ : Ve)]).length c9) := Lib.hid (by simp)
          clear ho HA HO9
          go_roundw
          case rel =>
            exact ⟨k + 1, ts + (y + 1), σ3, h1, _, ls ++ [⟨ts + (y + 1), ⟨#[]⟩, true⟩], a9, c9, by omega, by go_num, rfl, hsl.out, by omega, Lib.hid ⟨HN.out.1.mono (by omega), by have := HN.out.2.1; rw [this]; congr 2; omega, HN.out.2.2.1, HN.out.2.2.2.1, by rw [List.map_cons, HI.out.2.2.2.2.1]; simp, by simp; have := HLL.out; omega, fall_more HI.out.2.2.2.2.2.2.1 HI.out.2.2.2.2.2.2.2.1 (by simp only; omega), fun v hv => by
              rcases List.mem_append.1 hv with h | h
              · have := HI.out.2.2.2.2.2.2.2.1 v h; omega
              · rw [List.mem_singleton] at h; rw [h]; exact Int.le_refl _, HN.out.2.2.2.2.1.trans HI.out.2.2.2.2.2.2.2.2.1, HN.out.2.2.2.2.2.1.trans HI.out.2.2.2.2.2.2.2.2.2⟩, HO10⟩
          case measure => simp [intOf]; omega
        | false =>
          have hsz0 := encode_size_le (97 + (k : Int) % 26)
          go_upto_region 17 with fail
          generalize Utf8.encode (97 + (k : Int) % 26) = sv at *
          have hsz : sv.size ≤ 256 ∧ (false = true → sv.size = 0) := ⟨by omega, fun h => by cases h⟩
          have hszM : sv.size ≤ maxLen := by unfold maxLen; omega
          have HOc := Lib.hid (HOb.out.setCA 4 rfl (j := 1) (.string sv))
          replace HOc : Hid (One w _ [EpA eb ep0, HpA b eb σ, Blk gc (.cells #[.int .i64 j0, .int .i64 g0] 36), RowV a5 c5 ls, Blk gv (.cells #[.int .i64 (ts + (y + 1)), .string sv, .bool false] 34)]) := HOc
          clear z0 z1 z2 zf0 zf1 zf2 HOb hsz0
          generalize W.setCell ⟨gv, 1, none⟩ (.string sv) = W2 at *
          have HOb := HOc
          clear HOc
          obtain ⟨z0, z1, z2, zf0, zf1, zf2⟩ := cells3 (HOb.out.blk 4 rfl).1
          obtain ⟨σ3, h1, hC, hN⟩ := inst_step (i := 0) ⟨ts + (y + 1), sv, false⟩ HOb.out HI.out.1 (by omega) (by decide) HI.out.2.1 (by omega) HI.out.2.2.1 HI.out.2.2.2.1 (put_need HI.out.2.2.2.2.1 (by have := HI.out.2.2.2.2.2.1; omega) HI.out.2.2.2.2.2.2.2.1 (by omega) (by omega) hsz (by simp)) hszM
          have HC := Lib.hid (show Calls Try.prog 13 #[.pointer (some ⟨b, 0, none⟩), .int .i64 0, .agg #[.int .i64 j0, .int .i64 g0], .agg #[.int .i64 (ts + (y + 1)), .string sv, .bool false]] _ _ from hC)
          have HN := Lib.hid hN
          clear hC hN
          obtain ⟨c0, c1, _, _⟩ := cells2 (HOb.out.blk 2 rfl).1
          go_wp2_with fail
          refine HC.out.mono ?_
          rintro e8 w8 ⟨rfl, ho⟩
          have HO8 := Lib.hid ho
          clear ho HC c0 c1 z0 z1 z2 zf0 zf1 zf2 HOb
          obtain ⟨z0, z1, z2, _⟩ := cells3 (HO8.out.blk 4 rfl).1
          have hll := HI.out.2.2.2.2.2.1
          have hll2 : ls.length ≤ 50 := by omega
          have HLL := Lib.hid hll
          clear hll
          have HA := Lib.hid (One.app (P := Try.prog) (m := [(⟨ts + (y + 1), sv, false⟩ : Ve)]) elt_Ve 46 (HO8.out.alloc (.cells #[.int .i64 (ts + (y + 1)), .string sv, .bool false] 34)) 4 rfl encV3 (rl_ve (v := ⟨ts + (y + 1), sv, false⟩) (cap := 1) (heap_alloc_same w8 _)) oneV (by unfold maxLen; simp only [List.length_singleton]; omega) (by simp only [List.length_singleton]; omega))
          simp only [List.length_singleton, List.set_cons_zero, List.set_cons_succ] at HA
          go_wp2_with (at_builtin; refine wpList_appX 104 rfl rfl rfl rfl (v := .slice a5 ls.length c5) (s := .slice (some ⟨w8.heap.size, 0, none⟩) 1 1) rfl rfl HA.out ?_; rintro r' w9 ⟨a9, c9, rfl, ho⟩)
          have HO9 := Lib.hid (One.drop ((One.drop ho).perm (List.perm_append_comm (l₁ := [_, _, _, _]) (l₂ := [_]))))
          rw [← List.flatMap_append] at HO9
          have HO10 : Hid (One w w9 (EpA eb ep0 :: HpA b eb σ3 :: [Blk gc (.cells #[.int .i64 j0, .int .i64 g0] 36), RowV a9 c9 (ls ++ [⟨ts + (y + 1), sv, false⟩])])) := Lib.hid (by
            have h := HO9.out
            unfold RowV
            rw [List.length_append, List.length_singleton]
            exact h)
          have hsl : Hid (Value.slice a9 (ls.length + 1) c9 = Value.slice a9 (ls ++ [(⟨ts + (y + 1), sv, false⟩ : Ve)]).length c9) := Lib.hid (by simp)
          clear ho HA HO9
          go_roundw
          case rel =>
            exact ⟨k + 1, ts + (y + 1), σ3, h1, _, ls ++ [⟨ts + (y + 1), sv, false⟩], a9, c9, by omega, by go_num, rfl, hsl.out, by omega, Lib.hid ⟨HN.out.1.mono (by omega), by have := HN.out.2.1; rw [this]; congr 2; omega, HN.out.2.2.1, HN.out.2.2.2.1, by rw [List.map_cons, HI.out.2.2.2.2.1]; simp, by simp; have := HLL.out; omega, fall_more HI.out.2.2.2.2.2.2.1 HI.out.2.2.2.2.2.2.2.1 (by simp only; omega), fun v hv => by
              rcases List.mem_append.1 hv with h | h
              · have := HI.out.2.2.2.2.2.2.2.1 v h; omega
              · rw [List.mem_singleton] at h; rw [h]; exact Int.le_refl _, HN.out.2.2.2.2.1.trans HI.out.2.2.2.2.2.2.2.2.1, HN.out.2.2.2.2.2.1.trans HI.out.2.2.2.2.2.2.2.2.2⟩, HO10⟩
          case measure => simp [intOf]; omega
    · obtain rfl : k = N := by omega
      have hkN : ¬ (k : Int) < (k : Int) := by omega
      have HF := Lib.hid HI.out.2.2.2.2.2.2.1
      have h2 := congrArg List.length HI.out.2.2.2.2.1
      rw [List.length_map, List.length_reverse, HI.out.2.2.2.2.2.1] at h2
      have HNd0 := Lib.hid (nds0 HI.out.2.2.1 HI.out.2.2.2.1 HI.out.2.2.2.2.1 (by omega) HI.out.2.2.2.2.2.2.2.2)
      clear h2
      have hll : ls.length ≤ 50 := by have := HI.out.2.2.2.2.2.1; omega
      have hts2 : ts ≤ 200 := by omega
      clear HI HOR HR1 HR3
      go_upto_region 22 with fail
      go_wp2_with fail
      go_loopw [16, 108] (fun s16 s108 wr => ∃ (q : Nat) (mark : Int) (σ : Hps) (ε : Eps), q ≤ ms.length ∧ s108 = .int .i64 q ∧ s16 = .int .i64 mark ∧ (0 ≤ mark ∧ mark ≤ 8 * q) ∧ Hid (Nds σ ε j0 g0 ls.reverse mark) ∧
        Hid (One w wr (EpA eb ε :: HpA b eb σ :: [Blk gc (.cells #[.int .i64 j0, .int .i64 g0] 36), RowV a5 c5 ls]))) (fun _ s108 _ => ms.length - (intOf s108).toNat)
      case atStart => exact ⟨0, 0, σ, ep0, Nat.zero_le _, rfl, rfl, by omega, HNd0, HO⟩
      case round =>
        obtain ⟨q, mark, σ', ε, hq, rfl, rfl, hmk, HNd, HO1⟩ := hrel
        clear HNd0 HO
        by_cases hlt : q < ms.length
        · obtain ⟨x, hx⟩ : ∃ x, ms[q]? = some x := ⟨_, List.getElem?_eq_getElem hlt⟩
          obtain ⟨bs, os, rfl, hbs, hcc⟩ := (HR2.out.kn HO1.out.old).at hx
          have e0 : wr.cell? ⟨bs, os + q * 1, none⟩ = some (.int .u8 x) := hcc 0 (by decide)
          rw [Nat.mul_one] at e0
          have hxb := HSB.out.2 x (List.mem_of_getElem? hx)
          obtain ⟨y, ht8, hy8⟩ : ∃ y : Int, x.tmod 8 = y ∧ 0 ≤ y ∧ y ≤ 7 := ⟨x % 8, Int.tmod_eq_emod_of_nonneg hxb.1, by omega, by omega⟩
          have hqi : (q : Int) < (ms.length : Int) := by omega
          obtain ⟨c0, c1, _, _⟩ := cells2 (HO1.out.blk 2 rfl).1
          clear hcc hx hbs
          go_wp2_with (go_at_call 14; refine (prune_t (mark' := mark + y) HNd.out HF.out (by omega) HO1.out).mono ?_; rintro e5 w5 ⟨n5, cl5, σ5, ε5, rfl, hN5, ho5⟩; have HN5 := Lib.hid hN5; have HO5 := Lib.hid ho5; clear hN5 ho5)
          have hmk2 : 0 ≤ mark + y ∧ mark + y ≤ 8 * (q + 1) := by omega
          clear e0 ht8 HNd HO1 c0 c1 hxb
          generalize mark + y = mk at *
          go_loopw [22] (fun s22 wr => ∃ at' : Int, s22 = .int .i64 at' ∧ (mk ≤ at' ∧ at' ≤ 10000000) ∧ Hid (One w wr (EpA eb ε5 :: HpA b eb σ5 :: [Blk gc (.cells #[.int .i64 j0, .int .i64 g0] 36), RowV a5 c5 ls]))) (fun s22 _ => (ts + 2 - intOf s22).toNat)
          case atStart => exact ⟨mk, rfl, by omega, HO5⟩
          case round =>
            obtain ⟨at', rfl, hat, HO6⟩ := hrel
            clear HO5
            by_cases hle : at' ≤ ts + 1
            · go_upto_region 34 with fail
              have HO7 := Lib.hid (One.perm (One.alloc HO6.out (.cells #[.int .i64 0, .string ⟨#[]⟩, .bool false] 34)) (List.perm_append_comm (l₁ := [_]) (l₂ := [_, _, _, _])))
              clear HO6
              generalize wr.alloc (.cells #[.int .i64 0, .string ⟨#[]⟩, .bool false] 34) = w7 at *
              generalize wr.heap.size = gw at *
              go_wp2_with fail
              go_loopw [24, 136] (fun s24 s136 wr => ∃ (i : Nat) (r : Option Ve), i ≤ ls.length ∧ s136 = .int .i64 i ∧ s24 = .bool r.isSome ∧ Hid (r = (ls.take i).reverse.find? (fun x => decide (x.tS ≤ at'))) ∧
                Hid (One w wr (EpA eb ε5 :: HpA b eb σ5 :: [Blk gc (.cells #[.int .i64 j0, .int .i64 g0] 36), RowV a5 c5 ls, Blk gw (.cells #[.int .i64 (r.getD zV).tS, .string (r.getD zV).value, .bool (r.getD zV).del] 34)]))) (fun _ s136 _ => ls.length - (intOf s136).toNat)
              case atStart => exact ⟨0, none, Nat.zero_le _, rfl, rfl, Lib.hid rfl, HO7⟩
              case round =>
                obtain ⟨i, r, hi, rfl, rfl, HRr, HO8⟩ := hrel
                clear HO7
                by_cases hil : i < ls.length
                · obtain ⟨v, hv⟩ : ∃ v, ls[i]? = some v := ⟨_, List.getElem?_eq_getElem hil⟩
                  have hrl : Rl Ve.enc 3 wr (.slice a5 ls.length c5) ls := by
                    obtain ⟨F1, hr, _⟩ := HO8.out.get 3 rfl
                    exact Rl.of_row encV3 rfl hr
                  obtain ⟨a', cap', hvv, _, hrd⟩ := hrl
                  injection hvv with ea eb' ec
                  subst ea
                  clear eb' ec
                  obtain ⟨b5, o5, rfl, hb5, hcc⟩ := hrd.at hv
                  have f0 : wr.cell? ⟨b5, o5 + i * 3, none⟩ = some (.int .i64 v.tS) := hcc 0 (by decide)
                  have f1 : wr.cell? ⟨b5, o5 + i * 3 + 1, none⟩ = some (.string v.value) := hcc 1 (by decide)
                  have f2 : wr.cell? ⟨b5, o5 + i * 3 + 2, none⟩ = some (.bool v.del) := hcc 2 (by decide)
                  have hii : (i : Int) < (ls.length : Int) := by omega
                  have HT := Lib.hid (show (ls.take (i + 1)).reverse.find? (fun x => decide (x.tS ≤ at')) = if v.tS ≤ at' then some v else r by
                    rw [List.take_add_one, hv]
                    simp only [Option.toList_some, List.reverse_append, List.reverse_cons, List.reverse_nil, List.nil_append, List.singleton_append, List.find?_cons]
                    by_cases h : v.tS ≤ at'
                    · simp [h]
                    · simp [h]; exact HRr.out.symm)
                  clear hcc hrd hb5 hv
                  obtain ⟨vt, vv, vd⟩ := v
                  simp only at f0 f1 f2 HT
                  go_upto_region 37 with fail
                  have HO9 := Lib.hid (One.alloc HO8.out (.cells #[.int .i64 vt, .string vv, .bool vd] 34))
                  clear f0 f1 f2 HO8
                  generalize wr.alloc (.cells #[.int .i64 vt, .string vv, .bool vd] 34) = w9 at *
                  generalize wr.heap.size = g9 at *
                  obtain ⟨f0, f1, f2, _⟩ := cells3 (HO9.out.blk 0 rfl).1
                  by_cases hva : vt ≤ at'
                  · rw [if_pos hva] at HT
                    obtain ⟨x0, x1, x2, xf0, xf1, xf2⟩ := cells3 (HO9.out.blk 5 rfl).1
                    go_wp2_with fail
                    have HO10 := Lib.hid (One.drop (((HO9.out.setCA 5 rfl (j := 0) (.int .i64 vt)).setCA 5 rfl (j := 1) (.string vv)).setCA 5 rfl (j := 2) (.bool vd)))
                    go_roundw
                    case rel => exact ⟨i + 1, some ⟨vt, vv, vd⟩, by omega, by go_num, rfl, Lib.hid HT.out.symm, HO10⟩
                    case measure => simp [intOf]; omega
                  · rw [if_neg hva] at HT
                    have HO10 := Lib.hid (One.drop HO9.out)
                    go_wp2_with fail
                    go_roundw
                    case rel => exact ⟨i + 1, r, by omega, by go_num, rfl, Lib.hid HT.out.symm, HO10⟩
                    case measure => simp [intOf]; omega
                · obtain rfl : i = ls.length := by omega
                  rw [List.take_length] at HRr
                  have hii : ¬ (ls.length : Int) < (ls.length : Int) := by omega
                  obtain ⟨rr, hC, hr1, hr2⟩ := read_t HN5.out hat.1 HO8.out
                  have HC := Lib.hid hC
                  have hrc : (∃ v, rr = some v ∧ r = some v) ∨ (rr = none ∧ r = none) ∨ ∃ v, rr = none ∧ r = some v ∧ v.del = true := by
                    rw [HRr.out]
                    cases rr with
                    | some v => exact .inl ⟨v, rfl, hr1 v rfl⟩
                    | none =>
                      cases hf : ls.reverse.find? (fun x => decide (x.tS ≤ at')) with
                      | none => exact .inr (.inl ⟨rfl, rfl⟩)
                      | some v => exact .inr (.inr ⟨v, rfl, rfl, hr2 rfl v hf⟩)
                  clear hC hr1 hr2 HRr
                  obtain ⟨c0, c1, _, _⟩ := cells2 (HO8.out.blk 2 rfl).1
                  have hne := run_neq_ve
                  rcases hrc with ⟨v, rfl, rfl⟩ | ⟨rfl, rfl⟩ | ⟨v, rfl, rfl, hd⟩
                  · simp only [Option.getD_some, Option.isSome_some] at HC HO8
                    go_upto_region 41 with (go_at_call 15; refine HC.out.mono ?_; rintro e10 w10 ⟨rfl, ho⟩; have HO10 := Lib.hid (One.alloc ho (.cells #[.int .i64 v.tS, .string v.value, .bool v.del] 34)); clear ho)
                    generalize w10.alloc (.cells #[.int .i64 v.tS, .string v.value, .bool v.del] 34) = w11 at *
                    generalize w10.heap.size = g11 at *
                    obtain ⟨f0, f1, f2, _⟩ := cells3 (HO10.out.blk 0 rfl).1
                    obtain ⟨x0, x1, x2, _⟩ := cells3 (HO10.out.blk 5 rfl).1
                    go_wp2_with fail
                    go_roundw
                    case rel => exact ⟨at' + 1, by go_num, by omega, Lib.hid (One.drop ((One.drop HO10.out).perm (List.perm_append_comm (l₁ := [_, _, _, _]) (l₂ := [_]))))⟩
                    case measure => simp [intOf]; omega
                  · simp only [Option.getD_none, Option.isSome_none] at HC HO8
                    go_upto_region 41 with (go_at_call 15; refine HC.out.mono ?_; rintro e10 w10 ⟨rfl, ho⟩; have HO10 := Lib.hid (One.alloc ho (.cells #[.int .i64 0, .string ⟨#[]⟩, .bool false] 34)); clear ho)
                    generalize w10.alloc (.cells #[.int .i64 0, .string ⟨#[]⟩, .bool false] 34) = w11 at *
                    generalize w10.heap.size = g11 at *
                    obtain ⟨f0, f1, f2, _⟩ := cells3 (HO10.out.blk 0 rfl).1
                    obtain ⟨x0, x1, x2, _⟩ := cells3 (HO10.out.blk 5 rfl).1
                    go_wp2_with fail
                    go_roundw
                    case rel => exact ⟨at' + 1, by go_num, by omega, Lib.hid (One.drop ((One.drop HO10.out).perm (List.perm_append_comm (l₁ := [_, _, _, _]) (l₂ := [_]))))⟩
                    case measure => simp [intOf]; omega
                  · obtain ⟨vt, vv, vd⟩ := v
                    simp only at hd
                    subst hd
                    simp only [Option.getD_none, Option.isSome_none, Option.getD_some, Option.isSome_some] at HC HO8
                    go_upto_region 41 with (go_at_call 15; refine HC.out.mono ?_; rintro e10 w10 ⟨rfl, ho⟩; have HO10 := Lib.hid (One.alloc ho (.cells #[.int .i64 0, .string ⟨#[]⟩, .bool false] 34)); clear ho)
                    generalize w10.alloc (.cells #[.int .i64 0, .string ⟨#[]⟩, .bool false] 34) = w11 at *
                    generalize w10.heap.size = g11 at *
                    obtain ⟨f0, f1, f2, _⟩ := cells3 (HO10.out.blk 0 rfl).1
                    obtain ⟨x0, x1, x2, _⟩ := cells3 (HO10.out.blk 5 rfl).1
                    go_wp2_with fail
                    go_roundw
                    case rel => exact ⟨at' + 1, by go_num, by omega, Lib.hid (One.drop ((One.drop HO10.out).perm (List.perm_append_comm (l₁ := [_, _, _, _]) (l₂ := [_]))))⟩
                    case measure => simp [intOf]; omega
            · go_wp2_with fail
              go_roundw
              case rel => exact ⟨q + 1, mk, σ5, ε5, by omega, by go_num, rfl, by omega, HN5, HO6⟩
              case measure => simp [intOf]; omega
        · obtain rfl : q = ms.length := by omega
          have hqi : ¬ (ms.length : Int) < (ms.length : Int) := by omega
          have HC := Lib.hid (HO1.out.still (fun c d F1 hp => stale_h hp (by have := HNd.out.st; omega)))
          rw [HNd.out.st.1, HNd.out.st.2] at HC
          go_wp2_with (go_at_call 16; refine HC.out.mono ?_; rintro e9 w9 ⟨rfl, ho⟩)
          go_ret
          exact ⟨rfl, ho.old⟩
end Go.Proofs.Ytinejaganickpaa
