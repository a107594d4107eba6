/- DeltaOwn: its walk. -/
import Derived.Test.YtkdlodjpambelaaLiveD
import Derived.Test.YtkdlodjpambelaaSeesD
import Derived.Test.YtkdlodjpambelaaUndoP
import Derived.Test.YtkdlodjpambelaaApplyR
import Derived.Test.YtkdlodjpambelaaQuietB
namespace Go.Proofs.Ytkdlodjpambelaa
set_option linter.unusedVariables false
set_option linter.unusedSimpArgs false
open Go Go.RowKit Go.Sort

theorem cells_kp12 {w W : World} {b o : Nat} {v0 v1 v2 v3 v4 v5 v6 v7 v8 v9 v10 v11 : Value} (k : KN w W) (h : w.cell? ⟨b, o, none⟩ = some v0 ∧ w.cell? ⟨b, o + 1, none⟩ = some v1 ∧ w.cell? ⟨b, o + 2, none⟩ = some v2 ∧ w.cell? ⟨b, o + 3, none⟩ = some v3 ∧ w.cell? ⟨b, o + 4, none⟩ = some v4 ∧ w.cell? ⟨b, o + 5, none⟩ = some v5 ∧ w.cell? ⟨b, o + 6, none⟩ = some v6 ∧ w.cell? ⟨b, o + 7, none⟩ = some v7 ∧ w.cell? ⟨b, o + 8, none⟩ = some v8 ∧ w.cell? ⟨b, o + 9, none⟩ = some v9 ∧ w.cell? ⟨b, o + 10, none⟩ = some v10 ∧ w.cell? ⟨b, o + 11, none⟩ = some v11) : W.cell? ⟨b, o, none⟩ = some v0 ∧ W.cell? ⟨b, o + 1, none⟩ = some v1 ∧ W.cell? ⟨b, o + 2, none⟩ = some v2 ∧ W.cell? ⟨b, o + 3, none⟩ = some v3 ∧ W.cell? ⟨b, o + 4, none⟩ = some v4 ∧ W.cell? ⟨b, o + 5, none⟩ = some v5 ∧ W.cell? ⟨b, o + 6, none⟩ = some v6 ∧ W.cell? ⟨b, o + 7, none⟩ = some v7 ∧ W.cell? ⟨b, o + 8, none⟩ = some v8 ∧ W.cell? ⟨b, o + 9, none⟩ = some v9 ∧ W.cell? ⟨b, o + 10, none⟩ = some v10 ∧ W.cell? ⟨b, o + 11, none⟩ = some v11 :=
  let ⟨h0, h1, h2, h3, h4, h5, h6, h7, h8, h9, ha, hb⟩ := h
  ⟨cell_kp k id h0, cell_kp k id h1, cell_kp k id h2, cell_kp k id h3, cell_kp k id h4, cell_kp k id h5, cell_kp k id h6, cell_kp k id h7, cell_kp k id h8, cell_kp k id h9, cell_kp k id ha, cell_kp k id hb⟩
set_option maxHeartbeats 8000000 in
set_option maxRecDepth 100000 in
theorem own_walk (p : Pg) (ds : List Dl) (w : World) {v u : Value} (hr : Rl En.enc 4 w v p.list) (hd : RlD w u ds) (hl : p.list.length ≤ 1048576) (hs : sumD ds ≤ 1099512676352) (hn : ds.length ≤ 1048576) (hm : ∀ d ∈ ds, d.right.list.length ≤ 1048576) : Calls Try.prog 7 #[pgv p v, u] w fun e w' => e = .returned (.bool true) ∧ KN w w' := by
  have hb : (p.list.length + sumD ds) * 40 ≤ 140737488355328 := Nat.le_trans (Nat.mul_le_mul_right 40 (show _ ≤ 1099513724928 by omega)) (by decide)
  obtain ⟨ua, uc, rfl, huc⟩ := hd.form
  have HW := Lib.hid (fun W (k : KN w W) => clone_ref p W (hr.kn k) (by unfold maxLen; omega) (by omega))
  have HFo := Lib.hid (fun W (k : KN w W) => fold_delta p ds W (hr.kn k) (hd.kn k) hb)
  have HAp := Lib.hid (fun W d u (k : KN w W) (hm : d.right.list.length ≤ 1048576) (hu : Rl En.enc 4 W u d.right.list) => apply1_delta p d W (hr.kn k) hu (Nat.le_trans (Nat.mul_le_mul_right 40 (show _ ≤ 2097153 by omega)) (by decide)))
  have HSp := Lib.hid (fun W x (k : KN w W) (hx : Rl En.enc 4 W x p.list) => (sameP_iff (p := p) (q := p)).2 rfl ▸ same_ref p p W (hr.kn k) hx (by unfold maxLen; omega))
  have HD := Lib.hid hd
  have HM := Lib.hid hm
  have hql := foldD_len p ds
  obtain ⟨⟨⟨qf, qlo, qh, qr, ql⟩, qc⟩, hq⟩ : ∃ x, foldD p ds = x := ⟨_, rfl⟩
  rw [hq] at HFo hql
  simp only at hql
  have hqn : ql.length ≤ 1099513724928 := by omega
  clear hq hd hm hb hql
  obtain ⟨a0, c0, rfl, hc0, hrd⟩ := hr
  clear hrd
  unfold GavePE at HFo
  simp only at HFo
  have HO := Lib.hid ((One.nil w).alloc (.cells #[.bool p.leaf, .string p.low, .string p.high, .int .i64 p.right, .slice a0 p.list.length c0] 24))
  go_enter Try.func7, Try.ntmps7
  obtain ⟨x0, x1, x2, x3, x4, xf⟩ := cells5 (HO.out.blk 0 rfl).1
  go_wp2_with fail
  refine (HW.out _ HO.out.old).mono ?_
  rintro e w1 ⟨aw, cw, rfl, k1⟩
  have HO1 := Lib.hid (HO.out.add k1)
  clear k1 HO x0 x1 x2 x3 x4 xf
  go_upto_region 2 with fail
  have HO2 := Lib.hid (((HO1.out.alloc (.cells #[.bool p.leaf, .string p.low, .string p.high, .int .i64 p.right, .slice aw p.list.length cw] 24)).nilRow 30 12).add (sees_nil _))
  generalize w1.alloc (.cells #[.bool p.leaf, .string p.low, .string p.high, .int .i64 p.right, .slice aw p.list.length cw] 24) = w2 at *
  generalize w1.heap.size = g5 at *
  go_wp2_with fail
  go_loopw [6, 23] (fun s6 s23 wr => ∃ (k : Nat) (xs : List (Dl × Option Addr × Nat)) (a : Option Addr) (c : Nat), k ≤ ds.length ∧ s23 = .int .i64 k ∧ s6 = .slice a xs.length c ∧ Hid (xs.map (·.1) = ds.take k) ∧ Hid (One w wr [Sees (ListsOk xs), RowD a c xs, Blk g5 (.cells #[.bool p.leaf, .string p.low, .string p.high, .int .i64 p.right, .slice aw p.list.length cw] 24), RowE aw cw p.list, Blk w.heap.size (.cells #[.bool p.leaf, .string p.low, .string p.high, .int .i64 p.right, .slice a0 p.list.length c0] 24)])) (fun _ s23 _ => ds.length - (intOf s23).toNat)
  case atStart => exact ⟨0, [], none, 0, Nat.zero_le _, rfl, rfl, Lib.hid (by simp), HO2⟩
  case round =>
    obtain ⟨k, xs, a, c, hk, rfl, rfl, HX, HY⟩ := hrel
    have HXL := Lib.hid (show xs.length = k from by have := congrArg List.length HX.out; rw [List.length_map, List.length_take] at this; omega)
    by_cases hlt : k < ds.length
    · obtain ⟨d, hd⟩ : ∃ d, ds[k]? = some d := ⟨_, List.getElem?_eq_getElem hlt⟩
      have hz : (k : Int) < (ds.length : Int) := by omega
      have hdm := HM.out d (List.mem_of_getElem? hd)
      obtain ⟨b, off, va, vn, vc, hab, _, hrd, d0, d1, d2, d3, d4, d5, d6, d7, d8, d9, da, db⟩ := (HD.out.kn HY.out.old).at hd
      cases hab
      have HXn := Lib.hid (show ∀ x : Dl × Option Addr × Nat, x.1 = d → (xs ++ [x]).map (·.1) = ds.take (k + 1) from fun x hx => by rw [List.map_append, HX.out, List.take_add_one, hd]; simp [hx])
      have HE := Lib.hid (HY.out.alloc (.cells #[.int .i64 d.kind, .string d.entry.key, .int .i64 d.entry.ref.slot, .int .i64 d.entry.ref.gen, .int .i64 d.entry.child, .string d.key, .int .i64 d.page, .bool d.right.leaf, .string d.right.low, .string d.right.high, .int .i64 d.right.right, .slice va vn vc] 30))
      have HCl := Lib.hid (clone_dref d (wr.alloc (.cells #[.int .i64 d.kind, .string d.entry.key, .int .i64 d.entry.ref.slot, .int .i64 d.entry.ref.gen, .int .i64 d.entry.child, .string d.key, .int .i64 d.page, .bool d.right.leaf, .string d.right.low, .string d.right.high, .int .i64 d.right.right, .slice va vn vc] 30)) (hrd.kn (kn_alloc _ _)) (by unfold maxLen; omega) (by omega))
      unfold GaveD dlv at HCl
      clear hd hrd
      go_wp2_with fail
      refine HCl.out.mono ?_
      rintro e w3 ⟨aN, cN, rfl, k3⟩
      have HE2 := Lib.hid ((HE.out.add k3).alloc (.cells (([(d, aN, cN)] : List (Dl × Option Addr × Nat)).flatMap dlx).toArray 30))
      have hl1 : xs.length + 1 ≤ 1048576 := by have := HXL.out; omega
      clear k3 HE HCl d0 d1 d2 d3 d4 d5 d6 d7 d8 d9 da db
      go_wp2_with (at_builtin; refine wpList_appL (l := [(d, aN, cN)]) 31 rfl rfl rfl rfl elt_Dl HE2.out 4 rfl rfl rfl dlx_len (rl_blkG dlx_len (HE2.out.blk 0 rfl).1 rfl rfl (by decide)) dlx_one (Nat.le_trans hl1 (by decide)) (Nat.le_trans (Nat.mul_le_mul_right 144 hl1) (by decide)) ?_; intro a1 c1 w4 ho; rw [← List.flatMap_append, ← List.length_append] at ho; rw [← List.length_append]; have HE3 := Lib.hid ho; clear ho)
      go_roundw
      case rel => exact ⟨k + 1, xs ++ [(d, aN, cN)], a1, c1, by omega, by go_num, by rw [List.length_append]; rfl, Lib.hid (HXn.out _ rfl), Lib.hid (HE3.out.drop.drop2.seeMore)⟩
      case measure => simp [intOf]; omega
    · obtain rfl : k = ds.length := by omega
      rw [List.take_length] at HX
      have HP := Lib.hid HY.out.seeAll
      obtain ⟨ao, hao⟩ : ∃ x, a = x := ⟨_, rfl⟩
      obtain ⟨co, hco⟩ : ∃ x, c = x := ⟨_, rfl⟩
      cases hao
      cases hco
      clear HY HO2
      obtain ⟨x0, x1, x2, x3, x4, xf⟩ := cells5 (HP.out.blk 3 rfl).1
      go_wp2_with fail
      refine (HFo.out _ HP.out.old).mono ?_
      rintro e w5 ⟨a5, c5, rfl, k5⟩
      have HQ := Lib.hid (HP.out.add k5)
      clear k5 HP x0 x1 x2 x3 x4 xf
      go_upto_region 9 with fail
      have HQ2 := Lib.hid (HQ.out.alloc (.cells #[.bool qf, .string qlo, .string qh, .int .i64 qr, .slice a5 ql.length c5] 24))
      clear HQ
      generalize w5.alloc (.cells #[.bool qf, .string qlo, .string qh, .int .i64 qr, .slice a5 ql.length c5] 24) = w6 at *
      generalize w5.heap.size = g9 at *
      obtain ⟨x0, x1, x2, x3, x4, xf⟩ := cells5 (HQ2.out.blk 0 rfl).1
      go_wp2_with fail
      clear x0 x1 x2 x3 x4 xf
      go_loopw [42] (fun s wr => ∃ (j : Nat) (l' : List En), j ≤ ql.length ∧ s = .int .i64 j ∧ Hid (One w wr [Blk g9 (.cells #[.bool qf, .string qlo, .string qh, .int .i64 qr, .slice a5 ql.length c5] 24), RowA 28 4 (.slice a5 ql.length c5) ql.length (l'.flatMap En.enc), Sees (fun W => RlD W (.slice a xs.length c) (xs.map (·.1))), Blk g5 (.cells #[.bool p.leaf, .string p.low, .string p.high, .int .i64 p.right, .slice aw p.list.length cw] 24), RowE aw cw p.list, Blk w.heap.size (.cells #[.bool p.leaf, .string p.low, .string p.high, .int .i64 p.right, .slice a0 p.list.length c0] 24)])) (fun s _ => ql.length - (intOf s).toNat)
      case atStart => exact ⟨0, ql, Nat.zero_le _, rfl, HQ2⟩
      case round =>
        obtain ⟨jA, lA, hjA, rfl, HYA⟩ := hrel
        obtain ⟨x0, x1, x2, x3, x4, xf⟩ := cells5 (HYA.out.blk 0 rfl).1
        by_cases hltA : jA < ql.length
        · have hzA : (jA : Int) < (ql.length : Int) := by omega
          obtain ⟨bA, oA, kA, habA, hcA, hfA, l2A, honeA⟩ := HYA.out.key 1 rfl hltA ⟨#[115, 112, 111, 105, 108, 116]⟩
          cases habA
          have HZA := Lib.hid honeA
          clear honeA
          go_wp2_with fail
          go_roundw
          case rel => exact ⟨jA + 1, l2A, by omega, by go_num, HZA⟩
          case measure => simp [intOf]; omega
        · obtain rfl : jA = ql.length := by omega
          have HR := Lib.hid HYA.out.drop.drop
          clear HYA HQ2 x0 x1 x2 x3 x4 xf
          go_wp2_with fail
          go_loopw [53] (fun s wr => ∃ k : Nat, k ≤ ds.length ∧ s = .int .i64 k ∧ Hid (One w wr [Sees (fun W => RlD W (.slice a xs.length c) (xs.map (·.1))), Blk g5 (.cells #[.bool p.leaf, .string p.low, .string p.high, .int .i64 p.right, .slice aw p.list.length cw] 24), RowE aw cw p.list, Blk w.heap.size (.cells #[.bool p.leaf, .string p.low, .string p.high, .int .i64 p.right, .slice a0 p.list.length c0] 24)])) (fun s _ => ds.length - (intOf s).toNat)
          case atStart => exact ⟨0, Nat.zero_le _, rfl, HR⟩
          case round =>
            obtain ⟨k, hk, rfl, HY⟩ := hrel
            by_cases hlt : k < ds.length
            · obtain ⟨d, hd⟩ : ∃ d, ds[k]? = some d := ⟨_, List.getElem?_eq_getElem hlt⟩
              have hz : (k : Int) < (ds.length : Int) := by omega
              have hdm := HM.out d (List.mem_of_getElem? hd)
              obtain ⟨b, off, va, vn, vc, hab, _, hrd, hce⟩ := HD.out.at hd
              cases hab
              have HCE := Lib.hid hce
              have HRD := Lib.hid hrd
              obtain ⟨d0, d1, d2, d3, d4, d5, d6, d7, d8, d9, da, db⟩ := cells_kp12 HY.out.old hce
              have HE := Lib.hid (HY.out.alloc (.cells #[.int .i64 d.kind, .string d.entry.key, .int .i64 d.entry.ref.slot, .int .i64 d.entry.ref.gen, .int .i64 d.entry.child, .string d.key, .int .i64 d.page, .bool d.right.leaf, .string d.right.low, .string d.right.high, .int .i64 d.right.right, .slice va vn vc] 30))
              have HRd := Lib.hid (hrd.kn (HY.out.old.then (kn_alloc wr (.cells #[.int .i64 d.kind, .string d.entry.key, .int .i64 d.entry.ref.slot, .int .i64 d.entry.ref.gen, .int .i64 d.entry.child, .string d.key, .int .i64 d.page, .bool d.right.leaf, .string d.right.low, .string d.right.high, .int .i64 d.right.right, .slice va vn vc] 30)) (fun _ h => h.elim)))
              have HK := Lib.hid hd
              obtain ⟨⟨⟨yf, ylo, yh, yr, yl⟩, yc⟩, hy⟩ : ∃ x, applyD p d = x := ⟨_, rfl⟩
              have HAd := Lib.hid (fun W k' hu => hy ▸ HAp.out W d (.slice va vn vc) k' hdm hu)
              have hyl : yl.length ≤ 2097153 := by
                have h := applyD_len p d
                rw [hy] at h
                simp only at h
                omega
              unfold GavePE dlv at HAd
              simp only at HAd
              clear hd hrd hce hy
              go_upto_region 17 with fail
              clear d0 d1 d2 d3 d4 d5 d6 d7 d8 d9 da db HY
              generalize wr.alloc (.cells #[.int .i64 d.kind, .string d.entry.key, .int .i64 d.entry.ref.slot, .int .i64 d.entry.ref.gen, .int .i64 d.entry.child, .string d.key, .int .i64 d.page, .bool d.right.leaf, .string d.right.low, .string d.right.high, .int .i64 d.right.right, .slice va vn vc] 30) = w7 at *
              generalize wr.heap.size = g13 at *
              have HCl := Lib.hid (clone_delta d w7 HRd.out (by unfold maxLen; omega) (by omega))
              unfold GaveD dlv at HCl
              obtain ⟨d0, d1, d2, d3, d4, d5, d6, d7, d8, d9, da, db, df⟩ := cells12 (HE.out.blk 0 rfl).1
              go_wp2_with fail
              refine HCl.out.mono ?_
              rintro e w8 ⟨aC, cC, rfl, k8⟩
              have HE2 := Lib.hid (HE.out.add k8)
              have HRd2 := Lib.hid (HRd.out.kn k8.knf)
              clear k8 HE HRd HCl d0 d1 d2 d3 d4 d5 d6 d7 d8 d9 da db df
              go_upto_region 18 with fail
              have HE3 := Lib.hid (HE2.out.alloc (.cells #[.int .i64 d.kind, .string d.entry.key, .int .i64 d.entry.ref.slot, .int .i64 d.entry.ref.gen, .int .i64 d.entry.child, .string d.key, .int .i64 d.page, .bool d.right.leaf, .string d.right.low, .string d.right.high, .int .i64 d.right.right, .slice aC d.right.list.length cC] 30))
              have HRd3 := Lib.hid (HRd2.out.kn (kn_alloc w8 (.cells #[.int .i64 d.kind, .string d.entry.key, .int .i64 d.entry.ref.slot, .int .i64 d.entry.ref.gen, .int .i64 d.entry.child, .string d.key, .int .i64 d.page, .bool d.right.leaf, .string d.right.low, .string d.right.high, .int .i64 d.right.right, .slice aC d.right.list.length cC] 30)))
              clear HE2 HRd2
              generalize w8.alloc (.cells #[.int .i64 d.kind, .string d.entry.key, .int .i64 d.entry.ref.slot, .int .i64 d.entry.ref.gen, .int .i64 d.entry.child, .string d.key, .int .i64 d.page, .bool d.right.leaf, .string d.right.low, .string d.right.high, .int .i64 d.right.right, .slice aC d.right.list.length cC] 30) = w9 at *
              generalize w8.heap.size = g14 at *
              obtain ⟨d0, d1, d2, d3, d4, d5, d6, d7, d8, d9, da, db, df⟩ := cells12 (HE3.out.blk 0 rfl).1
              go_wp2_with fail
              clear d0 d1 d2 d3 d4 d5 d6 d7 d8 d9 da db df
              go_loopw [64] (fun s wr => ∃ (j : Nat) (l' : List En), j ≤ d.right.list.length ∧ s = .int .i64 j ∧ Hid (One w wr [Blk g14 (.cells #[.int .i64 d.kind, .string d.entry.key, .int .i64 d.entry.ref.slot, .int .i64 d.entry.ref.gen, .int .i64 d.entry.child, .string d.key, .int .i64 d.page, .bool d.right.leaf, .string d.right.low, .string d.right.high, .int .i64 d.right.right, .slice aC d.right.list.length cC] 30), RowA 28 4 (.slice aC d.right.list.length cC) d.right.list.length (l'.flatMap En.enc), Blk g13 (.cells #[.int .i64 d.kind, .string d.entry.key, .int .i64 d.entry.ref.slot, .int .i64 d.entry.ref.gen, .int .i64 d.entry.child, .string d.key, .int .i64 d.page, .bool d.right.leaf, .string d.right.low, .string d.right.high, .int .i64 d.right.right, .slice va vn vc] 30), Sees (fun W => RlD W (.slice a xs.length c) (xs.map (·.1))), Blk g5 (.cells #[.bool p.leaf, .string p.low, .string p.high, .int .i64 p.right, .slice aw p.list.length cw] 24), RowE aw cw p.list, Blk w.heap.size (.cells #[.bool p.leaf, .string p.low, .string p.high, .int .i64 p.right, .slice a0 p.list.length c0] 24)])) (fun s _ => d.right.list.length - (intOf s).toNat)
              case atStart => exact ⟨0, d.right.list, Nat.zero_le _, rfl, HE3⟩
              case round =>
                obtain ⟨jB, lB, hjB, rfl, HYB⟩ := hrel
                obtain ⟨d0, d1, d2, d3, d4, d5, d6, d7, d8, d9, da, db, df⟩ := cells12 (HYB.out.blk 0 rfl).1
                by_cases hltB : jB < d.right.list.length
                · have hzB : (jB : Int) < (d.right.list.length : Int) := by omega
                  obtain ⟨bB, oB, kB, habB, hcB, hfB, l2B, honeB⟩ := HYB.out.key 1 rfl hltB ⟨#[115, 112, 111, 105, 108, 116]⟩
                  cases habB
                  have HZB := Lib.hid honeB
                  clear honeB
                  go_wp2_with fail
                  go_roundw
                  case rel => exact ⟨jB + 1, l2B, by omega, by go_num, HZB⟩
                  case measure => simp [intOf]; omega
                · obtain rfl : jB = d.right.list.length := by omega
                  have HF := Lib.hid HYB.out.drop.drop
                  clear HYB d0 d1 d2 d3 d4 d5 d6 d7 d8 d9 da db df
                  obtain ⟨d0, d1, d2, d3, d4, d5, d6, d7, d8, d9, da, db, df⟩ := cells12 (HF.out.blk 0 rfl).1
                  obtain ⟨x0, x1, x2, x3, x4, xf⟩ := cells5 (HF.out.blk 4 rfl).1
                  go_wp2_with fail
                  refine (HAd.out _ HF.out.old (HRD.out.kn HF.out.old)).mono ?_
                  rintro e wE ⟨aE, cE, rfl, kE⟩
                  have HG := Lib.hid (HF.out.add kE)
                  clear kE HF d0 d1 d2 d3 d4 d5 d6 d7 d8 d9 da db df x0 x1 x2 x3 x4 xf
                  go_upto_region 24 with fail
                  have HG2 := Lib.hid (HG.out.alloc (.cells #[.bool yf, .string ylo, .string yh, .int .i64 yr, .slice aE yl.length cE] 24))
                  clear HG
                  generalize wE.alloc (.cells #[.bool yf, .string ylo, .string yh, .int .i64 yr, .slice aE yl.length cE] 24) = wG at *
                  generalize wE.heap.size = g16 at *
                  obtain ⟨x0, x1, x2, x3, x4, xf⟩ := cells5 (HG2.out.blk 0 rfl).1
                  go_wp2_with fail
                  clear x0 x1 x2 x3 x4 xf
                  go_loopw [83] (fun s wr => ∃ (j : Nat) (l' : List En), j ≤ yl.length ∧ s = .int .i64 j ∧ Hid (One w wr [Blk g16 (.cells #[.bool yf, .string ylo, .string yh, .int .i64 yr, .slice aE yl.length cE] 24), RowA 28 4 (.slice aE yl.length cE) yl.length (l'.flatMap En.enc), Blk g13 (.cells #[.int .i64 d.kind, .string d.entry.key, .int .i64 d.entry.ref.slot, .int .i64 d.entry.ref.gen, .int .i64 d.entry.child, .string d.key, .int .i64 d.page, .bool d.right.leaf, .string d.right.low, .string d.right.high, .int .i64 d.right.right, .slice va vn vc] 30), Sees (fun W => RlD W (.slice a xs.length c) (xs.map (·.1))), Blk g5 (.cells #[.bool p.leaf, .string p.low, .string p.high, .int .i64 p.right, .slice aw p.list.length cw] 24), RowE aw cw p.list, Blk w.heap.size (.cells #[.bool p.leaf, .string p.low, .string p.high, .int .i64 p.right, .slice a0 p.list.length c0] 24)])) (fun s _ => yl.length - (intOf s).toNat)
                  case atStart => exact ⟨0, yl, Nat.zero_le _, rfl, HG2⟩
                  case round =>
                    obtain ⟨jC, lC, hjC, rfl, HYC⟩ := hrel
                    obtain ⟨x0, x1, x2, x3, x4, xf⟩ := cells5 (HYC.out.blk 0 rfl).1
                    by_cases hltC : jC < yl.length
                    · have hzC : (jC : Int) < (yl.length : Int) := by omega
                      obtain ⟨bC, oC, kC, habC, hcC, hfC, l2C, honeC⟩ := HYC.out.key 1 rfl hltC ⟨#[115, 112, 111, 105, 108, 116]⟩
                      cases habC
                      have HZC := Lib.hid honeC
                      clear honeC
                      go_wp2_with fail
                      go_roundw
                      case rel => exact ⟨jC + 1, l2C, by omega, by go_num, HZC⟩
                      case measure => simp [intOf]; omega
                    · obtain rfl : jC = yl.length := by omega
                      have HF := Lib.hid HYC.out.drop.drop.drop
                      clear HYC x0 x1 x2 x3 x4 xf
                      go_upto_region 29 with fail
                      have HW0 := Lib.hid (cells_kp12 HF.out.old HCE.out)
                      have hk2 : (xs.map (·.1))[k]? = some d := by rw [HX.out]; exact HK.out
                      have hz2 : (k : Int) < (xs.length : Int) := by
                        have := congrArg List.length HX.out
                        rw [List.length_map] at this
                        omega
                      obtain ⟨b2, o2, va2, vn2, vc2, hab2, _, hrd2, hcf⟩ := (HF.out.see 0 rfl).at hk2
                      cases hab2
                      obtain ⟨d0, d1, d2, d3, d4, d5, d6, d7, d8, d9, da, db⟩ := HW0.out
                      obtain ⟨f0, f1, f2, f3, f4, f5, f6, f7, f8, f9, fa, fb⟩ := hcf
                      have HRa := Lib.hid (HRD.out.kn HF.out.old)
                      have HRb := Lib.hid hrd2
                      clear hk2 hrd2
                      have q0 := cell_regrown d0
                      have q1 := cell_regrown d1
                      have q2 := cell_regrown d2
                      have q3 := cell_regrown d3
                      have q4 := cell_regrown d4
                      have q5 := cell_regrown d5
                      have q6 := cell_regrown d6
                      have q7 := cell_regrown d7
                      have q8 := cell_regrown d8
                      have q9 := cell_regrown d9
                      have q10 := cell_regrown da
                      have q11 := cell_regrown db
                      have r0 := cell_regrown f0
                      have r1 := cell_regrown f1
                      have r2 := cell_regrown f2
                      have r3 := cell_regrown f3
                      have r4 := cell_regrown f4
                      have r5 := cell_regrown f5
                      have r6 := cell_regrown f6
                      have r7 := cell_regrown f7
                      have r8 := cell_regrown f8
                      have r9 := cell_regrown f9
                      have r10 := cell_regrown fa
                      have r11 := cell_regrown fb
                      have cS : ∀ dd os, Calls Try.prog 21 #[.agg #[.int .i64 d.kind, .string d.entry.key, .int .i64 d.entry.ref.slot, .int .i64 d.entry.ref.gen, .int .i64 d.entry.child, .string d.key, .int .i64 d.page, .bool d.right.leaf, .string d.right.low, .string d.right.high, .int .i64 d.right.right, .slice va vn vc], .agg #[.int .i64 d.kind, .string d.entry.key, .int .i64 d.entry.ref.slot, .int .i64 d.entry.ref.gen, .int .i64 d.entry.child, .string d.key, .int .i64 d.page, .bool d.right.leaf, .string d.right.low, .string d.right.high, .int .i64 d.right.right, .slice va2 vn2 vc2]] (grow (redrawn wr dd) os) fun e w'' => e = .returned (.bool true) ∧ ∃ p : Regrown, w'' = grow (redrawn wr p.d) p.os := fun dd os => quiet_kn ((sameD_iff (a := d) (b := d)).2 rfl ▸ same_dref d d _ (HRa.out.kn (kn_regrown wr dd os)) (HRb.out.kn (kn_regrown wr dd os)) (by unfold maxLen; omega))
                      clear d0 d1 d2 d3 d4 d5 d6 d7 d8 d9 da db f0 f1 f2 f3 f4 f5 f6 f7 f8 f9 fa fb
                      refine wp_region_quiet_below (by kernel_rfl) (by kernel_rfl) ?_
                      repeat (go_big_quiet_step (first | (go_at_call 21; with_reducible exact cS _ _)))
                      refine wpQuiet_nil ?_
                      intro _ hw'
                      obtain ⟨⟨dq, osq⟩, hw''⟩ := hw'
                      subst hw''
                      have HH := Lib.hid (HF.out.kn (kn_regrown wr dq osq))
                      clear cS HF HW0 HRa HRb q0 r0 q1 r1 q2 r2 q3 r3 q4 r4 q5 r5 q6 r6 q7 r7 q8 r8 q9 r9 q10 r10 q11 r11
                      generalize grow (redrawn wr dq) osq = wz at *
                      go_wp2_with fail
                      go_roundw
                      case rel => exact ⟨k + 1, by omega, by go_num, HH⟩
                      case measure => simp [intOf]; omega
            · obtain rfl : k = ds.length := by omega
              obtain ⟨x0, x1, x2, x3, x4, xf⟩ := cells5 (HY.out.blk 1 rfl).1
              obtain ⟨y0, y1, y2, y3, y4, yf⟩ := cells5 (HY.out.blk 3 rfl).1
              go_wp2_with fail
              refine (live_true _).mono ?_
              rintro e wY ⟨rfl, kY⟩
              have HZ := Lib.hid (HY.out.kn kY)
              clear kY HY x0 x1 x2 x3 x4 xf y0 y1 y2 y3 y4 yf
              obtain ⟨x0, x1, x2, x3, x4, xf⟩ := cells5 (HZ.out.blk 1 rfl).1
              obtain ⟨y0, y1, y2, y3, y4, yf⟩ := cells5 (HZ.out.blk 3 rfl).1
              go_wp2_with fail
              refine (HSp.out _ _ HZ.out.old (HZ.out.rlE 2 rfl)).mono ?_
              rintro e wX ⟨rfl, kX⟩
              have HE := Lib.hid (HZ.out.kn kX)
              clear kX HZ x0 x1 x2 x3 x4 xf y0 y1 y2 y3 y4 yf
              go_wp2
              go_ret
              exact ⟨rfl, HE.out.old⟩
end Go.Proofs.Ytkdlodjpambelaa
