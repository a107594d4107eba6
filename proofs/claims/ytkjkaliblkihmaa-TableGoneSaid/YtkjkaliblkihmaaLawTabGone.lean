/- TableGone: its walk. -/
import Derived.Test.YtkjkaliblkihmaaGoneLaw
import Derived.Test.YtkjkaliblkihmaaTypesTab
import Derived.Deep.DeepCutAuto
import Derived.Deep.RegionHeld3
import Derived.Deep.CutBlock
namespace Go.Proofs.Ytkjkaliblkihmaa
set_option linter.unusedVariables false
set_option linter.unusedSimpArgs false
open Go Go.RowKit

abbrev iv (a : Int) : Value := .int .i64 a
abbrev bv (a : Bool) : Value := .bool a
theorem K3 : KeyT Try.prog 3 iv := keyT_int Try.underlying3
theorem zeroH (w : World) : (zeroValue 23).run Try.prog w = .ok (hv (0, 0)) w := by kernel_rfl
theorem zeroB (w : World) : (zeroValue 4).run Try.prog w = .ok (.bool false) w := by kernel_rfl
def Op10.wasp (o : Op10) : Int × Int := (o.was.slot, o.was.gen)
def Op10.isp (o : Op10) : Int × Int := (o.is_.slot, o.is_.gen)
abbrev opB (d p : Int) (was is : Int × Int) : Obj := .cells #[.int .i64 d, .int .i64 p, .int .i64 was.1, .int .i64 was.2, .int .i64 is.1, .int .i64 is.2] 40
theorem op_cells {w w' : World} {g : Nat} {d pg : Int} {was is : Int × Int} {l : List Asr} (h : One w w' (Blk g (opB d pg was is) :: l)) : (w'.cell? ⟨g, 0, none⟩ = some (.int .i64 d) ∧ w'.cell? ⟨g, 1, none⟩ = some (.int .i64 pg)) ∧ (w'.cell? ⟨g, 2, none⟩ = some (.int .i64 was.1) ∧ w'.cell? ⟨g, 3, none⟩ = some (.int .i64 was.2)) ∧ w'.cell? ⟨g, 4, none⟩ = some (.int .i64 is.1) ∧ w'.cell? ⟨g, 5, none⟩ = some (.int .i64 is.2) := by
  have hb := (h.blk 0 rfl).1
  exact ⟨⟨cell_blk hb rfl, cell_blk hb rfl⟩, ⟨cell_blk hb rfl, cell_blk hb rfl⟩, cell_blk hb rfl, cell_blk hb rfl⟩
theorem rd_op10 {w : World} {a : Option Addr} {l : List Op10} (h : Rd Op10.enc 6 w a l) {k : Nat} {o : Op10} (hx : l[k]? = some o) :
    ∃ b off, a = some ⟨b, off, none⟩ ∧ b < w.heap.size ∧ (w.cell? ⟨b, off + k * 6, none⟩ = some (.int .i64 o.do_) ∧ w.cell? ⟨b, off + k * 6 + 1, none⟩ = some (.int .i64 o.page)) ∧
      (w.cell? ⟨b, off + k * 6 + 2, none⟩ = some (.int .i64 o.wasp.1) ∧ w.cell? ⟨b, off + k * 6 + 3, none⟩ = some (.int .i64 o.wasp.2)) ∧ w.cell? ⟨b, off + k * 6 + 4, none⟩ = some (.int .i64 o.isp.1) ∧ w.cell? ⟨b, off + k * 6 + 5, none⟩ = some (.int .i64 o.isp.2) := by
  rcases h with h0 | ⟨b, off, ha, hb, hc⟩
  · rw [h0] at hx; cases hx
  · exact ⟨b, off, ha, hb, ⟨hc k o hx 0 (by decide), hc k o hx 1 (by decide)⟩, ⟨hc k o hx 2 (by decide), hc k o hx 3 (by decide)⟩, hc k o hx 4 (by decide), hc k o hx 5 (by decide)⟩

set_option maxRecDepth 100000 in
set_option maxHeartbeats 4000000 in
theorem gone_walk (pages : Int) (a : Option Addr) (cap : Nat) (l : List Op10) (w : World) (hp : 0 ≤ pages ∧ pages < 256) (hl : l.length ≤ maxLen) (hr : Rd Op10.enc 6 w a l) :
    Calls Try.prog 4 #[.int .u8 pages, .slice a l.length cap] w fun e w' => e = .returned (.bool true) ∧ KN w w' := by
  unfold maxLen at hl
  have HR := Lib.hid hr
  clear hr
  obtain ⟨n, hn, hn1, hn2⟩ : ∃ n : Nat, pages % 12 + 1 = n ∧ 1 ≤ n ∧ n ≤ 12 := ⟨(pages % 12 + 1).toNat, by omega, by omega, by omega⟩
  have hnr : pages.tmod 12 = (n : Int) - 1 := by rw [Int.tmod_eq_emod_of_nonneg hp.1]; omega
  go_enter Try.func4, Try.ntmps4
  go_wp2_with fail
  refine (tab_new n hn1 (by omega) _).mono ?_
  rintro e w1 ⟨t, rfl, hp1⟩
  have HO := Lib.hid ((One.nil w).add hp1)
  clear hp1 hn hnr hp
  go_wp2_with fail
  refine (begun_true _).mono ?_
  rintro e w2 ⟨rfl, hk⟩
  have HO2 := Lib.hid (HO.out.kn hk)
  clear HO hk
  have hmm : ∀ t w, (Instr.makeMap t none).run Try.prog w = .ok (.map (some w.heap.size)) (w.alloc (.map #[] 0)) := fun t w => run_makeMap t w
  go_upto_region 7 with fail
  clear hmm
  have e2 : (w2.alloc (.map #[] 0)).heap.size = w2.heap.size + 1 := by simp
  have HO3 := Lib.hid (show One w ((w2.alloc (.map #[] 0)).alloc (.map #[] 0)) [MapA iv hv (w2.heap.size + 1) [], MapA iv bv w2.heap.size [], Tab t (List.replicate n (0, (0, 0))) 0] by
    have := (HO2.out.add (post_map iv bv w2)).add (post_map iv hv _)
    rw [e2] at this
    exact this)
  clear HO2 e2
  generalize (w2.alloc (.map #[] 0)).alloc (.map #[] 0) = w3 at *
  generalize w2.heap.size = gb at *
  go_wp2_with fail
  go_loopw [50] (fun i wr => ∃ (k : Nat) (aps : List AP) (L : List (Int × (Int × Int))) (G : List (Int × Bool)) (x : Int), k ≤ l.length ∧ i = .int .i64 k ∧ Hid (GoneRel n aps L G) ∧
    Hid (One w wr [MapA iv hv (gb + 1) L, MapA iv bv gb G, Tab t aps x])) (fun i _ => l.length - (intOf i).toNat)
  case atStart => exact ⟨0, _, _, _, _, Nat.zero_le _, rfl, Lib.hid (GoneRel.new n), HO3⟩
  case round =>
    obtain ⟨k, aps, L, G, x, hk, rfl, HG, HO⟩ := hrel
    clear HO3
    by_cases hlt : k < l.length
    · obtain ⟨b, off, ha, hb, ⟨h0, h1⟩, ⟨h2, h3⟩, h4, h5⟩ := rd_op10 HR.out (List.getElem?_eq_getElem hlt)
      generalize (l[k]).wasp = was at h2 h3
      generalize (l[k]).isp = is at h4 h5
      generalize (l[k]).do_ = d at h0
      generalize (l[k]).page = pg at h1
      subst ha
      have hB := HO.out.old.below
      rw [← hB.cell hb] at h0 h1 h2 h3 h4 h5
      clear hB
      go_upto_block 2 with (fail)
      go_cut [] (fun wc => ∃ (aps : List AP) (L : List (Int × (Int × Int))) (G : List (Int × Bool)) (x : Int), Hid (GoneRel n aps L G) ∧ Hid (One w wc [MapA iv hv (gb + 1) L, MapA iv bv gb G, Tab t aps x]))
      case first =>
        have HO1 := Lib.hid (HO.out.alloc (opB d pg was is))
        clear h0 h1 h2 h3 h4 h5 HO
        generalize wr.alloc (opB d pg was is) = W at *
        generalize wr.heap.size = g at *
        obtain ⟨⟨c0, c1⟩, ⟨c2, c3⟩, c4, c5⟩ := op_cells HO1.out
        by_cases hd0 : d = 0
        · subst hd0
          as_aux_lemma =>
          by_cases hz : is = (0, 0)
          · subst hz
            have e3 : allocOf aps (0, 0) = ((0, 1), aps) := by unfold allocOf; rw [if_pos rfl]
            go_wp2_with (fail)
            refine (HO1.out.lift 3 rfl (fun F => tab_alloc (0, 0))).mono ?_
            rw [e3]
            rintro e w5 ⟨rfl, ho⟩
            have HO5 := Lib.hid (show One w w5 [Blk g (opB 0 pg was (0, 0)), MapA iv hv (gb + 1) L, MapA iv bv gb G, Tab t aps x] from ho)
            clear ho c0 c1 c2 c3 c4 c5 e3 HO1
            go_wp2
            go_meet
            case rel => exact ⟨aps, L, G, x, HG, Lib.hid HO5.out.drop⟩
          · cases hf : aps.findIdx? (fun a => a.1 == 0) with
            | none =>
              have e3 : allocOf aps is = ((0, 5), aps) := by unfold allocOf; rw [if_neg hz, hf]
              rw [List.findIdx?_eq_none_iff] at hf
              have hfull := HG.out.full (fun a ha => by simpa using hf a ha)
              have HE3 := Lib.hid e3
              clear e3 hz
              go_wp2_with (fail)
              refine (HO1.out.lift 3 rfl (fun F => tab_alloc is)).mono ?_
              rw [HE3.out]
              rintro e w5 ⟨rfl, ho⟩
              have HO5 := Lib.hid (show One w w5 [Blk g (opB 0 pg was is), MapA iv hv (gb + 1) L, MapA iv bv gb G, Tab t aps x] from ho)
              clear ho c0 c1 c2 c3 c4 c5 HE3 HO1 hf
              have hl1 := HO5.out.len 1 rfl Try.underlying38
              have hl2 := HO5.out.len 2 rfl Try.underlying37
              have hfi : (L.length : Int) + G.length = n := by omega
              go_wp2
              go_meet
              case rel => exact ⟨aps, L, G, x, HG, Lib.hid HO5.out.drop⟩
            | some i =>
              have e3 : allocOf aps is = ((((i : Nat) : Int), 0), aps.set i (1, is)) := by unfold allocOf; rw [if_neg hz, hf]
              rw [List.findIdx?_eq_some_iff_getElem] at hf
              obtain ⟨hi, hi1, hi2⟩ := hf
              have hin : i < n := by rw [← HG.out.len]; exact hi
              have hi1' : aps[i].1 = 0 := by simpa using hi1
              have hsi : stOf aps i = 0 := by unfold stOf; rw [if_pos (by omega)]; simp [hi, hi1']
              have HG5 := Lib.hid (HG.out.live (List.getElem?_eq_getElem hi) (.inl hi1') is)
              have q1 : look L i = none := by rw [HG.out.lv, hsi]; rfl
              have q2 : has L i = false := by unfold has; rw [q1]; rfl
              have q3 : look G i = none := by rw [HG.out.gn, hsi]; rfl
              have q4 : has G i = false := by unfold has; rw [q3]; rfl
              have HE3 := Lib.hid e3
              clear e3 hz
              go_wp2_with (fail)
              refine (HO1.out.lift 3 rfl (fun F => tab_alloc is)).mono ?_
              rw [HE3.out]
              rintro e w5 ⟨rfl, ho⟩
              have HO5 := Lib.hid (show One w w5 [Blk g (opB 0 pg was is), MapA iv hv (gb + 1) L, MapA iv bv gb G, Tab t (aps.set i (1, is)) x] from ho)
              clear ho c0 c1 c2 c3 c4 c5 HE3 HO1 hi2 hi1
              have hl1 := HO5.out.looks 1 rfl K3 Try.underlying38 zeroH (i : Int)
              have hl2 := HO5.out.looks 2 rfl K3 Try.underlying37 zeroB (i : Int)
              rw [q1, q2] at hl1
              rw [q3, q4] at hl2
              obtain ⟨⟨m1, m2⟩, m3⟩ := hl1
              obtain ⟨⟨m4, m5⟩, m6⟩ := hl2
              have m7 := fun o => (m6 o).2
              clear m6 m3 m2 q1 q2 q3 q4 hsi hi1'
              have hin' : (i : Int) < n := by omega
              go_upto_region 17 with (fail)
              have HO6 := Lib.hid (HO5.out.kn (kn_alloc w5 (.cells #[.int .i64 0, .int .i64 0] 23)))
              clear HO5 m1 m4 m5 m7
              generalize w5.alloc (.cells #[.int .i64 0, .int .i64 0] 23) = w6 at *
              obtain ⟨⟨c0, c1⟩, ⟨c2, c3⟩, c4, c5⟩ := op_cells HO6.out
              go_wp2_with (at_mapUpdate; refine wpList_put rfl _ _ _ rfl K3 Try.underlying38 HO6.out 1 rfl (i : Int) is rfl rfl rfl ?_; intro w7 ho7)
              go_meet
              case rel => exact ⟨_, _, _, _, HG5, Lib.hid (One.drop (A := Blk g (opB 0 pg was is)) ho7)⟩
        · have hd0' : (d == 0) = false := by simpa using hd0
          clear hd0
          by_cases hd2 : d = 2
          · subst hd2
            as_aux_lemma =>
            by_cases hst : stOf aps pg = 1
            · obtain ⟨i, rfl, hi⟩ := st_in (aps := aps) (p := pg) (by omega)
              have hlk : looksOf aps i 1 = 0 := (looks_iff (by decide)).2 hst
              have q1 : look L i = some (headOf aps i) := by rw [HG.out.lv, if_pos hst]
              have q2 : has L i = true := by unfold has; rw [q1]; rfl
              by_cases hz : is = (0, 0)
              · subst hz
                have e3 : swapOf aps x i was (0, 0) = ((false, 1), aps, x) := by unfold swapOf; rw [if_pos hlk, if_pos rfl]
                have HE3 := Lib.hid e3
                clear e3 hst hlk
                go_wp2_with fail
                refine (HO1.out.lift 3 rfl (fun F => tab_swap i was (0, 0))).mono ?_
                rw [HE3.out]
                rintro e w5 ⟨rfl, ho⟩
                have HO5 := Lib.hid (show One w w5 [Blk g (opB 2 i was (0, 0)), MapA iv hv (gb + 1) L, MapA iv bv gb G, Tab t aps x] from ho)
                have hl1 := HO5.out.looks 1 rfl K3 Try.underlying38 zeroH (i : Int)
                rw [q1, q2] at hl1
                obtain ⟨⟨m1, m2⟩, m3⟩ := hl1
                clear ho c0 c1 c2 c3 c4 c5 HE3 HO1 m2 m3 q1 q2
                obtain ⟨⟨c0, c1⟩, ⟨c2, c3⟩, c4, c5⟩ := op_cells HO5.out
                go_wp2
                go_meet
                case rel => exact ⟨_, _, _, _, HG, Lib.hid ((HO5.out.kn (kn_alloc _ _)).drop)⟩
              · by_cases hh : headOf aps i = was
                · have e3 : swapOf aps x i was is = ((true, 0), aps.set i (1, is), x) := by unfold swapOf; rw [if_pos hlk, if_neg hz, if_pos hh]; rfl
                  have HE3 := Lib.hid e3
                  have hi1 : aps[i].1 = 1 := by unfold stOf at hst; rw [if_pos (by omega)] at hst; simpa [hi] using hst
                  have HG5 := Lib.hid (HG.out.live (List.getElem?_eq_getElem hi) (.inr hi1) is)
                  rw [hh] at q1
                  have hqn : ∀ w, (binOp .neq 23 (hv was) (hv was)).run Try.prog w = .ok (.bool false) w := fun w => by rw [run_neq_hv]; simp
                  clear e3 hst hlk hz hh hi1
                  go_wp2_with fail
                  refine (HO1.out.lift 3 rfl (fun F => tab_swap i was is)).mono ?_
                  rw [HE3.out]
                  rintro e w5 ⟨rfl, ho⟩
                  have HO5 := Lib.hid (show One w w5 [Blk g (opB 2 i was is), MapA iv hv (gb + 1) L, MapA iv bv gb G, Tab t (aps.set i (1, is)) x] from ho)
                  have hl1 := HO5.out.looks 1 rfl K3 Try.underlying38 zeroH (i : Int)
                  rw [q1, q2] at hl1
                  obtain ⟨⟨m1, m2⟩, m3⟩ := hl1
                  clear ho c0 c1 c2 c3 c4 c5 HE3 HO1 m2 m3 q1 q2
                  obtain ⟨⟨c0, c1⟩, ⟨c2, c3⟩, c4, c5⟩ := op_cells HO5.out
                  go_upto_region 23 with (fail)
                  have HO6 := Lib.hid (HO5.out.alloc (.cells #[.int .i64 was.1, .int .i64 was.2] 23))
                  clear HO5 m1 c0 c1 c2 c3 c4 c5
                  generalize w5.alloc (.cells #[.int .i64 was.1, .int .i64 was.2] 23) = w6 at *
                  generalize w5.heap.size = g5 at *
                  obtain ⟨⟨c0, c1⟩, ⟨c2, c3⟩, c4, c5⟩ := op_cells HO6.out.drop
                  obtain ⟨d0, d1, _, _⟩ := cells2 (HO6.out.blk 0 rfl).1
                  go_wp2_with (at_mapUpdate; refine wpList_put rfl _ _ _ rfl K3 Try.underlying38 HO6.out 2 rfl (i : Int) is rfl rfl rfl ?_; intro w7 ho7)
                  go_meet
                  case rel => exact ⟨_, _, _, _, HG5, Lib.hid (One.drop (A := Blk g (opB 2 i was is)) (One.drop (A := Blk g5 (.cells #[.int .i64 was.1, .int .i64 was.2] 23)) ho7))⟩
                · have e3 : swapOf aps x i was is = ((false, 0), aps, wrap64 (x + 1)) := by unfold swapOf; rw [if_pos hlk, if_neg hz, if_neg hh]
                  have HE3 := Lib.hid e3
                  clear e3 hst hlk hz hh
                  go_wp2_with fail
                  refine (HO1.out.lift 3 rfl (fun F => tab_swap i was is)).mono ?_
                  rw [HE3.out]
                  rintro e w5 ⟨rfl, ho⟩
                  have HO5 := Lib.hid (show One w w5 [Blk g (opB 2 i was is), MapA iv hv (gb + 1) L, MapA iv bv gb G, Tab t aps (wrap64 (x + 1))] from ho)
                  have hl1 := HO5.out.looks 1 rfl K3 Try.underlying38 zeroH (i : Int)
                  rw [q1, q2] at hl1
                  obtain ⟨⟨m1, m2⟩, m3⟩ := hl1
                  clear ho c0 c1 c2 c3 c4 c5 HE3 HO1 m2 m3 q1 q2
                  obtain ⟨⟨c0, c1⟩, ⟨c2, c3⟩, c4, c5⟩ := op_cells HO5.out
                  go_wp2
                  go_meet
                  case rel => exact ⟨_, _, _, _, HG, Lib.hid ((HO5.out.kn (kn_alloc _ _)).drop)⟩
            · have hlk : ¬ looksOf aps pg 1 = 0 := fun h => hst ((looks_iff (by decide)).1 h)
              have q1 : look L pg = none := by rw [HG.out.lv, if_neg hst]
              have q2 : has L pg = false := by unfold has; rw [q1]; rfl
              have e3 : swapOf aps x pg was is = ((false, 4), aps, x) := by unfold swapOf; rw [if_neg hlk]
              have HE3 := Lib.hid e3
              clear e3 hst hlk
              go_wp2_with fail
              refine (HO1.out.lift 3 rfl (fun F => tab_swap pg was is)).mono ?_
              rw [HE3.out]
              rintro e w5 ⟨rfl, ho⟩
              have HO5 := Lib.hid (show One w w5 [Blk g (opB 2 pg was is), MapA iv hv (gb + 1) L, MapA iv bv gb G, Tab t aps x] from ho)
              have hl1 := HO5.out.looks 1 rfl K3 Try.underlying38 zeroH pg
              rw [q1, q2] at hl1
              obtain ⟨⟨m1, m2⟩, m3⟩ := hl1
              clear ho c0 c1 c2 c3 c4 c5 HE3 HO1 m2 m3 q1 q2
              obtain ⟨⟨c0, c1⟩, ⟨c2, c3⟩, c4, c5⟩ := op_cells HO5.out
              go_wp2
              go_meet
              case rel => exact ⟨_, _, _, _, HG, Lib.hid ((HO5.out.kn (kn_alloc _ _)).drop)⟩
          · have hd2' : (d == 2) = false := by simpa using hd2
            clear hd2
            by_cases hd3 : d = 3
            · subst hd3
              as_aux_lemma =>
              by_cases hst : stOf aps pg = 1
              · obtain ⟨i, rfl, hi⟩ := st_in (aps := aps) (p := pg) (by omega)
                have hlk : looksOf aps i 1 = 0 := (looks_iff (by decide)).2 hst
                have q1 : look L i = some (headOf aps i) := by rw [HG.out.lv, if_pos hst]
                have q2 : has L i = true := by unfold has; rw [q1]; rfl
                have e3 : retireOf aps i = (0, aps.set i (2, (0, 0))) := by unfold retireOf; rw [if_pos hlk]; rfl
                have HE3 := Lib.hid e3
                have hi1 : aps[i].1 = 1 := by unfold stOf at hst; rw [if_pos (by omega)] at hst; simpa [hi] using hst
                have HG5 := Lib.hid (HG.out.gone (List.getElem?_eq_getElem hi) hi1 (0, 0))
                have hl1 := HO1.out.looks 1 rfl K3 Try.underlying38 zeroH (i : Int)
                rw [q1, q2] at hl1
                obtain ⟨⟨m1, m2⟩, m3⟩ := hl1
                clear e3 hst hlk hi1 m2 m3 q1 q2
                generalize headOf aps i = hd at *
                go_upto_region 29 with (fail)
                have HO2 := Lib.hid (HO1.out.kn (kn_alloc W (.cells #[.int .i64 hd.1, .int .i64 hd.2] 23)))
                clear m1 c0 c1 c2 c3 c4 c5 HO1
                generalize W.alloc (.cells #[.int .i64 hd.1, .int .i64 hd.2] 23) = W2 at *
                obtain ⟨⟨c0, c1⟩, ⟨c2, c3⟩, c4, c5⟩ := op_cells HO2.out
                go_wp2_with fail
                refine (HO2.out.lift 3 rfl (fun F => tab_retire i)).mono ?_
                rw [HE3.out]
                rintro e w5 ⟨rfl, ho⟩
                have HO5 := Lib.hid (show One w w5 [Blk g (opB 3 i was is), MapA iv hv (gb + 1) L, MapA iv bv gb G, Tab t (aps.set i (2, (0, 0))) x] from ho)
                clear ho c0 c1 c2 c3 c4 c5 HE3 HO2
                obtain ⟨⟨c0, c1⟩, ⟨c2, c3⟩, c4, c5⟩ := op_cells HO5.out
                go_upto_region 33 with (at_delete; refine wpList_del rfl _ _ rfl K3 Try.underlying38 HO5.out 1 rfl (i : Int) rfl rfl ?_; intro w6 ho6)
                have HO6 := Lib.hid (show One w w6 [Blk g (opB 3 i was is), MapA iv hv (gb + 1) (del L i), MapA iv bv gb G, Tab t (aps.set i (2, (0, 0))) x] from ho6)
                clear ho6 c0 c1 c2 c3 c4 c5 HO5
                obtain ⟨⟨c0, c1⟩, ⟨c2, c3⟩, c4, c5⟩ := op_cells HO6.out
                go_wp2_with (at_mapUpdate; refine wpList_put rfl _ _ _ rfl K3 Try.underlying37 HO6.out 2 rfl (i : Int) true rfl rfl rfl ?_; intro w7 ho7)
                go_meet
                case rel => exact ⟨_, _, _, _, HG5, Lib.hid (One.drop (A := Blk g (opB 3 i was is)) ho7)⟩
              · have hlk : ¬ looksOf aps pg 1 = 0 := fun h => hst ((looks_iff (by decide)).1 h)
                have q1 : look L pg = none := by rw [HG.out.lv, if_neg hst]
                have q2 : has L pg = false := by unfold has; rw [q1]; rfl
                have e3 : retireOf aps pg = (4, aps) := by unfold retireOf; rw [if_neg hlk]
                have HE3 := Lib.hid e3
                have hl1 := HO1.out.looks 1 rfl K3 Try.underlying38 zeroH pg
                rw [q1, q2] at hl1
                obtain ⟨⟨m1, m2⟩, m3⟩ := hl1
                clear e3 hst hlk m2 m3 q1 q2
                go_upto_region 29 with (fail)
                have HO2 := Lib.hid (HO1.out.kn (kn_alloc W (.cells #[.int .i64 0, .int .i64 0] 23)))
                clear m1 c0 c1 c2 c3 c4 c5 HO1
                generalize W.alloc (.cells #[.int .i64 0, .int .i64 0] 23) = W2 at *
                obtain ⟨⟨c0, c1⟩, ⟨c2, c3⟩, c4, c5⟩ := op_cells HO2.out
                go_wp2_with fail
                refine (HO2.out.lift 3 rfl (fun F => tab_retire pg)).mono ?_
                rw [HE3.out]
                rintro e w5 ⟨rfl, ho⟩
                have HO5 := Lib.hid (show One w w5 [Blk g (opB 3 pg was is), MapA iv hv (gb + 1) L, MapA iv bv gb G, Tab t aps x] from ho)
                clear ho c0 c1 c2 c3 c4 c5 HE3 HO2
                go_wp2
                go_meet
                case rel => exact ⟨_, _, _, _, HG, Lib.hid HO5.out.drop⟩
            · have hd3' : (d == 3) = false := by simpa using hd3
              clear hd3
              by_cases hd4 : d = 4
              · subst hd4
                as_aux_lemma =>
                have hl1 := HO1.out.looks 2 rfl K3 Try.underlying37 zeroB pg
                by_cases hst : stOf aps pg = 2
                · obtain ⟨i, rfl, hi⟩ := st_in (aps := aps) (p := pg) (by omega)
                  have hlk : looksOf aps i 2 = 0 := (looks_iff (by decide)).2 hst
                  have q1 : look G i = some true := by rw [HG.out.gn, if_pos hst]
                  have e3 : releaseOf aps i = (0, aps.set i (0, (0, 0))) := by unfold releaseOf; rw [if_pos hlk]; rfl
                  have HE3 := Lib.hid e3
                  have hi1 : aps[i].1 = 2 := by unfold stOf at hst; rw [if_pos (by omega)] at hst; simpa [hi] using hst
                  have HG5 := Lib.hid (HG.out.free (List.getElem?_eq_getElem hi) hi1 (0, 0))
                  clear hi1
                  have HOD := Lib.hid (HO1.out.kn ((Kp.refl _ W).drew))
                  have m2d := (HOD.out.looks 2 rfl K3 Try.underlying37 zeroB (i : Int)).1.2
                  rw [q1] at m2d
                  replace m2d : (Instr.lookup 37 (.map (some gb)) (iv (i : Int)) false).run Try.prog W.drew = .ok (.bool true) W.drew := m2d
                  clear e3 hst hlk hl1
                  go_upto_region 35 with (fail)
                  go_region_held3 (fun w' => w'.cell? ⟨g, 1, none⟩ = some (.int .i64 (i : Int)) ∧ (Instr.lookup 37 (.map (some gb)) (iv (i : Int)) false).run Try.prog w' = .ok (.bool true) w') (first | (exact ⟨c1, m2d⟩) | (exact ⟨c1', m2'⟩) | go_keep)
                    (first | (go_at_call 13; refine (HOD.out.lift 3 rfl (fun F => tab_release (i : Int))).mono ?_; rw [HE3.out]; rintro e w5 ⟨rfl, ho⟩; have HO5 := Lib.hid (show One w w5 [Blk g (opB 4 (i : Int) was is), MapA iv hv (gb + 1) L, MapA iv bv gb G, Tab t (aps.set i (0, (0, 0))) x] from ho); obtain ⟨⟨c0', c1'⟩, ⟨c2', c3'⟩, c4', c5'⟩ := op_cells HO5.out; have m2' := ((HO5.out.looks 2 rfl K3 Try.underlying37 zeroB (i : Int)).1.2); rw [q1] at m2'; clear ho))
                  all_goals (go_wp2_with (at_delete; refine wpList_del rfl _ _ rfl K3 Try.underlying37 HO5.out 2 rfl (i : Int) rfl rfl ?_; intro w6 ho6))
                  all_goals (go_meet)
                  all_goals (exact ⟨_, _, _, _, HG5, Lib.hid (One.drop (A := Blk g (opB 4 (i : Int) was is)) ho6)⟩)
                · have hlk : ¬ looksOf aps pg 2 = 0 := fun h => hst ((looks_iff (by decide)).1 h)
                  have q1 : look G pg = none := by rw [HG.out.gn, if_neg hst]
                  have e3 : releaseOf aps pg = (4, aps) := by unfold releaseOf; rw [if_neg hlk]
                  have HE3 := Lib.hid e3
                  have hdel := Lib.hid (del_none q1)
                  have HOD := Lib.hid (HO1.out.kn ((Kp.refl _ W).drew))
                  have m2d := (HOD.out.looks 2 rfl K3 Try.underlying37 zeroB pg).1.2
                  rw [q1] at m2d
                  replace m2d : (Instr.lookup 37 (.map (some gb)) (iv pg) false).run Try.prog W.drew = .ok (.bool false) W.drew := m2d
                  clear e3 hst hlk hl1
                  go_upto_region 35 with (fail)
                  go_region_held3 (fun w' => w'.cell? ⟨g, 1, none⟩ = some (.int .i64 pg) ∧ (Instr.lookup 37 (.map (some gb)) (iv pg) false).run Try.prog w' = .ok (.bool false) w') (first | (exact ⟨c1, m2d⟩) | (exact ⟨c1', m2'⟩) | go_keep)
                    (first | (go_at_call 13; refine (HOD.out.lift 3 rfl (fun F => tab_release pg)).mono ?_; rw [HE3.out]; rintro e w5 ⟨rfl, ho⟩; have HO5 := Lib.hid (show One w w5 [Blk g (opB 4 pg was is), MapA iv hv (gb + 1) L, MapA iv bv gb G, Tab t aps x] from ho); obtain ⟨⟨c0', c1'⟩, ⟨c2', c3'⟩, c4', c5'⟩ := op_cells HO5.out; have m2' := ((HO5.out.looks 2 rfl K3 Try.underlying37 zeroB pg).1.2); rw [q1] at m2'; clear ho))
                  all_goals (go_wp2_with (at_delete; refine wpList_del rfl _ _ rfl K3 Try.underlying37 HO5.out 2 rfl pg rfl rfl ?_; intro w6 ho6))
                  all_goals (go_meet)
                  all_goals (exact ⟨_, _, _, _, HG, Lib.hid (One.drop (A := Blk g (opB 4 pg was is)) (hdel.out ▸ ho6))⟩)
              · have hd4' : (d == 4) = false := by simpa using hd4
                clear hd4
                go_wp2
                go_meet
                case rel => exact ⟨_, _, _, _, HG, Lib.hid HO1.out.drop⟩
      case rest =>
        obtain ⟨aps', L', G', x', HG', HO'⟩ := hcut
        clear HG HO h0 h1 h2 h3 h4 h5
        as_aux_lemma =>
        go_wp2
        go_loopw [181] (fun i wr => ∃ j : Nat, j ≤ n ∧ i = .int .i64 j ∧ Hid (One w wr [MapA iv hv (gb + 1) L', MapA iv bv gb G', Tab t aps' x'])) (fun i _ => n - (intOf i).toNat)
        case atStart => exact ⟨0, Nat.zero_le _, rfl, HO'⟩
        case round =>
          obtain ⟨j, hj, rfl, HJ⟩ := hrel
          clear HO'
          by_cases hjn : j < n
          · have hq1 : ∀ h w, (binOp .neq 23 (hv h) (hv h)).run Try.prog w = .ok (.bool false) w := fun h w => by rw [run_neq_hv]; simp
            have hjn' : (j : Int) < n := by omega
            by_cases hst : stOf aps' j = 1
            · have e3 : loadOf aps' j = (headOf aps' j, 0) := by unfold loadOf; rw [if_pos ((looks_iff (by decide)).2 hst)]
              have q1 : look L' j = some (headOf aps' j) := by rw [HG'.out.lv, if_pos hst]
              have q2 : has L' j = true := by unfold has; rw [q1]; rfl
              have HE3 := Lib.hid e3
              clear hst e3
              go_wp2_with fail
              refine (HJ.out.rd 2 rfl (fun F => tab_load j)).mono ?_
              rw [HE3.out]
              rintro e w7 ⟨rfl, hk7⟩
              have HO7 := Lib.hid (HJ.out.kn hk7)
              have hl1 := HO7.out.looks 0 rfl K3 Try.underlying38 zeroH (j : Int)
              rw [q1, q2] at hl1
              obtain ⟨_, m3⟩ := hl1
              have m4 := fun o => (m3 o).1
              clear HJ hk7 m3 q1 q2 HE3
              generalize headOf aps' j = hd at *
              go_wp2
              go_round
              case rel => exact ⟨j + 1, by omega, by go_num, Lib.hid (HO7.out.kn ((kn_alloc _ _).alloc _))⟩
              case measure => simp [intOf]; omega
            · have e3 : loadOf aps' j = ((0, 0), 4) := by unfold loadOf; rw [if_neg (fun h => hst ((looks_iff (by decide)).1 h))]
              have q1 : look L' j = none := by rw [HG'.out.lv, if_neg hst]
              have q2 : has L' j = false := by unfold has; rw [q1]; rfl
              have HE3 := Lib.hid e3
              clear hst e3
              go_wp2_with fail
              refine (HJ.out.rd 2 rfl (fun F => tab_load j)).mono ?_
              rw [HE3.out]
              rintro e w7 ⟨rfl, hk7⟩
              have HO7 := Lib.hid (HJ.out.kn hk7)
              have hl1 := HO7.out.looks 0 rfl K3 Try.underlying38 zeroH (j : Int)
              rw [q1, q2] at hl1
              obtain ⟨_, m3⟩ := hl1
              have m4 := fun o => (m3 o).1
              clear HJ hk7 m3 q1 q2 HE3
              go_wp2
              go_round
              case rel => exact ⟨j + 1, by omega, by go_num, Lib.hid (HO7.out.kn ((kn_alloc _ _).alloc _))⟩
              case measure => simp [intOf]; omega
          · obtain rfl : j = n := by omega
            go_wp2
            go_round
            case rel => exact ⟨k + 1, aps', L', G', x', by omega, by go_num, HG', HJ⟩
            case measure => simp [intOf]; omega
    · obtain rfl : k = l.length := by omega
      go_wp2_with fail
      refine (HO.out.rd 2 rfl (fun F => tab_live)).mono ?_
      rintro e w7 ⟨rfl, hk7⟩
      have HO7 := Lib.hid (HO.out.kn hk7)
      have hl1 := HO7.out.len 0 rfl Try.underlying38
      rw [HG.out.ln] at hl1
      clear HO hk7
      go_wp2_with fail
      refine (HO7.out.rd 2 rfl (fun F => tab_gone)).mono ?_
      rintro e w8 ⟨rfl, hk8⟩
      have HO8 := Lib.hid (HO7.out.kn hk8)
      have hl2 := HO8.out.len 1 rfl Try.underlying37
      rw [HG.out.gl] at hl2
      clear HO7 hk8 hl1
      go_wp2
      go_ret
      exact ⟨rfl, HO8.out.old⟩
end Go.Proofs.Ytkjkaliblkihmaa
