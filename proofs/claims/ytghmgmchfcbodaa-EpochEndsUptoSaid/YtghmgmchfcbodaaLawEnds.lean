/- EpochEnds: its walk. -/
import Derived.Test.YtghmgmchfcbodaaEndsLaw
import Derived.Test.YtghmgmchfcbodaaSameRe
import Derived.Test.YtghmgmchfcbodaaOneFs
namespace Go.Proofs.Ytghmgmchfcbodaa
set_option linter.unusedVariables false
set_option linter.unusedSimpArgs false
open Go Go.RowKit Go.Shelf
attribute [local go_sem] Oper.semAt_some

set_option maxRecDepth 100000 in
set_option maxHeartbeats 8000000 in
theorem ends_in (a : Option Addr) (cap : Nat) (l : List Op6) (s : Int) (hs : 0 ≤ s ∧ s < 256) (w : World) (hl : l.length ≤ 1048576) (hr : Rd Op6.enc 5 w a l) :
    CallsIn Fence.wide 3 Try.prog 5 #[.slice a l.length cap, .int .u8 s] w fun e w' => e = .returned (.bool true) ∧ Below w.heap.size w w' := by
  have HR := Lib.hid hr
  clear hr
  refine callsIn_of_wp_marks Try.func5 rfl trivial ?_ rfl
  simp only [Try.ntmps5, List.size_toArray, List.length_cons, List.length_nil, Nat.reduceAdd, Nat.reduceSub, Array.replicate_succ, Array.replicate_zero, List.push_toArray, List.append_toArray, List.nil_append, List.cons_append]
  refine wpIn_wide.2 ?_
  go_wp2_with fail
  refine (new_a _).mono ?_
  rintro e w1 ⟨t, rfl, hp1⟩
  have HO := Lib.hid ((One.nil w).add hp1)
  clear hp1
  go_wp2_with fail
  refine (begun_true _).mono ?_
  rintro e w2 ⟨rfl, hk⟩
  have HO2 := Lib.hid (HO.out.kn hk)
  clear HO hk
  go_wp2_with fail
  go_loopw [31] (fun i wr => ∃ k : Nat, k ≤ l.length ∧ i = .int .i64 k ∧ Hid (One w wr [EpA t (runTo l k)])) (fun i _ => l.length - (intOf i).toNat)
  case atStart => exact ⟨0, Nat.zero_le _, rfl, HO2⟩
  case round =>
    obtain ⟨k, hk, rfl, HO⟩ := hrel
    clear HO2
    by_cases hlt : k < l.length
    · obtain ⟨o, hx⟩ : ∃ o, l[k]? = some o := ⟨_, List.getElem?_eq_getElem hlt⟩
      obtain ⟨b, off, rfl, hb, h0, h1, h2, h3, h4⟩ := rd5 (HR.out.kn HO.out.old) hx
      have HS := Lib.hid (run_step l hx)
      have HG := Lib.hid (good_run l hl k hk)
      clear hx
      generalize runTo l k = σ at *
      obtain ⟨d, s, ⟨xk, ⟨xl, xg⟩⟩⟩ := o
      simp only at h0 h1 h2 h3 h4
      go_upto_block 2 with (fail)
      have HO1 := Lib.hid ((HO.out.alloc (opB d s xk xl xg)).perm (List.Perm.swap _ _ _))
      clear h0 h1 h2 h3 h4 HO
      generalize wr.alloc (opB d s xk xl xg) = W at *
      generalize wr.heap.size = g at *
      obtain ⟨c0, c1, c2, c3, c4⟩ := cells5o (HO1.out.blk 1 rfl).1
      have hfit := HG.out.fit
      have hrow := HG.out.row
      by_cases hd0 : d = 0
      · subst hd0
        have HE := Lib.hid (show step4 σ ⟨0, s, ⟨xk, ⟨xl, xg⟩⟩⟩ = (σ.pin s).1 from rfl)
        go_wp2_with fail
        refine (HO1.out.lift 0 rfl (fun F h => pin_a h hfit s)).mono ?_
        rintro e w5 ⟨rfl, ho⟩
        have HO5 := Lib.hid (One.out (A := []) (show One w w5 [EpA t (σ.pin s).1, Blk g (opB 0 s xk xl xg)] from ho))
        go_wp2
        go_roundw
        case rel => exact ⟨k + 1, by omega, by go_num, by rw [HS.out, HE.out]; exact HO5⟩
        case measure => simp [intOf]; omega
      by_cases hd1 : d = 1
      · subst hd1
        have HE := Lib.hid (show step4 σ ⟨1, s, ⟨xk, ⟨xl, xg⟩⟩⟩ = (σ.unpin s).1 from rfl)
        go_wp2_with fail
        refine (HO1.out.lift 0 rfl (fun F h => unpin_a h hfit s)).mono ?_
        rintro e w5 ⟨rfl, ho⟩
        have HO5 := Lib.hid (One.out (A := []) (show One w w5 [EpA t (σ.unpin s).1, Blk g (opB 1 s xk xl xg)] from ho))
        go_wp2
        go_roundw
        case rel => exact ⟨k + 1, by omega, by go_num, by rw [HS.out, HE.out]; exact HO5⟩
        case measure => simp [intOf]; omega
      by_cases hd2 : d = 2
      · subst hd2
        have HE := Lib.hid (show step4 σ ⟨2, s, ⟨xk, ⟨xl, xg⟩⟩⟩ = σ.retire ⟨xk, ⟨xl, xg⟩⟩ from rfl)
        have hb2 : ((σ.row (σ.now % 3)).length + 1) * 24 ≤ 140737488355328 := by have := hrow (σ.now % 3); omega
        go_wp2_with fail
        refine (HO1.out.lift 0 rfl (fun F h => retire_a h hfit ⟨xk, ⟨xl, xg⟩⟩ hb2)).mono ?_
        rintro e w5 ⟨rfl, ho⟩
        have HO5 := Lib.hid (One.out (A := []) (show One w w5 [EpA t (σ.retire ⟨xk, ⟨xl, xg⟩⟩), Blk g (opB 2 s xk xl xg)] from ho))
        go_wp2
        go_roundw
        case rel => exact ⟨k + 1, by omega, by go_num, by rw [HS.out, HE.out]; exact HO5⟩
        case measure => simp [intOf]; omega
      by_cases hd3 : d = 3
      · subst hd3
        have HE := Lib.hid (show step4 σ ⟨3, s, ⟨xk, ⟨xl, xg⟩⟩⟩ = σ.advance.1 from rfl)
        go_wp2_with fail
        refine (HO1.out.adv' hfit).mono ?_
        rintro e w5 ⟨a5, c5, rfl, ho⟩
        have HO5 := Lib.hid (One.out (A := []) (One.out ho))
        go_wp2
        go_roundw
        case rel => exact ⟨k + 1, by omega, by go_num, by rw [HS.out, HE.out]; exact HO5⟩
        case measure => simp [intOf]; omega
      have HE := Lib.hid (show step4 σ ⟨d, s, ⟨xk, ⟨xl, xg⟩⟩⟩ = σ by unfold step4; rw [if_neg hd0, if_neg hd1, if_neg hd2, if_neg hd3])
      have b0 : (d == 0) = false := beq_false_of_ne hd0
      have b1 : (d == 1) = false := beq_false_of_ne hd1
      have b2 : (d == 2) = false := beq_false_of_ne hd2
      have b3 : (d == 3) = false := beq_false_of_ne hd3
      go_wp2
      go_roundw
      case rel => exact ⟨k + 1, by omega, by go_num, by rw [HS.out, HE.out]; exact Lib.hid (One.out (A := []) HO1.out)⟩
      case measure => simp [intOf]; omega
    · obtain rfl : k = l.length := by omega
      have HG := Lib.hid (good_run l hl l.length (Nat.le_refl _))
      clear HR
      generalize hsg : runTo l l.length = σ at *
      clear hsg
      go_wp2_with fail
      go_loopw [60] (fun i wq => ∃ k : Nat, k ≤ 17 ∧ i = .int .i64 k ∧ Hid (One w wq [EpA t (σ.un k)])) (fun i _ => 17 - (intOf i).toNat)
      case atStart => exact ⟨0, by omega, rfl, HO⟩
      case round =>
        clear HO
        obtain ⟨k, hk, rfl, HO⟩ := hrel
        by_cases hlt : k < 17
        · have hin : inS (k : Int) = true := by simp [inS]; omega
          have HF := Lib.hid (good_un HG.out k).fit
          have hp : (σ.un k).pinned (k : Int) = ((σ.un k).at k, (σ.un k).at k != 0) := by unfold Eps.pinned; rw [if_pos hin]
          by_cases hz : (σ.un k).at k = 0
          · rw [hz] at hp
            have HP := Lib.hid hp
            have HU := Lib.hid (put_same (σ := σ.un k) (by have := HF.out.xlen; omega) hz)
            clear hp hz hin
            go_wp2_with fail
            refine (HO.out.rd 0 rfl (fun F h => pinned_a h HF.out k)).mono ?_
            rw [HP.out]
            rintro e w5 ⟨rfl, hw5⟩
            subst hw5
            go_wp2_with fail
            go_roundw
            case rel => exact ⟨k + 1, by omega, by go_num, by show Hid (One w _ [EpA t ((σ.un k).put k 0)]); rw [HU.out]; exact HO⟩
            case measure => simp [intOf]; omega
          · have hb : ((σ.un k).at k != 0) = true := by simp [hz]
            rw [hb] at hp
            have HP := Lib.hid hp
            have HU := Lib.hid (show (σ.un k).unpin k = ((σ.un k).put k 0, 0) by unfold Eps.unpin; rw [if_pos hin, if_neg hz])
            clear hp hz hin hb
            go_wp2_with fail
            refine (HO.out.rd 0 rfl (fun F h => pinned_a h HF.out k)).mono ?_
            rw [HP.out]
            rintro e w5 ⟨rfl, hw5⟩
            subst hw5
            generalize (σ.un k).at k = xat at *
            go_wp2_with fail
            refine (HO.out.lift 0 rfl (fun F h => unpin_a h HF.out k)).mono ?_
            rw [HU.out]
            rintro e w6 ⟨rfl, ho⟩
            have HO6 := Lib.hid (show One w w6 [EpA t (σ.un (k + 1))] from ho)
            go_wp2_with fail
            go_roundw
            case rel => exact ⟨k + 1, by omega, by go_num, HO6⟩
            case measure => simp [intOf]; omega
        · obtain rfl : k = 17 := by omega
          have HG2 := Lib.hid (good_un HG.out 17)
          have HFr := Lib.hid (free_un HG.out)
          clear HG
          generalize σ.un 17 = σ at *
          have hlm : σ.limbo.length ≤ 9000000 := Nat.le_trans (limbo_le HG2.out.row) (by omega)
          have HLM := Lib.hid hlm
          obtain ⟨τ, υ, la, lb, hE⟩ := ends_of HG2.out HFr.out
          have HE := Lib.hid hE
          clear hE hlm
          go_wp2_with fail
          have HO3 := Lib.hid (HO.out.alloc (.cells #[.slice none 0 0] 37))
          have hc := HO3.out.rd 1 rfl (fun F h => limbo_a h HG2.out.fit HLM.out)
          have hne : t < wr.heap.size := by
            obtain ⟨F, h, _⟩ := HO.out.get 0 rfl
            obtain ⟨_, _, _, _, _, _, _, _, _, _, _, hlt⟩ := EpA.lim h HG2.out.fit (j := 0) (by decide)
            exact hlt
          clear HO
          generalize hgw : wr.heap.size = gw at *
          generalize wr.alloc (.cells #[.slice none 0 0] 37) = W0 at *
          refine hc.mono ?_
          rintro e W1 ⟨b1, b2, rfl, G, hA, k1, hG⟩
          have HO4 := Lib.hid (HO3.out.kn k1)
          clear hc
          go_upto_block 5 with (fail)
          refine (wpIn_wide (n := 3)).1 ?_
          gi_wp2_with fail
          have HSEQ := Lib.hid (limbo_stops Fence.wide 2 trivial rfl (by omega) b1 b2 G σ.limbo HLM.out W1 hA)
          have hw1 : gw < W1.heap.size := lt_blk (HO4.out.blk 0 rfl).1
          have hGl := hA.2
          have hgw0 : gw < W0.heap.size := lt_blk (HO3.out.blk 0 rfl).1
          have hGn : ¬ G gw := fun hh => by
            rcases hG _ hh with h | h
            · exact h
            · omega
          have HF0 := Lib.hid ((HO4.out.nilRow 31 3).perm (List.Perm.swap _ _ _)).loopF
          have hww : w.heap.size ≤ W1.heap.size := HO4.out.old.size
          clear HO3 HO4 hA hG k1
          refine wpIn_rangeFunc_ownH rfl (show 1 ≤ 3 by omega) (gf := 29) (lb := #[.pointer (some ⟨b1, 0, none⟩), .pointer (some ⟨b2, 0, none⟩)]) rfl trivial (enters_of Try.func29 (by kernel_rfl) rfl)
            HSEQ.out KpG.trans (KpG.put (G := G) hGl) (Below.refl _ _) (fun _ => rfl)
            (fun pre W => ∃ aw cw, OneF W1.heap.size w W [Blk gw (.cells #[.slice aw pre.length cw] 37), RowA 31 3 (.slice aw pre.length cw) pre.length ((pre.map (·.2)).flatMap Re.enc), EpA t σ] ∧ (∀ x, (Value.slice aw pre.length cw).ownBlock = some x → W1.heap.size ≤ x) ∧ W1.heap.size ≤ W.heap.size)
            (fun c pre W => False)
            (fun pre W W' row hs hg hr => by
              obtain ⟨aw, cw, h1, h2, h3⟩ := hs
              exact ⟨aw, cw, oneF_own (β := Unit) hww (fun _ => [Blk gw (.cells #[.slice aw pre.length cw] 37), RowA 31 3 (.slice aw pre.length cw) pre.length ((pre.map (·.2)).flatMap Re.enc), EpA t σ]) () W W' row h1 hg hr, h2, Nat.le_trans h3 hg.size⟩)
            (fun c s W W' row hs hg hr => hs.elim)
            ⟨none, 0, HF0.out, ⟨fun x hx => by simp [Value.ownBlock] at hx, Nat.le_refl _⟩⟩
            (fun x a' W => ∃ Bx, W1.heap.size ≤ Bx ∧ W.heap[Bx]? = some (.cells #[.int .i64 x.2.kind, .int .i64 x.2.handle.slot, .int .i64 x.2.handle.gen] 31) ∧ a' = { tmps := #[Value.slice a l.length cap, Value.int IntKind.u8 s, undef, undef, u4, Value.pointer (some { block := t, off := 0 }), undef, u7, u8, u9, u10, Value.pointer (some { block := gw, off := 0 }), undef, Value.pointer (some { block := Bx, off := 0 }), undef, undef, undef, undef, undef, undef, undef, undef, Value.pointer (some { block := t, off := 0 }), Value.bool true, Value.bool false, Value.bool false, Value.pointer (some { block := t, off := 0 }), Value.bool false, Value.bool false, Value.slice a l.length cap, Value.int IntKind.i64 ↑l.length, Value.int IntKind.i64 ↑l.length, Value.bool false, u33, u34, u35, u36, u37, u38, u39, u40, u41, u42, u43, u44, u45, u46, u47, u48, u49, u50, u51, u52, u53, u54, u55, u56, u57, u58, u59, Value.int IntKind.i64 17, Value.bool false, u62, u63, u64, u65, u66, u67, u68, u69, u70, u71, u72, u73, u74, u75, u76, Value.pointer (some { block := t, off := 0 }), Value.func (Fn.func 29) #[] #[Value.pointer (some { block := b1, off := 0 }), Value.pointer (some { block := b2, off := 0 })], Value.int IntKind.i64 x.fst, ren x.snd, undef, undef, undef, undef, undef, undef, undef, undef, undef, undef, undef, undef, undef, undef, undef, undef, undef, undef, undef, undef, undef, undef, undef, undef, undef, undef, undef, undef, undef, undef, undef, undef, undef, undef, undef, undef, undef, undef, undef, undef, undef, undef, undef, undef, undef, undef, undef, undef, undef, undef, undef, undef, undef, undef, undef, undef, undef, undef, undef, undef, undef, undef, undef, undef, undef, undef, undef, undef, undef, undef, undef, undef, undef, undef, undef, undef, undef, undef, undef, undef, undef], defers := [] })
            (fun x a' _ X Y row hs hg hr => by
              obtain ⟨Bx, h1, h2, h3⟩ := hs
              refine ⟨Bx, h1, (hg.block Bx (lt_blk h2) (fun e => ?_)).trans h2, h3⟩
              obtain ⟨_, o, ho, hc⟩ := hr Bx e.symm
              rw [h2] at ho; cases ho; cases hc)
            ?assign ?body ?done ?stop
          case assign =>
            intro lp pre x W K hI hK
            obtain ⟨aw, cw, hI, h2, h3⟩ := hI
            gi_wp2
            exact hK _ _ (keepsFrom_kn (kn_alloc _ _)) (kpg_alloc _ _) ⟨aw, cw, hI.kn (kn_alloc _ _), h2, Nat.le_trans h3 (kn_alloc _ _).size⟩ ⟨W.heap.size, h3, heap_alloc_same _ _, rfl⟩
          case body =>
            rintro lp pre x a' W hlp ⟨r, hr⟩ hI ⟨Bx, hBx, bX, rfl⟩ hlt
            obtain ⟨aw, cw, hI, h2, h3⟩ := hI
            obtain ⟨n0, f0⟩ := cells1 (hI.one.blk 0 rfl).1
            obtain ⟨z0, z1, z2, _⟩ := cells3 bX
            obtain ⟨xt, ⟨xk, ⟨xl, xg⟩⟩⟩ := x
            simp only at z0 z1 z2 bX
            have HAp := Lib.hid (OneF.app (P := Try.prog) (m := [(⟨xk, ⟨xl, xg⟩⟩ : Re)]) elt_Re 37 (hI.kn (kn_alloc W (.cells #[.int .i64 xk, .int .i64 xl, .int .i64 xg] 31))) 1 rfl (Nat.le_trans h3 (kn_alloc _ _).size) h2 enc3 (rl_re (cap := 1) (heap_alloc_same W _)) re_one (by have := HLM.out; unfold maxLen; simp only [List.length_singleton]; omega) (by have := HLM.out; simp only [List.length_singleton]; omega))
            have HPr := Lib.hid (And.intro h2 h3)
            have HcW := Lib.hid (show ∀ x, (Value.slice aw pre.length cw).ownBlock = some x → x < W1.heap.size ∨ ∃ o, W.heap[x]? = some o ∧ o.isCells = true by
              obtain ⟨F1, hF, _, hcl, _⟩ := hI.get 1 rfl
              intro x hx
              exact hcl x (by rw [hF.2]; exact hx))
            clear hI bX h2
            gi_wp2_with (gi_at_builtin; refine wpListIn_appX rfl (by rfl) (by rfl) (by rfl) HAp.out ?_; rintro r' w2 ⟨a1, c1, rfl, ho, hk, hx, hc⟩; have HI2 := Lib.hid ho; have HK2 := Lib.hid hk; have HX2 := Lib.hid (And.intro hx hc); obtain ⟨q0, q1⟩ := cells1 (ho.one.blk 0 rfl).1; clear ho hk hx hc)
            have hkp : Kp (fun x => (Value.slice aw pre.length cw).ownBlock = some x) W w2 := ((kn_alloc W _).mono (fun _ h => h.elim)).trans HK2.out (fun i hi => .inl hi)
            refine ⟨keepsFrom_setC (keepsFrom_kp hkp HcW.out) _ (by omega), kpg_setC (hkp.toG (fun i hG hi => ?_)) _ hGn, a1, c1, ?_, ?_, ?_⟩
            · have := HPr.out.1 i hi
              have := hGl i hG
              omega
            · have hq := HI2.out.setC 0 rfl (j := 0) (.slice a1 (pre.length + 1) c1)
              rw [List.map_append, List.flatMap_append, List.length_append]
              exact hq
            · rw [List.length_append]; exact HX2.out.1
            · have := hkp.size
              simp [World.setCell]
              omega
          case done =>
            rintro D xs W hD rfl hI hK
            obtain ⟨aw, cw, hI, h2, h3⟩ := hI
            have hDn := hI.addD hK rfl hD hww
            have HO5 := Lib.hid (show One w W [EpA t σ, RowA 31 3 (.slice aw σ.limbo.length cw) σ.limbo.length ((σ.limbo.map (·.2)).flatMap Re.enc), Blk gw (.cells #[.slice aw σ.limbo.length cw] 37), Blk D (.deferred (some []))] from hDn.perm (List.reverse_perm _).symm)
            have HL5 := Lib.hid (show σ.limbo.length = (σ.limbo.map (·.2)).length by simp)
            rw [HL5.out] at HO5
            rw [HE.out.all] at HO5
            have HG5 := Lib.hid (show Good (l.length + 1) τ by
              have := good_advance HG2.out (by omega)
              rw [HE.out.one] at this
              exact this)
            have HG6 := Lib.hid (show Good (l.length + 2) υ by
              have := good_advance HG5.out (by omega)
              rw [HE.out.two] at this
              exact this)
            have hla : la.length ≤ 9000000 := by
              have := HLM.out
              rw [HL5.out, HE.out.all, List.length_append] at this
              omega
            have hlb : lb.length ≤ 9000000 := by
              have := HLM.out
              rw [HL5.out, HE.out.all, List.length_append] at this
              omega
            have HLL := Lib.hid (And.intro hla hlb)
            clear hI h2 hDn hK HSEQ HF0 hGl hGn HLM HL5 hla hlb
            go_wp2_with fail
            refine (HO5.out.adv' HG2.out.fit).mono ?_
            rw [HE.out.one]
            rintro e w5 ⟨a5, c5, rfl, ho⟩
            have HO6 := Lib.hid ho
            clear ho HO5
            go_wp2_with fail
            refine (HO6.out.adv' HG5.out.fit).mono ?_
            rw [HE.out.two]
            rintro e w6 ⟨a6, c6, rfl, ho⟩
            have HO7 := Lib.hid (One.nilRow ho 31 3)
            clear ho HO6
            simp only at HO7
            go_wp2_with fail
            have hl0 : υ.limbo.length = 0 := by rw [HE.out.none]; rfl
            have HWt := Lib.hid (fun F (W : World) (h : (EpA t υ).on W F) => by
              have := waiting_a h HG6.out.fit (by rw [hl0]; omega)
              rw [hl0] at this
              exact this)
            have HNN := Lib.hid (show (la ++ lb).length = la.length + lb.length from List.length_append)
            generalize hn : (la ++ lb).length = n at *
            generalize hna : la.length = na at *
            generalize hnb : lb.length = nb at *
            have s0 : w6.cell? ⟨gw, 0, none⟩ = some (.slice aw n cw) := (cells1 (HO7.out.blk 5 rfl).1).1
            have HB1 : Hid (∃ r w', (Builtin.append_ #[37, 37] 37 #[.slice none 0 0, .slice a5 na c5]).run Try.prog w6.drew = .ok r w' ∧ ∃ a1 cap, r = .slice a1 na cap ∧ One w w' [RowA 31 3 (.slice a1 na cap) na (la.flatMap Re.enc), EpA t υ, RowA 31 3 (.slice a6 nb c6) nb (lb.flatMap Re.enc), RowA 31 3 (.slice a5 na c5) na (la.flatMap Re.enc), RowA 31 3 (.slice aw n cw) n ((la ++ lb).flatMap Re.enc), Blk gw (.cells #[.slice aw n cw] 37), Blk D (.deferred (some []))]) := Lib.hid (by
              have := One.app (P := Try.prog) (m := la) (s := .slice a5 na c5) elt_Re 37 (HO7.out.kn ((Kp.refl _ _).drew)) 0 rfl enc3 (by
                obtain ⟨F, h, _⟩ := (HO7.out.kn ((Kp.refl _ _).drew)).get 3 rfl
                exact Rl.of_row enc3 hna h) re_one (by have := HLL.out.1; unfold maxLen; omega) (by have := HLL.out.1; omega)
              rw [hna] at this
              simp only [Nat.zero_add, List.nil_append] at this
              exact this)
            have HB2 : Hid (∀ a7 c7 w7, One w w7 [RowA 31 3 (.slice a7 na c7) na (la.flatMap Re.enc), EpA t υ, RowA 31 3 (.slice a6 nb c6) nb (lb.flatMap Re.enc), RowA 31 3 (.slice a5 na c5) na (la.flatMap Re.enc), RowA 31 3 (.slice aw n cw) n ((la ++ lb).flatMap Re.enc), Blk gw (.cells #[.slice aw n cw] 37), Blk D (.deferred (some []))] → ∃ r w', (Builtin.append_ #[37, 37] 37 #[.slice a7 na c7, .slice a6 nb c6]).run Try.prog w7 = .ok r w' ∧ ∃ a1 cap, r = .slice a1 n cap ∧ One w w' [RowA 31 3 (.slice a1 n cap) n ((la ++ lb).flatMap Re.enc), EpA t υ, RowA 31 3 (.slice a6 nb c6) nb (lb.flatMap Re.enc), RowA 31 3 (.slice a5 na c5) na (la.flatMap Re.enc), RowA 31 3 (.slice aw n cw) n ((la ++ lb).flatMap Re.enc), Blk gw (.cells #[.slice aw n cw] 37), Blk D (.deferred (some []))]) := Lib.hid (fun a7 c7 w7 ho => by
              have := One.app (P := Try.prog) (m := lb) (s := .slice a6 nb c6) elt_Re 37 ho 0 rfl enc3 (by
                obtain ⟨F, h, _⟩ := ho.get 2 rfl
                exact Rl.of_row enc3 hnb h) re_one (by have := HLL.out; unfold maxLen; omega) (by have := HLL.out; omega)
              rw [hnb, ← HNN.out, ← List.flatMap_append] at this
              exact this)
            have HB3 : Hid (∀ a8 c8 w8, One w w8 [RowA 31 3 (.slice a8 n c8) n ((la ++ lb).flatMap Re.enc), EpA t υ, RowA 31 3 (.slice a6 nb c6) nb (lb.flatMap Re.enc), RowA 31 3 (.slice a5 na c5) na (la.flatMap Re.enc), RowA 31 3 (.slice aw n cw) n ((la ++ lb).flatMap Re.enc), Blk gw (.cells #[.slice aw n cw] 37), Blk D (.deferred (some []))] → Calls Try.prog 18 #[.slice a8 n c8, .slice aw n cw] w8 fun e w' => e = .returned (.bool true) ∧ KN w8 w') := Lib.hid (fun a8 c8 w8 ho => by
              refine same_re (l := la ++ lb) ?_ ?_ (by rw [hn]; have := HLL.out; have := HNN.out; unfold maxLen; omega)
              · obtain ⟨F, h, _⟩ := ho.get 0 rfl
                exact Rl.of_row enc3 hn h
              · obtain ⟨F, h, _⟩ := ho.get 4 rfl
                exact Rl.of_row enc3 hn h)
            clear hl0 HO7
            go_region_held3 (fun w' => w'.cell? ⟨gw, 0, none⟩ = some (.slice aw n cw)) (first | (with_reducible exact s0) | (with_reducible exact s1) | (with_reducible exact s2) | (with_reducible exact s3) | (with_reducible exact s4) | go_keep)
              (first
                | (refine step_appW (so := .const (.slice none 0 0)) (xo := .tmp 102) (t := 37) (v := .slice none 0 0) (s := .slice a5 na c5) (by rfl) (by rfl) (by rfl) (by rfl) HB1.out ?_; rintro r' w7 ⟨a7, c7, rfl, ho7⟩; have HO8 := Lib.hid ho7; have s1 := (cells1 (HO8.out.blk 5 rfl).1).1)
                | (refine step_appW (so := .tmp 103) (xo := .tmp 104) (t := 37) (v := .slice a7 na c7) (s := .slice a6 nb c6) (by rfl) (by rfl) (by rfl) (by rfl) (HB2.out _ _ _ HO8.out) ?_; rintro r' w8 ⟨a8, c8, rfl, ho8⟩; have HO9 := Lib.hid ho8; have s2 := (cells1 (HO9.out.blk 5 rfl).1).1)
                | (go_at_call 18; refine (HB3.out _ _ _ HO9.out).mono ?_; rintro e w9 ⟨rfl, k9⟩; have HO10 := Lib.hid (HO9.out.kn k9); have s3 := (cells1 (HO10.out.blk 5 rfl).1).1)
                | (go_at_call 14; refine (HO10.out.rd 1 rfl (fun F h => HWt.out F _ h)).mono ?_; rintro e w10 ⟨rfl, k10⟩; have HO11 := Lib.hid (HO10.out.kn k10); have s4 := (cells1 (HO11.out.blk 5 rfl).1).1))
            have HO12 := Lib.hid HO11.out.drop
            obtain ⟨kk, hkk, hk17⟩ : ∃ kk : Nat, s % 17 = (kk : Int) ∧ kk < 17 := ⟨(s % 17).toNat, by omega, by omega⟩
            have hnr : s.tmod 17 = (kk : Int) := by rw [Int.tmod_eq_emod_of_nonneg hs.1]; exact hkk
            obtain ⟨τ2, υ2, hH⟩ := held_of HG6.out HE.out.free hk17
            have HH := Lib.hid hH
            obtain ⟨lc, hlc⟩ := hH.adv
            have HLC := Lib.hid hlc
            have HG7 := Lib.hid (show Good (l.length + 2) τ2 by
              have := good_pin HG6.out (kk : Int)
              rw [hH.pin] at this
              exact this)
            have HG8 := Lib.hid (show Good (l.length + 3) υ2 by
              have := good_advance HG7.out (by omega)
              rw [hlc] at this
              exact this)
            have hnow : ((υ2.now : Nat) : Int) = (υ.now : Int) + 1 := by rw [hH.now]; omega
            have ht6 := HG6.out.fit.top
            clear HB1 HB2 HB3 HWt HO8 HO9 HO10 HO11 s0 s1 s2 s3 s4 hH hlc hkk hn hna hnb HNN HLL HFr HE HG2 HG5
            go_wp2_with fail
            refine (HO12.out.rd 0 rfl (fun F h => now_a h HG6.out.fit)).mono ?_
            rintro e w11 ⟨rfl, hw11⟩
            subst hw11
            go_wp2_with fail
            refine (HO12.out.lift 0 rfl (fun F h => pin_a h HG6.out.fit (kk : Int))).mono ?_
            rw [HH.out.pin]
            rintro e w12 ⟨rfl, ho⟩
            have HO13 := Lib.hid ho
            clear HO12 ho
            go_wp2_with fail
            refine (HO13.out.adv' HG7.out.fit).mono ?_
            rw [HLC.out]
            rintro e w13 ⟨a13, c13, rfl, ho⟩
            have HO14 := Lib.hid (One.out ho)
            clear HO13 ho
            go_wp2_with fail
            refine (HO14.out.adv' HG8.out.fit).mono ?_
            rw [HH.out.held]
            rintro e w14 ⟨a14, c14, rfl, ho⟩
            have HO15 := Lib.hid (One.out ho)
            clear HO14 ho
            go_wp2_with fail
            refine (HO15.out.adv' HG8.out.fit).mono ?_
            rw [HH.out.held]
            rintro e w15 ⟨a15, c15, rfl, ho⟩
            have HO16 := Lib.hid (One.out ho)
            clear HO15 ho
            go_wp2_with fail
            refine (HO16.out.rd 0 rfl (fun F h => now_a h HG8.out.fit)).mono ?_
            rintro e w16 ⟨rfl, hw16⟩
            subst hw16
            rw [hnow]
            go_wp2_with fail
            refine (HO16.out.lift 0 rfl (fun F h => unpin_a h HG8.out.fit (kk : Int))).mono ?_
            rw [HH.out.un]
            rintro e w17 ⟨rfl, ho⟩
            have HO17 := Lib.hid ho
            clear HO16 ho
            go_wp2_with fail
            refine ⟨by simp, .inl ⟨_, _, rfl, run_takeDeferred (HO17.out.blk 5 rfl).1, ?_⟩⟩
            exact ⟨.bool true, by simp [results, Try.results5, go_sem], rfl, below_putO HO17.out.old.below (by omega)⟩
          case stop =>
            rintro D c pre W hD hpre hI hK
            exact hI.elim
theorem ends_walk (a : Option Addr) (cap : Nat) (l : List Op6) (s : Int) (hs : 0 ≤ s ∧ s < 256) (w : World) (hl : l.length ≤ 1048576) (hr : Rd Op6.enc 5 w a l) :
    Calls Try.prog 5 #[.slice a l.length cap, .int .u8 s] w fun e w' => e = .returned (.bool true) ∧ KN w w' :=
  (callsIn_wide.1 (ends_in a cap l s hs w hl hr)).mono fun e W' ⟨he, hb⟩ => ⟨he, Below.kn' hb⟩
end Go.Proofs.Ytghmgmchfcbodaa
