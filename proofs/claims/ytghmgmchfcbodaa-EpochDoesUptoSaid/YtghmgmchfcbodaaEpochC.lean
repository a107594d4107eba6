/- Epochs: Clone. -/
import Derived.Test.YtghmgmchfcbodaaEpochB
import Derived.Test.YtghmgmchfcbodaaQuietT
import Derived.Deep.MidRow
import Derived.WalkSpells
namespace Go.Proofs.Ytghmgmchfcbodaa
set_option linter.unusedVariables false
set_option linter.unusedSimpArgs false
open Go Go.RowKit Go.Sort

/-- A new slice that reads as l. -/
def GaveRe (l : List Re) (w : World) (e : Ending) (w' : World) : Prop := ∃ a cap, e = .returned (.slice a l.length cap) ∧ Post (RowA 31 3 (.slice a l.length cap) l.length (l.flatMap Re.enc)) (fun _ => False) w w'
theorem clone_Re {v : Value} {l : List Re} {w : World} (hr : Rl Re.enc 3 w v l) (hl : l.length ≤ maxLen) (hb : l.length * 24 ≤ 140737488355328) : Calls Try.prog 37 #[v] w (GaveRe l w) := by
  obtain ⟨a, cap, rfl, hc, r⟩ := hr
  have HR := Lib.hid r
  cases a with
  | none =>
    have hq : ∀ w, (binOp .eql 37 (.slice none l.length cap) (.slice none 0 0)).run Try.prog w = .ok (.bool true) w := fun w => Go.Lib.run_eql_slice_nil w 37 31 none l.length cap 0 0 Try.underlying37
    have HL : Hid (l = []) := Lib.hid (by
      rcases r with r | ⟨b, off, h, _⟩
      · exact r
      · cases h)
    clear r
    go_enter Try.func37, Try.ntmps37
    go_wp2
    go_ret
    have e := HL.out
    subst e
    exact ⟨none, 0, rfl, post_nil 31 3 w⟩
  | some ad =>
    have hq : ∀ w, (binOp .eql 37 (.slice (some ad) l.length cap) (.slice none 0 0)).run Try.prog w = .ok (.bool false) w := fun w => Go.Lib.run_eql_slice_nil w 37 31 (some ad) l.length cap 0 0 Try.underlying37
    clear r
    have HO := Lib.hid ((One.nil w).add (post_newrow 31 3 w [] 0 rfl (Nat.zero_le _)))
    have HR2 := Lib.hid (HR.out.kn (kn_alloc w (.cells #[] 31)))
    go_enter Try.func37, Try.ntmps37
    go_wp2_with (at_builtin; refine wpList_appL 7 rfl rfl rfl rfl elt_Re HO.out 0 rfl rfl rfl enc3 (Rl.of_rd HR2.out hc) re_one (by omega) (by omega) ?_; intro a2 c2 w2 ho)
    go_ret
    have hp := ho.post 0 rfl
    rw [Nat.zero_add, List.nil_append] at hp
    exact ⟨a2, c2, by simp, hp⟩
theorem Stars.into : ∀ {l : List Asr} {w : World} {F1 F2 : Nat → Prop} {i : Nat} {A N : Asr}, Stars l w F2 → l[i]? = some N → A.on w F1 → (∀ b, F1 b → ¬ F2 b) → ∃ F, Stars (l.set i A) w F ∧ ∀ b, F b → F1 b ∨ F2 b
  | [], _, _, _, _, _, _, _, h, _, _ => by simp at h
  | B :: l, w, F1, F2, 0, A, N, ⟨G1, G2, h1, h2, hd, hF⟩, h, a, hx => ⟨fun b => F1 b ∨ G2 b, ⟨F1, G2, a, h2, fun b hb hg => hx b hb ((hF b).2 (.inr hg)), fun b => Iff.rfl⟩, fun b hb => hb.imp id fun hg => (hF b).2 (.inr hg)⟩
  | B :: l, w, F1, F2, i + 1, A, N, ⟨G1, G2, h1, h2, hd, hF⟩, h, a, hx => by
    obtain ⟨F, s, hs⟩ := Stars.into (i := i) h2 (by simpa using h) a (fun b hb hg => hx b hb ((hF b).2 (.inr hg)))
    refine ⟨fun b => G1 b ∨ F b, ⟨G1, F, h1, s, fun b hb hf => ?_, fun b => Iff.rfl⟩, fun b hb => ?_⟩
    · rcases hs b hf with h | h
      · exact hx b h ((hF b).2 (.inl hb))
      · exact hd b hb h
    · rcases hb with hb | hb
      · exact .inr ((hF b).2 (.inl hb))
      · exact (hs b hb).imp id fun hg => (hF b).2 (.inr hg)
/-- A row is put into an epoch. -/
theorem One.putRow {w0 w : World} {A : List Asr} {b : Nat} {o : Obj} {ps : List Nat} {xs : List Int} {rs : List Lim} {r r0 : Lim} {j : Nat} (h : One w0 w (r.row :: EpO b o ps xs rs :: A)) (hl : ps.length = xs.length) (hr : rs[j]? = some r0) : One w0 w (EpO b o ps xs (rs.set j r) :: A) := by
  obtain ⟨F, ⟨F1, F2, h1, ⟨F3, F4, h3, h4, hd', hF'⟩, hd, hF⟩, hb, hk⟩ := h
  have hg : (Blk b o :: (atomsA ps xs ++ rowsA rs))[ps.length + j + 1]? = some r0.row := by
    rw [List.getElem?_cons_succ, List.getElem?_append_right (by rw [atoms_len hl]; omega), atoms_len hl, Nat.add_sub_cancel_left]
    unfold rowsA
    rw [List.getElem?_map, hr]
    rfl
  obtain ⟨G, s, hs⟩ := Stars.into h3 hg h1 (fun x hx h => hd x hx ((hF' x).2 (.inl h)))
  rw [List.set_cons_succ, List.set_append_right _ _ (by rw [atoms_len hl]; omega), atoms_len hl, Nat.add_sub_cancel_left] at s
  have e : (rowsA rs).set j r.row = rowsA (rs.set j r) := by unfold rowsA; rw [List.map_set]
  rw [e] at s
  refine ⟨fun x => G x ∨ F4 x, ⟨G, F4, s, h4, fun x hx hf => ?_, fun x => Iff.rfl⟩, fun x hx => ?_, hk⟩
  · rcases hs x hx with h | h
    · exact hd x h ((hF' x).2 (.inr hf))
    · exact hd' x h hf
  · rcases hx with hx | hx
    · rcases hs x hx with h | h
      · exact hb x ((hF x).2 (.inl h))
      · exact hb x ((hF x).2 (.inr ((hF' x).2 (.inl h))))
    · exact hb x ((hF x).2 (.inr ((hF' x).2 (.inr hx))))
theorem One.putBlk {w0 w : World} {A : List Asr} {b : Nat} {o : Obj} (o' : Obj) {ps : List Nat} {xs : List Int} {rs : List Lim} (h : One w0 w (EpO b o ps xs rs :: A)) : One w0 (_root_.Go.Proofs.Ytghmgmchfcbodaa.setB w b o') (EpO b o' ps xs rs :: A) := by
  obtain ⟨F, h1, _, hup⟩ := h.get 0 rfl
  exact hup (EpO.put h1 o')
theorem xs_step (xs : List Int) (h : xs.length = 17) {k : Nat} {x : Int} (hx : xs[k]? = some x) : (xs.take k ++ List.replicate (17 - k) 0).set k x = xs.take (k + 1) ++ List.replicate (17 - (k + 1)) 0 := by
  have hk := (List.getElem?_eq_some_iff.1 hx).1
  rw [List.set_append_right _ _ (by rw [List.length_take]; omega), List.length_take, Nat.min_eq_left (by omega), Nat.sub_self]
  obtain ⟨m, hm⟩ : ∃ m, 17 - k = m + 1 := ⟨17 - k - 1, by omega⟩
  rw [hm, List.replicate_succ, List.set_cons_zero, List.take_add_one, hx, show 17 - (k + 1) = m by omega]
  simp
def lsTo (ls : List (List Re)) (j : Nat) : List (List Re) := ls.take j ++ List.replicate (3 - j) []
theorem ls_step (ls : List (List Re)) (h : ls.length = 3) {k : Nat} {x : List Re} (hx : ls[k]? = some x) : (lsTo ls k).set k x = lsTo ls (k + 1) := by
  unfold lsTo
  have hk := (List.getElem?_eq_some_iff.1 hx).1
  rw [List.set_append_right _ _ (by rw [List.length_take]; omega), List.length_take, Nat.min_eq_left (by omega), Nat.sub_self]
  obtain ⟨m, hm⟩ : ∃ m, 3 - k = m + 1 := ⟨3 - k - 1, by omega⟩
  rw [hm, List.replicate_succ, List.set_cons_zero, List.take_add_one, hx, show 3 - (k + 1) = m by omega]
  simp
def GaveClone (σ : Eps) (w : World) (e : Ending) (w' : World) : Prop := ∃ b, e = .returned (.pointer (some ⟨b, 0, none⟩)) ∧ Post (EpA b σ) (fun _ => False) w w'
set_option maxHeartbeats 4000000 in
theorem clone_a {b : Nat} {σ : Eps} {w : World} {F : Nat → Prop} (h : (EpA b σ).on w F) (hf : σ.Fit) (hlen : ∀ j, (σ.row j).length ≤ 9000000) : Calls Try.prog 23 #[.pointer (some ⟨b, 0, none⟩)] w (GaveClone σ w) := by
  have HC := Lib.hid (none_a h hf)
  have HH := Lib.hid h
  have HF := Lib.hid hf
  have HL := Lib.hid hlen
  clear h hf hlen
  go_enter Try.func23, Try.ntmps23
  go_wp2_with fail
  refine HC.out.mono ?_
  rintro e w' ⟨rfl, rfl⟩
  go_wp2_with fail
  refine (new_ep _).mono ?_
  rintro e w1 ⟨b1, ps1, rfl, h17, hp⟩
  have HO := Lib.hid ((One.nil w).add hp)
  have H17 := Lib.hid h17
  clear hp h17 HC
  obtain ⟨ps, rs, r, h1, h2, hr, hrl, he, c0, cj, fr, hbw⟩ := EpA.lim HH.out HF.out (j := 0) (by decide)
  have HE := Lib.hid he
  have HR := Lib.hid (And.intro h1 (And.intro h2 (And.intro HF.out.llen HF.out.xlen)))
  have c0' := cell_kn c0 HO.out.old
  obtain ⟨F1, hep, _⟩ := HO.out.get 0 rfl
  have f0 : w1.frozen? ⟨b1, 0, none⟩ = false := free_blk (EpO.blk hep).1
  have c1 : w1.cell? ⟨b1, 0, none⟩ = some (.int .i64 1) := cell_blk (EpO.blk hep).1 ec_now
  have hb1 := lt_blk (EpO.blk hep).1
  clear hr hrl he c0 cj fr hep h1 h2 r
  go_upto_region 5 with fail
  have HO2 := Lib.hid (show One w (w1.setCell ⟨b1, 0, none⟩ (.int .i64 σ.now)) [Ep b1 σ.now ps1 (List.replicate 17 0) [nilL, nilL, nilL]] from by
    obtain ⟨F1, hep, _⟩ := HO.out.get 0 rfl
    rw [setCell_setB _ (EpO.blk hep).1, ec_set_now]
    exact HO.out.putBlk _)
  clear HO c0' f0 c1
  generalize w1.setCell ⟨b1, 0, none⟩ (.int .i64 σ.now) = w2 at *
  have HG := Lib.hid (show w2.rangeAt b 1 (ps.map ptrv) from fun j v hv => cell_kn (cell_blk (EpO.blk HE.out).1 (ec_pin hv)) HO2.out.old)
  have HI := Lib.hid (show (Try.prog.info? 64).map (·.size) = some (ps.map ptrv).length by rw [List.length_map, HR.out.1]; rfl)
  go_wp2_with (refine wpList_load_mid rfl 64 _ rfl b 1 rfl (ps.map ptrv) _ HG.out Try.underlying64 rfl HI.out ?_)
  clear HG HI
  go_loopw [22] (fun s wr => ∃ k : Nat, k ≤ 17 ∧ s = .int .i64 k ∧ Hid (One w wr [Ep b1 σ.now ps1 (σ.xs.take k ++ List.replicate (17 - k) 0) [nilL, nilL, nilL]])) (fun s _ => 17 - (intOf s).toNat)
  case atStart => exact ⟨0, Nat.zero_le _, rfl, HO2⟩
  case round =>
    obtain ⟨k, hk, rfl, HM⟩ := hrel
    clear HO2
    by_cases hlt : k < 17
    · obtain ⟨p, hp⟩ : ∃ p, ps[k]? = some p := ⟨_, List.getElem?_eq_getElem (by have := HR.out.1; omega)⟩
      obtain ⟨q, hq⟩ : ∃ q, ps1[k]? = some q := ⟨_, List.getElem?_eq_getElem (by have := H17.out; omega)⟩
      obtain ⟨x, hx⟩ : ∃ x, σ.xs[k]? = some x := ⟨_, List.getElem?_eq_getElem (by have := HR.out.2.2.2; omega)⟩
      have hpb : w.heap[p]? = some (atom x) := (EpO.pin HE.out (by rw [HR.out.1, HR.out.2.2.2]) hp hx).1
      have HX := Lib.hid (fun d os => aload ((kn_regrown wr d os).blk (HM.out.old.blk hpb id) id))
      have hpv : (ps.map ptrv)[k]? = some (.pointer (some ⟨p, 0, none⟩)) := by rw [List.getElem?_map, hp]; rfl
      have hlen : (ps.map ptrv).length = 17 := by rw [List.length_map]; exact HR.out.1
      have hz0 : (0 : Int) ≤ (k : Int) := by omega
      have hz1 : (k : Int) < 17 := by omega
      have hix := run_index_one (P := Try.prog) wr Try.underlying64 Try.underlying63 rfl (by rfl) hlt hpv
      have hxl : (σ.xs.take k ++ List.replicate (17 - k) 0).length = 17 := by rw [List.length_append, List.length_take, HR.out.2.2.2, List.length_replicate]; omega
      have hx0 : (σ.xs.take k ++ List.replicate (17 - k) (0 : Int))[k]? = some 0 := by
        rw [List.getElem?_append_right (by rw [List.length_take]; omega), List.length_take, HR.out.2.2.2, List.getElem?_replicate, if_pos (by omega)]
      obtain ⟨F1, hep, _, hup⟩ := HM.out.get 0 rfl
      have cq : wr.cell? ⟨b1, 1 + k, none⟩ = some (.pointer (some ⟨q, 0, none⟩)) := cell_blk (EpO.blk hep).1 (ec_pin (by rw [List.getElem?_map, hq]; rfl))
      have HST := Lib.hid (fun (W : World) (kn : KN wr W) => astore x (kn.blk (EpO.pin hep (by rw [H17.out, hxl]) hq hx0).1 id))
      have HUP := Lib.hid (fun (W : World) (kn : KN wr W) => show One w (setB W q (atom x)) [Ep b1 σ.now ps1 (σ.xs.take (k + 1) ++ List.replicate (17 - (k + 1)) 0) [nilL, nilL, nilL]] from by
        have hW := HM.out.kn kn
        obtain ⟨F1, hep, _, hup⟩ := hW.get 0 rfl
        have := hup ((EpO.pin hep (by rw [H17.out, hxl]) hq hx0).2.2 x)
        rw [xs_step σ.xs HR.out.2.2.2 hx] at this
        exact this)
      clear hp hq hpb hx hx0 hxl hep hup
      generalize ps.map ptrv = pv at *
      go_wp2_with fail
      refine wp_region_below_tail 8 (by kernel_rfl) (by kernel_rfl) ?_
      simp only [List.take_succ_cons, List.take_zero, List.drop_succ_cons, List.drop_zero]
      have cqr := fun d os => cell_regrown (d := d) (os := os) cq
      repeat (go_big_quiet_step (first | (go_at_call 28; exact quiet_same (HX.out _ _))))
      refine wpQuiet_nil ?_
      intro _ hw'
      obtain ⟨⟨dq, osq⟩, hw''⟩ := hw'
      subst hw''
      go_wp2_with fail
      refine (HST.out _ (kn_regrown _ dq osq)).mono ?_
      rintro e w5 ⟨rfl, hw5⟩
      have HW := Lib.hid hw5
      clear hw5
      go_wp2_with fail
      go_roundw
      case rel => exact ⟨k + 1, by omega, by go_num, by rw [HW.out]; exact Lib.hid (HUP.out _ (kn_regrown _ dq osq))⟩
      case measure => simp [intOf]; omega
    · obtain rfl : k = 17 := by omega
      have hxs : σ.xs.take 17 ++ List.replicate (17 - 17) (0 : Int) = σ.xs := by rw [List.take_of_length_le (by rw [HR.out.2.2.2]; exact Nat.le_refl _)]; simp
      rw [hxs] at HM
      have HG := Lib.hid (show wr.rangeAt b 18 (rs.map Lim.v) from fun j v hv => cell_kn (cell_blk (EpO.blk HE.out).1 (by
        have := ec_lim (now := σ.now) (vs := ps.map ptrv) (ss := rs.map Lim.v) (j := j) (v := v) hv
        rw [List.length_map, HR.out.1] at this
        exact this)) HM.out.old)
      have hrl : rs.length = 3 := by have := congrArg List.length HR.out.2.1; rw [List.length_map, HR.out.2.2.1] at this; exact this
      have HRL := Lib.hid hrl
      have HI := Lib.hid (show (Try.prog.info? 65).map (·.size) = some (rs.map Lim.v).length by rw [List.length_map, hrl]; rfl)
      clear hxs hrl
      go_wp2_with (refine wpList_load_mid rfl 65 _ rfl b 18 rfl (rs.map Lim.v) _ HG.out Try.underlying65 rfl HI.out ?_)
      clear HG HI
      go_loopw [40] (fun s wr => ∃ (j : Nat) (rs1 : List Lim), j ≤ 3 ∧ s = .int .i64 j ∧ Hid (rs1.map (fun r : Lim => r.2.2) = lsTo σ.ls j) ∧ Hid (One w wr [Ep b1 σ.now ps1 σ.xs rs1])) (fun s _ => 3 - (intOf s).toNat)
      case atStart => exact ⟨0, [nilL, nilL, nilL], Nat.zero_le _, rfl, Lib.hid rfl, HM⟩
      case round =>
        clear HM
        obtain ⟨j, rs1, hj, rfl, HJ, HM⟩ := hrel
        by_cases hlt : j < 3
        · obtain ⟨r, hr⟩ : ∃ r, rs[j]? = some r := ⟨_, List.getElem?_eq_getElem (by have := HRL.out; omega)⟩
          have hl17 : ps1.length = σ.xs.length := by rw [H17.out, HR.out.2.2.2]
          have hrow : σ.ls[j]? = some r.2.2 := by rw [← HR.out.2.1, List.getElem?_map, hr]; rfl
          have hlr : r.2.2.length ≤ 9000000 := by
            have := HL.out j
            simp only [Eps.row, List.getD, hrow] at this
            exact this
          have hl1 : rs1.length = 3 := by
            have := congrArg List.length HJ.out
            rw [List.length_map] at this
            rw [this]
            unfold lsTo
            rw [List.length_append, List.length_take, HR.out.2.2.1, List.length_replicate]; omega
          obtain ⟨r1, hr1⟩ : ∃ r1, rs1[j]? = some r1 := ⟨_, List.getElem?_eq_getElem (by omega)⟩
          have HLS := Lib.hid (ls_step σ.ls HR.out.2.2.1 hrow)
          obtain ⟨F1, hrr, _⟩ := EpO.row HE.out (by rw [HR.out.1, HR.out.2.2.2]) hr
          have HCl := Lib.hid (fun (W : World) (k : KN w W) => clone_Re ((Rl.of_row (l := r.2.2) enc3 rfl hrr).kn k) (by unfold maxLen; omega) (by omega))
          have hpv : (rs.map Lim.v)[j]? = some (.slice r.1 r.2.2.length r.2.1) := by rw [List.getElem?_map, hr]; rfl
          have hlen : (rs.map Lim.v).length = 3 := by rw [List.length_map]; exact HRL.out
          have hz0 : (0 : Int) ≤ (j : Int) := by omega
          have hz1 : (j : Int) < 3 := by omega
          have hix := run_index_one (P := Try.prog) wr Try.underlying65 Try.underlying37 rfl (by rfl) hlt hpv
          have HPT := Lib.hid (And.intro hr1 (And.intro hl17 hl1))
          have HQ := Lib.hid (fun (W : World) (A : Asr) (ho : One w W [A, Ep b1 σ.now ps1 σ.xs rs1]) => show W.cell? ⟨b1, 18 + j, none⟩ = some (.slice r1.1 r1.2.2.length r1.2.1) ∧ (∀ i, W.frozen? ⟨b1, i, none⟩ = false) ∧ W.heap[b1]? = some (EObj σ.now (ps1.map ptrv) (rs1.map Lim.v)) from by
            obtain ⟨F5, h5, _⟩ := ho.get 1 rfl
            have := ec_lim (now := σ.now) (vs := ps1.map ptrv) (ss := rs1.map Lim.v) (j := j) (v := r1.v) (by rw [List.getElem?_map, hr1]; rfl)
            rw [List.length_map, H17.out] at this
            exact ⟨cell_blk (EpO.blk h5).1 this, fun i => free_blk (EpO.blk h5).1, (EpO.blk h5).1⟩)
          clear hr hl17 hrow hlr hl1 hr1 hrr
          generalize rs.map Lim.v = rv at *
          obtain ⟨ra, rc, rl⟩ := r
          simp only at hpv hix HCl HLS
          go_wp2_with fail
          go_region_held3 (fun w' => True) (trivial) ((go_at_call 37; refine (HCl.out _ HM.out.old.drew).mono ?_; rintro e w5 ⟨a5, c5, rfl, hp5⟩; have HO5 := Lib.hid ((HM.out.kn (Kp.refl _ _).drew).add hp5); obtain ⟨e5, f5, b5⟩ := HQ.out _ _ HO5.out; have B5 := Lib.hid b5; clear hp5 b5))
          have HF5 := Lib.hid (show One w (w5.setCell ⟨b1, 18 + j, none⟩ (.slice a5 rl.length c5)) [Ep b1 σ.now ps1 σ.xs (rs1.set j (a5, c5, rl))] from by
            have e := setCell_setB (i := 18 + j) (.slice a5 rl.length c5) B5.out
            have e2 := ec_set_lim (now := σ.now) (vs := ps1.map ptrv) (ss := rs1.map Lim.v) (j := j) (Lim.v (a5, c5, rl))
            rw [List.length_map, H17.out, ← List.map_set] at e2
            rw [e]
            have h1 := One.putRow (r := (a5, c5, rl)) HO5.out HPT.out.2.1 HPT.out.1
            have h2 := One.putBlk (EObj σ.now (ps1.map ptrv) ((rs1.set j (a5, c5, rl)).map Lim.v)) h1
            have e4 : (EC σ.now (ps1.map ptrv) (rs1.map Lim.v)).toArray.setIfInBounds (18 + j) (.slice a5 rl.length c5) = _ := e2
            rw [e4]
            exact h2)
          go_wp2_with fail
          go_roundw
          case rel => exact ⟨j + 1, _, by omega, by go_num, Lib.hid (by rw [List.map_set, HJ.out]; exact HLS.out), HF5⟩
          case measure => simp [intOf]; omega
        · obtain rfl : j = 3 := by omega
          have hls : lsTo σ.ls 3 = σ.ls := by
            unfold lsTo
            rw [List.take_of_length_le (by rw [HR.out.2.2.1]; exact Nat.le_refl _)]; simp
          rw [hls] at HJ
          clear hls
          go_wp2_with fail
          go_ret
          exact ⟨b1, rfl, (HM.out.post 0 rfl).imp fun F' h' => ⟨ps1, rs1, H17.out, HJ.out, h'⟩⟩
end Go.Proofs.Ytghmgmchfcbodaa
