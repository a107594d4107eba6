/- Heaps: Retire. -/
import Derived.Test.YtinejaganickpaaHeapX
namespace Go.Proofs.Ytinejaganickpaa
set_option linter.unusedVariables false
set_option linter.unusedSimpArgs false
open Go Go.RowKit Go.Sort Go.Shelf
attribute [local go_sem] Oper.semAt_some

theorem elt_Hd : Elt Try.prog 32 36 (.agg #[.int .i64 0, .int .i64 0]) 2 16 := ⟨Try.underlying32, by kernel_rfl, rfl, by decide⟩
theorem encH2 (x : Hd) : (Hd.enc x).length = 2 := rfl
theorem oneH (x : Hd) : ∀ u ∈ Hd.enc x, u.oneCell' = true := by
  intro u hu
  simp only [Hd.enc, List.mem_cons, List.not_mem_nil, or_false] at hu
  rcases hu with h | h <;> subst h <;> rfl
theorem rl_hd {w : World} {g : Nat} {v : Hd} {fr : Nat × Nat} {T : TypeId} {cap : Nat} (h : w.heap[g]? = some (.cells #[.int .i64 v.slot, .int .i64 v.gen] T fr)) (hc : 1 ≤ cap := by decide) : Rl Hd.enc 2 w (.slice (some ⟨g, 0, none⟩) 1 cap) [v] := by
  refine Rl.of_rd (l := [v]) (.inr ⟨g, 0, rfl, lt_blk h, fun i x hx j hj => ?_⟩) hc
  obtain rfl : i = 0 := by
    have := (List.getElem?_eq_some_iff.1 hx).1
    simpa using this
  cases hx
  have : j = 0 ∨ j = 1 := by omega
  rcases this with rfl | rfl
  · exact cell_blk h rfl
  · exact cell_blk h rfl
/-- The first of what is left, and the rest, apart. -/
theorem Pw.part {A : Asr} {l : List Asr} {F : Nat → Prop} {w w' : World} (h : Pw F w w' (A :: l)) : ∃ F1 F2, A.on w' F1 ∧ (All l).on w' F2 ∧ (∀ y, F1 y → ¬ F2 y) ∧ ∀ {w'' A'}, Post A' F1 w' w'' → Pw F w w'' (A' :: l) := by
  obtain ⟨F', ⟨F1, F2, h1, h2, hd, hF⟩, k, s⟩ := h
  refine ⟨F1, F2, h1, h2, hd, fun {w'' A'} hp => ?_⟩
  obtain ⟨F3, h3, k3, s3⟩ := hp
  refine ⟨fun y => F3 y ∨ F2 y, ⟨F3, F2, h3, (All l).keep h2 k3 (fun y hy h => hd y h hy), fun y hy hn => ?_, fun y => Iff.rfl⟩, k.trans k3 (fun y hy => s y ((hF y).2 (.inl hy))), fun y hy => ?_⟩
  · rcases s3 y hy with h | h
    · exact hd y h hn
    · have := (All l).lt h2 y hn; omega
  · rcases hy with hy | hy
    · rcases s3 y hy with h | h
      · exact s y ((hF y).2 (.inl h))
      · exact .inr (Nat.le_trans k.size h)
    · exact s y ((hF y).2 (.inr hy))
section
variable {b c d e : Nat} {σ : Hps} {ε : Eps} {w w' : World} {F : Nat → Prop}
/-- retires, where the epoch, the heap and the row are owned side by side. -/
theorem retires_p {a : Option Addr} {cap n : Nat} {l : List Hd} {L : List Asr} (h : Pw F w w' (EpA e ε :: L)) (hf : ε.Fit) (ib ir : Nat) (hb : L[ib]? = some (Blk b (.cells (hpCells c d e σ.rs) 70))) (hr : L[ir]? = some (RowA 36 2 (.slice a n cap) n (l.flatMap Hd.enc))) (hn : l.length = n)
    (hl : l.length ≤ 1000000) (hrow : ∀ j, (ε.row j).length ≤ 100000000) :
    Calls Try.prog 47 #[.pointer (some ⟨b, 0, none⟩), .slice a n cap] w' fun e' w'' => e' = .returned (.tuple #[]) ∧ Pw F w w'' (EpA e (ε.retires l) :: L) := by
  obtain ⟨F1, F2, h1, h2, hd, hup⟩ := h.part
  obtain ⟨F3, ⟨b1, b2⟩, b3, _⟩ := Stars.get h2 hb
  obtain ⟨F4, r1, r3, _⟩ := Stars.get h2 hr
  have hrd : Rd Hd.enc 2 w' a l := by
    obtain ⟨a', cap', hv, _, hrd⟩ := Rl.of_row (l := l) encH2 hn r1
    injection hv with e1 e2 e3
    rw [e1]; exact hrd
  have hc2 : w'.cell? ⟨b, 2, none⟩ = some (.pointer (some ⟨e, 0, none⟩)) := cell_blk b1 (by simp [hpCells])
  subst hn
  refine (retires_h h1 hf hc2 (fun hy => hd b hy (b3 b (by rw [b2]))) hrd (fun p hp hy => hd p.block hy (r3 _ ?_)) hl hrow).mono fun e' w'' ⟨he, hp⟩ => ⟨he, hup hp⟩
  rw [r1.2, hp]
  rfl
end
/-- What is owned joins what is left. -/
theorem Pw.join {F : Nat → Prop} {w w' w'' : World} {L M : List Asr} (h : Pw F w w' L) (o : One w' w'' M) : Pw F w w'' (M ++ L) := by
  obtain ⟨F1, a1, k1, s1⟩ := h
  obtain ⟨F2, a2, b2, k2⟩ := o
  have hlt := Stars.lt a1
  refine ⟨fun y => F2 y ∨ F1 y, Stars.join a2 (Stars.keep a1 k2 (fun _ _ h => h)) (fun y hy hn => by have := b2 y hy; have := hlt y hn; omega) (fun y => Iff.rfl), k1.trans k2 (fun _ h => h.elim), fun y hy => ?_⟩
  rcases hy with hy | hy
  · exact .inr (Nat.le_trans k1.size (b2 y hy))
  · exact s1 y hy
theorem Pw.setB {F : Nat → Prop} {w w' : World} {l : List Asr} (h : Pw F w w' l) (i : Nat) {g : Nat} {o : Obj} (hi : l[i]? = some (Blk g o)) (o' : Obj) : Pw F w (setB w' g o') (l.set i (Blk g o')) := by
  obtain ⟨F1, h1, _, hup⟩ := h.get i hi
  exact hup (post_setB _ h1)
section
variable {b c d e : Nat} {σ : Hps} {ε : Eps} {w w' : World} {F : Nat → Prop}
set_option maxRecDepth 100000 in
set_option maxHeartbeats 8000000 in
theorem retire_in {i : Nat} {s : Slot Cl} {xs : List (Hd × No)} (h : Pw F w w' (EpA e ε :: HpL b c d e σ)) (hf : ε.Fit) (hs : σ.L[i]? = some s) (hg : s.given = true) (hcl : s.has.closed = true) (hrt : s.has.retired = false) (hc : Ch σ.V s.has.newest xs) (hl : xs.length ≤ 1000000) (hrow : ∀ j, (ε.row j).length ≤ 90000000) :
    CallsIn Fence.wide 3 Try.prog 18 #[.pointer (some ⟨b, 0, none⟩), .agg #[.int .i64 i, .int .i64 s.gen]] w' fun e' w'' => e' = .returned (.int .i64 0) ∧ Pw F w w'' (EpA e ((ε.retires (xs.map (·.1))).retire ⟨4, ⟨i, s.gen⟩⟩) :: HpL b c d e ⟨σ.L.set i ⟨⟨s.has.key, zH, s.has.closed, true⟩, s.gen, s.given⟩, σ.sl, σ.V, σ.sv, σ.rs⟩) := by
  have HH := Lib.hid h
  have hk := kn_alloc w' (.cells #[.int .i64 i, .int .i64 s.gen] 36)
  have HG := Lib.hid (get_good_h ((Pw.drop h).kn hk) hs hg)
  obtain ⟨x0, x1, _, _⟩ := cells2 (heap_alloc_same w' (.cells #[.int .i64 i, .int .i64 s.gen] 36))
  have HO := Lib.hid ((One.nil w').alloc (.cells #[.int .i64 i, .int .i64 s.gen] 36))
  have HSG := Lib.hid (And.intro hs hg)
  have HC := Lib.hid hc
  have HF := Lib.hid (And.intro hf hrow)
  have HCl := Lib.hid (And.intro hcl hrt)
  clear hf hs hg hc hk hrow hcl hrt h
  refine callsIn_of_wp_marks Try.func18 rfl trivial ?_ rfl
  simp only [Try.ntmps18, List.size_toArray, List.length_cons, List.length_nil, Nat.reduceAdd, Nat.reduceSub, Array.replicate_succ, Array.replicate_zero, List.push_toArray, List.append_toArray, List.nil_append, List.cons_append]
  refine wpIn_wide.2 ?_
  go_upto_region 4 with (go_at_call 42; refine HG.out.mono ?_; rintro e3 w3 ⟨rfl, k3⟩; have HO3 := Lib.hid (HO.out.kn k3))
  have HO4 := Lib.hid (HO3.out.alloc (.cells #[.string s.has.key, .int .i64 s.has.newest.slot, .int .i64 s.has.newest.gen, .bool s.has.closed, .bool s.has.retired] 94))
  clear HO3 HO HG x0 x1 k3
  generalize w3.alloc (.cells #[.string s.has.key, .int .i64 s.has.newest.slot, .int .i64 s.has.newest.gen, .bool s.has.closed, .bool s.has.retired] 94) = W4 at *
  generalize w3.heap.size = g5 at *
  obtain ⟨y0, y1, y2, y3, y4, yf⟩ := cells5 (HO4.out.blk 0 rfl).1
  rw [HCl.out.1] at y3
  rw [HCl.out.2] at y4
  go_upto_region 7 with fail
  have HO5 := Lib.hid (HO4.out.alloc (.cells #[.slice none 0 0] 32))
  clear HO4 y0 y1 y2 y3 y4 yf
  generalize W4.alloc (.cells #[.slice none 0 0] 32) = W0 at *
  generalize W4.heap.size = g7 at *
  obtain ⟨y0, y1, y2, y3, y4, yf⟩ := cells5 (HO5.out.blk 1 rfl).1
  have HCh := Lib.hid (show ∀ F0, (All (HpL b c d e σ)).on W0 F0 → Calls Try.prog 44 #[.pointer (some ⟨b, 0, none⟩), hdV s.has.newest] W0 (fun e' w'' => ∃ b1 b2, e' = .returned (.func (.func 68) #[] #[.pointer (some ⟨b1, 0, none⟩), .pointer (some ⟨b2, 0, none⟩)]) ∧ Pw F0 W0 w'' (ChL b1 b2 b c d e σ s.has.newest) ∧ KN W0 w'') from fun F0 h0 => chain_h (Pw.start h0) s.has.newest)
  obtain ⟨F0, hon, _, _⟩ := Pw.drop HH.out
  have HLt := Lib.hid (fun y (hy : F0 y) => (All (HpL b c d e σ)).lt hon y hy)
  have HC0 := Lib.hid (HCh.out F0 ((All (HpL b c d e σ)).kn hon HO5.out.old))
  clear hon HCh
  go_wp2_with fail
  refine HC0.out.mono ?_
  rintro e6 W1 ⟨b1, b2, rfl, ⟨G, hG, _, hGs⟩, k1⟩
  have hgg : g7 < W0.heap.size ∧ g5 < W0.heap.size ∧ w'.heap.size ≤ g7 ∧ w'.heap.size ≤ g5 ∧ w'.heap.size < W0.heap.size := ⟨lt_blk (HO5.out.blk 0 rfl).1, lt_blk (HO5.out.blk 1 rfl).1, (HO5.out.blk 0 rfl).2, (HO5.out.blk 1 rfl).2, lt_blk (HO5.out.blk 2 rfl).1⟩
  have hGn : ∀ y, w'.heap.size ≤ y → y < W0.heap.size → ¬ G y := fun y h1 h2 hy => by
    rcases hGs y hy with h | h
    · have := HLt.out y h; omega
    · omega
  have HGl := Lib.hid (fun y (hy : G y) => (All (ChL b1 b2 b c d e σ s.has.newest)).lt hG y hy)
  have HGn := Lib.hid hGn
  have HO6 := Lib.hid (HO5.out.kn k1)
  have HSEQ := Lib.hid (chain_stops 2 (by omega) b1 b2 G s.has.newest xs W1 hG HC.out)
  have hw1 : W0.heap.size ≤ W1.heap.size := k1.size
  have HF0 := Lib.hid ((One.nilRow HO6.out 36 2).perm (List.Perm.swap _ _ _)).loopT
  have hww : w'.heap.size ≤ W1.heap.size := by omega
  have HGG := Lib.hid hgg
  clear hG hGs k1 hGn HO5 HO6 HC0 HLt y0 y1 y2 y3 y4 yf hgg
  go_upto_block 0 with (fail)
  refine (wpIn_wide (n := 3)).1 ?_
  gi_wp2_with fail
  refine wpIn_rangeFunc_ownT rfl (show 1 ≤ 3 by omega) (gf := 68) (lb := #[.pointer (some ⟨b1, 0, none⟩), .pointer (some ⟨b2, 0, none⟩)]) rfl trivial (enters_of Try.func68 (by kernel_rfl) rfl)
    HSEQ.out Kx.trans (Kx.put HGl.out) (Below.refl _ _) (fun _ => rfl)
    (fun T pre W => ∃ aw cw, OneT W1.heap.size w' T W [Blk g7 (.cells #[.slice aw pre.length cw] 32), RowA 36 2 (.slice aw pre.length cw) pre.length ((pre.map (·.1)).flatMap Hd.enc), Blk g5 (.cells #[.string s.has.key, .int .i64 s.has.newest.slot, .int .i64 s.has.newest.gen, .bool s.has.closed, .bool s.has.retired] 94), Blk w'.heap.size (.cells #[.int .i64 i, .int .i64 s.gen] 36)] ∧ (∀ y, (Value.slice aw pre.length cw).ownBlock = some y → W1.heap.size ≤ y) ∧ W1.heap.size ≤ W.heap.size)
    (fun c T pre W => False)
    (fun T pre W W' row hs hg hr => by
      obtain ⟨aw, cw, h1, h2, h3⟩ := hs
      exact ⟨aw, cw, oneT_own (β := Unit) hww (fun _ => [Blk g7 (.cells #[.slice aw pre.length cw] 32), RowA 36 2 (.slice aw pre.length cw) pre.length ((pre.map (·.1)).flatMap Hd.enc), Blk g5 (.cells #[.string s.has.key, .int .i64 s.has.newest.slot, .int .i64 s.has.newest.gen, .bool s.has.closed, .bool s.has.retired] 94), Blk w'.heap.size (.cells #[.int .i64 i, .int .i64 s.gen] 36)]) T () W W' row h1 hg hr, h2, Nat.le_trans h3 hg.size⟩)
    (fun c T s W W' row hs hg hr => hs.elim)
    (fun T pre W W' hs hT k => by
      obtain ⟨aw, cw, h1, h2, h3⟩ := hs
      exact ⟨aw, cw, oneT_abides (β := Unit) hww (fun _ => [Blk g7 (.cells #[.slice aw pre.length cw] 32), RowA 36 2 (.slice aw pre.length cw) pre.length ((pre.map (·.1)).flatMap Hd.enc), Blk g5 (.cells #[.string s.has.key, .int .i64 s.has.newest.slot, .int .i64 s.has.newest.gen, .bool s.has.closed, .bool s.has.retired] 94), Blk w'.heap.size (.cells #[.int .i64 i, .int .i64 s.gen] 36)]) T () W W' h1 hT k, h2, Nat.le_trans h3 k.size⟩)
    (fun c T s W W' hs hT k => hs.elim)
    ⟨none, 0, HF0.out, fun y hy => by simp [Value.ownBlock] at hy, Nat.le_refl _⟩
    (fun y a' W => ∃ Bx, W1.heap.size ≤ Bx ∧ W.heap[Bx]? = some (.cells #[.int .i64 y.1.slot, .int .i64 y.1.gen] 36) ∧ a' = { tmps := #[.pointer (some ⟨b, 0, none⟩), .agg #[.int .i64 i, .int .i64 s.gen], undef, .pointer (some ⟨w'.heap.size, 0, none⟩), .int .i64 0, .pointer (some ⟨g5, 0, none⟩), .int .i64 0, .pointer (some ⟨g7, 0, none⟩), .pointer (some ⟨Bx, 0, none⟩), .tuple #[clV s.has, .int .i64 0], .pointer (some ⟨b, 0, none⟩), .agg #[.int .i64 i, .int .i64 s.gen], .tuple #[clV s.has, .int .i64 0], clV s.has, .int .i64 0, .int .i64 0, .bool false, undef, .pointer (some ⟨g5, 3, none⟩), .bool true, .bool false, .bool false, .pointer (some ⟨g5, 4, none⟩), .bool false, .bool false, .pointer (some ⟨b, 0, none⟩), .pointer (some ⟨g5, 1, none⟩), hdV s.has.newest, .func (.func 68) #[] #[.pointer (some ⟨b1, 0, none⟩), .pointer (some ⟨b2, 0, none⟩)], hdV y.1, noV y.2, undef, undef, undef, undef, undef, undef, undef, undef, undef, undef, undef, undef, undef, undef, undef, undef, undef, undef, undef, undef, undef, undef, undef, undef], defers := [] })
    (fun y a' _ X Y row hs hg hr => by
      obtain ⟨Bx, h1, h2, h3⟩ := hs
      refine ⟨Bx, h1, (hg.block Bx (lt_blk h2) (fun e => ?_)).trans h2, h3⟩
      obtain ⟨_, o, ho, hc⟩ := hr Bx e.symm
      rw [h2] at ho; cases ho; cases hc)
    ?assign ?body ?done ?stop
  case assign =>
    intro lp T pre y W K hI hK
    obtain ⟨aw, cw, hI, h2, h3⟩ := hI
    gi_wp2
    exact hK _ _ (keepsFrom_kn (kn_alloc _ _)) (Kx.kn (kn_alloc _ _)) ⟨aw, cw, hI.kn (kn_alloc _ _), h2, Nat.le_trans h3 (kn_alloc _ _).size⟩ ⟨W.heap.size, h3, heap_alloc_same _ _, rfl⟩
  case body =>
    rintro lp T pre y a' W hlp ⟨r, hr⟩ hI ⟨Bx, hBx, bX, rfl⟩ hlt
    obtain ⟨aw, cw, hI, h2, h3⟩ := hI
    obtain ⟨n0, f0⟩ := cells1 (hI.one.blk 0 rfl).1
    have hTg := (hI.blk 0 rfl).2
    obtain ⟨z0, z1, _, _⟩ := cells2 bX
    obtain ⟨⟨ys1, yg1⟩, yo⟩ := y
    simp only at z0 z1 bX
    have HAp := Lib.hid (OneT.app (P := Try.prog) (m := [(⟨ys1, yg1⟩ : Hd)]) elt_Hd 32 (hI.kn (kn_alloc W (.cells #[.int .i64 ys1, .int .i64 yg1] 36))) 1 rfl (Nat.le_trans h3 (kn_alloc _ _).size) h2 encH2 (rl_hd (v := ⟨ys1, yg1⟩) (cap := 1) (heap_alloc_same W _)) oneH (by unfold maxLen; simp only [List.length_singleton]; omega) (by simp only [List.length_singleton]; omega))
    have HPr := Lib.hid (And.intro h2 h3)
    have HcW := Lib.hid (show (∀ y, (Value.slice aw pre.length cw).ownBlock = some y → y < W1.heap.size ∨ ∃ o, W.heap[y]? = some o ∧ o.isCells = true) ∧ ∀ y, (Value.slice aw pre.length cw).ownBlock = some y → ¬ T y by
      obtain ⟨F1, hF, _, ht, hcl, _⟩ := hI.get 1 rfl
      exact ⟨fun y hy => hcl y (by rw [hF.2]; exact hy), fun y hy => ht y (by rw [hF.2]; exact hy)⟩)
    clear hI bX h2
    gi_wp2_with (gi_at_builtin; refine wpListIn_appX rfl (by rfl) (by rfl) (by rfl) HAp.out ?_; rintro r' w2 ⟨a1, c1, rfl, ho, hk, hx, hc, ht⟩; have HI2 := Lib.hid ho; have HK2 := Lib.hid hk; have HX2 := Lib.hid (And.intro hx hc); obtain ⟨q0, q1⟩ := cells1 (ho.one.blk 0 rfl).1; clear ho hk hx hc ht)
    have hkp : Kp (fun y => (Value.slice aw pre.length cw).ownBlock = some y) W w2 := ((kn_alloc W _).mono (fun _ h => h.elim)).trans HK2.out (fun i hi => .inl hi)
    have hgg := HGG.out
    refine ⟨keepsFrom_setC (keepsFrom_kp hkp HcW.out.1) _ (by omega), ?_, a1, c1, ?_, ?_, ?_⟩
    · refine Kx.of (S := fun z => (Value.slice aw pre.length cw).ownBlock = some z ∨ z = g7) ((hkp.mono (fun _ h => .inl h)).setCell (p := ⟨g7, 0, none⟩) (.inl (.inr rfl)) _) (fun z hz hG => ?_) (fun z hz hT => ?_)
      · rcases hz with hz | hz
        · have := HPr.out.1 z hz
          have := HGl.out z hG
          omega
        · subst hz
          exact HGn.out _ (by omega) (by omega) hG
      · rcases hz with hz | hz
        · exact HcW.out.2 z hz hT
        · subst hz
          exact hTg hT
    · have hq := HI2.out.setC 0 rfl (j := 0) (.slice a1 (pre.length + 1) c1)
      rw [List.map_append, List.flatMap_append, List.length_append]
      exact hq
    · rw [List.length_append]; exact HX2.out.1
    · have := hkp.size
      simp [World.setCell]
      omega
  case done =>
    rintro D T ys W hD hys hI hK
    subst hys
    obtain ⟨aw, cw, hI, h2, h3⟩ := hI
    have HP := Lib.hid (show Pw F w W (EpA e ε :: Blk D (.deferred (some [])) :: Blk g7 (.cells #[.slice aw ys.length cw] 32) :: RowA 36 2 (.slice aw ys.length cw) ys.length ((ys.map (·.1)).flatMap Hd.enc) :: Blk g5 (.cells #[.string s.has.key, .int .i64 s.has.newest.slot, .int .i64 s.has.newest.gen, .bool s.has.closed, .bool s.has.retired] 94) :: Blk w'.heap.size (.cells #[.int .i64 i, .int .i64 s.gen] 36) :: HpL b c d e σ) from (Pw.join HH.out (hI.oneF.addD hK rfl hD hww)).perm List.perm_middle)
    clear hI hK HGl HGn HSEQ HF0 HH
    have HYl := Lib.hid (show (ys.map (·.1)).length = ys.length from List.length_map _)
    obtain ⟨n0, _⟩ := cells1 (HP.out.blk 2 rfl)
    have HRe := Lib.hid (show Calls Try.prog 47 #[.pointer (some ⟨b, 0, none⟩), .slice aw ys.length cw] W (fun e' w'' => e' = .returned (.tuple #[]) ∧ Pw F w w'' (EpA e (ε.retires (ys.map (·.1))) :: Blk D (.deferred (some [])) :: Blk g7 (.cells #[.slice aw ys.length cw] 32) :: RowA 36 2 (.slice aw ys.length cw) ys.length ((ys.map (·.1)).flatMap Hd.enc) :: Blk g5 (.cells #[.string s.has.key, .int .i64 s.has.newest.slot, .int .i64 s.has.newest.gen, .bool s.has.closed, .bool s.has.retired] 94) :: Blk w'.heap.size (.cells #[.int .i64 i, .int .i64 s.gen] 36) :: HpL b c d e σ)) from retires_p HP.out HF.out.1 5 2 rfl rfl HYl.out (by rw [HYl.out]; exact hl) (fun j => Nat.le_trans (HF.out.2 j) (by omega)))
    clear HP
    go_upto_region 11 with (go_at_call 47; refine HRe.out.mono ?_; rintro e9 w9 ⟨rfl, hp9⟩; have HP9 := Lib.hid hp9; clear hp9)
    obtain ⟨y0, y1, y2, y3, y4, yf⟩ := cells5 (HP9.out.blk 4 rfl)
    go_upto_region 12 with fail
    have HP10 := HP9.out.setRow (i := 4) (base := 0) [(4, .bool true), (1, .int .i64 0), (2, .int .i64 0)] rfl
    simp only [List.foldl_cons, List.foldl_nil, Nat.zero_add, List.set_cons_zero, List.set_cons_succ] at HP10
    replace HP10 : Hid (Pw F w _ (EpA e (ε.retires (ys.map (·.1))) :: Blk D (.deferred (some [])) :: Blk g7 (.cells #[.slice aw ys.length cw] 32) :: RowA 36 2 (.slice aw ys.length cw) ys.length ((ys.map (·.1)).flatMap Hd.enc) :: Blk g5 (.cells #[.string s.has.key, .int .i64 0, .int .i64 0, .bool s.has.closed, .bool true] 94) :: Blk w'.heap.size (.cells #[.int .i64 i, .int .i64 s.gen] 36) :: HpL b c d e σ)) := Lib.hid HP10
    clear y0 y1 y2 y3 y4 yf HP9 HRe n0
    generalize ((w9.setCell ⟨g5, 4, none⟩ (.bool true)).setCell ⟨g5, 1, none⟩ (.int .i64 0)).setCell ⟨g5, 2, none⟩ (.int .i64 0) = w10 at *
    have HSt := Lib.hid (fun (W' : World) (k' : KN w10 W') => show Calls Try.prog 41 #[.pointer (some ⟨c, 0, none⟩), .agg #[.int .i64 (i : Int), .int .i64 s.gen], clV ⟨s.has.key, zH, s.has.closed, true⟩] W' (fun e' w'' => e' = .returned (.int .i64 0) ∧ Pw F w w'' (EpA e (ε.retires (ys.map (·.1))) :: Blk D (.deferred (some [])) :: Blk g7 (.cells #[.slice aw ys.length cw] 32) :: RowA 36 2 (.slice aw ys.length cw) ys.length ((ys.map (·.1)).flatMap Hd.enc) :: Blk g5 (.cells #[.string s.has.key, .int .i64 0, .int .i64 0, .bool s.has.closed, .bool true] 94) :: Blk w'.heap.size (.cells #[.int .i64 i, .int .i64 s.gen] 36) :: HpL b c d e ⟨σ.L.set i ⟨⟨s.has.key, zH, s.has.closed, true⟩, s.gen, s.given⟩, σ.sl, σ.V, σ.sv, σ.rs⟩)) from by
      obtain ⟨F1, h1, _, hup⟩ := (HP10.out.kn k').get 7 rfl
      exact (set_good_C h1 HSG.out.1 HSG.out.2 ⟨s.has.key, zH, s.has.closed, true⟩).mono fun e' w'' ⟨he, hp'⟩ => ⟨he, hup hp'⟩)
    have HS8 := Lib.hid (fun (W' : World) (L : List (Slot Cl)) (h' : Pw F w W' (EpA e (ε.retires (ys.map (·.1))) :: Blk D (.deferred (some [])) :: Blk g7 (.cells #[.slice aw ys.length cw] 32) :: RowA 36 2 (.slice aw ys.length cw) ys.length ((ys.map (·.1)).flatMap Hd.enc) :: Blk g5 (.cells #[.string s.has.key, .int .i64 0, .int .i64 0, .bool s.has.closed, .bool true] 94) :: Blk w'.heap.size (.cells #[.int .i64 i, .int .i64 s.gen] 36) :: HpL b c d e ⟨L, σ.sl, σ.V, σ.sv, σ.rs⟩)) => show W'.cell? ⟨b, 0, none⟩ = some (.pointer (some ⟨c, 0, none⟩)) ∧ W'.cell? ⟨w'.heap.size, 0, none⟩ = some (.int .i64 (i : Int)) ∧ W'.cell? ⟨w'.heap.size, 1, none⟩ = some (.int .i64 s.gen) ∧ W'.cell? ⟨g5, 0, none⟩ = some (.string s.has.key) ∧ W'.cell? ⟨g5, 1, none⟩ = some (.int .i64 0) ∧ W'.cell? ⟨g5, 2, none⟩ = some (.int .i64 0) ∧ W'.cell? ⟨g5, 3, none⟩ = some (.bool s.has.closed) ∧ W'.cell? ⟨g5, 4, none⟩ = some (.bool true) from ⟨(hp_ptrs h'.drop.drop.drop.drop.drop.drop).1, (cells2 (h'.blk 5 rfl)).1, (cells2 (h'.blk 5 rfl)).2.1, cell_blk (h'.blk 4 rfl) rfl, cell_blk (h'.blk 4 rfl) rfl, cell_blk (h'.blk 4 rfl) rfl, cell_blk (h'.blk 4 rfl) rfl, cell_blk (h'.blk 4 rfl) rfl⟩)
    have s0 := HS8.out _ _ (HP10.out.kn (kn_drew w10))
    go_region_held3 (fun W' => W'.cell? ⟨b, 0, none⟩ = some (.pointer (some ⟨c, 0, none⟩)) ∧ W'.cell? ⟨w'.heap.size, 0, none⟩ = some (.int .i64 (i : Int)) ∧ W'.cell? ⟨w'.heap.size, 1, none⟩ = some (.int .i64 s.gen) ∧ W'.cell? ⟨g5, 0, none⟩ = some (.string s.has.key) ∧ W'.cell? ⟨g5, 1, none⟩ = some (.int .i64 0) ∧ W'.cell? ⟨g5, 2, none⟩ = some (.int .i64 0) ∧ W'.cell? ⟨g5, 3, none⟩ = some (.bool s.has.closed) ∧ W'.cell? ⟨g5, 4, none⟩ = some (.bool true)) (first | with_reducible exact s0 | with_reducible exact s1)
      ((go_at_call 41; refine (HSt.out _ (kn_drew w10)).mono ?_; rintro e12 w12 ⟨rfl, hp12⟩; have HP12 := Lib.hid hp12; have s1 := HS8.out _ _ hp12; clear hp12))
    clear s0 s1 HS8 HSt HP10
    go_upto_region 13 with fail
    have HEr := Lib.hid (fun (W' : World) (k' : KN w12 W') => show Calls Try.prog 52 #[.pointer (some ⟨e, 0, none⟩), ren ⟨4, ⟨i, s.gen⟩⟩] W' (fun e' w'' => e' = .returned (.int .i64 0) ∧ Pw F w w'' (EpA e ((ε.retires (ys.map (·.1))).retire ⟨4, ⟨i, s.gen⟩⟩) :: Blk D (.deferred (some [])) :: Blk g7 (.cells #[.slice aw ys.length cw] 32) :: RowA 36 2 (.slice aw ys.length cw) ys.length ((ys.map (·.1)).flatMap Hd.enc) :: Blk g5 (.cells #[.string s.has.key, .int .i64 0, .int .i64 0, .bool s.has.closed, .bool true] 94) :: Blk w'.heap.size (.cells #[.int .i64 i, .int .i64 s.gen] 36) :: HpL b c d e ⟨σ.L.set i ⟨⟨s.has.key, zH, s.has.closed, true⟩, s.gen, s.given⟩, σ.sl, σ.V, σ.sv, σ.rs⟩)) from by
      obtain ⟨F1, h1, _, hup⟩ := (HP12.out.kn k').get 0 rfl
      refine (retire_a h1 (fit_retires _ HF.out.1) ⟨4, ⟨i, s.gen⟩⟩ ?_).mono fun e' w'' ⟨he, hp'⟩ => ⟨he, hup hp'⟩
      have h1 := row_retires (ys.map (·.1)) ε ((ε.retires (ys.map (·.1))).now % 3)
      have h2 := HF.out.2 ((ε.retires (ys.map (·.1))).now % 3)
      rw [HYl.out] at h1
      omega)
    have HS3 := Lib.hid (fun (W' : World) (ε' : Eps) (h' : Pw F w W' (EpA e ε' :: Blk D (.deferred (some [])) :: Blk g7 (.cells #[.slice aw ys.length cw] 32) :: RowA 36 2 (.slice aw ys.length cw) ys.length ((ys.map (·.1)).flatMap Hd.enc) :: Blk g5 (.cells #[.string s.has.key, .int .i64 0, .int .i64 0, .bool s.has.closed, .bool true] 94) :: Blk w'.heap.size (.cells #[.int .i64 i, .int .i64 s.gen] 36) :: HpL b c d e ⟨σ.L.set i ⟨⟨s.has.key, zH, s.has.closed, true⟩, s.gen, s.given⟩, σ.sl, σ.V, σ.sv, σ.rs⟩)) => show W'.cell? ⟨b, 2, none⟩ = some (.pointer (some ⟨e, 0, none⟩)) ∧ W'.cell? ⟨w'.heap.size, 0, none⟩ = some (.int .i64 (i : Int)) ∧ W'.cell? ⟨w'.heap.size, 1, none⟩ = some (.int .i64 s.gen) from ⟨(hp_ptrs h'.drop.drop.drop.drop.drop.drop).2.2.1, (cells2 (h'.blk 5 rfl)).1, (cells2 (h'.blk 5 rfl)).2.1⟩)
    have s0 := HS3.out _ _ (HP12.out.kn (kn_drew w12))
    go_region_held3 (fun W' => W'.cell? ⟨b, 2, none⟩ = some (.pointer (some ⟨e, 0, none⟩)) ∧ W'.cell? ⟨w'.heap.size, 0, none⟩ = some (.int .i64 (i : Int)) ∧ W'.cell? ⟨w'.heap.size, 1, none⟩ = some (.int .i64 s.gen)) (first | with_reducible exact s0 | with_reducible exact s1)
      ((go_at_call 52; refine (HEr.out _ (kn_drew w12)).mono ?_; rintro e13 w13 ⟨rfl, hp13⟩; have HP13 := Lib.hid hp13; have s1 := HS3.out _ _ hp13; clear hp13))
    go_wp2_with fail
    have HP14 := Lib.hid (Pw.setB HP13.out 1 rfl (.deferred none))
    refine ⟨by simp, .inl ⟨_, _, rfl, run_takeDeferred (HP13.out.blk 1 rfl), ?_⟩⟩
    refine ⟨.int .i64 0, by simp [results, Try.results18, go_sem], rfl, ?_⟩
    exact (HP14.out.perm (List.perm_middle (l₁ := [_, _, _, _, _]) (a := EpA e _)).symm).drop.drop.drop.drop.drop
  case stop =>
    rintro D c T pre W hD hpre hI hK
    exact hI.elim
end
end Go.Proofs.Ytinejaganickpaa
