/- Heaps: Prune, where it cuts versions off. Printed by gen16z.py. -/
import Derived.Test.YtinejaganickpaaHeapY
namespace Go.Proofs.Ytinejaganickpaa
set_option linter.unusedVariables false
set_option linter.unusedSimpArgs false
open Go Go.RowKit Go.Sort Go.Shelf
attribute [local go_sem] Oper.semAt_some

/-- The last handle that is kept. -/
def lastH (n : Nat) (l : List (Hd × No)) : Hd := ((l.take n).getLast?.map (·.1)).getD zH
theorem last_snoc {n : Nat} {l : List (Hd × No)} {x : Hd × No} (h : l.length < n) : lastH n (l ++ [x]) = x.1 := by
  unfold lastH
  rw [List.take_of_length_le (by simp; omega)]
  simp
theorem last_same {n : Nat} {l : List (Hd × No)} {x : Hd × No} (h : ¬ l.length < n) : lastH n (l ++ [x]) = lastH n l := by
  unfold lastH
  rw [List.take_append_of_le_length (by omega)]
theorem drop_snoc {n : Nat} {l : List (Hd × No)} {x : Hd × No} (h : ¬ l.length < n) : (l ++ [x]).drop n = l.drop n ++ [x] := List.drop_append_of_le_length (by omega)
theorem drop_short {n : Nat} {l : List (Hd × No)} {x : Hd × No} (h : l.length < n) : (l ++ [x]).drop n = [] ∧ l.drop n = [] := ⟨List.drop_eq_nil_of_le (by simp; omega), List.drop_eq_nil_of_le (by omega)⟩
theorem last_at {n : Nat} {l : List (Hd × No)} (h1 : 0 < n) (h2 : n ≤ l.length) : ∃ x, l[n - 1]? = some x ∧ lastH n l = x.1 := by
  obtain ⟨x, hx⟩ : ∃ x, l[n - 1]? = some x := ⟨_, List.getElem?_eq_getElem (by omega)⟩
  refine ⟨x, hx, ?_⟩
  unfold lastH
  rw [List.getLast?_eq_getElem?, List.length_take, Nat.min_eq_left h2, List.getElem?_take, if_pos (by omega), hx]
  rfl
theorem ch_at {V : List (Slot No)} : ∀ {h : Hd} {xs : List (Hd × No)} {m : Nat} {x : Hd × No}, Ch V h xs → xs[m]? = some x → ∃ i : Nat, x.1.slot = i ∧ V[i]? = some ⟨x.2, x.1.gen, true⟩
  | h, [], m, x, _, hx => by simp at hx
  | h, y :: r, 0, x, hc, hx => by
    cases hx
    obtain ⟨e1, _, ⟨i, e2, e3⟩, _⟩ := hc
    exact ⟨i, by rw [e1]; exact e2, by rw [e1]; exact e3⟩
  | h, y :: r, m + 1, x, hc, hx => ch_at hc.2.2.2 (by simpa using hx)
section
variable {b c d e : Nat} {σ : Hps} {ε : Eps} {w w' : World} {F : Nat → Prop}
set_option maxRecDepth 1000000 in
set_option maxHeartbeats 8000000 in
theorem prune_in {i j : Nat} {s : Slot Cl} {xs : List (Hd × No)} {p : Hd} {z : No} (mark : Int) (h : Pw F w w' (EpA e ε :: HpL b c d e σ)) (hf : ε.Fit) (hs : σ.L[i]? = some s) (hg : s.given = true) (hc : Ch σ.V s.has.newest xs) (hl : xs.length ≤ 1000000) (hcl : s.has.closed = false) (hnz : s.has.newest ≠ zH) (hrow : ∀ j, (ε.row j).length ≤ 90000000)
    (hP1 : 0 < (pruneS mark (xs.map (·.2.has))).1.length) (hP2 : 0 < (pruneS mark (xs.map (·.2.has))).2.1.length) (hla : xs[(pruneS mark (xs.map (·.2.has))).1.length - 1]? = some (p, z)) (hj : p.slot = j) :
    CallsIn Fence.wide 3 Try.prog 14 #[.pointer (some ⟨b, 0, none⟩), .agg #[.int .i64 i, .int .i64 s.gen], .int .i64 mark] w' fun e' w'' =>
      e' = .returned (.tuple #[.int .i64 (xs.length - (pruneS mark (xs.map (·.2.has))).1.length : Nat), .bool false, .int .i64 0]) ∧ Pw F w w'' (EpA e (ε.retires ((xs.drop (pruneS mark (xs.map (·.2.has))).1.length).map (·.1))) :: HpL b c d e ⟨σ.L, σ.sl, σ.V.set j ⟨⟨z.has, zH⟩, p.gen, true⟩, σ.sv, σ.rs⟩) := by
  have HLi := Lib.hid (fun (W : World) (k : KN w' W) => list_h ((Pw.drop h).kn k) hc (by omega))
  have HH := Lib.hid h
  have hk := kn_alloc w' (.cells #[.int .i64 i, .int .i64 s.gen] 36)
  have HG := Lib.hid (get_good_h ((Pw.drop h).kn hk) hs hg)
  obtain ⟨x0, x1, _, _⟩ := cells2 (heap_alloc_same w' (.cells #[.int .i64 i, .int .i64 s.gen] 36))
  have HO := Lib.hid ((One.nil w').alloc (.cells #[.int .i64 i, .int .i64 s.gen] 36))
  have HSG := Lib.hid (And.intro hs hg)
  have HC := Lib.hid hc
  have HF := Lib.hid (And.intro hf hrow)
  have HJ := Lib.hid (show σ.V[j]? = some ⟨z, p.gen, true⟩ from by
    obtain ⟨i', h1, h2⟩ := ch_at hc hla
    obtain rfl : i' = j := by simp only at h1; omega
    exact h2)
  have hlen := pruneS_len mark (xs.map (·.2.has))
  rw [List.length_map] at hlen
  have HPl := Lib.hid (And.intro hlen (And.intro hP1 hP2))
  have HLa := Lib.hid (show lastH (pruneS mark (xs.map (·.2.has))).1.length xs = p from by
    obtain ⟨x, h1, h2⟩ := last_at (l := xs) hP1 (by omega)
    rw [hla] at h1; cases h1
    exact h2)
  have HCl := Lib.hid hcl
  have HJs := Lib.hid hj
  have HLen := Lib.hid (show (xs.map (·.2.has)).length ≤ 1048576 by rw [List.length_map]; omega)
  have hne := run_eql_hd s.has.newest.slot s.has.newest.gen 0 0
  rw [hd_ne hnz] at hne
  clear hf hs hg hc hk hrow hcl h hnz hP1 hP2 hla hlen hj
  generalize hE : xs.map (·.2.has) = vs at *
  clear hE
  refine callsIn_of_wp_marks Try.func14 rfl trivial ?_ rfl
  simp only [Try.ntmps14, List.size_toArray, List.length_cons, List.length_nil, Nat.reduceAdd, Nat.reduceSub, Array.replicate_succ, Array.replicate_zero, List.push_toArray, List.append_toArray, List.nil_append, List.cons_append]
  refine wpIn_wide.2 ?_
  go_upto_region 4 with (go_at_call 42; refine HG.out.mono ?_; rintro e3 w3 ⟨rfl, k3⟩; have HO3 := Lib.hid (HO.out.kn k3))
  have HO4 := Lib.hid (HO3.out.alloc (.cells #[.string s.has.key, .int .i64 s.has.newest.slot, .int .i64 s.has.newest.gen, .bool s.has.closed, .bool s.has.retired] 94))
  clear HO3 HO HG x0 x1 k3
  generalize w3.alloc (.cells #[.string s.has.key, .int .i64 s.has.newest.slot, .int .i64 s.has.newest.gen, .bool s.has.closed, .bool s.has.retired] 94) = W4 at *
  generalize w3.heap.size = g9 at *
  obtain ⟨y0, y1, y2, y3, y4, yf⟩ := cells5 (HO4.out.blk 0 rfl).1
  rw [HCl.out] at y3
  go_upto_region 7 with (first
    | (go_at_call 39; refine (HLi.out _ HO4.out.old).mono ?_; rintro e5 w5 ⟨a5, c5, rfl, ho5⟩; have HO5 := Lib.hid (HO4.out.kn ho5.old); have HR5 := Lib.hid (show Rl Ve.enc 3 w5 (.slice a5 vs.length c5) vs from by
        obtain ⟨F1, hr, _⟩ := ho5.get 0 rfl
        exact Rl.of_row encV3 rfl hr); clear ho5)
    | (go_at_call 43; refine (prune_v mark HR5.out (by have := HLen.out; omega)).mono ?_; rintro e6 w6 ⟨a1, c1, a2, c2, rfl, ho6⟩; have HO6 := Lib.hid (HO5.out.kn ho6.old); clear ho6))
  generalize hN : (pruneS mark vs).1.length = n1 at *
  have HN := Lib.hid hN
  clear hN
  generalize (pruneS mark vs).2.1.length = n2 at *
  have HO7 := Lib.hid (HO6.out.alloc (.cells #[.slice a1 n1 c1] 46))
  clear HO4 HO5 HO6 HR5 HLi y0 y1 y2 y3 y4 yf hne
  generalize w6.alloc (.cells #[.slice a1 n1 c1] 46) = w7 at *
  generalize w6.heap.size = g11 at *
  obtain ⟨z0, _⟩ := cells1 (HO7.out.blk 0 rfl).1
  have hn1 : ((n1 : Int) == 0) = false := by
    have := HPl.out.2.1
    have h2 : n1 ≠ 0 := by omega
    simpa using h2
  have hn2 : ((n2 : Int) == 0) = false := by
    have := HPl.out.2.2
    have h2 : n2 ≠ 0 := by omega
    simpa using h2
  go_upto_region 15 with fail
  have HO8 := Lib.hid (((HO7.out.alloc (.cells #[.int .i64 0] 3)).alloc (.cells #[.int .i64 0, .int .i64 0] 36)).alloc (.cells #[.slice none 0 0] 32))
  rw [show ((w7.alloc (.cells #[.int .i64 0] 3)).alloc (.cells #[.int .i64 0, .int .i64 0] 36)).heap.size = w7.heap.size + 1 + 1 by simp, show (w7.alloc (.cells #[.int .i64 0] 3)).heap.size = w7.heap.size + 1 by simp] at HO8
  clear HO7 z0
  generalize ((w7.alloc (.cells #[.int .i64 0] 3)).alloc (.cells #[.int .i64 0, .int .i64 0] 36)).alloc (.cells #[.slice none 0 0] 32) = W0 at *
  have HD := Lib.hid (show (¬ w7.heap.size = w7.heap.size + 1 ∧ ¬ w7.heap.size + 1 = w7.heap.size) ∧ (¬ w7.heap.size = w7.heap.size + 1 + 1 ∧ ¬ w7.heap.size + 1 + 1 = w7.heap.size) ∧ (¬ w7.heap.size + 1 = w7.heap.size + 1 + 1 ∧ ¬ w7.heap.size + 1 + 1 = w7.heap.size + 1) by omega)
  generalize w7.heap.size + 1 + 1 = g15 at *
  generalize w7.heap.size + 1 = g14 at *
  generalize w7.heap.size = g13 at *
  obtain ⟨y0, y1, y2, y3, y4, yf⟩ := cells5 (HO8.out.blk 4 rfl).1
  have HCh := Lib.hid (show ∀ F0, (All (HpL b c d e σ)).on W0 F0 → Calls Try.prog 44 #[.pointer (some ⟨b, 0, none⟩), hdV s.has.newest] W0 (fun e' w'' => ∃ b1 b2, e' = .returned (.func (.func 68) #[] #[.pointer (some ⟨b1, 0, none⟩), .pointer (some ⟨b2, 0, none⟩)]) ∧ Pw F0 W0 w'' (ChL b1 b2 b c d e σ s.has.newest) ∧ KN W0 w'') from fun F0 h0 => chain_h (Pw.start h0) s.has.newest)
  obtain ⟨F0, hon, _, _⟩ := Pw.drop HH.out
  have HLt := Lib.hid (fun y (hy : F0 y) => (All (HpL b c d e σ)).lt hon y hy)
  have HC0 := Lib.hid (HCh.out F0 ((All (HpL b c d e σ)).kn hon HO8.out.old))
  clear hon HCh
  go_wp2_with fail
  refine HC0.out.mono ?_
  rintro e6 W1 ⟨b1, b2, rfl, ⟨G, hG, _, hGs⟩, k1⟩
  have HGG := Lib.hid (show (g15 < W0.heap.size ∧ w'.heap.size ≤ g15) ∧ (g14 < W0.heap.size ∧ w'.heap.size ≤ g14) ∧ (g13 < W0.heap.size ∧ w'.heap.size ≤ g13) from ⟨⟨lt_blk (HO8.out.blk 0 rfl).1, (HO8.out.blk 0 rfl).2⟩, ⟨lt_blk (HO8.out.blk 1 rfl).1, (HO8.out.blk 1 rfl).2⟩, ⟨lt_blk (HO8.out.blk 2 rfl).1, (HO8.out.blk 2 rfl).2⟩⟩)
  have hGn : ∀ y, w'.heap.size ≤ y → y < W0.heap.size → ¬ G y := fun y h1 h2 hy => by
    rcases hGs y hy with h | h
    · have := HLt.out y h; omega
    · omega
  have HGl := Lib.hid (fun y (hy : G y) => (All (ChL b1 b2 b c d e σ s.has.newest)).lt hG y hy)
  have HGn := Lib.hid hGn
  have HO9 := Lib.hid (HO8.out.kn k1)
  have HSEQ := Lib.hid (chain_stops 2 (by omega) b1 b2 G s.has.newest xs W1 hG HC.out)
  have hw1 : W0.heap.size ≤ W1.heap.size := k1.size
  have HF0 := Lib.hid ((One.nilRow HO9.out 36 2).perm (List.Perm.swap _ _ _)).loopT
  have hww : w'.heap.size ≤ W1.heap.size := by have := HGG.out; omega
  clear hG hGs k1 hGn HO8 HO9 HC0 HLt y0 y1 y2 y3 y4 yf
  go_upto_block 0 with (fail)
  refine (wpIn_wide (n := 3)).1 ?_
  gi_wp2_with fail
  refine wpIn_rangeFunc_ownT rfl (show 1 ≤ 3 by omega) (gf := 68) (lb := #[.pointer (some ⟨b1, 0, none⟩), .pointer (some ⟨b2, 0, none⟩)]) rfl trivial (enters_of Try.func68 (by kernel_rfl) rfl)
    HSEQ.out Kx.trans (Kx.put HGl.out) (Below.refl _ _) (fun _ => rfl)
    (fun T pre W => ∃ aw cw, OneT W1.heap.size w' T W [Blk g15 (.cells #[.slice aw (pre.drop n1).length cw] 32), RowA 36 2 (.slice aw (pre.drop n1).length cw) (pre.drop n1).length (((pre.drop n1).map (·.1)).flatMap Hd.enc), Blk g14 (.cells #[.int .i64 (lastH n1 pre).slot, .int .i64 (lastH n1 pre).gen] 36), Blk g13 (.cells #[.int .i64 (pre.length : Nat)] 3), Blk g11 (.cells #[.slice a1 n1 c1] 46), Blk g9 (.cells #[.string s.has.key, .int .i64 s.has.newest.slot, .int .i64 s.has.newest.gen, .bool s.has.closed, .bool s.has.retired] 94), Blk w'.heap.size (.cells #[.int .i64 i, .int .i64 s.gen] 36)] ∧ (∀ y, (Value.slice aw (pre.drop n1).length cw).ownBlock = some y → W1.heap.size ≤ y) ∧ W1.heap.size ≤ W.heap.size)
    (fun c T pre W => False)
    (fun T pre W W' row hs hg hr => by
      obtain ⟨aw, cw, h1, h2, h3⟩ := hs
      exact ⟨aw, cw, oneT_own (β := Unit) hww (fun _ => [Blk g15 (.cells #[.slice aw (pre.drop n1).length cw] 32), RowA 36 2 (.slice aw (pre.drop n1).length cw) (pre.drop n1).length (((pre.drop n1).map (·.1)).flatMap Hd.enc), Blk g14 (.cells #[.int .i64 (lastH n1 pre).slot, .int .i64 (lastH n1 pre).gen] 36), Blk g13 (.cells #[.int .i64 (pre.length : Nat)] 3), Blk g11 (.cells #[.slice a1 n1 c1] 46), Blk g9 (.cells #[.string s.has.key, .int .i64 s.has.newest.slot, .int .i64 s.has.newest.gen, .bool s.has.closed, .bool s.has.retired] 94), Blk w'.heap.size (.cells #[.int .i64 i, .int .i64 s.gen] 36)]) T () W W' row h1 hg hr, h2, Nat.le_trans h3 hg.size⟩)
    (fun c T s W W' row hs hg hr => hs.elim)
    (fun T pre W W' hs hT k => by
      obtain ⟨aw, cw, h1, h2, h3⟩ := hs
      exact ⟨aw, cw, oneT_abides (β := Unit) hww (fun _ => [Blk g15 (.cells #[.slice aw (pre.drop n1).length cw] 32), RowA 36 2 (.slice aw (pre.drop n1).length cw) (pre.drop n1).length (((pre.drop n1).map (·.1)).flatMap Hd.enc), Blk g14 (.cells #[.int .i64 (lastH n1 pre).slot, .int .i64 (lastH n1 pre).gen] 36), Blk g13 (.cells #[.int .i64 (pre.length : Nat)] 3), Blk g11 (.cells #[.slice a1 n1 c1] 46), Blk g9 (.cells #[.string s.has.key, .int .i64 s.has.newest.slot, .int .i64 s.has.newest.gen, .bool s.has.closed, .bool s.has.retired] 94), Blk w'.heap.size (.cells #[.int .i64 i, .int .i64 s.gen] 36)]) T () W W' h1 hT k, h2, Nat.le_trans h3 k.size⟩)
    (fun c T s W W' hs hT k => hs.elim)
    ⟨none, 0, by have := HF0.out; simpa [lastH] using this, fun y hy => by simp [Value.ownBlock] at hy, Nat.le_refl _⟩
    (fun y a' W => ∃ Bx, W1.heap.size ≤ Bx ∧ W.heap[Bx]? = some (.cells #[.int .i64 y.1.slot, .int .i64 y.1.gen] 36) ∧ a' = { tmps := #[Value.pointer (some { block := b, off := 0 }), Value.agg #[Value.int IntKind.i64 ↑i, Value.int IntKind.i64 s.gen], Value.int IntKind.i64 mark, undef, Value.pointer (some { block := w'.heap.size, off := 0 }), undef, Value.int IntKind.i64 0, Value.bool false, Value.int IntKind.i64 0, Value.pointer (some { block := g9, off := 0 }), Value.int IntKind.i64 0, Value.pointer (some { block := g11, off := 0 }), Value.slice a2 n2 c2, Value.pointer (some { block := g13, off := 0 }), Value.pointer (some { block := g14, off := 0 }), Value.pointer (some { block := g15, off := 0 }), Value.pointer (some { block := Bx, off := 0 }), undef, undef, Value.tuple #[clV s.has, Value.int IntKind.i64 0], Value.pointer (some { block := b, off := 0 }), Value.agg #[Value.int IntKind.i64 ↑i, Value.int IntKind.i64 s.gen], Value.tuple #[clV s.has, Value.int IntKind.i64 0], clV s.has, Value.int IntKind.i64 0, Value.int IntKind.i64 0, Value.bool false, undef, Value.pointer (some { block := g9, off := 3 }), Value.bool false, Value.bool false, Value.pointer (some { block := g9, off := 1 }), Value.agg #[Value.int IntKind.i64 s.has.newest.slot, Value.int IntKind.i64 s.has.newest.gen], Value.agg #[Value.int IntKind.i64 0, Value.int IntKind.i64 0], Value.bool false, Value.bool false, undef, undef, Value.tuple #[Value.slice a1 n1 c1, Value.slice a2 n2 c2], Value.pointer (some { block := b, off := 0 }), Value.pointer (some { block := g9, off := 1 }), Value.agg #[Value.int IntKind.i64 s.has.newest.slot, Value.int IntKind.i64 s.has.newest.gen], Value.slice a5 vs.length c5, Value.int IntKind.i64 mark, Value.tuple #[Value.slice a1 n1 c1, Value.slice a2 n2 c2], Value.slice a1 n1 c1, Value.slice a2 n2 c2, Value.slice a1 n1 c1, Value.int IntKind.i64 ↑n1, Value.bool false, undef, undef, undef, undef, undef, undef, undef, undef, Value.slice a2 n2 c2, Value.int IntKind.i64 ↑n2, Value.bool false, Value.pointer (some { block := b, off := 0 }), Value.pointer (some { block := g9, off := 1 }), Value.agg #[Value.int IntKind.i64 s.has.newest.slot, Value.int IntKind.i64 s.has.newest.gen], Value.func (Fn.func 68) #[] #[Value.pointer (some { block := b1, off := 0 }), Value.pointer (some { block := b2, off := 0 })], hdV y.1, noV y.2, undef, undef, undef, undef, undef, undef, undef, undef, undef, undef, undef, undef, undef, undef, undef, undef, undef, undef, undef, undef, undef, undef, undef, undef, undef, undef, undef, undef, undef, undef, undef, undef, undef, undef], defers := [] })
    (fun y a' _ X Y row hs hg hr => by
      obtain ⟨Bx, h1, h2, h3⟩ := hs
      refine ⟨Bx, h1, (hg.block Bx (lt_blk h2) (fun e => ?_)).trans h2, h3⟩
      obtain ⟨_, o, ho, hc⟩ := hr Bx e.symm
      rw [h2] at ho; cases ho; cases hc)
    ?assign ?body ?done ?stop
  case assign =>
    intro lp T pre y W K hI hK
    obtain ⟨aw, cw, hI, h2, h3⟩ := hI
    gi_wp2
    exact hK _ _ (keepsFrom_kn (kn_alloc _ _)) (Kx.kn (kn_alloc _ _)) ⟨aw, cw, hI.kn (kn_alloc _ _), h2, Nat.le_trans h3 (kn_alloc _ _).size⟩ ⟨W.heap.size, h3, heap_alloc_same _ _, rfl⟩
  case body =>
    rintro lp T pre y a' W hlp ⟨r, hr⟩ hI ⟨Bx, hBx, bX, rfl⟩ hlt
    obtain ⟨aw, cw, hI, h2, h3⟩ := hI
    obtain ⟨n0, f0⟩ := cells1 (hI.one.blk 0 rfl).1
    obtain ⟨l0, l1, lf0, lf1⟩ := cells2 (hI.one.blk 2 rfl).1
    obtain ⟨i0, if0⟩ := cells1 (hI.one.blk 3 rfl).1
    obtain ⟨k0, kf0⟩ := cells1 (hI.one.blk 4 rfl).1
    have HTg := Lib.hid (And.intro (hI.blk 0 rfl).2 (And.intro (hI.blk 2 rfl).2 (hI.blk 3 rfl).2))
    obtain ⟨z0, z1, _, _⟩ := cells2 bX
    obtain ⟨⟨ys1, yg1⟩, yo⟩ := y
    simp only at z0 z1 bX
    have hgg := HGG.out
    obtain ⟨⟨d1, d2⟩, ⟨d3, d4⟩, ⟨d5, d6⟩⟩ := HD.out
    have hz : (pre.length : Int) < 9000000 := by omega
    by_cases hk : pre.length < n1
    · have HI := Lib.hid hI
      have hk1 : (pre.length : Int) < (n1 : Int) := by omega
      have HPr := Lib.hid (And.intro h2 h3)
      have HKK := Lib.hid (And.intro hk (And.intro hgg (And.intro hBx hlp)))
      clear hI bX h2 hk hgg hn1 hn2 hBx hlp hlt
      gi_wp2
      have hgg := HKK.out.2.1
      have e1 := last_snoc (x := (⟨⟨ys1, yg1⟩, yo⟩ : Hd × No)) HKK.out.1
      have e2 := drop_short (x := (⟨⟨ys1, yg1⟩, yo⟩ : Hd × No)) HKK.out.1
      have hq := ((HI.out.setC 2 rfl (j := 0) (.int .i64 ys1)).setC 2 rfl (j := 1) (.int .i64 yg1)).setC 3 rfl (j := 0) (.int .i64 ((pre.length : Int) + 1))
      simp only [List.set_cons_zero, List.set_cons_succ] at hq
      have hpr := HPr.out
      rw [e2.2] at hq hpr
      refine ⟨keepsFrom_setC (keepsFrom_setC (keepsFrom_setC (keepsFrom_kn (Kp.refl _ _)) _ (by omega)) _ (by omega)) _ (by omega), ?_, aw, cw, ?_, ?_, ?_⟩
      · refine Kx.of (S := fun z => z = g14 ∨ z = g13) ((((Kp.refl _ W).setCell (p := ⟨g14, 0, none⟩) (.inl (.inl rfl)) _).setCell (p := ⟨g14, 1, none⟩) (.inl (.inl rfl)) _).setCell (p := ⟨g13, 0, none⟩) (.inl (.inr rfl)) _) (fun z hz hG => ?_) (fun z hz hT => ?_)
        · rcases hz with hz | hz <;> subst hz
          · exact HGn.out _ (by omega) (by omega) hG
          · exact HGn.out _ (by omega) (by omega) hG
        · rcases hz with hz | hz <;> subst hz
          · exact HTg.out.2.1 hT
          · exact HTg.out.2.2 hT
      · rw [e1, e2.1, List.length_append]
        exact hq
      · rw [e2.1]
        exact hpr.1
      · have := hpr.2
        simp [World.setCell]
        omega
    · have hk1 : ¬ (pre.length : Int) < (n1 : Int) := by omega
      have hdl : (pre.drop n1).length ≤ 1000000 := by rw [List.length_drop]; omega
      have HAp := Lib.hid (OneT.app (P := Try.prog) (m := [(⟨ys1, yg1⟩ : Hd)]) elt_Hd 32 (hI.kn (kn_alloc W (.cells #[.int .i64 ys1, .int .i64 yg1] 36))) 1 rfl (Nat.le_trans h3 (kn_alloc _ _).size) h2 encH2 (rl_hd (v := ⟨ys1, yg1⟩) (cap := 1) (heap_alloc_same W _)) oneH (by unfold maxLen; simp only [List.length_singleton]; omega) (by simp only [List.length_singleton]; omega))
      have HPr := Lib.hid (And.intro h2 h3)
      have HcW := Lib.hid (show (∀ y, (Value.slice aw (pre.drop n1).length cw).ownBlock = some y → y < W1.heap.size ∨ ∃ o, W.heap[y]? = some o ∧ o.isCells = true) ∧ ∀ y, (Value.slice aw (pre.drop n1).length cw).ownBlock = some y → ¬ T y by
        obtain ⟨F1, hF, _, ht, hcl, _⟩ := hI.get 1 rfl
        exact ⟨fun y hy => hcl y (by rw [hF.2]; exact hy), fun y hy => ht y (by rw [hF.2]; exact hy)⟩)
      have HDr := Lib.hid (And.intro (drop_snoc (x := (⟨⟨ys1, yg1⟩, yo⟩ : Hd × No)) hk) (last_same (x := (⟨⟨ys1, yg1⟩, yo⟩ : Hd × No)) hk))
      clear hI bX h2 hk
      generalize pre.drop n1 = dr at *
      have HKK := Lib.hid (And.intro hgg (And.intro hBx hlp))
      clear hgg hn1 hn2 hBx hlp hlt
      gi_wp2_with (gi_at_builtin; refine wpListIn_appX rfl (by rfl) (by rfl) (by rfl) HAp.out ?_; rintro r' w2 ⟨a1', c1', rfl, ho, hk, hx, hc, ht⟩; have HI2 := Lib.hid ho; have HK2 := Lib.hid hk; have HX2 := Lib.hid (And.intro hx hc); obtain ⟨q0, q1⟩ := cells1 (ho.one.blk 0 rfl).1; obtain ⟨q2, q3⟩ := cells1 (ho.one.blk 3 rfl).1; clear ho hk hx hc ht)
      have hgg := HKK.out.1
      have hkp : Kp (fun y => (Value.slice aw dr.length cw).ownBlock = some y) W w2 := ((kn_alloc W _).mono (fun _ h => h.elim)).trans HK2.out (fun i hi => .inl hi)
      have hq := (HI2.out.setC 0 rfl (j := 0) (.slice a1' (dr.length + 1) c1')).setC 3 rfl (j := 0) (.int .i64 ((pre.length : Int) + 1))
      simp only [List.set_cons_zero, List.set_cons_succ] at hq
      have hl2 : (pre ++ [(⟨⟨ys1, yg1⟩, yo⟩ : Hd × No)]).length - n1 = dr.length + 1 := by rw [← List.length_drop, HDr.out.1]; simp
      refine ⟨keepsFrom_setC (keepsFrom_setC (keepsFrom_kp hkp HcW.out.1) _ (by omega)) _ (by omega), ?_, a1', c1', ?_, ?_, ?_⟩
      · refine Kx.of (S := fun z => (Value.slice aw dr.length cw).ownBlock = some z ∨ z = g15 ∨ z = g13) (((hkp.mono (fun _ h => .inl h)).setCell (p := ⟨g15, 0, none⟩) (.inl (.inr (.inl rfl))) _).setCell (p := ⟨g13, 0, none⟩) (.inl (.inr (.inr rfl))) _) (fun z hz hG => ?_) (fun z hz hT => ?_)
        · rcases hz with hz | hz | hz
          · have := HPr.out.1 z hz
            have := HGl.out z hG
            omega
          · subst hz
            exact HGn.out _ (by omega) (by omega) hG
          · subst hz
            exact HGn.out _ (by omega) (by omega) hG
        · rcases hz with hz | hz | hz
          · exact HcW.out.2 z hz hT
          · subst hz
            exact HTg.out.1 hT
          · subst hz
            exact HTg.out.2.2 hT
      · have hq' : OneT W1.heap.size w' T ((w2.setCell ⟨g15, 0, none⟩ (.slice a1' (dr.length + 1) c1')).setCell ⟨g13, 0, none⟩ (.int .i64 ((pre.length : Int) + 1))) [Blk g15 (.cells #[.slice a1' ((pre ++ [(⟨⟨ys1, yg1⟩, yo⟩ : Hd × No)]).drop n1).length c1'] 32), RowA 36 2 (.slice a1' ((pre ++ [(⟨⟨ys1, yg1⟩, yo⟩ : Hd × No)]).drop n1).length c1') ((pre ++ [(⟨⟨ys1, yg1⟩, yo⟩ : Hd × No)]).drop n1).length ((((pre ++ [(⟨⟨ys1, yg1⟩, yo⟩ : Hd × No)]).drop n1).map (·.1)).flatMap Hd.enc), Blk g14 (.cells #[.int .i64 (lastH n1 (pre ++ [(⟨⟨ys1, yg1⟩, yo⟩ : Hd × No)])).slot, .int .i64 (lastH n1 (pre ++ [(⟨⟨ys1, yg1⟩, yo⟩ : Hd × No)])).gen] 36), Blk g13 (.cells #[.int .i64 ((pre ++ [(⟨⟨ys1, yg1⟩, yo⟩ : Hd × No)]).length : Nat)] 3), Blk g11 (.cells #[.slice a1 n1 c1] 46), Blk g9 (.cells #[.string s.has.key, .int .i64 s.has.newest.slot, .int .i64 s.has.newest.gen, .bool s.has.closed, .bool s.has.retired] 94), Blk w'.heap.size (.cells #[.int .i64 i, .int .i64 s.gen] 36)] := by
          rw [HDr.out.1, HDr.out.2, List.map_append, List.flatMap_append, List.length_append, List.length_append]
          exact hq
        simp only [List.length_drop, List.map_drop] at hq' ⊢
        exact hq'
      · rw [hl2]; exact HX2.out.1
      · have := hkp.size
        have := HPr.out.2
        simp [World.setCell]
        omega
  case done =>
    rintro D T ys W hD hys hI hK
    subst hys
    obtain ⟨aw, cw, hI, h2, h3⟩ := hI
    rw [HLa.out] at hI
    obtain ⟨dr, hdr⟩ : ∃ dr, dr = ys.drop n1 := ⟨_, rfl⟩
    rw [← hdr] at hI
    have HP := Lib.hid (show Pw F w W (EpA e ε :: Blk D (.deferred (some [])) :: Blk g15 (.cells #[.slice aw dr.length cw] 32) :: RowA 36 2 (.slice aw dr.length cw) dr.length ((dr.map (·.1)).flatMap Hd.enc) :: Blk g14 (.cells #[.int .i64 p.slot, .int .i64 p.gen] 36) :: Blk g13 (.cells #[.int .i64 (ys.length : Nat)] 3) :: Blk g11 (.cells #[.slice a1 n1 c1] 46) :: Blk g9 (.cells #[.string s.has.key, .int .i64 s.has.newest.slot, .int .i64 s.has.newest.gen, .bool s.has.closed, .bool s.has.retired] 94) :: Blk w'.heap.size (.cells #[.int .i64 i, .int .i64 s.gen] 36) :: HpL b c d e σ) from (Pw.join HH.out (hI.oneF.addD hK rfl hD hww)).perm List.perm_middle)
    clear hI hK HGl HGn HSEQ HF0 HH h2 HD HLa
    have HDl := Lib.hid (show (dr.map (·.1)).length = dr.length from List.length_map _)
    have hdl : dr.length ≤ 1000000 := by rw [hdr, List.length_drop]; omega
    have HDR := Lib.hid hdr
    clear hdr
    obtain ⟨q0, q1, _⟩ := cells2 (HP.out.blk 4 rfl)
    obtain ⟨_, q2, _⟩ := hp_ptrs HP.out.drop.drop.drop.drop.drop.drop.drop.drop.drop
    have HU := Lib.hid (And.intro q2 (And.intro q0 q1))
    have hbw : b < W.heap.size := World.block_lt_of_cell? _ _ q2
    have hgw : g14 < W.heap.size := World.block_lt_of_cell? _ _ q0
    have HGt := Lib.hid (fun (W' : World) (k' : KN W W') => show Calls Try.prog 45 #[.pointer (some ⟨d, 0, none⟩), .agg #[.int .i64 p.slot, .int .i64 p.gen]] W' (fun e' w'' => e' = .returned (.tuple #[noV z, .int .i64 0]) ∧ KN W' w'') from by
      obtain ⟨F1, h1, _⟩ := (HP.out.kn k').get 11 rfl
      have := get_good_N h1 HJ.out rfl
      rw [← HJs.out] at this
      exact this)
    go_upto_region 21 with fail
    go_cut [17, 18] from 78 to 86 (fun v17 v18 wx => ∃ g17 : Nat, v17 = .pointer (some ⟨g17, 0, none⟩) ∧ v18 = .int .i64 0 ∧ Hid (Pw F w wx (EpA e ε :: Blk g17 (.cells #[.int .i64 z.has.tS, .string z.has.value, .bool z.has.del, .int .i64 z.older.slot, .int .i64 z.older.gen] 98) :: Blk D (.deferred (some [])) :: Blk g15 (.cells #[.slice aw dr.length cw] 32) :: RowA 36 2 (.slice aw dr.length cw) dr.length ((dr.map (·.1)).flatMap Hd.enc) :: Blk g14 (.cells #[.int .i64 p.slot, .int .i64 p.gen] 36) :: Blk g13 (.cells #[.int .i64 (ys.length : Nat)] 3) :: Blk g11 (.cells #[.slice a1 n1 c1] 46) :: Blk g9 (.cells #[.string s.has.key, .int .i64 s.has.newest.slot, .int .i64 s.has.newest.gen, .bool s.has.closed, .bool s.has.retired] 94) :: Blk w'.heap.size (.cells #[.int .i64 i, .int .i64 s.gen] 36) :: HpL b c d e σ)))
    case first =>
      have s0 := up3 HU.out (kn_drew W)
      have sA := up3 HU.out ((kn_alloc W (.cells #[.int .i64 0, .string ⟨#[]⟩, .bool false, .int .i64 0, .int .i64 0] 98)).drew)
      have HZ := Lib.hid (HP.out.alloc (.cells #[.int .i64 0, .string ⟨#[]⟩, .bool false, .int .i64 0, .int .i64 0] 98))
      clear q0 q1 q2
      go_region_held3 (fun W' => KN W W' ∧ W'.cell? ⟨b, 1, none⟩ = some (.pointer (some ⟨d, 0, none⟩)) ∧ W'.cell? ⟨g14, 0, none⟩ = some (.int .i64 p.slot) ∧ W'.cell? ⟨g14, 1, none⟩ = some (.int .i64 p.gen)) (first | with_reducible exact s0 | with_reducible exact sA | with_reducible exact s1 | with_reducible exact s2 | with_reducible exact s3) (first
        | (go_at_call 45; refine (HGt.out _ s0.1).mono ?_; rintro e5 w5 ⟨rfl, k5⟩; have s1 := up3 HU.out (s0.1.trans k5 (fun _ h => h.elim)); have s2 := up3 HU.out (s1.1.alloc (.cells #[.int .i64 z.has.tS, .string z.has.value, .bool z.has.del, .int .i64 z.older.slot, .int .i64 z.older.gen] 98)); have s3 := up3 HU.out (s1.1.alloc (.cells #[.int .i64 0, .string ⟨#[]⟩, .bool false, .int .i64 0, .int .i64 0] 98)))
        | (go_at_call 45; refine (HGt.out _ sA.1).mono ?_; rintro e5 w5 ⟨rfl, k5⟩; have s1 := up3 HU.out (sA.1.trans k5 (fun _ h => h.elim)); have HP5 := Lib.hid ((HZ.out.kn (kn_drew _)).kn k5); have hb5 := HP5.out.blk 0 rfl; have z0 := cell_blk hb5 (i := 0) (v := .int .i64 0) rfl; have z1 := cell_blk hb5 (i := 1) (v := .string ⟨#[]⟩) rfl; have z2 := cell_blk hb5 (i := 2) (v := .bool false) rfl; have z3 := cell_blk hb5 (i := 3) (v := .int .i64 0) rfl; have z4 := cell_blk hb5 (i := 4) (v := .int .i64 0) rfl; have zf : ∀ j, w5.frozen? ⟨W.heap.size, j, none⟩ = false := (fun j => free_blk hb5); have s3 := up3 HU.out (s1.1.then (kp_set5 w5 W.heap.size (.int .i64 z.has.tS) (.string z.has.value) (.bool z.has.del) (.int .i64 z.older.slot) (.int .i64 z.older.gen)) (fun y hy => by rw [hy]; exact Nat.le_refl _))))
      · go_wp2_with fail
        go_meet
        exact ⟨_, rfl, rfl, Lib.hid (((HP.out.kn s1.1).alloc _).perm (List.Perm.swap _ _ _))⟩
      · go_wp2_with fail
        go_meet
        have HP6 := HP5.out.setRow (i := 0) (base := 0) [(0, .int .i64 z.has.tS), (1, .string z.has.value), (2, .bool z.has.del), (3, .int .i64 z.older.slot), (4, .int .i64 z.older.gen)] rfl
        simp only [List.foldl_cons, List.foldl_nil, Nat.zero_add, List.set_cons_zero] at HP6
        exact ⟨_, rfl, rfl, Lib.hid (HP6.perm (List.Perm.swap _ _ _))⟩
    case rest =>
      obtain ⟨g17, rfl, rfl, HP7⟩ := hcut
      clear HU HGt HP q0 q1 q2 hbw hgw
      obtain ⟨y0, y1, y2, y3, y4, yf⟩ := cells5 (HP7.out.blk 1 rfl)
      go_upto_region 23 with fail
      have HP8 := (HP7.out.setC 1 rfl (j := 3) (.int .i64 0)).setC 1 rfl (j := 4) (.int .i64 0)
      simp only [List.set_cons_zero, List.set_cons_succ] at HP8
      replace HP8 : Hid (Pw F w _ (EpA e ε :: Blk g17 (.cells #[.int .i64 z.has.tS, .string z.has.value, .bool z.has.del, .int .i64 0, .int .i64 0] 98) :: Blk D (.deferred (some [])) :: Blk g15 (.cells #[.slice aw dr.length cw] 32) :: RowA 36 2 (.slice aw dr.length cw) dr.length ((dr.map (·.1)).flatMap Hd.enc) :: Blk g14 (.cells #[.int .i64 p.slot, .int .i64 p.gen] 36) :: Blk g13 (.cells #[.int .i64 (ys.length : Nat)] 3) :: Blk g11 (.cells #[.slice a1 n1 c1] 46) :: Blk g9 (.cells #[.string s.has.key, .int .i64 s.has.newest.slot, .int .i64 s.has.newest.gen, .bool s.has.closed, .bool s.has.retired] 94) :: Blk w'.heap.size (.cells #[.int .i64 i, .int .i64 s.gen] 36) :: HpL b c d e σ)) := Lib.hid HP8
      clear y0 y1 y2 y3 y4 yf HP7
      generalize (wc.setCell ⟨g17, 3, none⟩ (.int .i64 0)).setCell ⟨g17, 4, none⟩ (.int .i64 0) = w8 at *
      have HSt := Lib.hid (fun (W' : World) (k' : KN w8 W') => show Calls Try.prog 46 #[.pointer (some ⟨d, 0, none⟩), .agg #[.int .i64 p.slot, .int .i64 p.gen], noV ⟨z.has, zH⟩] W' (fun e' w'' => e' = .returned (.int .i64 0) ∧ Pw F w w'' (EpA e ε :: Blk g17 (.cells #[.int .i64 z.has.tS, .string z.has.value, .bool z.has.del, .int .i64 0, .int .i64 0] 98) :: Blk D (.deferred (some [])) :: Blk g15 (.cells #[.slice aw dr.length cw] 32) :: RowA 36 2 (.slice aw dr.length cw) dr.length ((dr.map (·.1)).flatMap Hd.enc) :: Blk g14 (.cells #[.int .i64 p.slot, .int .i64 p.gen] 36) :: Blk g13 (.cells #[.int .i64 (ys.length : Nat)] 3) :: Blk g11 (.cells #[.slice a1 n1 c1] 46) :: Blk g9 (.cells #[.string s.has.key, .int .i64 s.has.newest.slot, .int .i64 s.has.newest.gen, .bool s.has.closed, .bool s.has.retired] 94) :: Blk w'.heap.size (.cells #[.int .i64 i, .int .i64 s.gen] 36) :: HpL b c d e ⟨σ.L, σ.sl, σ.V.set j ⟨⟨z.has, zH⟩, p.gen, true⟩, σ.sv, σ.rs⟩)) from by
        obtain ⟨F1, h1, _, hup⟩ := (HP8.out.kn k').get 12 rfl
        have h5 := set_good_N h1 HJ.out rfl ⟨z.has, zH⟩
        rw [← HJs.out] at h5
        exact h5.mono fun e' w'' ⟨he, hp'⟩ => ⟨he, hup hp'⟩)
      have HS8 := Lib.hid (fun (W' : World) (V : List (Slot No)) (h' : Pw F w W' (EpA e ε :: Blk g17 (.cells #[.int .i64 z.has.tS, .string z.has.value, .bool z.has.del, .int .i64 0, .int .i64 0] 98) :: Blk D (.deferred (some [])) :: Blk g15 (.cells #[.slice aw dr.length cw] 32) :: RowA 36 2 (.slice aw dr.length cw) dr.length ((dr.map (·.1)).flatMap Hd.enc) :: Blk g14 (.cells #[.int .i64 p.slot, .int .i64 p.gen] 36) :: Blk g13 (.cells #[.int .i64 (ys.length : Nat)] 3) :: Blk g11 (.cells #[.slice a1 n1 c1] 46) :: Blk g9 (.cells #[.string s.has.key, .int .i64 s.has.newest.slot, .int .i64 s.has.newest.gen, .bool s.has.closed, .bool s.has.retired] 94) :: Blk w'.heap.size (.cells #[.int .i64 i, .int .i64 s.gen] 36) :: HpL b c d e ⟨σ.L, σ.sl, V, σ.sv, σ.rs⟩)) => show W'.cell? ⟨b, 1, none⟩ = some (.pointer (some ⟨d, 0, none⟩)) ∧ W'.cell? ⟨g14, 0, none⟩ = some (.int .i64 p.slot) ∧ W'.cell? ⟨g14, 1, none⟩ = some (.int .i64 p.gen) ∧ W'.cell? ⟨g17, 0, none⟩ = some (.int .i64 z.has.tS) ∧ W'.cell? ⟨g17, 1, none⟩ = some (.string z.has.value) ∧ W'.cell? ⟨g17, 2, none⟩ = some (.bool z.has.del) ∧ W'.cell? ⟨g17, 3, none⟩ = some (.int .i64 0) ∧ W'.cell? ⟨g17, 4, none⟩ = some (.int .i64 0) from ⟨(hp_ptrs h'.drop.drop.drop.drop.drop.drop.drop.drop.drop.drop).2.1, (cells2 (h'.blk 5 rfl)).1, (cells2 (h'.blk 5 rfl)).2.1, cell_blk (h'.blk 1 rfl) rfl, cell_blk (h'.blk 1 rfl) rfl, cell_blk (h'.blk 1 rfl) rfl, cell_blk (h'.blk 1 rfl) rfl, cell_blk (h'.blk 1 rfl) rfl⟩)
      have s0 := HS8.out _ _ (HP8.out.kn (kn_drew w8))
      go_region_held3 (fun W' => W'.cell? ⟨b, 1, none⟩ = some (.pointer (some ⟨d, 0, none⟩)) ∧ W'.cell? ⟨g14, 0, none⟩ = some (.int .i64 p.slot) ∧ W'.cell? ⟨g14, 1, none⟩ = some (.int .i64 p.gen) ∧ W'.cell? ⟨g17, 0, none⟩ = some (.int .i64 z.has.tS) ∧ W'.cell? ⟨g17, 1, none⟩ = some (.string z.has.value) ∧ W'.cell? ⟨g17, 2, none⟩ = some (.bool z.has.del) ∧ W'.cell? ⟨g17, 3, none⟩ = some (.int .i64 0) ∧ W'.cell? ⟨g17, 4, none⟩ = some (.int .i64 0)) (first | with_reducible exact s0 | with_reducible exact s1)
        ((go_at_call 46; refine (HSt.out _ (kn_drew w8)).mono ?_; rintro e12 w12 ⟨rfl, hp12⟩; have HP12 := Lib.hid hp12; have s1 := HS8.out _ _ hp12; clear hp12))
      clear s0 s1 HS8 HSt HP8
      obtain ⟨n0, _⟩ := cells1 (HP12.out.blk 3 rfl)
      have HRe := Lib.hid (show Calls Try.prog 47 #[.pointer (some ⟨b, 0, none⟩), .slice aw dr.length cw] w12 (fun e' w'' => e' = .returned (.tuple #[]) ∧ Pw F w w'' (EpA e (ε.retires (dr.map (·.1))) :: Blk g17 (.cells #[.int .i64 z.has.tS, .string z.has.value, .bool z.has.del, .int .i64 0, .int .i64 0] 98) :: Blk D (.deferred (some [])) :: Blk g15 (.cells #[.slice aw dr.length cw] 32) :: RowA 36 2 (.slice aw dr.length cw) dr.length ((dr.map (·.1)).flatMap Hd.enc) :: Blk g14 (.cells #[.int .i64 p.slot, .int .i64 p.gen] 36) :: Blk g13 (.cells #[.int .i64 (ys.length : Nat)] 3) :: Blk g11 (.cells #[.slice a1 n1 c1] 46) :: Blk g9 (.cells #[.string s.has.key, .int .i64 s.has.newest.slot, .int .i64 s.has.newest.gen, .bool s.has.closed, .bool s.has.retired] 94) :: Blk w'.heap.size (.cells #[.int .i64 i, .int .i64 s.gen] 36) :: HpL b c d e ⟨σ.L, σ.sl, σ.V.set j ⟨⟨z.has, zH⟩, p.gen, true⟩, σ.sv, σ.rs⟩)) from retires_p HP12.out HF.out.1 9 3 rfl rfl HDl.out (by rw [HDl.out]; exact hdl) (fun j => Nat.le_trans (HF.out.2 j) (by omega)))
      clear HP12
      go_upto_region 25 with (go_at_call 47; refine HRe.out.mono ?_; rintro e9 w9 ⟨rfl, hp9⟩; have HP9 := Lib.hid hp9; clear hp9)
      clear n0 HRe
      obtain ⟨n0, _⟩ := cells1 (HP9.out.blk 3 rfl)
      go_wp2_with fail
      have HP14 := Lib.hid (Pw.setB HP9.out 2 rfl (.deferred none))
      refine ⟨by simp, .inl ⟨_, _, rfl, run_takeDeferred (HP9.out.blk 2 rfl), ?_⟩⟩
      refine ⟨.tuple #[.int .i64 (dr.length : Nat), .bool false, .int .i64 0], by simp [results, Try.results14, go_sem], by rw [HN.out, HDR.out, List.length_drop], ?_⟩
      rw [HN.out, ← HDR.out]
      exact (HP14.out.perm (List.perm_middle (l₁ := [_, _, _, _, _, _, _, _, _]) (a := EpA e _)).symm).drop.drop.drop.drop.drop.drop.drop.drop.drop
  case stop =>
    rintro D c T pre W hD hpre hI hK
    exact hI.elim
end
end Go.Proofs.Ytinejaganickpaa
