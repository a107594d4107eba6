/- Heaps: a cell's versions: chain, as an iterator. -/
import Derived.Test.YtinejaganickpaaHeapR
import Derived.Test.YtinejaganickpaaBaseA
import Derived.Test.YtinejaganickpaaBaseH
namespace Go.Proofs.Ytinejaganickpaa
set_option linter.unusedVariables false
set_option linter.unusedSimpArgs false
open Go Go.RowKit Go.Shelf
attribute [local go_sem] Oper.semAt_some

theorem run_neq_hd (s g s' g' : Int) (w : World) : (binOp .neq 36 (.agg #[.int .i64 s, .int .i64 g]) (.agg #[.int .i64 s', .int .i64 g'])).run Try.prog w = .ok (.bool (!(s == s' && g == g'))) w := by
  cases h2 : s == s' with
  | false => go_simp
  | true =>
  cases h3 : g == g' with
  | false => go_simp
  | true => go_simp
abbrev zH : Hd := ⟨0, 0⟩
abbrev noV (x : No) : Value := .agg #[.int .i64 x.has.tS, .string x.has.value, .bool x.has.del, .int .i64 x.older.slot, .int .i64 x.older.gen]
/-- From a handle on: these versions, each with its handle. -/
def Ch (V : List (Slot No)) : Hd → List (Hd × No) → Prop
  | h, [] => h = zH
  | h, x :: r => x.1 = h ∧ h ≠ zH ∧ (∃ i : Nat, h.slot = i ∧ V[i]? = some ⟨x.2, h.gen, true⟩) ∧ Ch V x.2.older r
theorem ch_fun {V : List (Slot No)} : ∀ {h : Hd} {xs ys : List (Hd × No)}, Ch V h xs → Ch V h ys → xs = ys
  | h, [], [], _, _ => rfl
  | h, [], y :: s, hx, hy => absurd hx hy.2.1
  | h, x :: r, [], hx, hy => absurd hy hx.2.1
  | h, x :: r, y :: s, ⟨e1, _, ⟨i, e2, e3⟩, h1⟩, ⟨f1, _, ⟨j, f2, f3⟩, h2⟩ => by
    obtain rfl : i = j := by omega
    rw [e3] at f3
    injection f3 with f3
    injection f3 with f3
    obtain ⟨x1, x2⟩ := x
    obtain ⟨y1, y2⟩ := y
    simp only at e1 f1 f3 h1 h2
    subst e1; subst f1; subst f3
    rw [ch_fun h1 h2]
/-- How long the chain is from the handle in block b on. -/
noncomputable def chLeft (V : List (Slot No)) (s : Value) (w : World) : Nat := by
  classical
  exact match s with
  | .pointer (some a) => if h : ∃ (p : Hd) (xs : List (Hd × No)), w.heap[a.block]? = some (.cells #[.int .i64 p.slot, .int .i64 p.gen] 36) ∧ Ch V p xs then h.choose_spec.choose.length else 0
  | _ => 0
theorem chLeft_of {V : List (Slot No)} {g : Nat} {w : World} {p : Hd} {xs : List (Hd × No)} (h : w.heap[g]? = some (.cells #[.int .i64 p.slot, .int .i64 p.gen] 36)) (hc : Ch V p xs) : chLeft V (.pointer (some ⟨g, 0, none⟩)) w = xs.length := by
  have hx : ∃ (p : Hd) (xs : List (Hd × No)), w.heap[g]? = some (.cells #[.int .i64 p.slot, .int .i64 p.gen] 36) ∧ Ch V p xs := ⟨p, xs, h, hc⟩
  unfold chLeft
  simp only
  rw [dif_pos hx]
  have h1 := hx.choose_spec.choose_spec.1
  have h2 := hx.choose_spec.choose_spec.2
  have h3 := h.symm.trans h1
  have e : p = hx.choose := by
    generalize hx.choose = q at h3
    obtain ⟨a, b⟩ := p
    obtain ⟨c, d⟩ := q
    simp at h3
    rw [h3.1, h3.2]
  exact congrArg List.length (ch_fun (e ▸ h2) hc)
section
variable {b c v e : Nat} {σ : Hps} {w w' : World} {F : Nat → Prop}
theorem lift4 {wr w w' : World} {p1 p2 p3 p4 : Addr} {v1 v2 v3 v4 : Value} (h : KN wr w ∧ w.cell? p1 = some v1 ∧ w.cell? p2 = some v2 ∧ w.cell? p3 = some v3 ∧ w.cell? p4 = some v4) (k : KN w w') :
    KN wr w' ∧ w'.cell? p1 = some v1 ∧ w'.cell? p2 = some v2 ∧ w'.cell? p3 = some v3 ∧ w'.cell? p4 = some v4 :=
  ⟨h.1.trans k (fun _ h => h.elim), cell_kp k id h.2.1, cell_kp k id h.2.2.1, cell_kp k id h.2.2.2.1, cell_kp k id h.2.2.2.2⟩
theorem lift4k {wr w w' : World} {p1 p2 p3 p4 : Addr} {v1 v2 v3 v4 : Value} {g : Nat} (h : KN wr w ∧ w.cell? p1 = some v1 ∧ w.cell? p2 = some v2 ∧ w.cell? p3 = some v3 ∧ w.cell? p4 = some v4) (k : Kp (· = g) w w') (hg : wr.heap.size ≤ g) (h1 : p1.block < wr.heap.size) (h2 : p2.block < wr.heap.size) (h3 : p3.block < wr.heap.size) (h4 : p4.block < wr.heap.size) :
    KN wr w' ∧ w'.cell? p1 = some v1 ∧ w'.cell? p2 = some v2 ∧ w'.cell? p3 = some v3 ∧ w'.cell? p4 = some v4 :=
  ⟨h.1.then k (fun b hb => by rw [hb]; exact hg), cell_kp k (show ¬ _ = g by omega) h.2.1, cell_kp k (show ¬ _ = g by omega) h.2.2.1, cell_kp k (show ¬ _ = g by omega) h.2.2.2.1, cell_kp k (show ¬ _ = g by omega) h.2.2.2.2⟩
theorem kp_set5 (w : World) (g : Nat) (v0 v1 v2 v3 v4 : Value) : Kp (· = g) w (((((w.setCell ⟨g, 0, none⟩ v0).setCell ⟨g, 1, none⟩ v1).setCell ⟨g, 2, none⟩ v2).setCell ⟨g, 3, none⟩ v3).setCell ⟨g, 4, none⟩ v4) :=
  (((((Kp.refl (· = g) w).setCell (p := ⟨g, 0, none⟩) (.inl rfl) v0).setCell (p := ⟨g, 1, none⟩) (.inl rfl) v1).setCell (p := ⟨g, 2, none⟩) (.inl rfl) v2).setCell (p := ⟨g, 3, none⟩) (.inl rfl) v3).setCell (p := ⟨g, 4, none⟩) (.inl rfl) v4
theorem blk_set5 {w : World} {g : Nat} {T : TypeId} {v0 v1 v2 v3 v4 u0 u1 u2 u3 u4 : Value} (h : w.heap[g]? = some (.cells #[u0, u1, u2, u3, u4] T)) : (((((w.setCell ⟨g, 0, none⟩ v0).setCell ⟨g, 1, none⟩ v1).setCell ⟨g, 2, none⟩ v2).setCell ⟨g, 3, none⟩ v3).setCell ⟨g, 4, none⟩ v4).heap[g]? = some (.cells #[v0, v1, v2, v3, v4] T) := by
  have := blk_row (base := 0) [(0, v0), (1, v1), (2, v2), (3, v3), (4, v4)] h
  simpa using this
theorem cells5 {w : World} {b : Nat} {T : TypeId} {v0 v1 v2 v3 v4 : Value} (h : w.heap[b]? = some (.cells #[v0, v1, v2, v3, v4] T (0, 0))) : w.cell? ⟨b, 0, none⟩ = some v0 ∧ w.cell? ⟨b, 1, none⟩ = some v1 ∧ w.cell? ⟨b, 2, none⟩ = some v2 ∧ w.cell? ⟨b, 3, none⟩ = some v3 ∧ w.cell? ⟨b, 4, none⟩ = some v4 ∧ (∀ j, w.frozen? ⟨b, j, none⟩ = false) :=
  ⟨cell_blk h rfl, cell_blk h rfl, cell_blk h rfl, cell_blk h rfl, cell_blk h rfl, fun j => free_blk h⟩
theorem kp_step {T : Nat → Prop} (w : World) {g : Nat} (hg : T g ∨ w.heap.size ≤ g) (v0 v1 : Value) (o : Obj) : Kp T w (((w.setCell ⟨g, 0, none⟩ v0).setCell ⟨g, 1, none⟩ v1).alloc o) :=
  (((Kp.refl T w).setCell (p := ⟨g, 0, none⟩) hg v0).setCell (p := ⟨g, 1, none⟩) hg v1).alloc o
theorem size_step (w : World) (g : Nat) (v0 v1 : Value) (o : Obj) : (((w.setCell ⟨g, 0, none⟩ v0).setCell ⟨g, 1, none⟩ v1).alloc o).heap.size = w.heap.size + 1 := by simp [World.setCell]
theorem blk_step (w : World) (g : Nat) (v0 v1 : Value) (o : Obj) : (((w.setCell ⟨g, 0, none⟩ v0).setCell ⟨g, 1, none⟩ v1).alloc o).heap[w.heap.size]? = some o := by
  have := heap_alloc_same ((w.setCell ⟨g, 0, none⟩ v0).setCell ⟨g, 1, none⟩ v1) o
  rwa [show ((w.setCell ⟨g, 0, none⟩ v0).setCell ⟨g, 1, none⟩ v1).heap.size = w.heap.size by simp [World.setCell]] at this
theorem kn_drew (w : World) : KN w w.drew := (Kp.refl _ w).drew
def ChL (b1 b2 b c v e : Nat) (σ : Hps) (h : Hd) : List Asr := Blk b1 (.cells #[.int .i64 h.slot, .int .i64 h.gen] 36) :: Blk b2 (.cells #[.pointer (some ⟨b, 0, none⟩)] 26) :: HpL b c v e σ
theorem chain_h (h : Pw F w w' (HpL b c v e σ)) (x : Hd) : Calls Try.prog 44 #[.pointer (some ⟨b, 0, none⟩), hdV x] w' fun e' w'' => ∃ b1 b2, e' = .returned (.func (.func 68) #[] #[.pointer (some ⟨b1, 0, none⟩), .pointer (some ⟨b2, 0, none⟩)]) ∧ Pw F w w'' (ChL b1 b2 b c v e σ x) ∧ KN w' w'' := by
  have HQ := Lib.hid ((h.alloc (.cells #[.pointer (some ⟨b, 0, none⟩)] 26)).alloc (.cells #[.int .i64 x.slot, .int .i64 x.gen] 36))
  have hk : KN w' ((w'.alloc (.cells #[.pointer (some ⟨b, 0, none⟩)] 26)).alloc (.cells #[.int .i64 x.slot, .int .i64 x.gen] 36)) := (kn_alloc _ _).alloc _
  clear h
  go_enter Try.func44, Try.ntmps44
  go_wp2_with fail
  go_ret
  have hq := HQ.out
  rw [show (w'.alloc (.cells #[.pointer (some ⟨b, 0, none⟩)] 26)).heap.size = w'.heap.size + 1 by simp] at hq
  exact ⟨_, _, rfl, hq, hk⟩
end
set_option maxRecDepth 100000 in
set_option maxHeartbeats 4000000 in
theorem chain1_in {b c v e : Nat} {σ : Hps} (n : Nat) (hn : 1 ≤ n) (l b1 b2 : Nat) (G : Nat → Prop) (x0 : Hd) (xs : List (Hd × No)) (w0 : World) (h : (All (ChL b1 b2 b c v e σ x0)).on w0 G) (hc : Ch σ.V x0 xs) (J Jx : (Nat → Prop) → List (Hd × No) → World → Prop)
    (W : World) (hW : Below w0.heap.size w0 W) (hJ : AbidesT W.heap.size J)
    (hY : ∀ T pre x W1, J T pre W1 → (∀ b, T b → W.heap.size ≤ b) → pre.length < xs.length → YieldAt Fence.wide (n - 1) Try.prog l #[hdV x.1, noV x.2] W1 fun e W' =>
      (e = .returned (.bool true) ∧ J T (pre ++ [x]) W' ∧ Kx G T W1 W') ∨ (e = .returned (.bool false) ∧ Jx T (pre ++ [x]) W'))
    (h0 : J (fun _ => False) [] W) :
    CallsIn Fence.wide n Try.prog 68 #[.func (.yield l) #[] #[], .pointer (some ⟨b1, 0, none⟩), .pointer (some ⟨b2, 0, none⟩)] W fun e W' => (∃ v, e = .returned v) ∧
      ((∃ ys T, ys = xs ∧ J T ys W') ∨ (∃ pre T, pre <+: xs ∧ Jx T pre W')) := by
  have k0 : KN w0 W := ⟨hW.os, hW.tape, hW.output, hW.size, fun k hk _ => hW.block k hk⟩
  have HG := Lib.hid (fun (W' : World) (k : Kp (fun y => ¬ G y) w0 W') => (All (ChL b1 b2 b c v e σ x0)).keep h k (fun y hy hn => hn hy))
  have HGl := Lib.hid (fun y (hy : G y) => (All (ChL b1 b2 b c v e σ x0)).lt h y hy)
  have HJ := Lib.hid hJ
  have HY := Lib.hid hY
  have HC := Lib.hid hc
  have HJ0 := Lib.hid h0
  have HK0 := Lib.hid (show Kp (fun b => ¬ G b) w0 W from k0.mono (fun _ h => h.elim))
  have hne := run_neq_hd
  have hw0 := k0.size
  clear h hc hJ hY h0 k0 hW
  obtain ⟨p0, q0⟩ : ∃ q : W.cell? ⟨b1, 0, none⟩ = some (.int .i64 x0.slot) ∧ W.cell? ⟨b1, 1, none⟩ = some (.int .i64 x0.gen), True := by
    have := Pw.start (HG.out _ HK0.out)
    obtain ⟨a0, a1, _⟩ := cells2 (this.blk 0 rfl)
    exact ⟨⟨a0, a1⟩, trivial⟩
  clear q0
  obtain ⟨p0, p1⟩ := p0
  refine callsIn_of_wp Try.func68 rfl trivial ?_ rfl
  simp only [Try.ntmps68, List.size_toArray, List.length_cons, List.length_nil, Nat.reduceAdd, Nat.reduceSub, Array.replicate_succ, Array.replicate_zero, List.push_toArray, List.append_toArray, List.nil_append, List.cons_append]
  refine (wpIn_wide).2 ?_
  go_wp2_with fail
  have HJ1 : Hid (J (fun y => False ∨ (W.heap.size ≤ y ∧ y < (W.alloc (.cells #[.int .i64 x0.slot, .int .i64 x0.gen] 36)).heap.size)) [] (W.alloc (.cells #[.int .i64 x0.slot, .int .i64 x0.gen] 36))) := Lib.hid (HJ.out _ _ _ _ HJ0.out (fun _ h => h.elim) (kn_alloc _ _))
  have HB1 := Lib.hid (heap_alloc_same W (.cells #[.int .i64 x0.slot, .int .i64 x0.gen] 36))
  have HK1 := Lib.hid (show Kp (fun y => ¬ G y) w0 (W.alloc (.cells #[.int .i64 x0.slot, .int .i64 x0.gen] 36)) from HK0.out.alloc _)
  go_loopw [4] (fun s4 wr => ∃ (k g : Nat) (T : Nat → Prop) (p : Hd), k ≤ xs.length ∧ s4 = .pointer (some ⟨g, 0, none⟩) ∧
    Hid (J T (xs.take k) wr ∧ (∀ y, T y → W.heap.size ≤ y) ∧ T g ∧ wr.heap[g]? = some (.cells #[.int .i64 p.slot, .int .i64 p.gen] 36) ∧ Ch σ.V p (xs.drop k) ∧ Kp (fun y => ¬ G y) w0 wr ∧ W.heap.size ≤ wr.heap.size)) (fun s4 wr => chLeft σ.V s4 wr)
  case atStart => exact ⟨0, _, _, x0, Nat.zero_le _, rfl, Lib.hid ⟨HJ1.out, fun y hy => hy.elim False.elim (·.1), .inr ⟨Nat.le_refl _, by simp⟩, HB1.out, HC.out, HK1.out, by simp⟩⟩
  case round =>
    obtain ⟨k, g, T, p, hk, rfl, HR⟩ := hrel
    clear HJ1 HB1 HK1 HJ0 HK0 p0 p1
    obtain ⟨a0, a1, af0, af1⟩ := cells2 HR.out.2.2.2.1
    have HP := Lib.hid (Pw.start (HG.out _ HR.out.2.2.2.2.2.1))
    have c2 := (cells1 (HP.out.blk 1 rfl)).1
    obtain ⟨_, c1, _, _⟩ := hp_ptrs HP.out.drop.drop
    by_cases hlt : k < xs.length
    · obtain ⟨x, hx⟩ : ∃ x, xs[k]? = some x := ⟨_, List.getElem?_eq_getElem hlt⟩
      have hdr : xs.drop k = x :: xs.drop (k + 1) := by
        rw [List.drop_eq_getElem_cons hlt, (List.getElem?_eq_some_iff.1 hx).2]
      have hch := HR.out.2.2.2.2.1
      rw [hdr] at hch
      obtain ⟨e1, e2, ⟨i, e3, e4⟩, e5⟩ := hch
      have HL := Lib.hid (show chLeft σ.V (.pointer (some ⟨g, 0, none⟩)) wr = (xs.drop (k + 1)).length + 1 by rw [chLeft_of HR.out.2.2.2.1 HR.out.2.2.2.2.1, hdr]; rfl)
      have HX := Lib.hid (And.intro hx (And.intro e1 e5))
      have hz : (p.slot == 0 && p.gen == 0) = false := by
        cases hq : (p.slot == 0 && p.gen == 0) with
        | false => rfl
        | true =>
          exfalso
          apply e2
          obtain ⟨p1, p2⟩ := p
          simp at hq
          rw [hq.1, hq.2]
      have HGt := Lib.hid (fun (W' : World) (k' : KN wr W') => show Calls Try.prog 45 #[.pointer (some ⟨v, 0, none⟩), .agg #[.int .i64 p.slot, .int .i64 p.gen]] W' (fun e' w'' => e' = .returned (.tuple #[noV x.2, .int .i64 0]) ∧ KN W' w'') from by
        obtain ⟨F1, h1, _⟩ := (HP.out.kn k').get 4 rfl
        have := get_good_N h1 e4 rfl
        rw [← e3] at this
        exact this)
      clear hx hdr e1 e2 e3 e4 e5
      go_upto_region 2 with fail
      go_cut [5, 6] (fun h5 c6 wx => ∃ g5 : Nat, h5 = .pointer (some ⟨g5, 0, none⟩) ∧ c6 = .int .i64 0 ∧ Hid (KN wr wx ∧ wr.heap.size ≤ g5 ∧ wx.heap[g5]? = some (.cells #[.int .i64 x.2.has.tS, .string x.2.has.value, .bool x.2.has.del, .int .i64 x.2.older.slot, .int .i64 x.2.older.gen] 98)))
      case first =>
        have hbw : b < wr.heap.size := World.block_lt_of_cell? _ _ c1
        have hgw : g < wr.heap.size := World.block_lt_of_cell? _ _ a0
        have hbw2 : b2 < wr.heap.size := World.block_lt_of_cell? _ _ c2
        have s0 := lift4 ⟨Kp.refl _ wr, c2, c1, a0, a1⟩ (kn_drew wr)
        have sA := lift4 ⟨Kp.refl _ wr, c2, c1, a0, a1⟩ ((kn_alloc wr (.cells #[.int .i64 0, .string ⟨#[]⟩, .bool false, .int .i64 0, .int .i64 0] 98)).drew)
        have HZ := Lib.hid (heap_alloc_same wr (.cells #[.int .i64 0, .string ⟨#[]⟩, .bool false, .int .i64 0, .int .i64 0] 98))
        clear c2 c1 a0 a1
        go_region_held3 (fun W' => KN wr W' ∧ W'.cell? ⟨b2, 0, none⟩ = some (.pointer (some ⟨b, 0, none⟩)) ∧ W'.cell? ⟨b, 1, none⟩ = some (.pointer (some ⟨v, 0, none⟩)) ∧ W'.cell? ⟨g, 0, none⟩ = some (.int .i64 p.slot) ∧ W'.cell? ⟨g, 1, none⟩ = some (.int .i64 p.gen)) (first | with_reducible exact s0 | with_reducible exact sA | with_reducible exact s1 | with_reducible exact s2 | with_reducible exact s3) (first
          | (go_at_call 45; refine (HGt.out _ s0.1).mono ?_; rintro e5 w5 ⟨rfl, k5⟩; have s1 := lift4 s0 k5; have s2 := lift4 s1 (kn_alloc w5 (.cells #[.int .i64 x.2.has.tS, .string x.2.has.value, .bool x.2.has.del, .int .i64 x.2.older.slot, .int .i64 x.2.older.gen] 98)); have s3 := lift4 s1 (kn_alloc w5 (.cells #[.int .i64 0, .string ⟨#[]⟩, .bool false, .int .i64 0, .int .i64 0] 98)))
          | (go_at_call 45; refine (HGt.out _ sA.1).mono ?_; rintro e5 w5 ⟨rfl, k5⟩; have s1 := lift4 sA k5; have hb5 := k5.blk HZ.out id; have z0 := cell_blk hb5 (i := 0) (v := .int .i64 0) rfl; have z1 := cell_blk hb5 (i := 1) (v := .string ⟨#[]⟩) rfl; have z2 := cell_blk hb5 (i := 2) (v := .bool false) rfl; have z3 := cell_blk hb5 (i := 3) (v := .int .i64 0) rfl; have z4 := cell_blk hb5 (i := 4) (v := .int .i64 0) rfl; have zf : ∀ j, w5.frozen? ⟨wr.heap.size, j, none⟩ = false := (fun j => free_blk hb5); have s3 := lift4k s1 (kp_set5 w5 wr.heap.size (.int .i64 x.2.has.tS) (.string x.2.has.value) (.bool x.2.has.del) (.int .i64 x.2.older.slot) (.int .i64 x.2.older.gen)) (Nat.le_refl _) hbw2 hbw hgw hgw))
        · go_wp2_with fail
          go_meet
          exact ⟨_, rfl, rfl, Lib.hid ⟨s2.1, s1.1.size, heap_alloc_same _ _⟩⟩
        · go_wp2_with fail
          go_meet
          exact ⟨_, rfl, rfl, Lib.hid ⟨s3.1, Nat.le_refl _, blk_set5 hb5⟩⟩
      case rest =>
        obtain ⟨g5, rfl, rfl, HS⟩ := hcut
        clear HGt hz hne
        go_upto_region 3 with fail
        have hTW : ∀ y, (T y ∨ (wr.heap.size ≤ y ∧ y < wc.heap.size)) → W.heap.size ≤ y := fun y hy => by
          rcases hy with hy | hy
          · exact HR.out.2.1 y hy
          · exact Nat.le_trans HR.out.2.2.2.2.2.2 hy.1
        have HJ2 := Lib.hid (show J (fun y => T y ∨ (wr.heap.size ≤ y ∧ y < wc.heap.size)) (xs.take k) wc from HJ.out T (xs.take k) wr wc HR.out.1 HR.out.2.1 (HS.out.1.mono (fun _ h => h.elim)))
        have HT1 := Lib.hid (show (T g ∨ (wr.heap.size ≤ g ∧ g < wc.heap.size)) ∧ (T g5 ∨ (wr.heap.size ≤ g5 ∧ g5 < wc.heap.size)) from ⟨.inl HR.out.2.2.1, .inr ⟨HS.out.2.1, lt_blk HS.out.2.2⟩⟩)
        have HTW := Lib.hid hTW
        have HKc := Lib.hid (show Kp (fun y => ¬ G y) w0 wc from HR.out.2.2.2.2.2.1.trans HS.out.1 (fun _ h => h.elim))
        have HBc := Lib.hid (HS.out.1.blk HR.out.2.2.2.1 id)
        have HB5 := Lib.hid HS.out.2.2
        have HE := Lib.hid HX.out.2.1
        obtain ⟨fn, tmps, assign, body, hy, hRo⟩ := HY.out _ (xs.take k) x wc HJ2.out HTW.out (by rw [List.length_take]; omega)
        obtain ⟨p1, p2⟩ := p
        obtain ⟨⟨x1, x2⟩, xv⟩ := x
        have he := HE.out
        simp only at he
        injection he with he1 he2
        subst he1; subst he2
        simp only at HBc HB5 hy
        obtain ⟨a0, a1, af0, af1⟩ := cells2 HBc.out
        obtain ⟨d0, d1, d2, d3, d4, _⟩ := cells5 HB5.out
        have hWc : W.heap.size ≤ wc.heap.size := Nat.le_trans HR.out.2.2.2.2.2.2 HS.out.1.size
        clear hTW HR HS
        refine (wpIn_wide (n := n)).1 ?_
        gi_wp2
        refine hRo.mono ?_
        have HTk := Lib.hid (show xs.take (k + 1) = xs.take k ++ [(⟨⟨x1, x2⟩, xv⟩ : Hd × No)] by rw [List.take_add_one, HX.out.1]; rfl)
        have hWw : W.heap.size ≤ wc.heap.size := hWc
        clear hy hRo HY
        rintro e3 W3 (⟨rfl, hJ3, hk3⟩ | ⟨rfl, hJx3⟩)
        · have hb3 := hk3.blk HBc.out (fun h => h.2 HT1.out.1)
          have hd3 := hk3.blk HB5.out (fun h => h.2 HT1.out.2)
          have hlw := hk3.size
          have HJ3 := Lib.hid hJ3
          have HK3 := Lib.hid (show Kp (fun y => ¬ G y) w0 W3 from HKc.out.trans (hk3.mono (fun _ h => h.1)) (fun _ h => .inl h))
          have HB3 := Lib.hid hb3
          clear a0 a1 af0 af1 d0 d1 d2 d3 d4 hJ3 HJ2 HKc
          obtain ⟨a0, a1, af0, af1⟩ := cells2 hb3
          obtain ⟨d0, d1, d2, d3, d4, _⟩ := cells5 hd3
          clear hb3 hd3 hk3
          gi_wp2
          go_wp2_with fail
          go_roundw
          case rel =>
            have hsz := size_step W3 g (.int .i64 xv.older.slot) (.int .i64 xv.older.gen) (.cells #[.int .i64 xv.older.slot, .int .i64 xv.older.gen] 36)
            have hbl := blk_step W3 g (.int .i64 xv.older.slot) (.int .i64 xv.older.gen) (.cells #[.int .i64 xv.older.slot, .int .i64 xv.older.gen] 36)
            have hJ4 := HJ.out _ _ W3 _ HJ3.out HTW.out (kp_step W3 (T := fun y => T y ∨ (wr.heap.size ≤ y ∧ y < wc.heap.size)) (.inl HT1.out.1) (.int .i64 xv.older.slot) (.int .i64 xv.older.gen) (.cells #[.int .i64 xv.older.slot, .int .i64 xv.older.gen] 36))
            have hk4 : Kp (fun y => ¬ G y) w0 _ := (HK3.out.trans (kp_step W3 (T := (· = g)) (.inl rfl) (.int .i64 xv.older.slot) (.int .i64 xv.older.gen) (.cells #[.int .i64 xv.older.slot, .int .i64 xv.older.gen] 36)) (fun y hy => .inr (by rw [hy]; exact Nat.le_trans hw0 (HTW.out g HT1.out.1))))
            rw [← HTk.out] at hJ4
            refine ⟨k + 1, _, _, xv.older, by omega, rfl, Lib.hid ⟨hJ4, fun y hy => ?_, Or.inr ⟨Nat.le_refl _, by rw [hsz]; omega⟩, hbl, HX.out.2.2, hk4, by rw [hsz]; omega⟩⟩
            rcases hy with hy | hy
            · exact HTW.out y hy
            · exact Nat.le_trans hWw (Nat.le_trans hlw hy.1)
          case measure =>
            have hbl := blk_step W3 g (.int .i64 xv.older.slot) (.int .i64 xv.older.gen) (.cells #[.int .i64 xv.older.slot, .int .i64 xv.older.gen] 36)
            rw [HL.out, chLeft_of hbl HX.out.2.2]
            omega
        · gi_wp2
          go_wp2_with fail
          refine bodyPost_ret (results_none rfl _ _ _) rfl ?_
          exact ⟨⟨_, rfl⟩, .inr ⟨_, _, by rw [← HTk.out]; exact List.take_prefix _ _, hJx3⟩⟩
    · have hkl : k = xs.length := by omega
      subst hkl
      have hch := HR.out.2.2.2.2.1
      rw [List.drop_length] at hch
      have hp : p = zH := hch
      subst hp
      go_wp2_with fail
      go_end0
      have hj := HR.out.1
      rw [List.take_length] at hj
      first | exact ⟨⟨_, rfl⟩, .inl ⟨_, T, rfl, hj⟩⟩ | exact ⟨⟨_, rfl⟩, .inl ⟨T, hj⟩⟩
/-- chain, as an iterator. -/
theorem chain_stops {b c v e : Nat} {σ : Hps} (n : Nat) (hn : 1 ≤ n) (b1 b2 : Nat) (G : Nat → Prop) (x0 : Hd) (xs : List (Hd × No)) (w0 : World) (h : (All (ChL b1 b2 b c v e σ x0)).on w0 G) (hc : Ch σ.V x0 xs) :
    SeqStopsT Fence.wide n Try.prog 68 #[.pointer (some ⟨b1, 0, none⟩), .pointer (some ⟨b2, 0, none⟩)] (fun x : Hd × No => #[hdV x.1, noV x.2]) (Kx G) (fun ys => ys = xs) (fun pre => pre <+: xs) xs.length w0 :=
  fun l J Jx W hW hJ _ hY h0 => chain1_in n hn l b1 b2 G x0 xs w0 h hc J Jx W hW hJ hY h0
end Go.Proofs.Ytinejaganickpaa

namespace Go.Proofs.Ytinejaganickpaa
set_option linter.unusedVariables false
set_option linter.unusedSimpArgs false
open Go Go.RowKit Go.Shelf
attribute [local go_sem] Oper.semAt_some

theorem keepsFrom_setC {B : Nat} {W X : World} (h : KeepsFrom B W X) {g i : Nat} (v : Value) (hg : g < B) : KeepsFrom B W (X.setCell ⟨g, i, none⟩ v) :=
  ⟨by simp only [World.setCell, World.putObj] at *; have := h.size; simp [World.setCell]; exact this, fun k o hk ho hc => (Below.heap_setCell _ _ _ _ (by simp; omega)).trans (h.same k o hk ho hc)⟩
section
variable {b c v e : Nat} {σ : Hps} {w w' : World} {F : Nat → Prop}
set_option maxRecDepth 100000 in
set_option maxHeartbeats 4000000 in
theorem list_in {x : Hd} {xs : List (Hd × No)} (h : Pw F w w' (HpL b c v e σ)) (hc : Ch σ.V x xs) (hl : xs.length ≤ 9000000) : CallsIn Fence.wide 3 Try.prog 39 #[.pointer (some ⟨b, 0, none⟩), hdV x] w' fun e' w'' =>
    ∃ a cap, e' = .returned (.slice a (xs.map (·.2.has)).length cap) ∧ One w' w'' [RowV a cap (xs.map (·.2.has))] := by
  obtain ⟨F0, hon, _, _⟩ := h
  have hlt := (All (HpL b c v e σ)).lt hon
  have HC := Lib.hid hc
  have HOn := Lib.hid hon
  have HLt := Lib.hid hlt
  clear hc hon hlt
  have HO := Lib.hid (((One.nil w').alloc (.cells #[.int .i64 x.slot, .int .i64 x.gen] 36)).alloc (.cells #[.slice none 0 0] 46))
  refine callsIn_of_wp_marks Try.func39 rfl trivial ?_ rfl
  simp only [Try.ntmps39, List.size_toArray, List.length_cons, List.length_nil, Nat.reduceAdd, Nat.reduceSub, Array.replicate_succ, Array.replicate_zero, List.push_toArray, List.append_toArray, List.nil_append, List.cons_append]
  refine wpIn_wide.2 ?_
  go_wp2_with fail
  rw [show (w'.alloc (.cells #[.int .i64 x.slot, .int .i64 x.gen] 36)).heap.size = w'.heap.size + 1 by simp] at HO
  generalize hW0 : (w'.alloc (.cells #[.int .i64 x.slot, .int .i64 x.gen] 36)).alloc (.cells #[.slice none 0 0] 46) = W0 at *
  have hs0 : W0.heap.size = w'.heap.size + 2 := by rw [← hW0]; simp
  clear hW0
  refine (chain_h (Pw.start ((All (HpL b c v e σ)).kn HOn.out HO.out.old)) x).mono ?_
  rintro e1 W1 ⟨b1, b2, rfl, ⟨G, hG, _, hGs⟩, k1⟩
  have hGn : ∀ y, w'.heap.size ≤ y → y < w'.heap.size + 2 → ¬ G y := fun y h1 h2 hy => by
    rcases hGs y hy with h | h
    · have := HLt.out y h; omega
    · omega
  have HGl := Lib.hid (fun y (hy : G y) => (All (ChL b1 b2 b c v e σ x)).lt hG y hy)
  have HGn := Lib.hid hGn
  have HO1 := Lib.hid (HO.out.kn k1)
  have HSEQ := Lib.hid (chain_stops 2 (by omega) b1 b2 G x xs W1 hG HC.out)
  have hw1 : w'.heap.size + 2 ≤ W1.heap.size := by have := k1.size; omega
  have HF0 := Lib.hid ((One.nilRow (One.drop (HO1.out.perm (List.Perm.swap _ _ _))) 34 3).perm (List.Perm.swap _ _ _)).loopT
  have hww : w'.heap.size ≤ W1.heap.size := by omega
  clear hG hGs k1 hGn HO HO1 HOn HLt
  go_upto_block 0 with (fail)
  refine (wpIn_wide (n := 3)).1 ?_
  gi_wp2_with fail
  refine wpIn_rangeFunc_ownT rfl (show 1 ≤ 3 by omega) (gf := 68) (lb := #[.pointer (some ⟨b1, 0, none⟩), .pointer (some ⟨b2, 0, none⟩)]) rfl trivial (enters_of Try.func68 (by kernel_rfl) rfl)
    HSEQ.out Kx.trans (Kx.put HGl.out) (Below.refl _ _) (fun _ => rfl)
    (fun T pre W => ∃ aw cw, OneT W1.heap.size w' T W [Blk (w'.heap.size + 1) (.cells #[.slice aw pre.length cw] 46), RowA 34 3 (.slice aw pre.length cw) pre.length ((pre.map (·.2.has)).flatMap Ve.enc)] ∧ (∀ y, (Value.slice aw pre.length cw).ownBlock = some y → W1.heap.size ≤ y) ∧ W1.heap.size ≤ W.heap.size)
    (fun c T pre W => False)
    (fun T pre W W' row hs hg hr => by
      obtain ⟨aw, cw, h1, h2, h3⟩ := hs
      exact ⟨aw, cw, oneT_own (β := Unit) hww (fun _ => [Blk (w'.heap.size + 1) (.cells #[.slice aw pre.length cw] 46), RowA 34 3 (.slice aw pre.length cw) pre.length ((pre.map (·.2.has)).flatMap Ve.enc)]) T () W W' row h1 hg hr, h2, Nat.le_trans h3 hg.size⟩)
    (fun c T s W W' row hs hg hr => hs.elim)
    (fun T pre W W' hs hT k => by
      obtain ⟨aw, cw, h1, h2, h3⟩ := hs
      exact ⟨aw, cw, oneT_abides (β := Unit) hww (fun _ => [Blk (w'.heap.size + 1) (.cells #[.slice aw pre.length cw] 46), RowA 34 3 (.slice aw pre.length cw) pre.length ((pre.map (·.2.has)).flatMap Ve.enc)]) T () W W' h1 hT k, h2, Nat.le_trans h3 k.size⟩)
    (fun c T s W W' hs hT k => hs.elim)
    ⟨none, 0, HF0.out, fun y hy => by simp [Value.ownBlock] at hy, Nat.le_refl _⟩
    (fun y a' W => ∃ Bx, W1.heap.size ≤ Bx ∧ W.heap[Bx]? = some (.cells #[.int .i64 y.2.has.tS, .string y.2.has.value, .bool y.2.has.del, .int .i64 y.2.older.slot, .int .i64 y.2.older.gen] 98) ∧ a' = { tmps := #[.pointer (some ⟨b, 0, none⟩), hdV x, undef, .pointer (some ⟨w'.heap.size, 0, none⟩), .slice none 0 0, .pointer (some ⟨w'.heap.size + 1, 0, none⟩), undef, .pointer (some ⟨Bx, 0, none⟩), .pointer (some ⟨b, 0, none⟩), hdV x, .func (.func 68) #[] #[.pointer (some ⟨b1, 0, none⟩), .pointer (some ⟨b2, 0, none⟩)], hdV y.1, noV y.2, undef, undef, undef, undef, undef, undef], defers := [] })
    (fun y a' _ X Y row hs hg hr => by
      obtain ⟨Bx, h1, h2, h3⟩ := hs
      refine ⟨Bx, h1, (hg.block Bx (lt_blk h2) (fun e => ?_)).trans h2, h3⟩
      obtain ⟨_, o, ho, hc⟩ := hr Bx e.symm
      rw [h2] at ho; cases ho; cases hc)
    ?assign ?body ?done ?stop
  case assign =>
    intro lp T pre y W K hI hK
    obtain ⟨aw, cw, hI, h2, h3⟩ := hI
    gi_wp2
    exact hK _ _ (keepsFrom_kn (kn_alloc _ _)) (Kx.kn (kn_alloc _ _)) ⟨aw, cw, hI.kn (kn_alloc _ _), h2, Nat.le_trans h3 (kn_alloc _ _).size⟩ ⟨W.heap.size, h3, heap_alloc_same _ _, rfl⟩
  case body =>
    rintro lp T pre y a' W hlp ⟨r, hr⟩ hI ⟨Bx, hBx, bX, rfl⟩ hlt
    obtain ⟨aw, cw, hI, h2, h3⟩ := hI
    obtain ⟨n0, f0⟩ := cells1 (hI.one.blk 0 rfl).1
    have hTg := (hI.blk 0 rfl).2
    obtain ⟨z0, z1, z2, z3, z4, _⟩ := cells5 bX
    obtain ⟨yh, ⟨⟨yt, yv, yd⟩, yo⟩⟩ := y
    simp only at z0 z1 z2 z3 z4 bX
    have HAp := Lib.hid (OneT.app (P := Try.prog) (m := [(⟨yt, yv, yd⟩ : Ve)]) elt_Ve 46 (hI.kn (kn_alloc W (.cells #[.int .i64 yt, .string yv, .bool yd] 34))) 1 rfl (Nat.le_trans h3 (kn_alloc _ _).size) h2 encV3 (rl_ve (v := ⟨yt, yv, yd⟩) (cap := 1) (heap_alloc_same W _)) oneV (by unfold maxLen; simp only [List.length_singleton]; omega) (by simp only [List.length_singleton]; omega))
    have HPr := Lib.hid (And.intro h2 h3)
    have HcW := Lib.hid (show (∀ y, (Value.slice aw pre.length cw).ownBlock = some y → y < W1.heap.size ∨ ∃ o, W.heap[y]? = some o ∧ o.isCells = true) ∧ ∀ y, (Value.slice aw pre.length cw).ownBlock = some y → ¬ T y by
      obtain ⟨F1, hF, _, ht, hcl, _⟩ := hI.get 1 rfl
      exact ⟨fun y hy => hcl y (by rw [hF.2]; exact hy), fun y hy => ht y (by rw [hF.2]; exact hy)⟩)
    clear hI bX h2
    gi_wp2_with (gi_at_builtin; refine wpListIn_appX rfl (by rfl) (by rfl) (by rfl) HAp.out ?_; rintro r' w2 ⟨a1, c1, rfl, ho, hk, hx, hc, ht⟩; have HI2 := Lib.hid ho; have HK2 := Lib.hid hk; have HX2 := Lib.hid (And.intro hx hc); obtain ⟨q0, q1⟩ := cells1 (ho.one.blk 0 rfl).1; clear ho hk hx hc ht)
    have hkp : Kp (fun y => (Value.slice aw pre.length cw).ownBlock = some y) W w2 := ((kn_alloc W _).mono (fun _ h => h.elim)).trans HK2.out (fun i hi => .inl hi)
    refine ⟨keepsFrom_setC (keepsFrom_kp hkp HcW.out.1) _ (by omega), ?_, a1, c1, ?_, ?_, ?_⟩
    · refine Kx.of (S := fun z => (Value.slice aw pre.length cw).ownBlock = some z ∨ z = w'.heap.size + 1) ((hkp.mono (fun _ h => .inl h)).setCell (p := ⟨w'.heap.size + 1, 0, none⟩) (.inl (.inr rfl)) _) (fun z hz hG => ?_) (fun z hz hT => ?_)
      · rcases hz with hz | hz
        · have := HPr.out.1 z hz
          have := HGl.out z hG
          omega
        · subst hz
          exact HGn.out _ (by omega) (by omega) hG
      · rcases hz with hz | hz
        · exact HcW.out.2 z hz hT
        · subst hz
          exact hTg hT
    · have hq := HI2.out.setC 0 rfl (j := 0) (.slice a1 (pre.length + 1) c1)
      rw [List.map_append, List.flatMap_append, List.length_append]
      exact hq
    · rw [List.length_append]; exact HX2.out.1
    · have := hkp.size
      simp [World.setCell]
      omega
  case done =>
    rintro D T ys W hD hys hI hK
    subst hys
    obtain ⟨aw, cw, hI, h2, h3⟩ := hI
    have HI := Lib.hid (hI.oneF.addD hK rfl hD hww)
    clear hI hK
    obtain ⟨n0, f0⟩ := cells1 (HI.out.blk 1 rfl).1
    have HO7 := Lib.hid (One.setB HI.out 0 rfl (.deferred none))
    have hDb := Lib.hid (HI.out.blk 0 rfl).1
    clear HI
    go_wp2_with fail
    refine ⟨by simp, .inl ⟨_, _, rfl, run_takeDeferred hDb.out, ?_⟩⟩
    refine ⟨.slice aw ys.length cw, by simp [results, Try.results39, go_sem], aw, cw, by simp, ?_⟩
    have H8 := One.drop (One.drop HO7.out)
    unfold RowV
    rw [List.length_map]
    exact H8
  case stop =>
    rintro D c T pre W hD hpre hI hK
    exact hI.elim
theorem list_h {x : Hd} {xs : List (Hd × No)} (h : Pw F w w' (HpL b c v e σ)) (hc : Ch σ.V x xs) (hl : xs.length ≤ 9000000) : Calls Try.prog 39 #[.pointer (some ⟨b, 0, none⟩), hdV x] w' fun e' w'' =>
    ∃ a cap, e' = .returned (.slice a (xs.map (·.2.has)).length cap) ∧ One w' w'' [RowV a cap (xs.map (·.2.has))] := callsIn_wide.1 (list_in h hc hl)
end
end Go.Proofs.Ytinejaganickpaa

namespace Go.Proofs.Ytinejaganickpaa
set_option linter.unusedVariables false
open Go Go.RowKit

theorem up1 {wr w' : World} {p1 : Addr} {v1 : Value} (h : wr.cell? p1 = some v1) (k : KN wr w') : KN wr w' ∧ w'.cell? p1 = some v1 := by
  have h1 := h
  exact ⟨k, cell_kp k id h1⟩
theorem up2 {wr w' : World} {p1 p2 : Addr} {v1 v2 : Value} (h : wr.cell? p1 = some v1 ∧ wr.cell? p2 = some v2) (k : KN wr w') : KN wr w' ∧ w'.cell? p1 = some v1 ∧ w'.cell? p2 = some v2 := by
  obtain ⟨h1, h2⟩ := h
  exact ⟨k, cell_kp k id h1, cell_kp k id h2⟩
theorem up3 {wr w' : World} {p1 p2 p3 : Addr} {v1 v2 v3 : Value} (h : wr.cell? p1 = some v1 ∧ wr.cell? p2 = some v2 ∧ wr.cell? p3 = some v3) (k : KN wr w') : KN wr w' ∧ w'.cell? p1 = some v1 ∧ w'.cell? p2 = some v2 ∧ w'.cell? p3 = some v3 := by
  obtain ⟨h1, h2, h3⟩ := h
  exact ⟨k, cell_kp k id h1, cell_kp k id h2, cell_kp k id h3⟩
theorem up4 {wr w' : World} {p1 p2 p3 p4 : Addr} {v1 v2 v3 v4 : Value} (h : wr.cell? p1 = some v1 ∧ wr.cell? p2 = some v2 ∧ wr.cell? p3 = some v3 ∧ wr.cell? p4 = some v4) (k : KN wr w') : KN wr w' ∧ w'.cell? p1 = some v1 ∧ w'.cell? p2 = some v2 ∧ w'.cell? p3 = some v3 ∧ w'.cell? p4 = some v4 := by
  obtain ⟨h1, h2, h3, h4⟩ := h
  exact ⟨k, cell_kp k id h1, cell_kp k id h2, cell_kp k id h3, cell_kp k id h4⟩
theorem up5 {wr w' : World} {p1 p2 p3 p4 p5 : Addr} {v1 v2 v3 v4 v5 : Value} (h : wr.cell? p1 = some v1 ∧ wr.cell? p2 = some v2 ∧ wr.cell? p3 = some v3 ∧ wr.cell? p4 = some v4 ∧ wr.cell? p5 = some v5) (k : KN wr w') : KN wr w' ∧ w'.cell? p1 = some v1 ∧ w'.cell? p2 = some v2 ∧ w'.cell? p3 = some v3 ∧ w'.cell? p4 = some v4 ∧ w'.cell? p5 = some v5 := by
  obtain ⟨h1, h2, h3, h4, h5⟩ := h
  exact ⟨k, cell_kp k id h1, cell_kp k id h2, cell_kp k id h3, cell_kp k id h4, cell_kp k id h5⟩
theorem up6 {wr w' : World} {p1 p2 p3 p4 p5 p6 : Addr} {v1 v2 v3 v4 v5 v6 : Value} (h : wr.cell? p1 = some v1 ∧ wr.cell? p2 = some v2 ∧ wr.cell? p3 = some v3 ∧ wr.cell? p4 = some v4 ∧ wr.cell? p5 = some v5 ∧ wr.cell? p6 = some v6) (k : KN wr w') : KN wr w' ∧ w'.cell? p1 = some v1 ∧ w'.cell? p2 = some v2 ∧ w'.cell? p3 = some v3 ∧ w'.cell? p4 = some v4 ∧ w'.cell? p5 = some v5 ∧ w'.cell? p6 = some v6 := by
  obtain ⟨h1, h2, h3, h4, h5, h6⟩ := h
  exact ⟨k, cell_kp k id h1, cell_kp k id h2, cell_kp k id h3, cell_kp k id h4, cell_kp k id h5, cell_kp k id h6⟩
theorem up7 {wr w' : World} {p1 p2 p3 p4 p5 p6 p7 : Addr} {v1 v2 v3 v4 v5 v6 v7 : Value} (h : wr.cell? p1 = some v1 ∧ wr.cell? p2 = some v2 ∧ wr.cell? p3 = some v3 ∧ wr.cell? p4 = some v4 ∧ wr.cell? p5 = some v5 ∧ wr.cell? p6 = some v6 ∧ wr.cell? p7 = some v7) (k : KN wr w') : KN wr w' ∧ w'.cell? p1 = some v1 ∧ w'.cell? p2 = some v2 ∧ w'.cell? p3 = some v3 ∧ w'.cell? p4 = some v4 ∧ w'.cell? p5 = some v5 ∧ w'.cell? p6 = some v6 ∧ w'.cell? p7 = some v7 := by
  obtain ⟨h1, h2, h3, h4, h5, h6, h7⟩ := h
  exact ⟨k, cell_kp k id h1, cell_kp k id h2, cell_kp k id h3, cell_kp k id h4, cell_kp k id h5, cell_kp k id h6, cell_kp k id h7⟩
theorem up8 {wr w' : World} {p1 p2 p3 p4 p5 p6 p7 p8 : Addr} {v1 v2 v3 v4 v5 v6 v7 v8 : Value} (h : wr.cell? p1 = some v1 ∧ wr.cell? p2 = some v2 ∧ wr.cell? p3 = some v3 ∧ wr.cell? p4 = some v4 ∧ wr.cell? p5 = some v5 ∧ wr.cell? p6 = some v6 ∧ wr.cell? p7 = some v7 ∧ wr.cell? p8 = some v8) (k : KN wr w') : KN wr w' ∧ w'.cell? p1 = some v1 ∧ w'.cell? p2 = some v2 ∧ w'.cell? p3 = some v3 ∧ w'.cell? p4 = some v4 ∧ w'.cell? p5 = some v5 ∧ w'.cell? p6 = some v6 ∧ w'.cell? p7 = some v7 ∧ w'.cell? p8 = some v8 := by
  obtain ⟨h1, h2, h3, h4, h5, h6, h7, h8⟩ := h
  exact ⟨k, cell_kp k id h1, cell_kp k id h2, cell_kp k id h3, cell_kp k id h4, cell_kp k id h5, cell_kp k id h6, cell_kp k id h7, cell_kp k id h8⟩
theorem up9 {wr w' : World} {p1 p2 p3 p4 p5 p6 p7 p8 p9 : Addr} {v1 v2 v3 v4 v5 v6 v7 v8 v9 : Value} (h : wr.cell? p1 = some v1 ∧ wr.cell? p2 = some v2 ∧ wr.cell? p3 = some v3 ∧ wr.cell? p4 = some v4 ∧ wr.cell? p5 = some v5 ∧ wr.cell? p6 = some v6 ∧ wr.cell? p7 = some v7 ∧ wr.cell? p8 = some v8 ∧ wr.cell? p9 = some v9) (k : KN wr w') : KN wr w' ∧ w'.cell? p1 = some v1 ∧ w'.cell? p2 = some v2 ∧ w'.cell? p3 = some v3 ∧ w'.cell? p4 = some v4 ∧ w'.cell? p5 = some v5 ∧ w'.cell? p6 = some v6 ∧ w'.cell? p7 = some v7 ∧ w'.cell? p8 = some v8 ∧ w'.cell? p9 = some v9 := by
  obtain ⟨h1, h2, h3, h4, h5, h6, h7, h8, h9⟩ := h
  exact ⟨k, cell_kp k id h1, cell_kp k id h2, cell_kp k id h3, cell_kp k id h4, cell_kp k id h5, cell_kp k id h6, cell_kp k id h7, cell_kp k id h8, cell_kp k id h9⟩
theorem up10 {wr w' : World} {p1 p2 p3 p4 p5 p6 p7 p8 p9 p10 : Addr} {v1 v2 v3 v4 v5 v6 v7 v8 v9 v10 : Value} (h : wr.cell? p1 = some v1 ∧ wr.cell? p2 = some v2 ∧ wr.cell? p3 = some v3 ∧ wr.cell? p4 = some v4 ∧ wr.cell? p5 = some v5 ∧ wr.cell? p6 = some v6 ∧ wr.cell? p7 = some v7 ∧ wr.cell? p8 = some v8 ∧ wr.cell? p9 = some v9 ∧ wr.cell? p10 = some v10) (k : KN wr w') : KN wr w' ∧ w'.cell? p1 = some v1 ∧ w'.cell? p2 = some v2 ∧ w'.cell? p3 = some v3 ∧ w'.cell? p4 = some v4 ∧ w'.cell? p5 = some v5 ∧ w'.cell? p6 = some v6 ∧ w'.cell? p7 = some v7 ∧ w'.cell? p8 = some v8 ∧ w'.cell? p9 = some v9 ∧ w'.cell? p10 = some v10 := by
  obtain ⟨h1, h2, h3, h4, h5, h6, h7, h8, h9, h10⟩ := h
  exact ⟨k, cell_kp k id h1, cell_kp k id h2, cell_kp k id h3, cell_kp k id h4, cell_kp k id h5, cell_kp k id h6, cell_kp k id h7, cell_kp k id h8, cell_kp k id h9, cell_kp k id h10⟩
end Go.Proofs.Ytinejaganickpaa

namespace Go.Proofs.Ytinejaganickpaa
set_option linter.unusedVariables false
set_option linter.unusedSimpArgs false
open Go Go.RowKit Go.Sort

/-- A call that turns a part of what is left. -/
theorem Pw.call {P : Program} {f : FuncId} {args : Array Value} {F : Nat → Prop} {w w' : World} {pre L L' : List Asr} {R : Ending → Prop} (h : Pw F w w' (pre ++ L)) (hc : ∀ F1, Pw F1 w' w' L → Calls P f args w' fun e w'' => R e ∧ Pw F1 w' w'' L') :
    Calls P f args w' fun e w'' => R e ∧ Pw F w w'' (pre ++ L') := by
  have h1 := (h.perm List.perm_append_comm).group
  obtain ⟨F1, hon, _, hup⟩ := h1.get 0 rfl
  refine (hc F1 (Pw.start hon)).mono fun e w'' ⟨he, hp⟩ => ⟨he, ?_⟩
  have h2 := hup hp
  exact (Pw.flat (by simpa using h2)).perm List.perm_append_comm
theorem One.pre {w0 w w' : World} {l : List Asr} (k : KN w0 w) (h : One w w' l) : One w0 w' l := let ⟨F, a, b, c⟩ := h; ⟨F, a, fun x hx => Nat.le_trans k.size (b x hx), k.trans c (fun _ h => h.elim)⟩
section
variable {b c d e : Nat} {σ : Hps} {w w' : World} {F : Nat → Prop}
set_option maxRecDepth 100000 in
set_option maxHeartbeats 2000000 in
theorem read_good_h {i : Nat} {s : Slot Cl} {xs : List (Hd × No)} (ts : Int) (h : Pw F w w' (HpL b c d e σ)) (hs : σ.L[i]? = some s) (hg : s.given = true) (hc : Ch σ.V s.has.newest xs) (hl : xs.length ≤ 9000000) :
    Calls Try.prog 15 #[.pointer (some ⟨b, 0, none⟩), .agg #[.int .i64 i, .int .i64 s.gen], .int .i64 ts] w' fun e' w'' =>
    e' = .returned (.tuple #[vev (((xs.map (·.2.has)).find? fun x => decide (x.tS ≤ ts)).getD zV), .bool ((xs.map (·.2.has)).find? fun x => decide (x.tS ≤ ts)).isSome, .int .i64 0]) ∧ KN w' w'' := by
  have HLi := Lib.hid (fun (W : World) (k : KN w' W) => list_h (h.kn k) hc hl)
  have hk : KN w' ((w'.alloc (.cells #[.int .i64 i, .int .i64 s.gen] 36)).alloc (.cells #[.int .i64 0, .string ⟨#[]⟩, .bool false] 34)) := (kn_alloc _ _).alloc _
  have HG := Lib.hid (get_good_h (h.kn hk) hs hg)
  obtain ⟨x0, x1, _, _⟩ := cells2 (blk_alloc (.cells #[.int .i64 0, .string ⟨#[]⟩, .bool false] 34) (heap_alloc_same w' (.cells #[.int .i64 i, .int .i64 s.gen] 36)))
  have hz := heap_alloc_same (w'.alloc (.cells #[.int .i64 i, .int .i64 s.gen] 36)) (.cells #[.int .i64 0, .string ⟨#[]⟩, .bool false] 34)
  rw [show (w'.alloc (.cells #[.int .i64 i, .int .i64 s.gen] 36)).heap.size = w'.heap.size + 1 by simp] at hz
  have HZ := Lib.hid hz
  have HK := Lib.hid hk
  have HLen := Lib.hid (show (xs.map (·.2.has)).length ≤ 9000000 by rw [List.length_map]; exact hl)
  clear h hs hg hc hz hk hl
  generalize xs.map (·.2.has) = ys at *
  go_enter Try.func15, Try.ntmps15
  go_upto_region 5 with (first
    | (go_at_call 42; refine HG.out.mono ?_; rintro e3 w3 ⟨rfl, k3⟩; have HK3 := Lib.hid (HK.out.trans k3 (fun _ h => h.elim)); have HZ3 := Lib.hid (k3.blk HZ.out id))
    | (go_at_call 39; refine (HLi.out _ (HK3.out.alloc _)).mono ?_; rintro e5 w5 ⟨a5, c5, rfl, ho5⟩; have HK5 := Lib.hid ((HK3.out.alloc _).trans ho5.old (fun _ h => h.elim)); have HZ5 := Lib.hid (ho5.old.blk (blk_alloc _ HZ3.out) id); have HR5 := Lib.hid (show Rl Ve.enc 3 w5 _ ys from by
        obtain ⟨F1, hr, _⟩ := ho5.get 0 rfl
        exact Rl.of_row encV3 rfl hr))
    | (go_at_call 48; refine (at_v ts HR5.out (by have := HLen.out; unfold maxLen; omega)).mono ?_; rintro e6 w6 ⟨rfl, k6⟩; have HK6 := Lib.hid (HK5.out.trans k6 (fun _ h => h.elim)); have HZ6 := Lib.hid (k6.blk HZ5.out id)))
  generalize hr1 : (ys.find? fun x => decide (x.tS ≤ ts)) = res at *
  generalize hr2 : res.getD zV = y at *
  generalize hr3 : res.isSome = q at *
  have HRes := Lib.hid (And.intro hr1 (And.intro hr2 hr3))
  clear hr1 hr2 hr3
  have HK7 := Lib.hid (HK6.out.alloc (.cells #[.int .i64 y.tS, .string y.value, .bool y.del] 34))
  have HB7 := Lib.hid (blk_alloc (.cells #[.int .i64 y.tS, .string y.value, .bool y.del] 34) HZ6.out)
  have HN7 := Lib.hid (heap_alloc_same w6 (.cells #[.int .i64 y.tS, .string y.value, .bool y.del] 34))
  clear HK3 HK5 HK6 HZ3 HZ5 HZ6 HR5 HG HLi k6 ho5 k3 x0 x1 HZ HK
  generalize w6.alloc (.cells #[.int .i64 y.tS, .string y.value, .bool y.del] 34) = w7 at *
  generalize w6.heap.size = g7 at *
  obtain ⟨y0, y1, y2, _⟩ := cells3 HN7.out
  obtain ⟨z0, z1, z2, zf0, zf1, zf2⟩ := cells3 HB7.out
  go_wp2_with fail
  have hk8 := kn_row (g := w'.heap.size + 1) (base := 0) (by omega) [(0, .int .i64 y.tS), (1, .string y.value), (2, .bool y.del)] HK7.out
  simp only [List.foldl_cons, List.foldl_nil, Nat.zero_add] at hk8
  have hb := blk_row (base := 0) [(0, .int .i64 y.tS), (1, .string y.value), (2, .bool y.del)] HB7.out
  simp only [List.foldl_cons, List.foldl_nil, Nat.zero_add] at hb
  have r0 := cell_blk hb (i := 0) (v := .int .i64 y.tS) rfl
  have r1 := cell_blk hb (i := 1) (v := .string y.value) rfl
  have r2 := cell_blk hb (i := 2) (v := .bool y.del) rfl
  exact bodyPost_ret (v := .tuple #[vev y, .bool q, .int .i64 0]) (by simp [results, Try.results15, go_sem, r0, r1, r2]) rfl ⟨by rw [HRes.out.1, HRes.out.2.1, HRes.out.2.2], hk8⟩
set_option maxRecDepth 100000 in
set_option maxHeartbeats 2000000 in
theorem read_bad_h {s g ts : Int} (h : Pw F w w' (HpL b c d e σ)) (hb : goodAt σ.L s g = none) (hst : 0 ≤ σ.sl ∧ σ.sl ≤ 4611686018427387904) :
    Calls Try.prog 15 #[.pointer (some ⟨b, 0, none⟩), .agg #[.int .i64 s, .int .i64 g], .int .i64 ts] w' fun e' w'' => e' = .returned (.tuple #[vev zV, .bool false, .int .i64 7]) ∧ Pw F w w'' (HpL b c d e ⟨σ.L, σ.sl + 1, σ.V, σ.sv, σ.rs⟩) := by
  have hq := (h.alloc (.cells #[.int .i64 s, .int .i64 g] 36)).alloc (.cells #[.int .i64 0, .string ⟨#[]⟩, .bool false] 34)
  rw [show (w'.alloc (.cells #[.int .i64 s, .int .i64 g] 36)).heap.size = w'.heap.size + 1 by simp] at hq
  have HG := Lib.hid (Pw.call (pre := [_, _]) hq (fun F1 h1 => get_bad_h h1 hb hst))
  obtain ⟨x0, x1, _, _⟩ := cells2 (hq.blk 1 rfl)
  clear h hb hst hq
  go_enter Try.func15, Try.ntmps15
  go_wp2_with (go_at_call 42; refine HG.out.mono ?_; rintro e3 w3 ⟨rfl, hp3⟩; have HP3 := Lib.hid (Pw.alloc hp3 (.cells #[.string ⟨#[]⟩, .int .i64 0, .int .i64 0, .bool false, .bool false] 94)); obtain ⟨z0, z1, z2, zf0, zf1, zf2⟩ := cells3 (HP3.out.blk 1 rfl); clear hp3)
  have HP4 := HP3.out.setRow (i := 1) (base := 0) [(0, .int .i64 0), (1, .string ⟨#[]⟩), (2, .bool false)] rfl
  simp only [List.foldl_cons, List.foldl_nil, Nat.zero_add, List.set_cons_zero, List.set_cons_succ] at HP4
  obtain ⟨r0, r1, r2, _⟩ := cells3 (HP4.blk 1 rfl)
  exact bodyPost_ret (v := .tuple #[vev zV, .bool false, .int .i64 7]) (by simp [results, Try.results15, go_sem, r0, r1, r2]) rfl ⟨rfl, HP4.drop.drop.drop⟩
set_option maxRecDepth 100000 in
set_option maxHeartbeats 2000000 in
theorem lst_bad_h {s g : Int} (h : Pw F w w' (HpL b c d e σ)) (hb : goodAt σ.L s g = none) (hst : 0 ≤ σ.sl ∧ σ.sl ≤ 4611686018427387904) :
    Calls Try.prog 26 #[.pointer (some ⟨b, 0, none⟩), .agg #[.int .i64 s, .int .i64 g]] w' fun e' w'' => e' = .returned (.tuple #[.slice none 0 0, .bool false, .int .i64 7]) ∧ Pw F w w'' (HpL b c d e ⟨σ.L, σ.sl + 1, σ.V, σ.sv, σ.rs⟩) := by
  have hq := h.alloc (.cells #[.int .i64 s, .int .i64 g] 36)
  have HG := Lib.hid (Pw.call (pre := [_]) hq (fun F1 h1 => get_bad_h h1 hb hst))
  obtain ⟨x0, x1, _, _⟩ := cells2 (hq.blk 0 rfl)
  clear h hb hst hq
  go_enter Try.func26, Try.ntmps26
  go_wp2_with (go_at_call 42; refine HG.out.mono ?_; rintro e3 w3 ⟨rfl, hp3⟩)
  go_ret3
  exact ⟨rfl, (Pw.drop hp3).kn (kn_alloc _ _)⟩
set_option maxRecDepth 100000 in
set_option maxHeartbeats 2000000 in
theorem lst_good_h {i : Nat} {s : Slot Cl} {xs : List (Hd × No)} (h : Pw F w w' (HpL b c d e σ)) (hs : σ.L[i]? = some s) (hg : s.given = true) (hc : Ch σ.V s.has.newest xs) (hl : xs.length ≤ 9000000) :
    Calls Try.prog 26 #[.pointer (some ⟨b, 0, none⟩), .agg #[.int .i64 i, .int .i64 s.gen]] w' fun e' w'' =>
    ∃ a cap, e' = .returned (.tuple #[.slice a (xs.map (·.2.has)).length cap, .bool s.has.closed, .int .i64 0]) ∧ One w' w'' [RowV a cap (xs.map (·.2.has))] := by
  have HLi := Lib.hid (fun (W : World) (k : KN w' W) => list_h (h.kn k) hc hl)
  have hk := kn_alloc w' (.cells #[.int .i64 i, .int .i64 s.gen] 36)
  have HG := Lib.hid (get_good_h (h.kn hk) hs hg)
  obtain ⟨x0, x1, _, _⟩ := cells2 (heap_alloc_same w' (.cells #[.int .i64 i, .int .i64 s.gen] 36))
  have HK := Lib.hid hk
  clear h hs hg hc hk hl
  generalize xs.map (·.2.has) = ys at *
  go_enter Try.func26, Try.ntmps26
  go_upto_region 4 with (go_at_call 42; refine HG.out.mono ?_; rintro e3 w3 ⟨rfl, k3⟩; have HK3 := Lib.hid (HK.out.trans k3 (fun _ h => h.elim)))
  have HK4 := Lib.hid (HK3.out.alloc (.cells #[.string s.has.key, .int .i64 s.has.newest.slot, .int .i64 s.has.newest.gen, .bool s.has.closed, .bool s.has.retired] 94))
  obtain ⟨y0, y1, y2, y3, y4, _⟩ := cells5 (heap_alloc_same w3 (.cells #[.string s.has.key, .int .i64 s.has.newest.slot, .int .i64 s.has.newest.gen, .bool s.has.closed, .bool s.has.retired] 94))
  clear HK3 HK HG x0 x1 k3
  generalize w3.alloc (.cells #[.string s.has.key, .int .i64 s.has.newest.slot, .int .i64 s.has.newest.gen, .bool s.has.closed, .bool s.has.retired] 94) = W at *
  generalize w3.heap.size = gx at *
  have s0 := up3 (And.intro y1 (And.intro y2 y3)) (kn_drew W)
  have HU := Lib.hid (And.intro y1 (And.intro y2 y3))
  clear y0 y1 y2 y3 y4
  go_region_held3 (fun W' => KN W W' ∧ W'.cell? ⟨gx, 1, none⟩ = some (.int .i64 s.has.newest.slot) ∧ W'.cell? ⟨gx, 2, none⟩ = some (.int .i64 s.has.newest.gen) ∧ W'.cell? ⟨gx, 3, none⟩ = some (.bool s.has.closed)) (first | with_reducible exact s0 | with_reducible exact s1)
    ((go_at_call 39; refine (HLi.out _ (HK4.out.trans s0.1 (fun _ h => h.elim))).mono ?_; rintro e5 w5 ⟨a5, c5, rfl, ho5⟩; have s1 := up3 HU.out (s0.1.trans ho5.old (fun _ h => h.elim)); have HO := Lib.hid ho5; clear ho5))
  go_wp2_with fail
  go_ret3
  exact ⟨_, _, rfl, One.pre (HK4.out.drew) HO.out⟩
end
end Go.Proofs.Ytinejaganickpaa
