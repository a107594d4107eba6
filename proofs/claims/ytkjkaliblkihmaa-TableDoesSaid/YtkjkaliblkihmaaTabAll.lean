/- The walks of the mapping table: its iterator. -/
import Derived.Test.YtkjkaliblkihmaaTabMore
import Derived.Test.YtkjkaliblkihmaaRange
namespace Go.Proofs.Ytkjkaliblkihmaa
set_option linter.unusedVariables false
set_option linter.unusedSimpArgs false
open Go Go.RowKit Go.Shelf
attribute [local go_sem] Oper.semAt_some

abbrev PH := Int × (Int × Int)
def encI (x : PH) : List Value := [.int .i64 x.1]
def encH (x : PH) : List Value := [.int .i64 x.2.1, .int .i64 x.2.2]
/-- What a closure of All has captured. -/
structure AllAt (G : Nat → Prop) (w : World) (b1 b2 : Nat) (xs : List PH) : Prop where
  ex : ∃ a1 c1 a2 c2, (w.cell? ⟨b1, 0, none⟩ = some (.slice a1 xs.length c1) ∧ w.cell? ⟨b2, 0, none⟩ = some (.slice a2 xs.length c2)) ∧ RdN G encI 1 w a1 xs ∧ RdN G encH 2 w a2 xs
  l1 : G b1
  l2 : G b2
theorem AllAt.kept {G : Nat → Prop} {w w' : World} {b1 b2 : Nat} {xs : List PH} (h : AllAt G w b1 b2 xs) (k : KpG G w w') : AllAt G w' b1 b2 xs := by
  obtain ⟨⟨a1, c1, a2, c2, ⟨h1, h2⟩, h3, h4⟩, l1, l2⟩ := h
  exact ⟨⟨a1, c1, a2, c2, ⟨k.cell (a := ⟨b1, 0, none⟩) l1 h1, k.cell (a := ⟨b2, 0, none⟩) l2 h2⟩, h3.kept k, h4.kept k⟩, l1, l2⟩
/-- .. as an assertion. -/
def AllA (b1 b2 : Nat) (xs : List PH) : Asr where
  on := fun w G => AllAt G w b1 b2 xs ∧ ∀ k, G k → k < w.heap.size
  keep := fun ⟨h, e⟩ k hS => ⟨h.kept (k.toG hS), fun i hi => Nat.lt_of_lt_of_le (e i hi) k.size⟩
  lt := fun ⟨_, e⟩ => e

set_option maxRecDepth 100000 in
set_option maxHeartbeats 2000000 in
theorem all1_in (F : Fence) (n : Nat) (hf : F.fn 48) (hro : F.round = none) (hn : 1 ≤ n) (l b1 b2 : Nat) (G : Nat → Prop) (xs : List PH) (hlen : xs.length ≤ 1048576) (J Jx : List PH → World → Prop)
    (hY : ∀ pre x W, J pre W → pre ++ [x] <+: xs → YieldAt F (n - 1) Try.prog l #[.int .i64 x.1, .agg #[.int .i64 x.2.1, .int .i64 x.2.2]] W fun e W' =>
      (e = .returned (.bool true) ∧ J (pre ++ [x]) W' ∧ KpG G W W') ∨ (e = .returned (.bool false) ∧ Jx (pre ++ [x]) W'))
    (W : World) (hA : AllAt G W b1 b2 xs) (h0 : J [] W) :
    CallsIn F n Try.prog 48 #[.func (.yield l) #[] #[], .pointer (some ⟨b1, 0, none⟩), .pointer (some ⟨b2, 0, none⟩)] W fun e W' => (∃ v, e = .returned v) ∧
      ((∃ ys, ys = xs ∧ J ys W') ∨ (∃ pre, pre <+: xs ∧ Jx pre W')) := by
  have HA := Lib.hid hA
  obtain ⟨⟨a1, c1, a2, c2, ⟨h1, h2⟩, h3, h4⟩, l1, l2⟩ := hA
  refine callsIn_of_wp Try.func48 rfl hf ?_ hro
  simp only [Try.ntmps48, List.size_toArray, List.length_cons, List.length_nil, Nat.reduceAdd, Nat.reduceSub, Array.replicate_succ, Array.replicate_zero, List.push_toArray, List.append_toArray, List.nil_append, List.cons_append]
  have H3 := Lib.hid h3
  have H4 := Lib.hid h4
  clear h3 h4
  gi_wp2
  gi_loopw [8] (fun i wr => ∃ k : Nat, k ≤ xs.length ∧ i = .int .i64 k ∧ J (xs.take k) wr ∧ KpG G W wr) (fun i _ => xs.length - (intOf i).toNat)
  case atStart => exact ⟨0, Nat.zero_le _, rfl, by simpa using h0, KpG.refl _ _⟩
  case round =>
    obtain ⟨k, hk, rfl, hJs, hnx⟩ := hrel
    by_cases hlt : k < xs.length
    · obtain ⟨x, hx⟩ : ∃ x, xs[k]? = some x := ⟨_, List.getElem?_eq_getElem hlt⟩
      obtain ⟨g1, o1, rfl, hg1, hc1⟩ := H3.out.kept hnx k x hx
      obtain ⟨g2, o2, rfl, hg2, hc2⟩ := H4.out.kept hnx k x hx
      have q0 := hc1 0 _ rfl
      have q1 := hc2 0 _ rfl
      have q2 := hc2 1 _ rfl
      simp only [Nat.mul_one, Nat.add_zero] at q0 q1
      have r2 := hnx.cell (a := ⟨b2, 0, none⟩) l2 h2
      have htk : xs.take (k + 1) = xs.take k ++ [x] := by rw [List.take_add_one, hx]; rfl
      obtain ⟨fn, tmps, assign, body, hy, hR⟩ := hY (xs.take k) x wr hJs (by rw [← htk]; exact List.take_prefix _ _)
      clear hc1 hc2
      gi_wp2
      refine hR.mono ?_
      rintro e W3 (⟨rfl, hJ3, hk3⟩ | ⟨rfl, hJx3⟩)
      · gi_wp2
        go_roundw
        case rel => exact ⟨k + 1, by omega, by go_num, by rw [htk]; exact hJ3, hnx.trans hk3⟩
        case measure => simp [intOf]; omega
      · gi_wp2
        refine bodyPost_ret (results_none rfl _ _ _) rfl ?_
        exact ⟨⟨_, rfl⟩, .inr ⟨_, by rw [← htk]; exact List.take_prefix _ _, hJx3⟩⟩
    · obtain rfl : k = xs.length := by omega
      gi_wp2
      go_end0
      exact ⟨⟨_, rfl⟩, .inl ⟨_, rfl, by rw [List.take_length] at hJs; exact hJs⟩⟩
/-- What All has given: all of xs in order, or a first part. -/
theorem all_stops (F : Fence) (n : Nat) (hf : F.fn 48) (hro : F.round = none) (hn : 1 ≤ n) (b1 b2 : Nat) (G : Nat → Prop) (xs : List PH) (hlen : xs.length ≤ 1048576) (w : World) (hA : (AllA b1 b2 xs).on w G) :
    SeqStopsK F n Try.prog 48 #[.pointer (some ⟨b1, 0, none⟩), .pointer (some ⟨b2, 0, none⟩)] (fun x : PH => #[.int .i64 x.1, .agg #[.int .i64 x.2.1, .int .i64 x.2.2]]) (KpG G) (fun ys => ys = xs) (fun pre => pre <+: xs) xs.length w :=
  fun l J Jx W hW _ _ hY h0 => all1_in F n hf hro hn l b1 b2 G xs hlen J Jx (fun pre x W h hp => hY pre x W h (by have := hp.length_le; simp at this; omega)) W (hA.1.kept (KpG.of_below hW)) h0
/-- The same, where the body is told that what it is given is of the list. -/
theorem all_stopsM (F : Fence) (n : Nat) (hf : F.fn 48) (hro : F.round = none) (hn : 1 ≤ n) (b1 b2 : Nat) (G : Nat → Prop) (xs : List PH) (hlen : xs.length ≤ 1048576) (w : World) (hA : (AllA b1 b2 xs).on w G) :
    SeqStopsK F n Try.prog 48 #[.pointer (some ⟨b1, 0, none⟩), .pointer (some ⟨b2, 0, none⟩)] (fun x : { x : PH // x ∈ xs } => #[.int .i64 x.1.1, .agg #[.int .i64 x.1.2.1, .int .i64 x.1.2.2]]) (KpG G) (fun ys => ys.map (·.1) = xs) (fun pre => pre.map (·.1) <+: xs) xs.length w :=
  fun l J Jx W hW _ _ hY h0 => (all1_in F n hf hro hn l b1 b2 G xs hlen (fun pre W => ∃ p : List { x : PH // x ∈ xs }, p.map (·.1) = pre ∧ J p W) (fun pre W => ∃ p : List { x : PH // x ∈ xs }, p.map (·.1) = pre ∧ Jx p W)
    (fun pre x W ⟨p, hp, hj⟩ hpre => by
      have hx : x ∈ xs := by obtain ⟨t, rfl⟩ := hpre; simp
      have hl : p.length < xs.length := by have := hpre.length_le; rw [← hp] at this; simp at this; omega
      obtain ⟨fn, tmps, assign, body, hy, hR⟩ := hY p ⟨x, hx⟩ W hj hl
      refine ⟨fn, tmps, assign, body, hy, hR.mono fun e W' h => ?_⟩
      rcases h with ⟨h1, h2, h3⟩ | ⟨h1, h2⟩
      · exact .inl ⟨h1, ⟨p ++ [⟨x, hx⟩], by simp [hp], h2⟩, h3⟩
      · exact .inr ⟨h1, ⟨p ++ [⟨x, hx⟩], by simp [hp], h2⟩⟩)
    W (hA.1.kept (KpG.of_below hW)) ⟨[], rfl, h0⟩).mono fun e W' ⟨hv, h⟩ => ⟨hv, h.imp (fun ⟨ys, e, p, hp, hj⟩ => ⟨p, hp.trans e, hj⟩) (fun ⟨pre, hpre, p, hp, hj⟩ => ⟨p, (show p.map (·.1) <+: xs from hp ▸ hpre), hj⟩)⟩
end Go.Proofs.Ytkjkaliblkihmaa
