/- Epochs: the iterator of what waits. -/
import Derived.Test.YtinejaganickpaaBaseF
import Derived.Test.YtinejaganickpaaBaseA
import Derived.Stop.RegionWithIn
namespace Go.Proofs.Ytinejaganickpaa
set_option linter.unusedVariables false
set_option linter.unusedSimpArgs false
open Go Go.RowKit Go.Shelf
attribute [local go_sem] Oper.semAt_some

abbrev PW := Int × Re
def encT (x : PW) : List Value := [.int .i64 x.1]
def encR (x : PW) : List Value := Re.enc x.2
/-- What a closure of Limbo has captured: what waits, and since when. -/
structure LimAt (G : Nat → Prop) (w : World) (b1 b2 : Nat) (xs : List PW) : Prop where
  ex : ∃ a1 c1 a2 c2, (w.cell? ⟨b1, 0, none⟩ = some (.slice a1 xs.length c1) ∧ w.cell? ⟨b2, 0, none⟩ = some (.slice a2 xs.length c2)) ∧ RdN G encR 3 w a1 xs ∧ RdN G encT 1 w a2 xs
  l1 : G b1
  l2 : G b2
theorem LimAt.kept {G : Nat → Prop} {w w' : World} {b1 b2 : Nat} {xs : List PW} (h : LimAt G w b1 b2 xs) (k : KpG G w w') : LimAt G w' b1 b2 xs := by
  obtain ⟨⟨a1, c1, a2, c2, ⟨h1, h2⟩, h3, h4⟩, l1, l2⟩ := h
  exact ⟨⟨a1, c1, a2, c2, ⟨k.cell (a := ⟨b1, 0, none⟩) l1 h1, k.cell (a := ⟨b2, 0, none⟩) l2 h2⟩, h3.kept k, h4.kept k⟩, l1, l2⟩
/-- .. as an assertion. -/
def LimA (b1 b2 : Nat) (xs : List PW) : Asr where
  on := fun w G => LimAt G w b1 b2 xs ∧ ∀ k, G k → k < w.heap.size
  keep := fun ⟨h, e⟩ k hS => ⟨h.kept (k.toG hS), fun i hi => Nat.lt_of_lt_of_le (e i hi) k.size⟩
  lt := fun ⟨_, e⟩ => e
theorem kpg_alloc {G : Nat → Prop} (w : World) (o : Obj) : KpG G w (w.alloc o) := (kn_alloc w o).toG (fun _ _ h => h)
theorem kpg_drew {G : Nat → Prop} (w : World) : KpG G w w.drew := ((Kp.refl (fun _ => False) w).drew).toG (fun _ _ h => h)
theorem abides_alloc {β : Type} {B : Nat} {J : β → World → Prop} (h : AbidesFrom B J) (s : β) (W : World) (o : Obj) (hs : J s W) : J s (W.alloc o) :=
  h s W (W.alloc o) none hs ⟨rfl, rfl, rfl, by simp, fun k hk _ => heap_alloc_old _ hk⟩ (fun r e => by cases e)

set_option maxRecDepth 100000 in
set_option maxHeartbeats 8000000 in
theorem limbo1_in (F : Fence) (n : Nat) (hf : F.fn 75) (hro : F.round = none) (hn : 1 ≤ n) (l b1 b2 : Nat) (G : Nat → Prop) (xs : List PW) (hlen : xs.length ≤ 9000000) (J Jx : List PW → World → Prop)
    (hY : ∀ pre x W, J pre W → pre.length < xs.length → YieldAt F (n - 1) Try.prog l #[.int .i64 x.1, ren x.2] W fun e W' =>
      (e = .returned (.bool true) ∧ J (pre ++ [x]) W' ∧ KpG G W W') ∨ (e = .returned (.bool false) ∧ Jx (pre ++ [x]) W'))
    (hJa : ∀ pre W W', J pre W → KN W W' → J pre W')
    (W : World) (hG : ∀ k, G k → k < W.heap.size) (hA : LimAt G W b1 b2 xs) (h0 : J [] W) :
    CallsIn F n Try.prog 75 #[.func (.yield l) #[] #[], .pointer (some ⟨b1, 0, none⟩), .pointer (some ⟨b2, 0, none⟩)] W fun e W' => (∃ v, e = .returned v) ∧
      ((∃ ys, ys = xs ∧ J ys W') ∨ (∃ pre, pre <+: xs ∧ Jx pre W')) := by
  have HA := Lib.hid hA
  obtain ⟨⟨a1, c1, a2, c2, ⟨h1, h2⟩, h3, h4⟩, l1, l2⟩ := hA
  refine callsIn_of_wp Try.func75 rfl hf ?_ hro
  simp only [Try.ntmps75, List.size_toArray, List.length_cons, List.length_nil, Nat.reduceAdd, Nat.reduceSub, Array.replicate_succ, Array.replicate_zero, List.push_toArray, List.append_toArray, List.nil_append, List.cons_append]
  have H3 := Lib.hid h3
  have H4 := Lib.hid h4
  clear h3 h4
  gi_wp2
  gi_loopw [8] (fun i wr => ∃ k : Nat, k ≤ xs.length ∧ i = .int .i64 k ∧ J (xs.take k) wr ∧ KpG G W wr) (fun i _ => xs.length - (intOf i).toNat)
  case atStart => exact ⟨0, Nat.zero_le _, rfl, by simpa using h0, KpG.refl _ _⟩
  case round =>
    obtain ⟨k, hk, rfl, hJs, hnx⟩ := hrel
    by_cases hlt : k < xs.length
    · obtain ⟨x, hx⟩ : ∃ x, xs[k]? = some x := ⟨_, List.getElem?_eq_getElem hlt⟩
      obtain ⟨g1, o1, rfl, hg1, hc1⟩ := H3.out.kept hnx k x hx
      obtain ⟨g2, o2, rfl, hg2, hc2⟩ := H4.out.kept hnx k x hx
      have q0 := hc1 0 _ rfl
      have q1 := hc1 1 _ rfl
      have q2 := hc1 2 _ rfl
      have r0 := hc2 0 _ rfl
      simp only [Nat.mul_one, Nat.add_zero] at q0 r0
      have p2 := hnx.cell (a := ⟨b2, 0, none⟩) l2 h2
      have htk : xs.take (k + 1) = xs.take k ++ [x] := by rw [List.take_add_one, hx]; rfl
      obtain ⟨xt, ⟨xk, ⟨xl, xg⟩⟩⟩ := x
      obtain ⟨fn, tmps, assign, body, hy, hR⟩ := hY (xs.take k) (xt, ⟨xk, ⟨xl, xg⟩⟩) (wr.alloc (.cells #[.int .i64 xk, .int .i64 xl, .int .i64 xg] 59)).drew (hJa _ _ _ hJs (kn_alloc _ _).drew) (by rw [List.length_take]; omega)
      clear hc1 hc2
      gi_wp2
      have B1 := Lib.hid (show (wr.alloc (.cells #[.int .i64 xk, .int .i64 xl, .int .i64 xg] 59)).heap[wr.heap.size]? = some (.cells #[.int .i64 xk, .int .i64 xl, .int .i64 xg] 59) from heap_alloc_same _ _)
      have K1 := Lib.hid (kn_alloc wr (.cells #[.int .i64 xk, .int .i64 xl, .int .i64 xg] 59))
      generalize wr.heap.size = bx at *
      generalize wr.alloc (.cells #[.int .i64 xk, .int .i64 xl, .int .i64 xg] 59) = w1 at *
      have p2' := cell_kn p2 K1.out
      have r0' := cell_kn r0 K1.out
      obtain ⟨z0, z1, z2, _⟩ := cells3 B1.out
      have hR2 := hR.mono (R' := fun e W' => ∃ v : Bool, e = .returned (.bool v) ∧ ((v = true ∧ J (xs.take k ++ [(xt, ⟨xk, ⟨xl, xg⟩⟩)]) W' ∧ KpG G w1.drew W') ∨ (v = false ∧ Jx (xs.take k ++ [(xt, ⟨xk, ⟨xl, xg⟩⟩)]) W'))) (fun e W' h => by
        rcases h with ⟨h1, h2, h3⟩ | ⟨h1, h2⟩
        · exact ⟨true, h1, .inl ⟨rfl, h2, h3⟩⟩
        · exact ⟨false, h1, .inr ⟨rfl, h2⟩⟩)
      have HT := Lib.hid htk
      have HK := Lib.hid (hnx.trans ((K1.out.drew).toG (fun _ _ h => h)))
      clear hR htk hx q0 q1 q2 r0 p2 H3 H4 hY hJa hJs h0 HA K1 B1 hnx hG hg1 hg2 h1 h2
      gi_region_with ((refine hR2.mono ?_; rintro e W3 ⟨v, rfl, HV⟩))
      all_goals
        rcases HV with ⟨rfl, hJ3, hk3⟩ | ⟨rfl, hJx3⟩
        · gi_wp2
          go_roundw
          case rel => exact ⟨k + 1, by omega, by go_num, by rw [HT.out]; exact hJ3, HK.out.trans hk3⟩
          case measure => simp [intOf]; omega
        · gi_wp2
          refine bodyPost_ret (results_none rfl _ _ _) rfl ?_
          exact ⟨⟨_, rfl⟩, .inr ⟨_, by rw [← HT.out]; exact List.take_prefix _ _, hJx3⟩⟩
    · obtain rfl : k = xs.length := by omega
      gi_wp2
      go_end0
      exact ⟨⟨_, rfl⟩, .inl ⟨_, rfl, by rw [List.take_length] at hJs; exact hJs⟩⟩
/-- What Limbo has given: all of xs in order, or a first part. -/
theorem abides_kn {β : Type} {B : Nat} {J : β → World → Prop} (h : AbidesFrom B J) (s : β) (W W' : World) (k : KN W W') (hs : J s W) : J s W' :=
  h s W W' none hs ⟨k.os, k.tape, k.output, k.size, fun i hi _ => k.block i hi id⟩ (fun r e => by cases e)
theorem limbo_stops (F : Fence) (n : Nat) (hf : F.fn 75) (hro : F.round = none) (hn : 1 ≤ n) (b1 b2 : Nat) (G : Nat → Prop) (xs : List PW) (hlen : xs.length ≤ 9000000) (w : World) (hA : (LimA b1 b2 xs).on w G) :
    SeqStopsK F n Try.prog 75 #[.pointer (some ⟨b1, 0, none⟩), .pointer (some ⟨b2, 0, none⟩)] (fun x : PW => #[.int .i64 x.1, ren x.2]) (KpG G) (fun ys => ys = xs) (fun pre => pre <+: xs) xs.length w :=
  fun l J Jx W hW hJ _ hY h0 => limbo1_in F n hf hro hn l b1 b2 G xs hlen J Jx hY (fun pre W W' h k => abides_kn hJ pre W W' k h) W (fun k hk => Nat.lt_of_lt_of_le (hA.2 k hk) hW.size) (hA.1.kept (KpG.of_below hW)) h0
end Go.Proofs.Ytinejaganickpaa
