/- slices.Values of entries, as an iterator. -/
import Derived.Test.YtopmeecgjobofaaRange
import Derived.Test.YtopmeecgjobofaaWith
import Derived.Test.YtopmeecgjobofaaQuietR
namespace Go.Proofs.Ytopmeecgjobofaa
set_option linter.unusedVariables false
set_option linter.unusedSimpArgs false
open Go Go.RowKit Go.Shelf
attribute [local go_sem] Oper.semAt_some

theorem Rd.below {α : Type} {enc : α → List Value} {sz : Nat} {w w' : World} {a : Option Addr} {l : List α} (h : Rd enc sz w a l) (k : Below w.heap.size w w') : Rd enc sz w' a l := by
  rcases h with h | ⟨b, off, ha, hb, hc⟩
  · exact .inl h
  · refine .inr ⟨b, off, ha, Nat.lt_of_lt_of_le hb k.size, fun i x hx j hj => ?_⟩
    rw [← hc i x hx j hj]
    exact k.cell (p := ⟨b, _, none⟩) hb
set_option maxRecDepth 100000 in
set_option maxHeartbeats 2000000 in
theorem values1_in (F : Fence) (n : Nat) (hf : F.fn 54) (hro : F.round = none) (hn : 1 ≤ n) (l b1 : Nat) (w0 : World) (xs : List En) (hlen : xs.length ≤ 1048576) (J Jx : List En → World → Prop)
    (hY : ∀ pre x W, J pre W → pre.length < xs.length → YieldAt F (n - 1) Try.prog l #[env x] W fun e W' =>
      (e = .returned (.bool true) ∧ J (pre ++ [x]) W' ∧ Below w0.heap.size W W') ∨ (e = .returned (.bool false) ∧ Jx (pre ++ [x]) W'))
    (hJa : ∀ pre W o, J pre W → J pre (W.alloc o))
    (W : World) (a : Option Addr) (c : Nat) (hc0 : w0.cell? ⟨b1, 0, none⟩ = some (.slice a xs.length c)) (hr : Rd En.enc 4 w0 a xs) (hW : Below w0.heap.size w0 W) (h0 : J [] W) :
    CallsIn F n Try.prog 54 #[.func (.yield l) #[] #[], .pointer (some ⟨b1, 0, none⟩)] W fun e W' => (∃ v, e = .returned v) ∧
      ((∃ ys, ys = xs ∧ J ys W') ∨ (∃ pre, pre <+: xs ∧ Jx pre W')) := by
  have HR := Lib.hid hr
  clear hr
  have hb1 : b1 < w0.heap.size := World.block_lt_of_cell? w0 _ hc0
  have hc : W.cell? ⟨b1, 0, none⟩ = some (.slice a xs.length c) := (hW.cell (p := ⟨b1, 0, none⟩) hb1).trans hc0
  clear hc0
  refine callsIn_of_wp Try.func54 rfl hf ?_ hro
  simp only [Try.ntmps54, List.size_toArray, List.length_cons, List.length_nil, Nat.reduceAdd, Nat.reduceSub, Array.replicate_succ, Array.replicate_zero, List.push_toArray, List.append_toArray, List.nil_append, List.cons_append]
  gi_wp2
  gi_loopw [4, 7] (fun _ i wr => ∃ k : Nat, k ≤ xs.length ∧ i = .int .i64 k ∧ J (xs.take k) wr ∧ Hid (Below w0.heap.size w0 wr)) (fun _ i _ => xs.length - (intOf i).toNat)
  case atStart => exact ⟨0, Nat.zero_le _, rfl, by simpa using h0, Lib.hid hW⟩
  case round =>
    obtain ⟨k, hk, rfl, hJs, HB⟩ := hrel
    by_cases hlt : k < xs.length
    · obtain ⟨x, hx⟩ : ∃ x, xs[k]? = some x := ⟨_, List.getElem?_eq_getElem hlt⟩
      obtain ⟨b, off, rfl, hbw, c0, c1, c2, c3⟩ := rd4 (HR.out.below HB.out) hx
      obtain ⟨fn, tmps, assign, body, hy, hR⟩ := hY (xs.take k) x (wr.alloc (.cells #[.string x.key, .int .i64 x.ref.slot, .int .i64 x.ref.gen, .int .i64 x.child] 34)) (hJa _ _ _ hJs) (by rw [List.length_take]; omega)
      have hsz := HB.out.size
      have htk : xs.take (k + 1) = xs.take k ++ [x] := by rw [List.take_add_one, hx]; rfl
      have HT := Lib.hid htk
      clear hx htk
      gi_wp2
      refine hR.mono ?_
      rintro e W3 (⟨rfl, hJ3, hk3⟩ | ⟨rfl, hJx3⟩)
      · gi_wp2
        go_roundw
        case rel => exact ⟨k + 1, by omega, by go_num, by rw [HT.out]; exact hJ3, Lib.hid ((HB.out.alloc hsz _).trans hk3)⟩
        case measure => simp [intOf]; omega
      · gi_wp2
        refine bodyPost_ret (results_none rfl _ _ _) rfl ?_
        exact ⟨⟨_, rfl⟩, .inr ⟨_, by rw [← HT.out]; exact List.take_prefix _ _, hJx3⟩⟩
    · obtain rfl : k = xs.length := by omega
      gi_wp2
      go_end0
      exact ⟨⟨_, rfl⟩, .inl ⟨_, rfl, by rw [List.take_length] at hJs; exact hJs⟩⟩
theorem abides_alloc {β : Type} {B : Nat} {J : β → World → Prop} (h : AbidesFrom B J) (s : β) (W : World) (o : Obj) (hs : J s W) : J s (W.alloc o) :=
  h s W (W.alloc o) none hs ⟨rfl, rfl, rfl, by simp, fun k hk _ => heap_alloc_old _ hk⟩ (fun r e => by cases e)
theorem values_stops (F : Fence) (n : Nat) (hf : F.fn 54) (hro : F.round = none) (hn : 1 ≤ n) (b1 : Nat) (xs : List En) (hlen : xs.length ≤ 1048576) (w : World) (a : Option Addr) (c : Nat) (hc : w.cell? ⟨b1, 0, none⟩ = some (.slice a xs.length c)) (hr : Rd En.enc 4 w a xs) :
    SeqStopsK F n Try.prog 54 #[.pointer (some ⟨b1, 0, none⟩)] (fun x : En => #[env x]) (Below w.heap.size) (fun ys => ys = xs) (fun pre => pre <+: xs) xs.length w :=
  fun l J Jx W hW hJ _ hY h0 => values1_in F n hf hro hn l b1 w xs hlen J Jx hY (fun pre W o h => abides_alloc hJ pre W o h) W a c hc hr hW h0
theorem OneF.setC {B : Nat} {w0 w : World} {l : List Asr} (h : OneF B w0 w l) (i : Nat) {g j : Nat} {cs : Array Value} {T : TypeId} {fr : Nat × Nat} (hi : l[i]? = some (Blk g (.cells cs T fr))) (v : Value) : OneF B w0 (w.setCell ⟨g, j, none⟩ v) (l.set i (Blk g (.cells (cs.setIfInBounds j v) T fr))) := by
  obtain ⟨F, a, b, c, d⟩ := h
  obtain ⟨F1, h1, h2, h3⟩ := a.get hi
  obtain ⟨e1, rfl⟩ := h1
  have hp : Post (Blk g (.cells (cs.setIfInBounds j v) T fr)) (· = g) w (w.setCell ⟨g, j, none⟩ v) := by
    rw [setCell_setB v e1]
    exact post_setB _ ⟨e1, rfl⟩
  obtain ⟨F', a', k, s⟩ := h3 _ _ hp
  have hg := h2 g rfl
  refine ⟨F', a', fun x hx => (s x hx).elim (b x) (Nat.le_trans c.size), c.then k b, fun x hx => ?_⟩
  by_cases hxg : x = g
  · subst hxg
    refine .inr ⟨.cells (cs.setIfInBounds j v) T fr, ?_, rfl⟩
    rw [setCell_setB v e1]; exact setB_same _ (lt_blk e1)
  · rcases s x hx with hx' | hx'
    · rcases d x hx' with hd | ⟨o, ho, hc⟩
      · exact .inl hd
      · refine .inr ⟨o, ?_, hc⟩
        rw [setCell_setB v e1, setB_other _ _ (Ne.symm hxg)]; exact ho
    · have := a'.lt x hx
      simp [World.setCell] at this
      omega
end Go.Proofs.Ytopmeecgjobofaa
