/- slices.DeleteFunc on entries of an owned row. -/
import Derived.Test.YtkdlodjpambelaaPutP
import Derived.Test.YtkdlodjpambelaaFindP
import Derived.Laws.OwnMore
import Derived.Laws.CopyRow
namespace Go.Proofs.Ytkdlodjpambelaa
set_option linter.unusedVariables false
set_option linter.unusedSimpArgs false
open Go Go.RowKit

theorem flat_set : ∀ (l : List En) (i : Nat) (x : En), (l.set i x).flatMap En.enc = ((((l.flatMap En.enc).set (i * 4) (.string x.key)).set (i * 4 + 1) (.int .i64 x.ref.slot)).set (i * 4 + 2) (.int .i64 x.ref.gen)).set (i * 4 + 3) (.int .i64 x.child)
  | [], i, x => by simp
  | y :: l, 0, x => by simp [En.enc, Hd.enc]
  | y :: l, i + 1, x => by
    have h1 : (i + 1) * 4 = i * 4 + 4 := by omega
    rw [List.set_cons_succ, List.flatMap_cons, flat_set l i x, List.flatMap_cons, h1]
    have e : ∀ (k : Nat) (v : Value) (m : List Value), (En.enc y ++ m).set (k + 4) v = En.enc y ++ m.set k v := fun k v m => by
      rw [List.set_append_right _ _ (by rw [enc4]; omega), enc4]
      simp
    rw [e, show i * 4 + 4 + 1 = (i * 4 + 1) + 4 by omega, e, show i * 4 + 4 + 2 = (i * 4 + 2) + 4 by omega, e, show i * 4 + 4 + 3 = (i * 4 + 3) + 4 by omega, e]
/-- An element is stored. -/
theorem row_put {g off n c : Nat} {l : List En} {w : World} {F : Nat → Prop} (ho : off = 0) (h : (RowA 28 4 (.slice (some ⟨g, off, none⟩) n c) n (l.flatMap En.enc)).on w F) (i : Nat) (x : En) :
    (RowA 28 4 (.slice (some ⟨g, off, none⟩) n c) n ((l.set i x).flatMap En.enc)).on ((((w.setCell ⟨g, off + i * 4, none⟩ (.string x.key)).setCell ⟨g, off + i * 4 + 1, none⟩ (.int .i64 x.ref.slot)).setCell ⟨g, off + i * 4 + 2, none⟩ (.int .i64 x.ref.gen)).setCell ⟨g, off + i * 4 + 3, none⟩ (.int .i64 x.child)) F ∧
    Kp F w ((((w.setCell ⟨g, off + i * 4, none⟩ (.string x.key)).setCell ⟨g, off + i * 4 + 1, none⟩ (.int .i64 x.ref.slot)).setCell ⟨g, off + i * 4 + 2, none⟩ (.int .i64 x.ref.gen)).setCell ⟨g, off + i * 4 + 3, none⟩ (.int .i64 x.child)) := by
  subst ho
  obtain ⟨h1, rfl⟩ := h
  rw [flat_set, Nat.zero_add]
  have a1 := (h1.stored (i * 4) (.string x.key)).1
  have a2 := (a1.stored (i * 4 + 1) (.int .i64 x.ref.slot)).1
  have a3 := (a2.stored (i * 4 + 2) (.int .i64 x.ref.gen)).1
  have a4 := (a3.stored (i * 4 + 3) (.int .i64 x.child)).1
  have st : ∀ {W : World} (j : Nat) (v : Value), Kp (fun b => (Value.slice (some ⟨g, 0, none⟩) n c).ownBlock = some b) w W → Kp (fun b => (Value.slice (some ⟨g, 0, none⟩) n c).ownBlock = some b) w (W.setCell ⟨g, j, none⟩ v) := fun j v k => Kp.setCell (p := ⟨g, j, none⟩) k (.inl rfl) v
  exact ⟨⟨a4, rfl⟩, st _ _ (st _ _ (st _ _ (st _ _ (Kp.refl _ w))))⟩
theorem row_len {g off n c : Nat} {l : List En} {w : World} {F : Nat → Prop} (h : (RowA 28 4 (.slice (some ⟨g, off, none⟩) n c) n (l.flatMap En.enc)).on w F) : l.length = n := by
  have := h.1.1
  rw [flat_len enc4] at this
  omega
theorem zero_En : ∀ w, (zeroValue 28).run Try.prog w = .ok (.agg #[.string ⟨#[]⟩, .int .i64 0, .int .i64 0, .int .i64 0]) w := fun w => by kernel_rfl
theorem zc_len (m : Nat) : (Builtin.zeroCells (Value.agg #[.string ⟨#[]⟩, .int .i64 0, .int .i64 0, .int .i64 0]).cells m).toList.length = m * 4 := by
  simp [Builtin.zeroCells, Value.cells]
theorem zc_one (m : Nat) : ∀ v ∈ (Builtin.zeroCells (Value.agg #[.string ⟨#[]⟩, .int .i64 0, .int .i64 0, .int .i64 0]).cells m).toList, v.oneCell' = true := by
  intro v hv
  simp only [Builtin.zeroCells, Array.toList_map, List.mem_map] at hv
  obtain ⟨i, _, rfl⟩ := hv
  have h : i % 4 = 0 ∨ i % 4 = 1 ∨ i % 4 = 2 ∨ i % 4 = 3 := by omega
  show ((#[.string ⟨#[]⟩, .int .i64 0, .int .i64 0, .int .i64 0] : Array Value)[i % 4]!).oneCell' = true
  rcases h with h | h | h | h <;> rw [h] <;> rfl
theorem flat_take (l : List En) (k : Nat) (hk : k ≤ l.length) : (l.take k).flatMap En.enc = (l.flatMap En.enc).take (k * 4) := by
  have h := congrArg (List.flatMap En.enc) (List.take_append_drop k l)
  rw [List.flatMap_append] at h
  rw [← h]
  exact (List.take_left' (by rw [flat_len enc4, List.length_take]; omega)).symm
/-- What is behind a place of an owned row is cleared. -/
theorem run_clear_row {g off n c m k cap' : Nat} {l : List En} {w : World} {F : Nat → Prop} (ho : off = 0) (h : (RowA 28 4 (.slice (some ⟨g, off, none⟩) n c) n (l.flatMap En.enc)).on w F) (hm : 0 < m) (hk : k + m = n) :
    ∃ w', (∀ ty, (Builtin.clear_ #[22] ty #[.slice (some ⟨g, off + k * 4, none⟩) m cap']).run Try.prog w = .ok (.tuple #[]) w') ∧ (RowA 28 4 (.slice (some ⟨g, off, none⟩) k c) k ((l.take k).flatMap En.enc)).on w' F ∧ Kp F w w' := by
  subst ho
  have hl := row_len h
  obtain ⟨h1, rfl⟩ := h
  rcases h1.2 with ⟨e, _⟩ | ⟨g', cap, cur, e, _, hb, hnc, hcm, hsz, htk⟩
  · cases e
  cases e
  have hz := zc_len m
  have ho := zc_one m
  have hst := run_storeCells_at (P := Try.prog) g (k * 4) 28 (Builtin.zeroCells (Value.agg #[.string ⟨#[]⟩, .int .i64 0, .int .i64 0, .int .i64 0]).cells m).toList 0 cur w hb (by rw [hz]; omega) ho
  obtain ⟨cs, hcs⟩ : ∃ cs, cs = (cur.toList.take (k * 4 + 0) ++ (Builtin.zeroCells (Value.agg #[.string ⟨#[]⟩, .int .i64 0, .int .i64 0, .int .i64 0]).cells m).toList ++ cur.toList.drop (k * 4 + 0 + (Builtin.zeroCells (Value.agg #[.string ⟨#[]⟩, .int .i64 0, .int .i64 0, .int .i64 0]).cells m).toList.length)).toArray := ⟨_, rfl⟩
  rw [← hcs] at hst
  rw [Nat.zero_add]
  refine ⟨w.setRow g cs, ?_, ⟨⟨?_, .inr ⟨g, c, cs, rfl, Nat.zero_le _, setRow_heap w g cur _ 28 _ hb, by omega, hcm, ?_, ?_⟩⟩, rfl⟩, ⟨rfl, rfl, rfl, by simp [World.setRow], fun i hi hn => setRow_other w g i _ (fun e => hn (by simp [Value.ownBlock, e]))⟩⟩
  · intro ty
    obtain ⟨m', rfl⟩ : ∃ m', m = m' + 1 := ⟨m - 1, by omega⟩
    simp only [Builtin.clear_]
    simp [run_underlying Try.underlying22, zero_En]
    rw [hst]
    rfl
  · rw [flat_len enc4, List.length_take]; omega
  · rw [hcs]
    simp only [List.size_toArray, List.length_append, List.length_take, List.length_drop, Array.length_toList, hz]
    omega
  · rw [hcs]
    simp only [Nat.add_zero]
    rw [List.append_assoc, List.take_append_of_le_length (by rw [List.length_take, Array.length_toList]; omega), List.take_take, Nat.min_self]
    have e1 := flat_take l k (by omega)
    rw [e1, ← htk, List.take_take, Nat.min_eq_left (by omega)]
theorem cut_own (g off n c i : Nat) (hi : i < n) (hc : n ≤ c) (hc2 : c ≤ maxLen) : ∀ W, (Instr.slice 22 (.slice (some ⟨g, off, none⟩) n c) (some (.int .i64 (i : Int))) none none).run Try.prog W = .ok (.slice (some ⟨g, off + i * 4, none⟩) (n - i) (c - i)) W := fun W => by
  rw [run_slice_l (P := Try.prog) W 22 (some ⟨g, off, none⟩) n c (by kernel_rfl) .i64 i (by omega) (by omega)]
  have : ∀ w, (sizeOf (Try.prog.elem 22)).run Try.prog w = .ok 4 w := fun w => by kernel_rfl
  rw [this]
  have h : ¬ c = i := by omega
  by_cases h0 : i = 0
  · subst h0; simp [sliced, Result.andThen, Addr.add]
  · simp [sliced, Result.andThen, Addr.add, h, show ¬ i * 4 = 0 by omega]
theorem cut_own0 (g off n c i : Nat) (hi : i ≤ n) (hc : n ≤ c) (hc2 : c ≤ maxLen) : ∀ W, (Instr.slice 22 (.slice (some ⟨g, off, none⟩) n c) none (some (.int .i64 (i : Int))) none).run Try.prog W = .ok (.slice (some ⟨g, off, none⟩) i c) W := fun W => by
  rw [run_slice_h (P := Try.prog) W 22 (some ⟨g, off, none⟩) n c (by kernel_rfl) .i64 i (by omega) (by omega)]
  have : ∀ w, (sizeOf (Try.prog.elem 22)).run Try.prog w = .ok 4 w := fun w => by kernel_rfl
  rw [this]
  simp [sliced, Result.andThen, Addr.add]
/-- What is kept of the first k. -/
def keptE (p : En → Bool) (l : List En) (k : Nat) : List En := (l.take k).filter (fun x => !p x)
theorem kept_no {p : En → Bool} {l : List En} {k : Nat} {x : En} (hx : l[k]? = some x) (h : p x = true) : keptE p l (k + 1) = keptE p l k := by
  unfold keptE
  rw [List.take_add_one, hx]
  simp [h]
theorem kept_yes {p : En → Bool} {l : List En} {k : Nat} {x : En} (hx : l[k]? = some x) (h : p x = false) : keptE p l (k + 1) = keptE p l k ++ [x] := by
  unfold keptE
  rw [List.take_add_one, hx]
  simp [h]
theorem kept_len (p : En → Bool) (l : List En) (k : Nat) : (keptE p l k).length ≤ k := by
  unfold keptE
  exact Nat.le_trans (List.length_filter_le _ _) (by rw [List.length_take]; omega)
theorem kept_all (p : En → Bool) (l : List En) : keptE p l l.length = l.filter (fun x => !p x) := by unfold keptE; rw [List.take_length]
theorem kept_first {p : En → Bool} {l : List En} {k : Nat} (hm : ∀ (j : Nat) y, j < k → l[j]? = some y → p y = false) : keptE p l k = l.take k := by
  unfold keptE
  rw [List.filter_eq_self]
  intro x hx
  obtain ⟨j, hj⟩ := List.getElem?_of_mem hx
  rw [List.getElem?_take] at hj
  split at hj
  · rw [hm j x (by assumption) hj]; rfl
  · cases hj
theorem ix_cases (p : En → Bool) (l : List En) : (ixOf p l = -1 ∧ ∀ (j : Nat) y, l[j]? = some y → p y = false) ∨ ∃ (k : Nat) (x : En), ixOf p l = (k : Int) ∧ l[k]? = some x ∧ p x = true ∧ ∀ (j : Nat) y, j < k → l[j]? = some y → p y = false := by
  unfold ixOf
  cases h : l.findIdx? p with
  | none => exact .inl ⟨rfl, fun j y hy => List.findIdx?_eq_none_iff.1 h y (List.mem_of_getElem? hy)⟩
  | some k =>
    obtain ⟨hk, h1, h2⟩ := List.findIdx?_eq_some_iff_getElem.1 h
    refine .inr ⟨k, l[k], rfl, List.getElem?_eq_getElem hk, h1, fun j y hj hy => ?_⟩
    have := h2 j hj
    rw [(List.getElem?_eq_some_iff.1 hy).2] at this
    simpa using this
theorem Asr.kn' {A : Asr} {F : Nat → Prop} {w w' : World} (h : A.on w F) (k : KN w w') : A.on w' F := A.kn h k
/-- The state of the loop: j have been looked at, m are kept. -/
structure DelI (p : En → Bool) (l : List En) (F : Nat → Prop) (w wr : World) (b off c j m : Nat) (ys : List En) : Prop where
  off0 : off = 0
  len : ys.length = l.length
  on : (RowA 28 4 (.slice (some ⟨b, off, none⟩) l.length c) l.length (ys.flatMap En.enc)).on wr F
  kp : Kp F w wr
  lt : m < j
  kept : keptE p l j = ys.take m
  rest : ∀ t, j ≤ t → ys[t]? = l[t]?
section
variable {p : En → Bool} {l : List En} {F : Nat → Prop} {w wr w' : World} {b off c j m : Nat} {ys : List En}
theorem DelI.kn (h : DelI p l F w wr b off c j m ys) (k : KN wr w') : DelI p l F w w' b off c j m ys := ⟨h.off0, h.len, Asr.kn' h.on k, h.kp.trans k (fun _ h => h.elim), h.lt, h.kept, h.rest⟩
theorem DelI.blk (h : DelI p l F w wr b off c j m ys) : ∃ cur, wr.heap[b]? = some (.cells cur 28) := by
  rcases h.on.1.2 with ⟨e, _⟩ | ⟨b', cap, cur, e, _, h1, _⟩
  · cases e
  · cases e; exact ⟨cur, h1⟩
theorem DelI.b_lt (h : DelI p l F w wr b off c j m ys) : b < wr.heap.size := let ⟨_, h1⟩ := h.blk; lt_blk h1
theorem DelI.free (h : DelI p l F w wr b off c j m ys) (t : Nat) : wr.frozen? ⟨b, t, none⟩ = false := let ⟨_, h1⟩ := h.blk; free_blk h1
theorem DelI.at (h : DelI p l F w wr b off c j m ys) {i : Nat} {x : En} (hx : ys[i]? = some x) : wr.cell? ⟨b, off + i * 4, none⟩ = some (.string x.key) ∧ wr.cell? ⟨b, off + i * 4 + 1, none⟩ = some (.int .i64 x.ref.slot) ∧ wr.cell? ⟨b, off + i * 4 + 2, none⟩ = some (.int .i64 x.ref.gen) ∧ wr.cell? ⟨b, off + i * 4 + 3, none⟩ = some (.int .i64 x.child) := by
  obtain ⟨a, cap, e, _, hr⟩ := Rl.of_row enc4 h.len h.on
  simp only [Value.slice.injEq] at e
  obtain ⟨rfl, _, rfl⟩ := e
  obtain ⟨b', off', e, _, h1, h2, h3, h4⟩ := rd4 hr hx
  cases e
  exact ⟨h1, h2, h3, h4⟩
theorem DelI.skip (h : DelI p l F w wr b off c j m ys) {y : En} (hy : l[j]? = some y) (hp : p y = true) : DelI p l F w wr b off c (j + 1) m ys :=
  ⟨h.off0, h.len, h.on, h.kp, by have := h.lt; omega, by rw [kept_no hy hp]; exact h.kept, fun t ht => h.rest t (by omega)⟩
theorem DelI.keep (h : DelI p l F w wr b off c j m ys) {y : En} (hy : l[j]? = some y) (hp : p y = false) : DelI p l F w ((((wr.setCell ⟨b, off + m * 4, none⟩ (.string y.key)).setCell ⟨b, off + m * 4 + 1, none⟩ (.int .i64 y.ref.slot)).setCell ⟨b, off + m * 4 + 2, none⟩ (.int .i64 y.ref.gen)).setCell ⟨b, off + m * 4 + 3, none⟩ (.int .i64 y.child)) b off c (j + 1) (m + 1) (ys.set m y) := by
  have hq := row_put h.off0 h.on m y
  have hj : j < l.length := (List.getElem?_eq_some_iff.1 hy).1
  have hlt := h.lt
  have hm : m < ys.length := by rw [h.len]; omega
  refine ⟨h.off0, by rw [List.length_set]; exact h.len, hq.1, h.kp.trans hq.2 (fun _ h => .inl h), by omega, ?_, fun t ht => ?_⟩
  · rw [kept_yes hy hp, h.kept, List.take_add_one, List.take_set_of_le (Nat.le_refl _), List.getElem?_set_self hm]
    rfl
  · rw [List.getElem?_set_ne (by omega)]; exact h.rest t (by omega)
end
set_option maxHeartbeats 2000000 in
theorem delete_En (p : En → Bool) (g : Nat) (lb : Array Value) (eg : ∀ args w, (callFunc g args).run Try.prog w = .ok (.enter g args) w) {a : Option Addr} {c : Nat} {l : List En} {w : World} {F : Nat → Prop} (hF : (RowE a c l).on w F)
    (hp : ∀ (W : World) (x : En), Kp F w W → Calls Try.prog g (#[env x] ++ lb) W fun e w' => e = .returned (.bool (p x)) ∧ KN W w') (hl : l.length ≤ maxLen) :
    Calls Try.prog 52 #[.slice a l.length c, .func (.func g) #[] lb] w fun e w' => e = .returned (.slice a (l.filter (fun x => !p x)).length c) ∧ Post (RowE a c (l.filter (fun x => !p x))) F w w' := by
  have HI := Lib.hid (ix_func p g lb eg w (fun W x k => hp W x (k.mono (fun _ h => h.elim))) (RowE.rl hF) hl)
  have HP := Lib.hid hp
  clear hp
  rcases ix_cases p l with ⟨h0, hm⟩ | ⟨k, x, h0, hx, hpx, hm⟩
  · rw [h0] at HI
    have e : l.filter (fun x => !p x) = l := by
      rw [List.filter_eq_self]
      intro x hx
      obtain ⟨j, hj⟩ := List.getElem?_of_mem hx
      rw [hm j x hj]; rfl
    rw [e]
    have HF := Lib.hid hF
    clear hF hm h0 e
    go_enter Try.func52, Try.ntmps52
    go_wp2_with fail
    refine HI.out.mono ?_
    rintro e w1 ⟨rfl, k1⟩
    have HK := Lib.hid k1
    clear k1
    go_wp2
    go_ret
    exact ⟨rfl, .same HF.out HK.out⟩
  · rw [h0] at HI
    obtain ⟨b, off, rfl, hoff⟩ : ∃ b off, a = some ⟨b, off, none⟩ ∧ off = 0 := by
      rcases hF.1.2 with ⟨e, h⟩ | ⟨b, cap, cur, e, _⟩
      · rw [List.length_eq_zero_iff.1 h] at hx; simp at hx
      · cases e; exact ⟨b, 0, rfl, rfl⟩
    have hk : k < l.length := (List.getElem?_eq_some_iff.1 hx).1
    obtain ⟨hcl, hcm⟩ : l.length ≤ c ∧ c ≤ maxLen := by
      rcases hF.1.2 with ⟨e, h⟩ | ⟨b, cap, cur, e, _, _, h1, h2, _⟩
      · cases e
      · cases e; exact ⟨h1, h2⟩
    have HM := Lib.hid hm
    have HX := Lib.hid hx
    have HPX := Lib.hid hpx
    have HF := Lib.hid hF
    have HO := Lib.hid hoff
    clear hF hm hx hpx hoff h0
    unfold maxLen at hl hcm
    go_enter Try.func52, Try.ntmps52
    go_wp2_with fail
    refine HI.out.mono ?_
    rintro e w1 ⟨rfl, k1⟩
    have HK := Lib.hid k1
    clear k1
    go_wp2
    go_loopw [5, 6] (fun s5 s6 wr => ∃ (j m : Nat) (ys : List En), j ≤ l.length ∧ s6 = .int .i64 j ∧ s5 = .int .i64 m ∧ Hid (DelI p l F w wr b off c j m ys)) (fun _ s6 _ => l.length - (intOf s6).toNat)
    case atStart =>
      have hkk := kept_first HM.out
      exact ⟨k + 1, k, l, hk, by go_num, rfl, Lib.hid ⟨HO.out, rfl, Asr.kn' HF.out HK.out, HK.out.mono (fun _ h => h.elim), by omega, by rw [kept_no HX.out HPX.out, hkk], fun _ _ => rfl⟩⟩
    case round =>
      obtain ⟨j, m, ys, hj, rfl, rfl, HD⟩ := hrel
      have hmj := HD.out.lt
      by_cases hlt : j < l.length
      · obtain ⟨y, hy⟩ : ∃ y, l[j]? = some y := ⟨_, List.getElem?_eq_getElem hlt⟩
        obtain ⟨c0, c1, c2, c3⟩ := HD.out.at (i := j) (x := y) (by rw [HD.out.rest j (Nat.le_refl _)]; exact hy)
        have HY := Lib.hid hy
        have hb := HD.out.b_lt
        clear hy
        have hcall := fun W k' => HP.out W y k'
        obtain ⟨ok, hok⟩ : ∃ q, p y = q := ⟨_, rfl⟩
        rw [hok] at hcall
        have HQ := Lib.hid hok
        clear hok
        have HC := Lib.hid hcall
        clear hcall
        obtain ⟨xm, hxm⟩ : ∃ xm, ys[m]? = some xm := ⟨_, List.getElem?_eq_getElem (by rw [HD.out.len]; omega)⟩
        have hzm : (m : Int) < (l.length : Int) := by omega
        cases ok with
        | true =>
          go_wp2_with (go_at_fn g; refine (HC.out _ (HD.out.kp.alloc _)).mono ?_; rintro e w2 ⟨rfl, k2⟩; have hB := k2.blk (heap_alloc_same wr (.cells #[.string y.key, .int .i64 y.ref.slot, .int .i64 y.ref.gen, .int .i64 y.child] 28)) id; have HD2 := Lib.hid ((HD.out.kn (kn_alloc wr (.cells #[.string y.key, .int .i64 y.ref.slot, .int .i64 y.ref.gen, .int .i64 y.child] 28))).kn k2); obtain ⟨z0, z1, z2, z3, zf⟩ := cells4 hB; obtain ⟨d0, d1, d2, d3⟩ := HD2.out.at hxm; have hfz := HD2.out.free; clear hB k2)
          go_roundw
          case rel =>
            exact ⟨_, _, _, _, _, _, _, _, _, _, _, _, _, _, _, _, _, _, _, _, _, _, _, ⟨j + 1, m, ys, by omega, by go_num, rfl, Lib.hid (HD2.out.skip HY.out HQ.out)⟩, rfl⟩
          case measure => simp [intOf]; omega
        | false =>
          go_wp2_with (go_at_fn g; refine (HC.out _ (HD.out.kp.alloc _)).mono ?_; rintro e w2 ⟨rfl, k2⟩; have hB := k2.blk (heap_alloc_same wr (.cells #[.string y.key, .int .i64 y.ref.slot, .int .i64 y.ref.gen, .int .i64 y.child] 28)) id; have HD2 := Lib.hid ((HD.out.kn (kn_alloc wr (.cells #[.string y.key, .int .i64 y.ref.slot, .int .i64 y.ref.gen, .int .i64 y.child] 28))).kn k2); obtain ⟨z0, z1, z2, z3, zf⟩ := cells4 hB; obtain ⟨d0, d1, d2, d3⟩ := HD2.out.at hxm; have hfz := HD2.out.free; clear hB k2)
          go_roundw
          case rel => exact ⟨_, _, _, _, _, _, _, _, _, _, _, _, _, _, _, _, _, _, _, _, _, _, _, ⟨j + 1, m + 1, ys.set m y, by omega, by go_num, by go_num, Lib.hid (HD2.out.keep HY.out HQ.out)⟩, rfl⟩
          case measure => simp [intOf]; omega
      · obtain rfl : j = l.length := by omega
        obtain ⟨w3, hclr, hrow, hkp⟩ := run_clear_row (k := m) (m := l.length - m) (cap' := c - m) HD.out.off0 HD.out.on (by omega) (by omega)
        have hs := cut_own b off l.length c m (by omega) hcl (by unfold maxLen; omega)
        have hs0 := cut_own0 b off l.length c m (by omega) hcl (by unfold maxLen; omega)
        have hkept := HD.out.kept
        rw [kept_all] at hkept
        have hlen : (l.filter (fun x => !p x)).length = m := by rw [hkept, List.length_take, HD.out.len]; omega
        have HR := Lib.hid (show Post (RowE (some ⟨b, off, none⟩) c (l.filter (fun x => !p x))) F w w3 from ⟨F, by show (RowA 28 4 _ _ _).on w3 F; rw [hlen, hkept]; exact hrow, HD.out.kp.trans hkp (fun _ h => .inl h), fun b hb => .inl hb⟩)
        have HL := Lib.hid hlen
        clear hrow hkp hkept hlen
        go_wp2
        go_ret
        exact ⟨by rw [HL.out]; rfl, HR.out⟩
end Go.Proofs.Ytkdlodjpambelaa
