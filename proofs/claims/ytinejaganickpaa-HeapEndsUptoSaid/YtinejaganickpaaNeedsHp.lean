/- HeapNeeds, the plain side; Prune of a cell whose versions fall, in all cases. -/
import Derived.Test.YtinejaganickpaaBaseS
import Derived.Test.YtinejaganickpaaHeapZ
namespace Go.Proofs.Ytinejaganickpaa
set_option linter.unusedVariables false
set_option linter.unusedSimpArgs false
open Go Go.RowKit

theorem ch_drop {V : List (Slot No)} : ∀ {h : Hd} {xs : List (Hd × No)} {m : Nat} {x : Hd × No}, Ch V h xs → xs[m]? = some x → Ch V x.1 (xs.drop m)
  | h, [], m, x, _, hx => by simp at hx
  | h, y :: r, 0, x, hc, hx => by
    cases hx
    have := hc
    rw [List.drop_zero]
    rw [← hc.1] at this
    exact this
  | h, y :: r, m + 1, x, hc, hx => by
    rw [List.drop_succ_cons]
    exact ch_drop hc.2.2.2 (by simpa using hx)
theorem ch_slots {V : List (Slot No)} {h : Hd} {xs : List (Hd × No)} {m n : Nat} {x y : Hd × No} (hc : Ch V h xs) (hx : xs[m]? = some x) (hy : xs[n]? = some y) (he : x.1.slot = y.1.slot) : m = n := by
  obtain ⟨i, e1, v1⟩ := ch_at hc hx
  obtain ⟨k, e2, v2⟩ := ch_at hc hy
  obtain rfl : i = k := by omega
  rw [v1] at v2
  injection v2 with v2
  injection v2 with v3 v4
  have e : x.1 = y.1 := by
    obtain ⟨⟨a, b⟩, c⟩ := x
    obtain ⟨⟨a', b'⟩, c'⟩ := y
    simp only at v4 he
    rw [v4, he]
  have d1 := ch_drop hc hx
  have d2 := ch_drop hc hy
  rw [e] at d1
  have := congrArg List.length (ch_fun d1 d2)
  rw [List.length_drop, List.length_drop] at this
  have l1 := (List.getElem?_eq_some_iff.1 hx).1
  have l2 := (List.getElem?_eq_some_iff.1 hy).1
  omega
theorem ch_cut' {V : List (Slot No)} {j : Nat} {p : Hd} {z : No} (hj : p.slot = j) (hjl : j < V.length) : ∀ {h : Hd} {xs : List (Hd × No)} {n : Nat}, Ch V h xs → (∀ m (x : Hd × No), xs[m]? = some x → m < n → x.1.slot ≠ (j : Int)) → xs[n]? = some (p, z) → Ch (V.set j ⟨⟨z.has, zH⟩, p.gen, true⟩) h (xs.take n ++ [(p, ⟨z.has, zH⟩)])
  | h, [], n, _, _, hx => by simp at hx
  | h, y :: r, 0, hc, _, hx => by
    cases hx
    obtain ⟨e1, e2, ⟨i, e3, e4⟩, e5⟩ := hc
    simp only at e1
    subst e1
    obtain rfl : i = j := by omega
    exact ⟨rfl, e2, ⟨i, e3, by rw [List.getElem?_set_self hjl]⟩, rfl⟩
  | h, y :: r, n + 1, hc, hne, hx => by
    obtain ⟨e1, e2, ⟨i, e3, e4⟩, e5⟩ := hc
    have h0 := hne 0 y rfl (by omega)
    refine ⟨e1, e2, ⟨i, e3, ?_⟩, ch_cut' hj hjl e5 (fun m x hm hl => hne (m + 1) x (by simpa using hm) (by omega)) (by simpa using hx)⟩
    rw [List.getElem?_set_ne (fun e => h0 (by rw [e1, e3, e]))]
    exact e4
/-- A chain that is cut behind its n-th version. -/
theorem ch_cut {V : List (Slot No)} {j n : Nat} {h p : Hd} {z : No} {xs : List (Hd × No)} (hc : Ch V h xs) (hx : xs[n]? = some (p, z)) (hj : p.slot = j) : Ch (V.set j ⟨⟨z.has, zH⟩, p.gen, true⟩) h (xs.take n ++ [(p, ⟨z.has, zH⟩)]) := by
  obtain ⟨i, e1, v1⟩ := ch_at hc hx
  obtain rfl : i = j := by simp only at e1; omega
  exact ch_cut' hj (List.getElem?_eq_some_iff.1 v1).1 hc (fun m x hm hl he => by have := ch_slots hc hm hx (by simp only; omega); omega) hx
/-- Versions whose timestamps fall. -/
def Fall (l : List Ve) : Prop := l.Pairwise (fun a b => b.tS < a.tS)
theorem foldA {mark : Int} : ∀ {A : List Ve} {s : List Ve × List Ve × Bool}, (∀ v ∈ A, mark < v.tS) → A.foldl (prStep mark) s = (s.1 ++ A, s.2)
  | [], s, _ => by simp
  | v :: A, s, h => by
    have hv := h v (List.mem_cons_self ..)
    have e : prStep mark s v = (s.1 ++ [v], s.2) := by
      unfold prStep
      rw [if_pos (by simp [hv])]
      have : decide (v.tS ≤ mark) = false := by simp; omega
      simp [this]
    rw [List.foldl_cons, e, foldA (fun x hx => h x (List.mem_cons_of_mem _ hx))]
    simp
theorem foldB {mark : Int} : ∀ {B : List Ve} {K G : List Ve}, (∀ v ∈ B, v.tS ≤ mark) → B.foldl (prStep mark) (K, G, true) = (K, G ++ B, true)
  | [], K, G, _ => by simp
  | v :: B, K, G, h => by
    have hv := h v (List.mem_cons_self ..)
    have e : prStep mark (K, G, true) v = (K, G ++ [v], true) := by
      unfold prStep
      have h1 : decide (mark < v.tS) = false := by simp; omega
      simp [h1]
    rw [List.foldl_cons, e, foldB (fun x hx => h x (List.mem_cons_of_mem _ hx))]
    simp
theorem fall_split {mark : Int} : ∀ {l : List Ve}, Fall l → ∃ A B, l = A ++ B ∧ (∀ v ∈ A, mark < v.tS) ∧ ∀ v ∈ B, v.tS ≤ mark
  | [], _ => ⟨[], [], rfl, by simp, by simp⟩
  | x :: l, h => by
    have hp := List.pairwise_cons.1 h
    by_cases hx : mark < x.tS
    · obtain ⟨A, B, rfl, hA, hB⟩ := fall_split (mark := mark) hp.2
      exact ⟨x :: A, B, rfl, fun v hv => (List.mem_cons.1 hv).elim (fun e => e ▸ hx) (hA v), hB⟩
    · exact ⟨[], x :: l, rfl, by simp, fun v hv => (List.mem_cons.1 hv).elim (fun e => by rw [e]; omega) (fun hv => by have := hp.1 v hv; omega)⟩
theorem prune_split {mark : Int} {A B : List Ve} (hA : ∀ v ∈ A, mark < v.tS) (hB : ∀ v ∈ B, v.tS ≤ mark) : pruneS mark (A ++ B) = match B with | [] => (A, [], false) | b :: B' => if b.del = true then (A, b :: B', true) else (A ++ [b], B', true) := by
  unfold pruneS
  rw [List.foldl_append, foldA hA]
  have e0 : ((([], [], false) : List Ve × List Ve × Bool).1 ++ A, (([], [], false) : List Ve × List Ve × Bool).2) = (A, [], false) := by simp
  rw [e0]
  cases B with
  | nil => simp
  | cons b B' =>
    have hb := hB b (List.mem_cons_self ..)
    have h1 : decide (mark < b.tS) = false := by simp; omega
    have h2 : decide (b.tS ≤ mark) = true := by simpa using hb
    rw [List.foldl_cons]
    cases hd : b.del with
    | true =>
      have e : prStep mark (A, [], false) b = (A, [b], true) := by simp [prStep, h1, h2, hd]
      rw [e, foldB (fun v hv => hB v (List.mem_cons_of_mem _ hv))]
      simp [hd]
    | false =>
      have e : prStep mark (A, [], false) b = (A ++ [b], [], true) := by simp [prStep, h1, h2, hd]
      rw [e, foldB (fun v hv => hB v (List.mem_cons_of_mem _ hv))]
      simp [hd]
/-- What is kept is a first part; what is no longer seen at the mark or above was a deletion. -/
theorem prune_first {mark : Int} {l : List Ve} (h : Fall l) : (pruneS mark l).1 = l.take (pruneS mark l).1.length ∧ ∀ at' : Int, mark ≤ at' → (l.take (pruneS mark l).1.length).find? (fun x => decide (x.tS ≤ at')) = none → ∀ v, l.find? (fun x => decide (x.tS ≤ at')) = some v → v.del = true := by
  obtain ⟨A, B, rfl, hA, hB⟩ := fall_split (mark := mark) h
  rw [prune_split hA hB]
  cases B with
  | nil =>
    simp only [List.append_nil, List.take_length, true_and]
    intro at' _ hn v hv
    rw [hn] at hv; cases hv
  | cons b B' =>
    have hb := hB b (List.mem_cons_self ..)
    cases hd : b.del with
    | true =>
      simp only [hd, if_true]
      refine ⟨by simp, fun at' ha hn v hv => ?_⟩
      rw [List.take_left'] at hn
      · rw [List.find?_append, hn, List.find?_cons_of_pos (by simp; omega)] at hv
        simp at hv
        rw [← hv]; exact hd
      · rfl
    | false =>
      simp only [hd, Bool.false_eq_true, if_false]
      have e : A ++ b :: B' = (A ++ [b]) ++ B' := by simp
      refine ⟨by rw [e, List.take_left'] ; rfl, fun at' ha hn v hv => ?_⟩
      rw [e, List.take_left' rfl, List.find?_append] at hn
      simp at hn
      omega
theorem find_take {p : Ve → Bool} {l : List Ve} {m : Nat} {u : Ve} (h : (l.take m).find? p = some u) : l.find? p = some u := by
  rw [← List.take_append_drop m l, List.find?_append, h]
  rfl
/-- The versions of cell j0, while marks rise: what is left is a first part of l; at the mark and above a deletion alone may be missed. -/
structure Nds (σ : Hps) (ε : Eps) (j0 : Nat) (g : Int) (l : List Ve) (mark : Int) : Prop where
  ex : ∃ key h xs cl m, σ.L[j0]? = some ⟨⟨key, h, cl, false⟩, g, true⟩ ∧ Ch σ.V h xs ∧ xs.map (·.2.has) = l.take m ∧ (∀ at' : Int, mark ≤ at' → (l.take m).find? (fun x => decide (x.tS ≤ at')) = none → ∀ v, l.find? (fun x => decide (x.tS ≤ at')) = some v → v.del = true) ∧ ∀ j, (ε.row j).length + xs.length ≤ 50
  st : σ.sl = 0 ∧ σ.sv = 0
  fit : ε.Fit
theorem prune_t {b e j0 : Nat} {σ : Hps} {ε : Eps} {w0 w : World} {g mark mark' : Int} {l : List Ve} {M : List Asr} (hN : Nds σ ε j0 g l mark) (hF : Fall l) (hm : mark ≤ mark') (H : One w0 w (EpA e ε :: HpA b e σ :: M)) :
    Calls Try.prog 14 #[.pointer (some ⟨b, 0, none⟩), .agg #[.int .i64 j0, .int .i64 g], .int .i64 mark'] w fun e' w' => ∃ n cl σ' ε', e' = .returned (.tuple #[.int .i64 n, .bool cl, .int .i64 0]) ∧ Nds σ' ε' j0 g l mark' ∧ One w0 w' (EpA e ε' :: HpA b e σ' :: M) := by
  obtain ⟨⟨key, h, xs, cl, m, hL, hc, hx, hs, hr⟩, hst, hfit⟩ := hN
  have hs' : ∀ at' : Int, mark' ≤ at' → (l.take m).find? (fun x => decide (x.tS ≤ at')) = none → ∀ v, l.find? (fun x => decide (x.tS ≤ at')) = some v → v.del = true := fun at' ha => hs at' (by omega)
  have hxl : xs.length ≤ 50 := by have := hr 0; omega
  by_cases hi : cl = true ∨ h = zH
  · exact (H.still (fun c d F1 hp => prune_idle_h (s := ⟨⟨key, h, cl, false⟩, g, true⟩) mark' hp hL rfl hi)).mono fun e' w' ⟨he, ho⟩ => ⟨_, _, σ, ε, he, ⟨⟨key, h, xs, cl, m, hL, hc, hx, hs', hr⟩, hst, hfit⟩, ho⟩
  · have hcl : cl = false := by cases cl with | false => rfl | true => exact absurd (.inl rfl) hi
    have hnz : h ≠ zH := fun e => hi (.inr e)
    subst hcl
    have hF' : Fall (xs.map (·.2.has)) := by rw [hx]; exact List.Pairwise.sublist (List.take_sublist m l) hF
    have hlen := pruneS_len mark' (xs.map (·.2.has))
    obtain ⟨hp1, hp2⟩ := prune_first (mark := mark') hF'
    by_cases hK : (pruneS mark' (xs.map (·.2.has))).1 = []
    · refine (H.heap (fun c d F1 hp => prune_close_h (s := ⟨⟨key, h, false, false⟩, g, true⟩) mark' hp hL rfl hc (by omega) rfl hnz hK)).mono fun e' w' ⟨he, ho⟩ => ⟨_, _, ⟨σ.L.set j0 ⟨⟨key, h, true, false⟩, g, true⟩, σ.sl, σ.V, σ.sv, σ.rs⟩, ε, he, ⟨⟨key, h, xs, true, m, ?_, hc, hx, hs', hr⟩, hst, hfit⟩, ho⟩
      exact List.getElem?_set_self (List.getElem?_eq_some_iff.1 hL).1
    · by_cases hG : (pruneS mark' (xs.map (·.2.has))).2.1 = []
      · exact (H.still (fun c d F1 hp => prune_none_h (s := ⟨⟨key, h, false, false⟩, g, true⟩) mark' hp hL rfl hc (by omega) rfl hnz ⟨hK, hG⟩)).mono fun e' w' ⟨he, ho⟩ => ⟨_, _, σ, ε, he, ⟨⟨key, h, xs, false, m, hL, hc, hx, hs', hr⟩, hst, hfit⟩, ho⟩
      · have h1 : 0 < (pruneS mark' (xs.map (·.2.has))).1.length := List.length_pos_iff.2 hK
        have h2 : 0 < (pruneS mark' (xs.map (·.2.has))).2.1.length := List.length_pos_iff.2 hG
        rw [List.length_map] at hlen
        obtain ⟨⟨p, z⟩, hpz⟩ : ∃ q, xs[(pruneS mark' (xs.map (·.2.has))).1.length - 1]? = some q := ⟨_, List.getElem?_eq_getElem (by omega)⟩
        obtain ⟨j, hj1, hj2⟩ := ch_at hc hpz
        simp only at hj1
        refine (H.both (fun c d F1 hp => callsIn_wide.1 (prune_in (s := ⟨⟨key, h, false, false⟩, g, true⟩) mark' hp hfit hL rfl hc (by omega) rfl hnz (fun j => by have := hr j; omega) h1 h2 hpz hj1))).mono fun e' w' ⟨he, ho⟩ => ⟨_, _, ⟨σ.L, σ.sl, σ.V.set j ⟨⟨z.has, zH⟩, p.gen, true⟩, σ.sv, σ.rs⟩, ε.retires ((xs.drop (pruneS mark' (xs.map (·.2.has))).1.length).map (·.1)), he, ⟨⟨key, h, xs.take ((pruneS mark' (xs.map (·.2.has))).1.length - 1) ++ [(p, ⟨z.has, zH⟩)], false, min (pruneS mark' (xs.map (·.2.has))).1.length m, hL, ch_cut hc hpz hj1, ?_, fun at' ha hn v hv => ?_, fun q => ?_⟩, hst, fit_retires _ hfit⟩, ho⟩
        · have e1 : (xs.take ((pruneS mark' (xs.map (·.2.has))).1.length - 1) ++ [(p, (⟨z.has, zH⟩ : No))]).map (·.2.has) = (xs.map (·.2.has)).take (pruneS mark' (xs.map (·.2.has))).1.length := by
            have e2 : (pruneS mark' (xs.map (·.2.has))).1.length = (pruneS mark' (xs.map (·.2.has))).1.length - 1 + 1 := by omega
            rw [e2, List.take_add_one, List.getElem?_map, Nat.add_sub_cancel, hpz, List.map_append, List.map_take]
            rfl
          rw [e1, hx, List.take_take]
        · rw [← List.take_take, ← hx] at hn
          cases hf : (l.take m).find? (fun x => decide (x.tS ≤ at')) with
          | none => exact hs' at' ha hf v hv
          | some u =>
            have := find_take hf
            rw [this] at hv; cases hv
            rw [← hx] at hf
            exact hp2 at' ha hn _ hf
        · have h3 := row_retires ((xs.drop (pruneS mark' (xs.map (·.2.has))).1.length).map (·.1)) ε q
          have h4 := hr q
          rw [List.length_map, List.length_drop] at h3
          rw [List.length_append, List.length_take, List.length_singleton]
          omega
/-- Read of such a cell. -/
theorem read_t {b e j0 : Nat} {σ : Hps} {ε : Eps} {w0 w : World} {g mark at' : Int} {l : List Ve} {M : List Asr} (hN : Nds σ ε j0 g l mark) (ha : mark ≤ at') (H : One w0 w (EpA e ε :: HpA b e σ :: M)) :
    ∃ r : Option Ve, Calls Try.prog 15 #[.pointer (some ⟨b, 0, none⟩), .agg #[.int .i64 j0, .int .i64 g], .int .i64 at'] w (fun e' w' => e' = .returned (.tuple #[vev (r.getD zV), .bool r.isSome, .int .i64 0]) ∧ One w0 w' (EpA e ε :: HpA b e σ :: M)) ∧
      (∀ v, r = some v → l.find? (fun x => decide (x.tS ≤ at')) = some v) ∧ (r = none → ∀ v, l.find? (fun x => decide (x.tS ≤ at')) = some v → v.del = true) := by
  obtain ⟨⟨key, h, xs, cl, m, hL, hc, hx, hs, hr⟩, hst, hfit⟩ := hN
  have hxl : xs.length ≤ 50 := by have := hr 0; omega
  have hC := H.still (fun c d F1 hp => read_good_h (s := ⟨⟨key, h, cl, false⟩, g, true⟩) at' hp hL rfl hc (by omega))
  rw [hx] at hC
  exact ⟨_, hC, fun v hv => find_take hv, fun hn => hs at' ha hn⟩
end Go.Proofs.Ytinejaganickpaa
