/- HeapEnds, the plain side: what is taken and can be freed. -/
import Derived.Test.YtinejaganickpaaNeedsHp
namespace Go.Proofs.Ytinejaganickpaa
set_option linter.unusedVariables false
set_option linter.unusedSimpArgs false
open Go Go.RowKit Go.Sort

/-- What waits is good. -/
def okRe (σ : Hps) (x : Re) : Prop := (x.kind = 3 ∧ ∃ (i : Nat) (s : Slot No), x.handle.slot = i ∧ σ.V[i]? = some s ∧ s.given = true ∧ s.gen = x.handle.gen) ∨ (x.kind = 4 ∧ ∃ (i : Nat) (s : Slot Cl), x.handle.slot = i ∧ σ.L[i]? = some s ∧ s.given = true ∧ s.gen = x.handle.gen)
/-- Of all that is given each waits, once. -/
structure FreeOk (σ : Hps) (l : List Re) : Prop where
  all : ∀ x ∈ l, okRe σ x
  apart : l.Pairwise (fun x y => x.kind = y.kind → x.handle.slot ≠ y.handle.slot)
  nV : liveOf σ.V = (l.countP (fun x : Re => x.kind == 3) : Nat)
  nL : liveOf σ.L = (l.countP (fun x : Re => x.kind == 4) : Nat)
theorem FreeOk.perm {σ : Hps} {l l' : List Re} (h : FreeOk σ l) (p : l.Perm l') : FreeOk σ l' :=
  ⟨fun x hx => h.all x (p.mem_iff.2 hx), (p.pairwise_iff (fun {x y} hxy e he => hxy e.symm he.symm)).1 h.apart, by rw [← p.countP_eq]; exact h.nV, by rw [← p.countP_eq]; exact h.nL⟩
theorem FreeOk.cell {σ σ' : Hps} {l : List Re} (h : FreeOk σ l) {j : Nat} {g : Int} {x : Cl} (hj : σ'.L[j]? = some ⟨x, g, true⟩) (hV : σ'.V = σ.V) (hL : ∀ (m : Nat) (s : Slot Cl), σ.L[m]? = some s → s.given = true → σ'.L[m]? = some s ∧ m ≠ j) (hn : liveOf σ'.L = liveOf σ.L + 1) : FreeOk σ' (⟨4, ⟨j, g⟩⟩ :: l) := by
  refine ⟨fun y hy => ?_, List.pairwise_cons.2 ⟨fun y hy he => ?_, h.apart⟩, ?_, ?_⟩
  · rcases List.mem_cons.1 hy with rfl | hy
    · exact .inr ⟨rfl, j, _, rfl, hj, rfl, rfl⟩
    · rcases h.all y hy with ⟨h1, i, s, h2, h3, h4, h5⟩ | ⟨h1, i, s, h2, h3, h4, h5⟩
      · exact .inl ⟨h1, i, s, h2, by rw [hV]; exact h3, h4, h5⟩
      · exact .inr ⟨h1, i, s, h2, (hL i s h3 h4).1, h4, h5⟩
  · rcases h.all y hy with ⟨h1, _⟩ | ⟨h1, i, s, h2, h3, h4, h5⟩
    · simp only at he; omega
    · have := (hL i s h3 h4).2
      simp only
      omega
  · rw [hV, h.nV]; simp
  · rw [hn, h.nL]; simp
theorem FreeOk.inst {σ σ' : Hps} {l : List Re} (h : FreeOk σ l) {m : Nat} {h1 : Hd} {s s' : Slot Cl} (hm : σ.L[m]? = some s) (hm' : σ'.L[m]? = some s') (hg : s'.given = s.given ∧ s'.gen = s.gen) (ho : ∀ m', m' ≠ m → σ'.L[m']? = σ.L[m']?) (hv : ∃ (i : Nat) (x : No), h1.slot = i ∧ σ'.V[i]? = some ⟨x, h1.gen, true⟩) (hV : ∀ (q : Nat) (u : Slot No), σ.V[q]? = some u → u.given = true → σ'.V[q]? = some u ∧ h1.slot ≠ q) (hnL : liveOf σ'.L = liveOf σ.L) (hnV : liveOf σ'.V = liveOf σ.V + 1) : FreeOk σ' (⟨3, h1⟩ :: l) := by
  refine ⟨fun y hy => ?_, List.pairwise_cons.2 ⟨fun y hy he => ?_, h.apart⟩, ?_, ?_⟩
  · rcases List.mem_cons.1 hy with rfl | hy
    · obtain ⟨i, x, e1, e2⟩ := hv
      exact .inl ⟨rfl, i, _, e1, e2, rfl, rfl⟩
    · rcases h.all y hy with ⟨h1, i, u, h2, h3, h4, h5⟩ | ⟨h1, i, u, h2, h3, h4, h5⟩
      · exact .inl ⟨h1, i, u, h2, (hV i u h3 h4).1, h4, h5⟩
      · by_cases e : i = m
        · subst e
          rw [hm] at h3; cases h3
          exact .inr ⟨h1, i, s', h2, hm', hg.1.trans h4, hg.2.trans h5⟩
        · exact .inr ⟨h1, i, u, h2, (ho i e).trans h3, h4, h5⟩
  · rcases h.all y hy with ⟨h1, i, u, h2, h3, h4, h5⟩ | ⟨h1, _⟩
    · have := (hV i u h3 h4).2
      simp only
      rw [h2]; exact this
    · simp only at he; omega
  · rw [hnV, h.nV]; simp
  · rw [hnL, h.nL]; simp
theorem FreeOk.setL {σ : Hps} {l : List Re} (h : FreeOk σ l) {m : Nat} {s s' : Slot Cl} (hm : σ.L[m]? = some s) (hg : s'.given = s.given) (hgg : s'.gen = s.gen) : FreeOk ⟨σ.L.set m s', σ.sl, σ.V, σ.sv, σ.rs⟩ l := by
  refine ⟨fun y hy => ?_, h.apart, h.nV, by simp only; rw [live_same hm hg]; exact h.nL⟩
  rcases h.all y hy with h1 | ⟨h1, i, u, h2, h3, h4, h5⟩
  · exact .inl h1
  · by_cases e : i = m
    · subst e
      rw [hm] at h3; cases h3
      exact .inr ⟨h1, i, s', h2, List.getElem?_set_self (List.getElem?_eq_some_iff.1 hm).1, hg.trans h4, hgg.trans h5⟩
    · exact .inr ⟨h1, i, u, h2, (List.getElem?_set_ne (fun e' => e e'.symm)).trans h3, h4, h5⟩
theorem live_back {α : Type} {l : List (Slot α)} {i : Nat} {s s' : Slot α} (h : l[i]? = some s) (hg : s.given = true) (hg' : s'.given = false) : liveOf (l.set i s') = liveOf l - 1 := by
  obtain ⟨e, hl⟩ := free_back h hg hg'
  unfold liveOf
  rw [e, insAt_len _ hl, List.length_set]
  omega
theorem good_of {α : Type} {l : List (Slot α)} {i : Nat} {s : Slot α} (h : l[i]? = some s) (hg : s.given = true) : goodAt l (i : Int) s.gen = some s := by
  unfold goodAt
  rw [Int.toNat_natCast, if_pos (by omega), h]
  simp [hg]
/-- One is freed. -/
theorem FreeOk.free {σ : Hps} {x : Re} {l : List Re} (h : FreeOk σ (x :: l)) : ∃ σ' : Hps, σ.free x.kind x.handle.slot x.handle.gen = (σ', 0) ∧ FreeOk σ' l ∧ σ'.sl = σ.sl ∧ σ'.sv = σ.sv ∧ σ'.rs = σ.rs ∧ σ'.L.length = σ.L.length ∧ σ'.V.length = σ.V.length := by
  have hp := List.pairwise_cons.1 h.apart
  have hnV := h.nV
  have hnL := h.nL
  rw [List.countP_cons] at hnV hnL
  obtain ⟨kx, ⟨sx, gx⟩⟩ := x
  rcases h.all _ (List.mem_cons_self ..) with ⟨h1, i, s, h2, h3, h4, h5⟩ | ⟨h1, i, s, h2, h3, h4, h5⟩
  · simp only at h1 h2 h5 hp hnV hnL ⊢
    subst h1; subst h2; subst h5
    have hgo := good_of h3 h4
    refine ⟨⟨σ.L, σ.sl, σ.V.set i ⟨zN.has, s.gen, false⟩, σ.sv, σ.rs⟩, ?_, ⟨fun y hy => ?_, hp.2, ?_, ?_⟩, rfl, rfl, rfl, rfl, List.length_set⟩
    · unfold Hps.free freeA
      rw [if_pos rfl, hgo]
      simp
    · rcases h.all y (List.mem_cons_of_mem _ hy) with ⟨q1, q, u, q2, q3, q4, q5⟩ | q
      · have hne := hp.1 y hy q1.symm
        refine .inl ⟨q1, q, u, q2, (List.getElem?_set_ne (fun e => hne (by rw [q2, e]))).trans q3, q4, q5⟩
      · exact .inr q
    · simp only
      rw [live_back h3 h4 rfl]
      simp at hnV
      omega
    · simp at hnL
      exact hnL
  · simp only at h1 h2 h5 hp hnV hnL ⊢
    subst h1; subst h2; subst h5
    have hgo := good_of h3 h4
    refine ⟨⟨σ.L.set i ⟨zC.has, s.gen, false⟩, σ.sl, σ.V, σ.sv, σ.rs⟩, ?_, ⟨fun y hy => ?_, hp.2, ?_, ?_⟩, rfl, rfl, rfl, List.length_set, rfl⟩
    · unfold Hps.free freeA
      rw [if_neg (by decide), if_pos rfl, hgo]
      simp
    · rcases h.all y (List.mem_cons_of_mem _ hy) with q | ⟨q1, q, u, q2, q3, q4, q5⟩
      · exact .inl q
      · have hne := hp.1 y hy q1.symm
        refine .inr ⟨q1, q, u, q2, (List.getElem?_set_ne (fun e => hne (by rw [q2, e]))).trans q3, q4, q5⟩
    · simp at hnV
      exact hnV
    · simp only
      rw [live_back h3 h4 rfl]
      simp at hnL
      omega
theorem Hps.Ok.setL {k : Nat} {σ : Hps} (h : σ.Ok k) {m : Nat} {s s' : Slot Cl} (hm : σ.L[m]? = some s) (hg : s'.given = s.given) (hgg : s'.gen = s.gen) (hc : ∃ xs, Ch σ.V s'.has.newest xs ∧ xs.length ≤ 1024) : (⟨σ.L.set m s', σ.sl, σ.V, σ.sv, σ.rs⟩ : Hps).Ok k := by
  refine ⟨by simpa using h.len, h.rs, h.rb, ?_, fun q hq => ?_, h.genV, h.st, fun q hq hqg => ?_⟩
  · have h1 := h.rooms
    have h2 := h.room
    have e1 : (⟨σ.L.set m s', σ.sl, σ.V, σ.sv, σ.rs⟩ : Hps).room.1 = σ.room.1 := by
      rw [h1.1]
      show roomOf _ _ _ _ = _
      rw [room_eq]
      simp only
      rw [live_same hm hg, List.length_set]
    exact ⟨by rw [e1]; exact h2.1, h2.2⟩
  · rcases mem_set hq with rfl | hq
    · have := h.genL s (List.mem_of_getElem? hm)
      rw [hgg, hg]; exact this
    · exact h.genL q hq
  · rcases mem_set hq with rfl | hq
    · exact hc
    · exact h.ch q hq hqg
section
variable {b e : Nat} {σ : Hps} {ε : Eps} {w0 w w' : World} {k : Nat}
/-- A cell is given. -/
theorem cell_step2 {M : List Asr} {i : Nat} {x y : Int} {key : ByteArray} (H : One w0 w (EpA e ε :: HpA b e σ :: M)) (hO : σ.Ok k) (hk : k ≤ 8000000) (hi : i < 17) (hr : σ.rs[i]? = some ⟨true, x, y⟩) (hx : 1 ≤ x) (hkey : keyOk key = 0) (hks : key.size ≤ maxLen) :
    ∃ (σ' : Hps) (j : Nat) (g : Int), Calls Try.prog 12 #[.pointer (some ⟨b, 0, none⟩), .int .i64 i, .string key] w (fun e' w' => e' = .returned (.tuple #[.agg #[.int .i64 j, .int .i64 g], .int .i64 0]) ∧ One w0 w' (EpA e ε :: HpA b e σ' :: M)) ∧
      σ'.Ok (k + 1) ∧ σ'.rs[i]? = some ⟨true, x - 1, y⟩ ∧ σ'.L[j]? = some ⟨⟨key, ⟨0, 0⟩, false, false⟩, g, true⟩ ∧ σ'.V = σ.V ∧ σ'.sl = σ.sl ∧ σ'.sv = σ.sv ∧ (∀ (m : Nat) (s : Slot Cl), σ.L[m]? = some s → s.given = true → σ'.L[m]? = some s ∧ m ≠ j) ∧ liveOf σ'.L = liveOf σ.L + 1 ∧ σ'.L.length = σ.L.length ∧ (∀ m, m ≠ i → σ'.rs[m]? = σ.rs[m]?) := by
  obtain ⟨j, fr, t, hf, ht, htg⟩ := hO.freeL hr hx
  have hg := hO.genL t (List.mem_of_getElem? ht)
  have hb := hO.bounds _ (List.mem_of_getElem? hr)
  refine ⟨σ.put i ⟨true, x, y⟩ j t key, j, t.gen + 1, H.lift 1 rfl (fun F h => cell_ok_h h hO.rs hi hr rfl hkey hks ⟨hx, hb.2.1⟩ hf ht ⟨hg.1, by omega⟩ hO.len.1), hO.put hr hx hf ht key, ?_, ?_, rfl, rfl, rfl, fun m s hm hs => ?_, ?_, ?_, fun m hm => List.getElem?_set_ne (Ne.symm hm)⟩
  · exact List.getElem?_set_self (by rw [hO.rs]; exact hi)
  · exact List.getElem?_set_self (List.getElem?_eq_some_iff.1 ht).1
  · have hne : m ≠ j := fun e => by subst e; rw [ht] at hm; cases hm; rw [htg] at hs; cases hs
    exact ⟨(List.getElem?_set_ne (Ne.symm hne)).trans hm, hne⟩
  · exact live_put hf rfl
  · exact List.length_set
/-- A version is put. -/
theorem inst_step2 {M : List Asr} {i m : Nat} {x v g : Int} {key : ByteArray} {h0 : Hd} {xs : List (Hd × No)} {rt : Bool} (y : Ve) (H : One w0 w (EpA e ε :: HpA b e σ :: M)) (hO : σ.Ok k) (hk : k ≤ 8000000) (hi : i < 17) (hr : σ.rs[i]? = some ⟨true, x, v⟩) (hv : 1 ≤ v)
    (hm : σ.L[m]? = some ⟨⟨key, h0, false, rt⟩, g, true⟩) (hc : Ch σ.V h0 xs) (hp : putV (xs.map (·.2.has)) y = 0) (hys : y.value.size ≤ maxLen) :
    ∃ (σ' : Hps) (h1 : Hd), Calls Try.prog 13 #[.pointer (some ⟨b, 0, none⟩), .int .i64 i, .agg #[.int .i64 m, .int .i64 g], vev y] w (fun e' w' => e' = .returned (.int .i64 0) ∧ One w0 w' (EpA e ε :: HpA b e σ' :: M)) ∧
      σ'.Ok (k + 1) ∧ σ'.rs[i]? = some ⟨true, x, v - 1⟩ ∧ σ'.L[m]? = some ⟨⟨key, h1, false, rt⟩, g, true⟩ ∧ Ch σ'.V h1 ((h1, ⟨y, h0⟩) :: xs) ∧ σ'.sl = σ.sl ∧ σ'.sv = σ.sv ∧ (∀ m', m' ≠ m → σ'.L[m']? = σ.L[m']?) ∧ (∀ h zs, Ch σ.V h zs → Ch σ'.V h zs) ∧ (∀ (q : Nat) (s : Slot No), σ.V[q]? = some s → s.given = true → σ'.V[q]? = some s ∧ h1.slot ≠ q) ∧ liveOf σ'.L = liveOf σ.L ∧ liveOf σ'.V = liveOf σ.V + 1 ∧ σ'.L.length = σ.L.length ∧ σ'.V.length = σ.V.length ∧ (∀ m, m ≠ i → σ'.rs[m]? = σ.rs[m]?) := by
  obtain ⟨j, fr, t, hf, ht, htg⟩ := hO.freeV hr hv
  have hg := hO.genV t (List.mem_of_getElem? ht)
  have hb := hO.bounds _ (List.mem_of_getElem? hr)
  have hsh := put_short hp
  rw [List.length_map] at hsh
  refine ⟨σ.add i ⟨true, x, v⟩ m ⟨⟨key, h0, false, rt⟩, g, true⟩ j t y, ⟨j, t.gen + 1⟩, H.heap (fun c d F1 hpp => install_ok hpp hO.rs hi hr rfl hm rfl rfl hc (by omega) hys hp ⟨hv, hb.2.2.2⟩ hf ht ⟨hg.1, by omega⟩ hO.len.2), hO.add hr hv hf ht htg hm hc hsh y, ?_, ?_, ch_add y ht htg hg.1 hc, rfl, rfl, fun m' hne => List.getElem?_set_ne (Ne.symm hne), fun h zs hz => ch_put _ ht htg hz, fun q s hq hs => ?_, ?_, ?_, ?_, ?_, fun m hm => List.getElem?_set_ne (Ne.symm hm)⟩
  · exact List.getElem?_set_self (by rw [hO.rs]; exact hi)
  · exact List.getElem?_set_self (List.getElem?_eq_some_iff.1 hm).1
  · have hne : q ≠ j := fun e => by subst e; rw [ht] at hq; cases hq; rw [htg] at hs; cases hs
    exact ⟨(List.getElem?_set_ne (Ne.symm hne)).trans hq, by simp only; omega⟩
  · exact live_same (s' := ⟨⟨key, ⟨j, t.gen + 1⟩, false, rt⟩, g, true⟩) hm rfl
  · exact live_put hf rfl
  · exact List.length_set
  · exact List.length_set
end
abbrev R3 (xs : List (Hd × No)) : List Re := xs.map fun x => ⟨3, x.1⟩
/-- The cell at hand. -/
structure Mid (k : Nat) (σ : Hps) (r v : Int) (jc : Nat) (g : Int) (key : ByteArray) (h : Hd) (cl : Bool) (xs : List (Hd × No)) (R : List Re) : Prop where
  ok : σ.Ok k
  rs : σ.rs[0]? = some ⟨true, r, v⟩
  cell : σ.L[jc]? = some ⟨⟨key, h, cl, false⟩, g, true⟩
  ch : Ch σ.V h xs
  len : xs.length ≤ 1000
  fr : FreeOk σ (R3 xs ++ ⟨4, ⟨jc, g⟩⟩ :: R)
  st : σ.sl = 0 ∧ σ.sv = 0
  sz : σ.L.length = 40 ∧ σ.V.length = 200
  oth : ∀ m, m ≠ 0 → m < 17 → σ.rs[m]? = some ⟨false, 0, 0⟩
/-- Between the cells. -/
structure Btw (k : Nat) (σ : Hps) (r v : Int) (R : List Re) : Prop where
  ok : σ.Ok k
  rs : σ.rs[0]? = some ⟨true, r, v⟩
  fr : FreeOk σ R
  st : σ.sl = 0 ∧ σ.sv = 0
  sz : σ.L.length = 40 ∧ σ.V.length = 200
  oth : ∀ m, m ≠ 0 → m < 17 → σ.rs[m]? = some ⟨false, 0, 0⟩
section
variable {b e k jc : Nat} {σ : Hps} {ε : Eps} {w0 w w' : World} {r v g : Int} {key : ByteArray} {h : Hd} {cl : Bool} {xs : List (Hd × No)} {R : List Re} {M : List Asr}
theorem btw_cell (B : Btw k σ r v R) (hk : k ≤ 8000000) (hr : 1 ≤ r) (hkey : keyOk key = 0) (hks : key.size ≤ maxLen) (H : One w0 w (EpA e ε :: HpA b e σ :: M)) : ∃ (σ' : Hps) (j : Nat) (g : Int), Calls Try.prog 12 #[.pointer (some ⟨b, 0, none⟩), .int .i64 0, .string key] w (fun e' w' => e' = .returned (.tuple #[.agg #[.int .i64 j, .int .i64 g], .int .i64 0]) ∧ One w0 w' (EpA e ε :: HpA b e σ' :: M)) ∧ Mid (k + 1) σ' (r - 1) v j g key zH false [] R := by
  obtain ⟨σ', j, g, hC, h1, h2, h3, h4, h5, h6, h7, h8, h9, h10⟩ := cell_step2 (i := 0) (key := key) H B.ok hk (by decide) B.rs hr hkey hks
  exact ⟨σ', j, g, hC, h1, h2, h3, rfl, by simp, B.fr.cell h3 h4 h7 h8, ⟨h5.trans B.st.1, h6.trans B.st.2⟩, ⟨h9.trans B.sz.1, by rw [h4]; exact B.sz.2⟩, fun m hm hl => (h10 m hm).trans (B.oth m hm hl)⟩
theorem mid_inst (y : Ve) (D : Mid k σ r v jc g key h false xs R) (hk : k ≤ 8000000) (hv : 1 ≤ v) (hp : putV (xs.map (·.2.has)) y = 0) (hys : y.value.size ≤ maxLen) (hl : xs.length < 1000) (H : One w0 w (EpA e ε :: HpA b e σ :: M)) : ∃ (σ' : Hps) (h1 : Hd), Calls Try.prog 13 #[.pointer (some ⟨b, 0, none⟩), .int .i64 0, .agg #[.int .i64 jc, .int .i64 g], vev y] w (fun e' w' => e' = .returned (.int .i64 0) ∧ One w0 w' (EpA e ε :: HpA b e σ' :: M)) ∧ Mid (k + 1) σ' r (v - 1) jc g key h1 false ((h1, ⟨y, h⟩) :: xs) R := by
  obtain ⟨σ', h1, hC, n1, n2, n3, n4, n5, n6, n7, n8, n9, n10, n11, n12, n13, n14⟩ := inst_step2 (i := 0) y H D.ok hk (by decide) D.rs hv D.cell D.ch hp hys
  obtain ⟨e1, e2, ⟨i, e3, e4⟩, e5⟩ := n4
  exact ⟨σ', h1, hC, n1, n2, n3, ⟨e1, e2, ⟨i, e3, e4⟩, e5⟩, by simp; omega, D.fr.inst D.cell n3 ⟨rfl, rfl⟩ n7 ⟨i, _, e3, e4⟩ n9 n10 n11, ⟨n5.trans D.st.1, n6.trans D.st.2⟩, ⟨n12.trans D.sz.1, n13.trans D.sz.2⟩, fun m hm hl => (n14 m hm).trans (D.oth m hm hl)⟩
theorem Mid.set (D : Mid k σ r v jc g key h cl xs R) (cl' : Bool) : Mid k ⟨σ.L.set jc ⟨⟨key, h, cl', false⟩, g, true⟩, σ.sl, σ.V, σ.sv, σ.rs⟩ r v jc g key h cl' xs R :=
  ⟨D.ok.setL D.cell rfl rfl ⟨xs, D.ch, by have := D.len; omega⟩, D.rs, List.getElem?_set_self (List.getElem?_eq_some_iff.1 D.cell).1, D.ch, D.len, D.fr.setL D.cell rfl rfl, D.st, ⟨by simp only; rw [List.length_set]; exact D.sz.1, D.sz.2⟩, D.oth⟩
theorem Mid.retire (D : Mid k σ r v jc g key h cl xs R) : Btw k ⟨σ.L.set jc ⟨⟨key, zH, true, true⟩, g, true⟩, σ.sl, σ.V, σ.sv, σ.rs⟩ r v (R ++ R3 xs ++ [⟨4, ⟨jc, g⟩⟩]) := by
  refine ⟨D.ok.setL D.cell rfl rfl ⟨[], rfl, by simp⟩, D.rs, (D.fr.setL (s' := ⟨⟨key, zH, true, true⟩, g, true⟩) D.cell rfl rfl).perm ?_, D.st, ⟨by simp only; rw [List.length_set]; exact D.sz.1, D.sz.2⟩, D.oth⟩
  refine List.Perm.trans (List.perm_middle.trans (.cons _ List.perm_append_comm)) ?_
  exact (List.perm_append_singleton _ _).symm
/-- Prune where the newest is a deletion at the mark. -/
theorem mid_prune {mark : Int} (D : Mid k σ r v jc g key h false xs R) (hnz : h ≠ zH) (ha : ∀ z ∈ xs.map (·.2.has), z.tS ≤ mark) (hd : ∃ z l, xs.map (·.2.has) = z :: l ∧ z.del = true) (H : One w0 w (EpA e ε :: HpA b e σ :: M)) :
    Calls Try.prog 14 #[.pointer (some ⟨b, 0, none⟩), .agg #[.int .i64 jc, .int .i64 g], .int .i64 mark] w fun e' w' => e' = .returned (.tuple #[.int .i64 0, .bool true, .int .i64 0]) ∧ One w0 w' (EpA e ε :: HpA b e ⟨σ.L.set jc ⟨⟨key, h, true, false⟩, g, true⟩, σ.sl, σ.V, σ.sv, σ.rs⟩ :: M) := by
  have hK : (pruneS mark (xs.map (·.2.has))).1 = [] := by
    obtain ⟨z, l, e, hz⟩ := hd
    rw [e] at ha ⊢
    have := prune_split (mark := mark) (A := []) (B := z :: l) (by simp) ha
    rw [List.nil_append] at this
    rw [this]
    simp [hz]
  have hl := D.len
  exact H.heap (fun c d F1 hp => prune_close_h (s := ⟨⟨key, h, false, false⟩, g, true⟩) mark hp D.cell rfl D.ch (by omega) rfl hnz hK)
theorem mid_closed (y : Ve) (D : Mid k σ r v jc g key h true xs R) (H : One w0 w (EpA e ε :: HpA b e σ :: M)) : Calls Try.prog 13 #[.pointer (some ⟨b, 0, none⟩), .int .i64 0, .agg #[.int .i64 jc, .int .i64 g], vev y] w (fun e' w' => e' = .returned (.int .i64 160) ∧ One w0 w' (EpA e ε :: HpA b e σ :: M)) :=
  H.still (fun c d F1 hp => install_closed (i := 0) (r := ⟨true, r, v⟩) (s := ⟨⟨key, h, true, false⟩, g, true⟩) hp D.ok.rs (by decide) D.rs rfl D.cell rfl rfl)
theorem mid_reopen (D : Mid k σ r v jc g key h true xs R) (H : One w0 w (EpA e ε :: HpA b e σ :: M)) : Calls Try.prog 17 #[.pointer (some ⟨b, 0, none⟩), .agg #[.int .i64 jc, .int .i64 g]] w (fun e' w' => e' = .returned (.int .i64 0) ∧ One w0 w' (EpA e ε :: HpA b e ⟨σ.L.set jc ⟨⟨key, h, false, false⟩, g, true⟩, σ.sl, σ.V, σ.sv, σ.rs⟩ :: M)) :=
  H.heap (fun c d F1 hp => reopen_good_h (s := ⟨⟨key, h, true, false⟩, g, true⟩) hp D.cell rfl)
theorem mid_kept (D : Mid k σ r v jc g key h false xs R) (H : One w0 w (EpA e ε :: HpA b e σ :: M)) : Calls Try.prog 17 #[.pointer (some ⟨b, 0, none⟩), .agg #[.int .i64 jc, .int .i64 g]] w (fun e' w' => e' = .returned (.int .i64 162) ∧ One w0 w' (EpA e ε :: HpA b e ⟨σ.L.set jc ⟨⟨key, h, false, false⟩, g, true⟩, σ.sl, σ.V, σ.sv, σ.rs⟩ :: M)) :=
  H.heap (fun c d F1 hp => reopen_good_h (s := ⟨⟨key, h, false, false⟩, g, true⟩) hp D.cell rfl)
theorem mid_retire (D : Mid k σ r v jc g key h true xs R) (hf : ε.Fit) (hrow : ∀ j, (ε.row j).length ≤ 90000000) (H : One w0 w (EpA e ε :: HpA b e σ :: M)) : Calls Try.prog 18 #[.pointer (some ⟨b, 0, none⟩), .agg #[.int .i64 jc, .int .i64 g]] w (fun e' w' => e' = .returned (.int .i64 0) ∧ One w0 w' (EpA e ((ε.retires (xs.map (·.1))).retire ⟨4, ⟨jc, g⟩⟩) :: HpA b e ⟨σ.L.set jc ⟨⟨key, zH, true, true⟩, g, true⟩, σ.sl, σ.V, σ.sv, σ.rs⟩ :: M)) :=
  have hl := D.len
  H.both (fun c d F1 hp => retire_h (s := ⟨⟨key, h, true, false⟩, g, true⟩) hp hf D.cell rfl rfl rfl D.ch (by omega) hrow)
end
section
variable {b c d e : Nat} {σ : Hps} {w w' : World} {F : Nat → Prop}
set_option maxRecDepth 100000 in
set_option maxHeartbeats 2000000 in
theorem retire_kept_h {i : Nat} {s : Slot Cl} (h : Pw F w w' (HpL b c d e σ)) (hs : σ.L[i]? = some s) (hg : s.given = true) (hc : s.has.closed = false ∨ s.has.retired = true) :
    Calls Try.prog 18 #[.pointer (some ⟨b, 0, none⟩), .agg #[.int .i64 i, .int .i64 s.gen]] w' fun e' w'' => e' = .returned (.int .i64 162) ∧ KN w' w'' := by
  have hk := kn_alloc w' (.cells #[.int .i64 i, .int .i64 s.gen] 36)
  have HG := Lib.hid (get_good_h (h.kn hk) hs hg)
  obtain ⟨x0, x1, _, _⟩ := cells2 (heap_alloc_same w' (.cells #[.int .i64 i, .int .i64 s.gen] 36))
  have HK := Lib.hid hk
  clear h hs hg hk
  obtain ⟨⟨key, nw, closed, retired⟩, gen, given⟩ := s
  simp only at HG x0 x1 hc
  cases closed with
  | false =>
    clear hc
    go_enter Try.func18, Try.ntmps18
    go_wp2_with (go_at_call 42; refine HG.out.mono ?_; rintro e w3 ⟨rfl, k3⟩)
    go_ret
    exact ⟨rfl, (HK.out.trans k3 (fun _ h => h.elim)).alloc _⟩
  | true =>
    obtain rfl : retired = true := by
      rcases hc with h | h
      · cases h
      · exact h
    clear hc
    go_enter Try.func18, Try.ntmps18
    go_wp2_with (go_at_call 42; refine HG.out.mono ?_; rintro e w3 ⟨rfl, k3⟩)
    go_ret
    exact ⟨rfl, (HK.out.trans k3 (fun _ h => h.elim)).alloc _⟩
end
theorem count3 (R : List Re) (xs : List (Hd × No)) (c : Hd) : (R ++ R3 xs ++ [(⟨4, c⟩ : Re)]).countP (fun x : Re => x.kind == 3) = R.countP (fun x : Re => x.kind == 3) + xs.length ∧ (R ++ R3 xs ++ [(⟨4, c⟩ : Re)]).countP (fun x : Re => x.kind == 4) = R.countP (fun x : Re => x.kind == 4) + 1 ∧ (R ++ R3 xs ++ [(⟨4, c⟩ : Re)]).length = R.length + xs.length + 1 := by
  refine ⟨?_, ?_, by simp [R3]; omega⟩
  · rw [List.countP_append, List.countP_append, List.countP_map]
    have : xs.countP ((fun x : Re => x.kind == 3) ∘ fun x : Hd × No => (⟨3, x.1⟩ : Re)) = xs.length := List.countP_eq_length.2 (fun x _ => rfl)
    rw [this]
    simp
  · rw [List.countP_append, List.countP_append, List.countP_map]
    have : xs.countP ((fun x : Re => x.kind == 4) ∘ fun x : Hd × No => (⟨3, x.1⟩ : Re)) = 0 := List.countP_eq_zero.2 (fun x _ => by simp)
    rw [this]
    simp
theorem put_gt {l : List Ve} {y : Ve} (hl : l.length < 1024) (hh : ∀ z ∈ l, z.tS < y.tS) (h1 : 1 ≤ y.tS ∧ y.tS ≤ 1000000) (hs : y.value.size ≤ 256 ∧ (y.del = true → y.value.size = 0)) : putV l y = 0 := by
  obtain ⟨t, s, d⟩ := y
  simp only at hh h1 hs
  have hm : mayV ⟨t, s, d⟩ = true := by
    unfold mayV
    cases d with
    | true => have := hs.2 rfl; simp only [Bool.and_eq_true, decide_eq_true_eq, Bool.not_true, Bool.false_or]; omega
    | false => simp only [Bool.and_eq_true, decide_eq_true_eq, Bool.not_false, Bool.true_or, and_true]; omega
  have hd : headLe l ⟨t, s, d⟩ = false := by
    cases l with
    | nil => rfl
    | cons z l =>
      have := hh z (List.mem_cons_self ..)
      unfold headLe
      simp only [decide_eq_false_iff_not]
      omega
  unfold putV
  rw [hm, hd, if_neg (by simp), if_neg (by simp), if_neg (by omega)]
/-- What is reserved in the end: nothing. -/
theorem sum_none {f : Rsv → Int} (h0 : f ⟨false, 0, 0⟩ = 0) : ∀ {l : List Rsv}, (∀ r ∈ l, r = ⟨false, 0, 0⟩) → sumOf f l = 0
  | [], _ => rfl
  | r :: l, h => by
    rw [sumOf, h r (List.mem_cons_self ..), h0, sum_none h0 (fun q hq => h q (List.mem_cons_of_mem _ hq))]
    rfl
theorem room_none {σ : Hps} (h : ∀ r ∈ σ.rs, r = ⟨false, 0, 0⟩) (hL : liveOf σ.L = 0) (hV : liveOf σ.V = 0) : σ.room = ((σ.L.length : Int), (σ.V.length : Int)) := by
  unfold Hps.room
  rw [room_eq, room_eq, sum_none rfl h, sum_none rfl h, hL, hV]
  simp
/-- The epoch while nothing is answered. -/
def epR (R : List Re) : Eps := ⟨1, List.replicate 17 0, [[], R, []]⟩
theorem epR_fit (R : List Re) : (epR R).Fit := ⟨by simp [epR], by simp [epR], by simp [epR], rfl, by intro x hx; rw [List.eq_of_mem_replicate hx]; decide⟩
theorem epR_retire (R : List Re) (x : Re) : (epR R).retire x = epR (R ++ [x]) := rfl
theorem epR_retires : ∀ (l : List Hd) (R : List Re), (epR R).retires l = epR (R ++ l.map fun h => ⟨3, h⟩)
  | [], R => by simp [Eps.retires]
  | h :: l, R => by
    show ((epR R).retire ⟨3, h⟩).retires l = _
    rw [epR_retire, epR_retires l]
    simp
theorem epR_row (R : List Re) (j : Nat) : ((epR R).row j).length ≤ R.length := by
  unfold epR Eps.row
  match j with
  | 0 => simp
  | 1 => exact Nat.le_refl _
  | 2 => simp
  | j + 3 => simp
def epR2 (R : List Re) : Eps := ⟨2, List.replicate 17 0, [[], R, []]⟩
def epR3 : Eps := ⟨3, List.replicate 17 0, [[], [], []]⟩
theorem epR2_fit (R : List Re) : (epR2 R).Fit := ⟨by simp [epR2], by simp [epR2], by simp [epR2], rfl, by intro x hx; rw [List.eq_of_mem_replicate hx]; decide⟩
theorem epR3_fit : epR3.Fit := ⟨by decide, by decide, by decide, by decide, by intro x hx; rw [List.eq_of_mem_replicate hx]; decide⟩
theorem held0 (n : Nat) (ls : List (List Re)) : (⟨n, List.replicate 17 0, ls⟩ : Eps).held = false := by
  unfold Eps.held
  simp [List.replicate]
theorem epR_adv (R : List Re) : (epR R).advance = (epR2 R, [], 0) := by
  unfold Eps.advance
  rw [show (epR R).held = false from held0 _ _, if_neg (by simp)]
  simp [epR, epR2, Eps.row]
theorem epR2_adv (R : List Re) : (epR2 R).advance = (epR3, R, 0) := by
  unfold Eps.advance
  rw [show (epR2 R).held = false from held0 _ _, if_neg (by simp)]
  simp [epR2, epR3, Eps.row]
theorem One.adv' {w0 w : World} {A : List Asr} {b : Nat} {σ : Eps} (h : One w0 w (EpA b σ :: A)) (hf : σ.Fit) : Calls Try.prog 21 #[.pointer (some ⟨b, 0, none⟩)] w fun e w' => ∃ a cap, e = .returned (.tuple #[.slice a σ.advance.2.1.length cap, .int .i64 σ.advance.2.2]) ∧
    One w0 w' (EpA b σ.advance.1 :: RowA 59 3 (.slice a σ.advance.2.1.length cap) σ.advance.2.1.length (σ.advance.2.1.flatMap Re.enc) :: A) :=
  (h.adv 0 rfl hf).mono fun e w' ⟨a, cap, he, ho⟩ => ⟨a, cap, he, One.flat ho⟩
end Go.Proofs.Ytinejaganickpaa
