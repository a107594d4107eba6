/- Arenas of texts: All. -/
import Derived.Test.YthbiohfnnjbbgaaArenaIt
namespace Go.Proofs.Ythbiohfnnjbbgaa
set_option linter.unusedVariables false
set_option linter.unusedSimpArgs false
open Go Go.RowKit

theorem flat_get {α : Type} {enc : α → List Value} {sz : Nat} (hl : ∀ x, (enc x).length = sz) : ∀ (l : List α) (i : Nat) (x : α), l[i]? = some x → ∀ (j : Nat) (u : Value), (enc x)[j]? = some u → (l.flatMap enc)[i * sz + j]? = some u
  | [], i, x, h, j, u, hu => by simp at h
  | y :: l, 0, x, h, j, u, hu => by
    simp at h; subst h
    rw [List.flatMap_cons, Nat.zero_mul, Nat.zero_add, List.getElem?_append_left (List.getElem?_eq_some_iff.1 hu).1]
    exact hu
  | y :: l, i + 1, x, h, j, u, hu => by
    rw [List.flatMap_cons, List.getElem?_append_right (by rw [hl, Nat.succ_mul]; omega), hl, show (i + 1) * sz + j - sz = i * sz + j by rw [Nat.succ_mul]; omega]
    exact flat_get hl l i x (by simpa using h) j u hu
theorem own_row_rd {α : Type} {E sz n : Nat} {w : World} {a : Option Addr} {cap : Nat} {enc : α → List Value} {l : List α} {G : Nat → Prop} (h : (RowA E sz (.slice a n cap) n (l.flatMap enc)).on w G) (hl : ∀ x, (enc x).length = sz) (hn : l.length = n) : RdN G enc sz w a l := by
  obtain ⟨ho, rfl⟩ := h
  intro i x hx
  have hi := (List.getElem?_eq_some_iff.1 hx).1
  obtain ⟨b, off, cap', hv, _, hb, hc⟩ := (Sr.of_own ho).cells (by omega)
  cases hv
  refine ⟨b, off, rfl, rfl, fun j u hu => ?_⟩
  have := hc (i * sz + j) u (flat_get hl l i x hx j u hu)
  rw [Nat.add_assoc]; exact this
theorem encH2 (x : HS) : (encH x).length = 2 := rfl
theorem encS1 (x : HS) : (encS x).length = 1 := rfl
theorem encH_one (x : HS) : ∀ u ∈ encH x, u.oneCell' = true := by
  intro u hu
  simp only [encH, List.mem_cons, List.not_mem_nil, or_false] at hu
  rcases hu with h | h <;> subst h <;> rfl
theorem encS_one (x : HS) : ∀ u ∈ encS x, u.oneCell' = true := by
  intro u hu
  simp only [encS, List.mem_cons, List.not_mem_nil, or_false] at hu
  subst hu; rfl
theorem elt_HS : Elt Try.prog 28 30 (.agg #[.int .i64 0, .int .i64 0]) 2 16 := ⟨Try.underlying28, by kernel_rfl, rfl, by decide⟩
theorem elt_SS : Elt Try.prog 40 9 (.string (ByteArray.mk #[])) 1 16 := ⟨Try.underlying40, by kernel_rfl, rfl, by decide⟩
/-- The four parts are the iterator's. -/
abbrev AllL (b1 b2 : Nat) (a1 a2 : Option Addr) (c1 c2 : Nat) (xs : List HS) : List Asr :=
  [Blk b1 (.cells #[.slice a1 xs.length c1] 28), Blk b2 (.cells #[.slice a2 xs.length c2] 40), RowA 30 2 (.slice a1 xs.length c1) xs.length (xs.flatMap encH), RowA 9 1 (.slice a2 xs.length c2) xs.length (xs.flatMap encS)]
theorem all_of {b1 b2 : Nat} {a1 a2 : Option Addr} {c1 c2 : Nat} {xs : List HS} {w : World} {F : Nat → Prop} (h : (All (AllL b1 b2 a1 a2 c1 c2 xs)).on w F) : (AllA b1 b2 xs).on w F := by
  have hlt := (All (AllL b1 b2 a1 a2 c1 c2 xs)).lt h
  obtain ⟨G1, r1, ⟨h1, e1⟩, ⟨G2, r2, ⟨h2, e2⟩, ⟨G3, r3, h3, ⟨G4, r4, h4, _, _, hF4⟩, _, hF3⟩, _, hF2⟩, _, hF⟩ := h
  have q1 : F b1 := (hF b1).2 (.inl (by rw [e1]))
  have q2 : F b2 := (hF b2).2 (.inr ((hF2 b2).2 (.inl (by rw [e2]))))
  have q3 : ∀ b, G3 b → F b := fun b hb => (hF b).2 (.inr ((hF2 b).2 (.inr ((hF3 b).2 (.inl hb)))))
  have q4 : ∀ b, G4 b → F b := fun b hb => (hF b).2 (.inr ((hF2 b).2 (.inr ((hF3 b).2 (.inr ((hF4 b).2 (.inl hb)))))))
  refine ⟨⟨⟨a1, c1, a2, c2, ⟨(cells1 h1).1, (cells1 h2).1⟩, (own_row_rd h3 encH2 rfl).mono q3, (own_row_rd h4 encS1 rfl).mono q4⟩, q1, q2⟩, hlt⟩
/-- What is given, below k, by the slots. -/
def allTo (l : List (Slot ByteArray)) (k : Nat) : List HS := (List.range k).filterMap fun i : Nat => (l[i]?).bind fun s => if s.given then some (((i : Int), s.gen), s.has) else none
def allOf (l : List (Slot ByteArray)) : List HS := allTo l l.length
theorem all_step {l : List (Slot ByteArray)} {k : Nat} {s : Slot ByteArray} (h : l[k]? = some s) : allTo l (k + 1) = if s.given then allTo l k ++ [(((k : Int), s.gen), s.has)] else allTo l k := by
  unfold allTo
  rw [List.range_succ, List.filterMap_append]
  cases hg : s.given <;> simp [h, hg]
theorem all_le (l : List (Slot ByteArray)) (k : Nat) : (allTo l k).length ≤ k := by
  unfold allTo
  exact Nat.le_trans (List.length_filterMap_le _ _) (by simp)
def AllGave (xs : List HS) (w : World) (e : Ending) (w' : World) : Prop :=
  ∃ b1 b2, e = .returned (.func (.func 52) #[] #[.pointer (some ⟨b1, 0, none⟩), .pointer (some ⟨b2, 0, none⟩)]) ∧ Post (AllA b1 b2 xs) (fun _ => False) w w'
theorem rl_s {w : World} {g : Nat} {h : Int × Int} {s : ByteArray} {fr : Nat × Nat} {T : TypeId} {cap : Nat} (hb : w.heap[g]? = some (.cells #[.string s] T fr)) (hc : 1 ≤ cap := by decide) : Rl encS 1 w (.slice (some ⟨g, 0, none⟩) 1 cap) [(h, s)] := by
  refine ⟨_, cap, rfl, hc, .inr ⟨g, 0, rfl, lt_blk hb, fun i x hx j hj => ?_⟩⟩
  match i, hx with
  | 0, hx =>
    simp at hx; subst hx
    match j, hj with
    | 0, _ => exact cell_blk hb rfl
theorem rl_h {w : World} {g : Nat} {a b : Int} {s : ByteArray} {fr : Nat × Nat} {T : TypeId} {cap : Nat} (h : w.heap[g]? = some (.cells #[.int .i64 a, .int .i64 b] T fr)) (hc : 1 ≤ cap := by decide) : Rl encH 2 w (.slice (some ⟨g, 0, none⟩) 1 cap) [((a, b), s)] := by
  refine ⟨_, cap, rfl, hc, .inr ⟨g, 0, rfl, lt_blk h, fun i x hx j hj => ?_⟩⟩
  match i, hx with
  | 0, hx =>
    simp at hx; subst hx
    match j, hj with
    | 0, _ => exact cell_blk h rfl
    | 1, _ => exact cell_blk h rfl
set_option maxHeartbeats 4000000 in
theorem all_a {t : Nat} {l : List (Slot ByteArray)} {st : Int} {w : World} {F : Nat → Prop} (h : (ArS t l st).on w F) (hm : l.length ≤ 65536) : Calls Try.prog 40 #[.pointer (some ⟨t, 0, none⟩)] w (AllGave (allOf l) w) := by
  obtain ⟨sb, m, cx, v, arr, ha, hp⟩ := ar_here_S h
  have HC := Lib.hid (fun (W : World) (k : KN w W) => none_S (hp.kn k))
  have HAt := Lib.hid (fun (W : World) (k : KN w W) => (hp.kn k).atS.1.1)
  have HSl := Lib.hid (fun (W : World) (k : KN w W) (i : Nat) (s : Slot ByteArray) (hs : l[i]? = some s) => (hp.kn k).slotS ha hs)
  clear h hp ha
  have hmf : ∀ (fn : Fn) (first cap : Array Value) (w : World), (Instr.makeFunc fn first cap).run Try.prog w = .ok (.func fn first cap) w := fun _ _ _ _ => rfl
  go_enter Try.func40, Try.ntmps40
  go_upto_region 3 with fail
  have HO := Lib.hid (show One w ((w.alloc (.cells #[.slice none 0 0] 28)).alloc (.cells #[.slice none 0 0] 40)) (AllL w.heap.size (w.heap.size + 1) none none 0 0 (allTo l 0)) from
    ((((One.nil w).nilRow 9 1).nilRow 30 2).alloc2 (.cells #[.slice none 0 0] 28) (.cells #[.slice none 0 0] 40)).perm (List.Perm.swap _ _ _))
  generalize (w.alloc (.cells #[.slice none 0 0] 28)).alloc (.cells #[.slice none 0 0] 40) = W at *
  generalize w.heap.size = g at *
  have c0 := HAt.out _ HO.out.old
  go_wp2_with (first | (go_at_call 32; refine (HC.out _ HO.out.old).mono ?_; rintro e w' ⟨rfl, rfl⟩))
  go_loopw [15] (fun i wr => ∃ (n : Nat) (a1 : Option Addr) (c1 : Nat) (a2 : Option Addr) (c2 : Nat), n ≤ l.length ∧ i = .int .i64 n ∧ Hid (One w wr (AllL g (g + 1) a1 a2 c1 c2 (allTo l n)))) (fun i _ => l.length - (intOf i).toNat)
  case atStart => exact ⟨0, none, 0, none, 0, Nat.zero_le _, rfl, HO⟩
  case round =>
    clear HC HO c0
    obtain ⟨n, a1, c1, a2, c2, hn, rfl, HO⟩ := hrel
    by_cases hlt : n < l.length
    · obtain ⟨s, hs⟩ : ∃ s, l[n]? = some s := ⟨_, List.getElem?_eq_getElem hlt⟩
      obtain ⟨p0, p1, p2⟩ := HSl.out _ HO.out.old n s hs
      have HStp := Lib.hid (all_step hs)
      have hle := all_le l n
      have hz : (n : Int) < (l.length : Int) := by omega
      clear hs
      obtain ⟨sh, sg, sv⟩ := s
      simp only at p0 p1 p2 HStp
      go_upto_region 7 with fail
      have HO1 := Lib.hid (HO.out.alloc (.cells #[.string sh, .int .i64 sg, .bool sv] 84))
      clear HO p0 p1 p2
      generalize wr.alloc (.cells #[.string sh, .int .i64 sg, .bool sv] 84) = w1 at *
      generalize wr.heap.size = gx at *
      obtain ⟨x0, x1, x2, _⟩ := cells3 (HO1.out.blk 0 rfl).1
      cases sv with
      | false =>
        simp only [Bool.false_eq_true, if_false] at HStp
        go_wp2_with fail
        go_roundw
        case rel => exact ⟨n + 1, a1, c1, a2, c2, by omega, by go_num, by rw [HStp.out]; exact Lib.hid HO1.out.drop⟩
        case measure => simp [intOf]; omega
      | true =>
        simp only [if_true] at HStp
        generalize allTo l n = xs at *
        obtain ⟨q0, qf⟩ := cells1 (HO1.out.blk 1 rfl).1
        have HA := Lib.hid ((HO1.out.alloc (.cells #[.int .i64 n, .int .i64 sg] 30)).appP (P := Try.prog) (m := [(((n : Int), sg), sh)]) elt_HS 28 4 rfl encH2 (rl_h (heap_alloc_same _ _) (cap := 1)) encH_one (by unfold maxLen; simp only [List.length_singleton]; omega) (by simp only [List.length_singleton]; omega))
        simp only [List.length_singleton, List.set_cons_zero, List.set_cons_succ] at HA
        go_upto_region 9 with (at_builtin; refine wpList_appX 28 rfl rfl rfl rfl (v := .slice a1 xs.length c1) (s := .slice (some ⟨w1.heap.size, 0, none⟩) 1 1) rfl rfl HA.out ?_; rintro r w2 ⟨a3, c3, rfl, ho⟩; have HO2 := Lib.hid ho.drop; obtain ⟨q1, qf1⟩ := cells1 (HO2.out.blk 1 rfl).1; clear ho)
        have HO3 := Lib.hid (HO2.out.setCA 1 rfl (j := 0) (.slice a3 (xs.length + 1) c3))
        clear HO1 HO2 HA x0 x1 x2 q0 qf q1 qf1
        generalize w2.setCell ⟨g, 0, none⟩ (.slice a3 (xs.length + 1) c3) = w3 at *
        obtain ⟨x0, x1, x2, _⟩ := cells3 (HO3.out.blk 0 rfl).1
        obtain ⟨q0, qf⟩ := cells1 (HO3.out.blk 2 rfl).1
        have HA := Lib.hid ((HO3.out.alloc (.cells #[.string sh] 9)).appP (P := Try.prog) (m := [(((n : Int), sg), sh)]) elt_SS 40 5 rfl encS1 (rl_s (heap_alloc_same _ _) (cap := 1)) encS_one (by unfold maxLen; simp only [List.length_singleton]; omega) (by simp only [List.length_singleton]; omega))
        simp only [List.length_singleton, List.set_cons_zero, List.set_cons_succ] at HA
        go_wp2_with (at_builtin; refine wpList_appX 33 rfl rfl rfl rfl (v := .slice a2 xs.length c2) (s := .slice (some ⟨w3.heap.size, 0, none⟩) 1 1) rfl rfl HA.out ?_; rintro r w4 ⟨a4, c4, rfl, ho⟩; have HO4 := Lib.hid ho.drop; obtain ⟨q1, qf1⟩ := cells1 (HO4.out.blk 2 rfl).1; clear ho)
        have HO5 := Lib.hid (One.drop (HO4.out.setCA 2 rfl (j := 0) (.slice a4 (xs.length + 1) c4)))
        go_roundw
        case rel =>
          refine ⟨n + 1, a3, c3, a4, c4, by omega, by go_num, ?_⟩
          rw [HStp.out]
          unfold AllL
          rw [List.length_append, List.flatMap_append, List.flatMap_append]
          exact HO5
        case measure => simp [intOf]; omega
    · obtain rfl : n = l.length := by omega
      go_wp2_with fail
      go_ret
      have hq := (One.all (l1 := AllL g (g + 1) a1 a2 c1 c2 (allTo l l.length)) (l2 := [])).1 (by rw [List.append_nil]; exact HO.out)
      exact ⟨g, g + 1, rfl, (One.imp hq (fun F h => all_of h)).post 0 rfl⟩
end Go.Proofs.Ythbiohfnnjbbgaa
