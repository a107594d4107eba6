/- Epochs: Limbo. -/
import Derived.Test.YtinejaganickpaaEpochI
namespace Go.Proofs.Ytinejaganickpaa
set_option linter.unusedVariables false
set_option linter.unusedSimpArgs false
open Go Go.RowKit

theorem flat_get {α : Type} {enc : α → List Value} {sz : Nat} (hl : ∀ x, (enc x).length = sz) : ∀ (l : List α) (i : Nat) (x : α), l[i]? = some x → ∀ (j : Nat) (u : Value), (enc x)[j]? = some u → (l.flatMap enc)[i * sz + j]? = some u
  | [], i, x, h, j, u, hu => by simp at h
  | y :: l, 0, x, h, j, u, hu => by
    simp at h; subst h
    rw [List.flatMap_cons, Nat.zero_mul, Nat.zero_add, List.getElem?_append_left (List.getElem?_eq_some_iff.1 hu).1]
    exact hu
  | y :: l, i + 1, x, h, j, u, hu => by
    rw [List.flatMap_cons, List.getElem?_append_right (by rw [hl, Nat.succ_mul]; omega), hl, show (i + 1) * sz + j - sz = i * sz + j by rw [Nat.succ_mul]; omega]
    exact flat_get hl l i x (by simpa using h) j u hu
theorem own_row_rd {α : Type} {E sz n : Nat} {w : World} {a : Option Addr} {cap : Nat} {enc : α → List Value} {l : List α} {G : Nat → Prop} (h : (RowA E sz (.slice a n cap) n (l.flatMap enc)).on w G) (hl : ∀ x, (enc x).length = sz) (hn : l.length = n) : RdN G enc sz w a l := by
  obtain ⟨ho, rfl⟩ := h
  intro i x hx
  have hi := (List.getElem?_eq_some_iff.1 hx).1
  obtain ⟨b, off, cap', hv, _, hb, hc⟩ := (Sr.of_own ho).cells (by omega)
  cases hv
  refine ⟨b, off, rfl, rfl, fun j u hu => ?_⟩
  have := hc (i * sz + j) u (flat_get hl l i x hx j u hu)
  rw [Nat.add_assoc]; exact this
theorem encR3 (x : PW) : (encR x).length = 3 := rfl
theorem encT1 (x : PW) : (encT x).length = 1 := rfl
theorem elt_T : Elt Try.prog 151 2 (.int .i64 0) 1 8 := ⟨Try.underlying151, by kernel_rfl, rfl, by decide⟩
/-- The four parts are the iterator's. -/
abbrev LimL (b1 b2 : Nat) (a1 a2 : Option Addr) (c1 c2 : Nat) (xs : List PW) : List Asr :=
  [Blk b1 (.cells #[.slice a1 xs.length c1] 55), Blk b2 (.cells #[.slice a2 xs.length c2] 151), RowA 59 3 (.slice a1 xs.length c1) xs.length (xs.flatMap encR), RowA 2 1 (.slice a2 xs.length c2) xs.length (xs.flatMap encT)]
theorem lim_of {b1 b2 : Nat} {a1 a2 : Option Addr} {c1 c2 : Nat} {xs : List PW} {w : World} {F : Nat → Prop} (h : (All (LimL b1 b2 a1 a2 c1 c2 xs)).on w F) : (LimA b1 b2 xs).on w F := by
  have hlt := (All (LimL b1 b2 a1 a2 c1 c2 xs)).lt h
  obtain ⟨G1, r1, ⟨h1, e1⟩, ⟨G2, r2, ⟨h2, e2⟩, ⟨G3, r3, h3, ⟨G4, r4, h4, _, _, hF4⟩, _, hF3⟩, _, hF2⟩, _, hF⟩ := h
  have q1 : F b1 := (hF b1).2 (.inl (by rw [e1]))
  have q2 : F b2 := (hF b2).2 (.inr ((hF2 b2).2 (.inl (by rw [e2]))))
  have q3 : ∀ b, G3 b → F b := fun b hb => (hF b).2 (.inr ((hF2 b).2 (.inr ((hF3 b).2 (.inl hb)))))
  have q4 : ∀ b, G4 b → F b := fun b hb => (hF b).2 (.inr ((hF2 b).2 (.inr ((hF3 b).2 (.inr ((hF4 b).2 (.inl hb)))))))
  refine ⟨⟨⟨a1, c1, a2, c2, ⟨(cells1 h1).1, (cells1 h2).1⟩, (own_row_rd h3 encR3 rfl).mono q3, (own_row_rd h4 encT1 rfl).mono q4⟩, q1, q2⟩, hlt⟩
/-- What waits, up to (not with) epoch n. -/
def Eps.upto (σ : Eps) (n : Nat) : List PW := (List.range' (σ.now - 2) (n - (σ.now - 2))).flatMap fun m => (σ.row (m % 3)).map fun x => ((m : Int), x)
def Eps.limbo (σ : Eps) : List PW := σ.upto (σ.now + 1)
theorem upto_lo (σ : Eps) : σ.upto (σ.now - 2) = [] := by unfold Eps.upto; simp
theorem upto_step (σ : Eps) {n : Nat} (h : σ.now - 2 ≤ n) : σ.upto (n + 1) = σ.upto n ++ (σ.row (n % 3)).map fun x => ((n : Int), x) := by
  unfold Eps.upto
  rw [show n + 1 - (σ.now - 2) = (n - (σ.now - 2)) + 1 by omega, List.range'_concat, List.flatMap_append]
  congr 1
  simp only [List.flatMap_cons, List.flatMap_nil, List.append_nil, Nat.one_mul]
  rw [show σ.now - 2 + (n - (σ.now - 2)) = n by omega]
theorem upto_le (σ : Eps) {m n : Nat} (h : m ≤ n) : (σ.upto m).length ≤ (σ.upto n).length := by
  induction n with
  | zero => have : m = 0 := by omega
            subst this; exact Nat.le_refl _
  | succ n ih =>
    by_cases e : m = n + 1
    · subst e; exact Nat.le_refl _
    · have h1 := ih (by omega)
      by_cases hlo : σ.now - 2 ≤ n
      · rw [upto_step σ hlo, List.length_append]; omega
      · unfold Eps.upto at h1 ⊢
        rw [show n + 1 - (σ.now - 2) = 0 by omega]
        rw [show n - (σ.now - 2) = 0 by omega] at h1
        exact h1
/-- A row as it reads, in all worlds to come. -/
theorem EpA.reads {b : Nat} {σ : Eps} {w : World} {F : Nat → Prop} (h : (EpA b σ).on w F) (hf : σ.Fit) {j : Nat} (hj : j < 3) : ∃ a cap, w.cell? ⟨b, 18 + j, none⟩ = some (.slice a (σ.row j).length cap) ∧ Rd Re.enc 3 w a (σ.row j) := by
  obtain ⟨ps, rs, r, h1, h2, hr, hrl, he, c0, cj, fr, hbw⟩ := EpA.lim h hf hj
  obtain ⟨F1, hrow, _⟩ := EpO.row he (by rw [h1, hf.xlen]) hr
  obtain ⟨a, cap, hv, hc, hrd⟩ := Rl.of_row (l := r.2.2) enc3 rfl hrow
  injection hv with e1 e2 e3
  refine ⟨r.1, r.2.1, ?_, by rw [← hrl, e1]; exact hrd⟩
  rw [cj, ← hrl]; rfl
def LimGave (xs : List PW) (w : World) (e : Ending) (w' : World) : Prop :=
  ∃ b1 b2, e = .returned (.func (.func 75) #[] #[.pointer (some ⟨b1, 0, none⟩), .pointer (some ⟨b2, 0, none⟩)]) ∧ Post (LimA b1 b2 xs) (fun _ => False) w w'
set_option maxHeartbeats 4000000 in
theorem limbo_a {b : Nat} {σ : Eps} {w : World} {F : Nat → Prop} (h : (EpA b σ).on w F) (hf : σ.Fit) (hlen : σ.limbo.length ≤ 9000000) : Calls Try.prog 61 #[.pointer (some ⟨b, 0, none⟩)] w (LimGave σ.limbo w) := by
  have HC := Lib.hid (fun W (k : KN w W) => none_a ((EpA b σ).kn h k) hf)
  have HT := Lib.hid h
  have HF := Lib.hid hf
  have HL := Lib.hid hlen
  have ht := hf.top
  clear h hf hlen
  have hmf : ∀ (fn : Fn) (first cap : Array Value) (w : World), (Instr.makeFunc fn first cap).run Try.prog w = .ok (.func fn first cap) w := fun _ _ _ _ => rfl
  have hmx : max (0 : Int) ((σ.now : Int) - 2) = ((σ.now - 2 : Nat) : Int) := by omega
  go_enter Try.func61, Try.ntmps61
  go_upto_region 3 with fail
  have HO := Lib.hid ((((One.nil w).nilRow 2 1).nilRow 59 3).alloc2 (.cells #[.slice none 0 0] 151) (.cells #[.slice none 0 0] 55))
  generalize (w.alloc (.cells #[.slice none 0 0] 151)).alloc (.cells #[.slice none 0 0] 55) = W at *
  generalize w.heap.size = g at *
  have c0 : W.cell? ⟨b, 0, none⟩ = some (.int .i64 σ.now) := by
    obtain ⟨ps, rs, r, _, _, _, _, _, c0, _⟩ := EpA.lim HT.out HF.out (j := 0) (by decide)
    exact cell_kn c0 HO.out.old
  go_upto_region 4 with (first | (go_at_call 55; refine (HC.out _ HO.out.old).mono ?_; rintro e w' ⟨rfl, rfl⟩))
  go_cut [5] (fun s wx => s = .int .i64 ((σ.now - 2 : Nat) : Int) ∧ wx = W)
  case first =>
    go_wp2_with fail
    · go_meet
      exact ⟨by go_num, rfl⟩
    · go_meet
      exact ⟨by go_num, rfl⟩
  case rest =>
    obtain ⟨rfl, rfl⟩ := hcut
    go_wp2_with fail
    go_loopw [5] (fun i wr => ∃ (n : Nat) (a1 : Option Addr) (c1 : Nat) (a2 : Option Addr) (c2 : Nat), σ.now - 2 ≤ n ∧ n ≤ σ.now + 1 ∧ i = .int .i64 n ∧ Hid (One w wr (LimL (g + 1) g a1 a2 c1 c2 (σ.upto n)))) (fun i _ => σ.now + 1 - (intOf i).toNat)
    case atStart => exact ⟨σ.now - 2, none, 0, none, 0, Nat.le_refl _, by omega, rfl, by rw [upto_lo]; exact Lib.hid (HO.out.perm (by exact .refl _))⟩
    case round =>
      clear HC c0 hmx
      obtain ⟨n, a1, c1, a2, c2, hlo, hhi, rfl, HR⟩ := hrel
      obtain ⟨ps, rs, r, _, _, _, _, _, c0, _⟩ := EpA.lim HT.out HF.out (j := 0) (by decide)
      have c0' := cell_kn c0 HR.out.old
      clear c0
      by_cases hlt : n ≤ σ.now
      · obtain ⟨ar, cr, hcr, hrd⟩ := EpA.reads HT.out HF.out (j := n % 3) (Nat.mod_lt _ (by decide))
        have hcr' := cell_kn hcr HR.out.old
        have HRD := Lib.hid hrd
        have hm : (n : Int).tmod 3 = ((n % 3 : Nat) : Int) := mod3 n
        have hz0 : (0 : Int) ≤ ((n % 3 : Nat) : Int) := by omega
        have hz1 : ((n % 3 : Nat) : Int) < 3 := by omega
        have HS := Lib.hid (upto_step σ hlo)
        have hle : (σ.upto (n + 1)).length ≤ 9000000 := Nat.le_trans (upto_le σ (by omega)) HL.out
        have HLE := Lib.hid hle
        clear hcr hrd hle
        generalize hN : σ.now = N at *
        generalize hrow : σ.row (n % 3) = row at *
        generalize n % 3 = j at *
        generalize σ.upto n = acc at *
        have hrl : row.length ≤ 9000000 := by
          have := HLE.out
          rw [HS.out, List.length_append, List.length_map] at this
          omega
        go_wp2_with fail
        go_loopw [33] (fun i wq => ∃ (k : Nat) (a1 : Option Addr) (c1 : Nat) (a2 : Option Addr) (c2 : Nat), k ≤ row.length ∧ i = .int .i64 k ∧ Hid (One w wq (LimL (g + 1) g a1 a2 c1 c2 (acc ++ (row.take k).map fun x => ((n : Int), x))))) (fun i _ => row.length - (intOf i).toNat)
        case atStart => exact ⟨0, a1, c1, a2, c2, Nat.zero_le _, rfl, by simp only [List.take_zero, List.map_nil, List.append_nil]; exact HR⟩
        case round =>
          clear HR c0' hcr' hm
          obtain ⟨k, a1, c1, a2, c2, hk, rfl, HR⟩ := hrel
          by_cases hlk : k < row.length
          · obtain ⟨x, hx⟩ : ∃ x, row[k]? = some x := ⟨_, List.getElem?_eq_getElem hlk⟩
            obtain ⟨br, orr, rfl, hbr, e0, e1, e2⟩ := rd3 (HRD.out.kn HR.out.old) hx
            have HX := Lib.hid (show acc ++ (row.take (k + 1)).map (fun x => ((n : Int), x)) = (acc ++ (row.take k).map fun x => ((n : Int), x)) ++ [((n : Int), x)] by rw [List.take_add_one, hx]; simp)
            have hac : (acc ++ (row.take k).map fun x => ((n : Int), x)).length + 1 ≤ 9000000 := by
              have := HLE.out
              rw [HS.out] at this
              simp only [List.length_append, List.length_map, List.length_take] at this ⊢
              omega
            have HAC := Lib.hid hac
            clear hx hac
            obtain ⟨xk, ⟨xl, xg⟩⟩ := x
            generalize acc ++ (row.take k).map (fun x => ((n : Int), x)) = xs at *
            simp only at e0 e1 e2
            go_upto_region 10 with fail
            have HR6 := Lib.hid (HR.out.alloc (.cells #[.int .i64 xk, .int .i64 xl, .int .i64 xg] 59))
            clear HR e0 e1 e2
            generalize wr.alloc (.cells #[.int .i64 xk, .int .i64 xl, .int .i64 xg] 59) = w6 at *
            generalize wr.heap.size = g5 at *
            obtain ⟨p0, p1⟩ := cells1 (HR6.out.blk 2 rfl).1
            go_upto_region 11 with (at_builtin; refine wpList_appO 40 rfl rfl rfl rfl elt_T (HR6.out.kn (kn_alloc _ (.cells #[.int .i64 n] 2))) 4 rfl rfl rfl (sr_new (cs := [.int .i64 n]) (heap_alloc_same _ _) rfl (Nat.le_refl _)) (fun u hu => by rw [List.mem_singleton] at hu; subst hu; rfl) (by have := HAC.out; unfold maxLen; omega) (by have := HAC.out; omega) ?_; intro a3 c3 w7 ho7; have HR7 := Lib.hid (show One w w7 [Blk g5 (.cells #[.int .i64 xk, .int .i64 xl, .int .i64 xg] 59), Blk (g + 1) (.cells #[.slice a1 xs.length c1] 55), Blk g (.cells #[.slice a2 xs.length c2] 151), RowA 59 3 (.slice a1 xs.length c1) xs.length (xs.flatMap encR),
              RowA 2 1 (.slice a3 (xs.length + 1) c3) (xs.length + 1) (xs.flatMap encT ++ [.int .i64 n])] from ho7); obtain ⟨q0, q1⟩ := cells1 (HR7.out.blk 2 rfl).1)
            have HR8 := Lib.hid (show One w (w7.setCell ⟨g, 0, none⟩ (.slice a3 (xs.length + 1) c3)) [Blk g5 (.cells #[.int .i64 xk, .int .i64 xl, .int .i64 xg] 59), Blk (g + 1) (.cells #[.slice a1 xs.length c1] 55), Blk g (.cells #[.slice a3 (xs.length + 1) c3] 151), RowA 59 3 (.slice a1 xs.length c1) xs.length (xs.flatMap encR),
              RowA 2 1 (.slice a3 (xs.length + 1) c3) (xs.length + 1) (xs.flatMap encT ++ [.int .i64 n])] from HR7.out.set1 2 rfl _)
            clear HR6 HR7 ho7 p0 p1 q0 q1
            generalize w7.setCell ⟨g, 0, none⟩ (.slice a3 (xs.length + 1) c3) = w8 at *
            obtain ⟨p0, p1⟩ := cells1 (HR8.out.blk 1 rfl).1
            obtain ⟨r0, r1, r2, _⟩ := cells3 (HR8.out.blk 0 rfl).1
            go_wp2_with (at_builtin; refine wpList_appO 44 rfl rfl rfl rfl elt_Re (HR8.out.kn (kn_alloc _ (.cells #[.int .i64 xk, .int .i64 xl, .int .i64 xg] 59))) 3 rfl rfl rfl (sr_new (cs := [.int .i64 xk, .int .i64 xl, .int .i64 xg]) (heap_alloc_same _ _) rfl (Nat.le_refl _)) (fun u hu => by simp at hu; rcases hu with rfl | rfl | rfl <;> rfl) (by have := HAC.out; unfold maxLen; omega) (by have := HAC.out; omega) ?_; intro a4 c4 w9 ho9; have HR9 := Lib.hid (show One w w9 [Blk g5 (.cells #[.int .i64 xk, .int .i64 xl, .int .i64 xg] 59), Blk (g + 1) (.cells #[.slice a1 xs.length c1] 55), Blk g (.cells #[.slice a3 (xs.length + 1) c3] 151), RowA 59 3 (.slice a4 (xs.length + 1) c4) (xs.length + 1) (xs.flatMap encR ++ [.int .i64 xk, .int .i64 xl, .int .i64 xg]),
              RowA 2 1 (.slice a3 (xs.length + 1) c3) (xs.length + 1) (xs.flatMap encT ++ [.int .i64 n])] from ho9); obtain ⟨q0, q1⟩ := cells1 (HR9.out.blk 1 rfl).1)
            go_roundw
            case rel =>
              refine ⟨k + 1, a4, c4, a3, c3, by omega, by go_num, ?_⟩
              have HRa := Lib.hid (One.drop (HR9.out.set1 1 rfl (.slice a4 (xs.length + 1) c4)))
              rw [HX.out]
              unfold LimL
              rw [List.length_append, List.flatMap_append, List.flatMap_append]
              exact HRa
            case measure => simp [intOf]; omega
          · obtain rfl : k = row.length := by omega
            go_wp2_with fail
            go_roundw
            case rel => exact ⟨n + 1, a1, c1, a2, c2, by omega, by omega, by go_num, by rw [HS.out]; simpa only [List.take_length] using HR⟩
            case measure => simp [intOf]; omega
      · obtain rfl : n = σ.now + 1 := by omega
        go_wp2_with fail
        go_ret
        refine ⟨g + 1, g, rfl, ?_⟩
        have hq := (One.all (l2 := [])).1 (show One w wr (LimL (g + 1) g a1 a2 c1 c2 (σ.upto (σ.now + 1)) ++ []) from by rw [List.append_nil]; exact HR.out)
        exact (One.imp hq (fun F h => lim_of h)).post 0 rfl
end Go.Proofs.Ytinejaganickpaa

namespace Go.Proofs.Ytinejaganickpaa
set_option linter.unusedVariables false
set_option linter.unusedSimpArgs false
open Go Go.RowKit Go.Shelf
attribute [local go_sem] Oper.semAt_some

theorem Below.kn' {w w' : World} (h : Below w.heap.size w w') : KN w w' := ⟨h.os, h.tape, h.output, h.size, fun k hk _ => h.block k hk⟩
theorem setCell_other {w : World} {p : Addr} {v : Value} {b : Nat} (h : b ≠ p.block) : (w.setCell p v).heap[b]? = w.heap[b]? := Below.heap_setCell w p v b h
theorem putObj_other {w : World} {D b : Nat} {o : Obj} (h : b ≠ D) : (w.putObj D o).heap[b]? = w.heap[b]? := by
  simp only [World.putObj]
  exact Array.getElem?_setIfInBounds_ne (Ne.symm h)
theorem below_putO {B D : Nat} {a w : World} {o : Obj} (h : Below B a w) (hD : B ≤ D) : Below B a (w.putObj D o) :=
  h.trans ⟨rfl, rfl, rfl, by simp [World.putObj], fun k hk => putObj_other (by omega)⟩
theorem keepsFrom_setC {B : Nat} {W X : World} (h : KeepsFrom B W X) {g i : Nat} (v : Value) (hg : g < B) : KeepsFrom B W (X.setCell ⟨g, i, none⟩ v) :=
  ⟨by simp only [World.setCell, World.putObj] at *; have := h.size; simp [World.setCell]; exact this, fun k o hk ho hc => (Below.heap_setCell _ _ _ _ (by simp; omega)).trans (h.same k o hk ho hc)⟩
theorem kpg_setC {G : Nat → Prop} {W X : World} (h : KpG G W X) {g i : Nat} (v : Value) (hg : ¬ G g) : KpG G W (X.setCell ⟨g, i, none⟩ v) :=
  ⟨by have := h.size; simpa [World.setCell] using this, fun k hk hG => (setCell_other (fun e => hg (by have e' : k = g := e; rw [← e']; exact hG))).trans (h.same k hk hG)⟩
theorem OneF.setC {B : Nat} {w0 w : World} {l : List Asr} (h : OneF B w0 w l) (i : Nat) {g j : Nat} {cs : Array Value} {T : TypeId} {fr : Nat × Nat} (hi : l[i]? = some (Blk g (.cells cs T fr))) (v : Value) : OneF B w0 (w.setCell ⟨g, j, none⟩ v) (l.set i (Blk g (.cells (cs.setIfInBounds j v) T fr))) := by
  obtain ⟨F, a, b, c, d⟩ := h
  obtain ⟨F1, h1, h2, h3⟩ := a.get hi
  obtain ⟨e1, rfl⟩ := h1
  have hp : Post (Blk g (.cells (cs.setIfInBounds j v) T fr)) (· = g) w (w.setCell ⟨g, j, none⟩ v) := by
    rw [setCell_setB v e1]
    exact post_setB _ ⟨e1, rfl⟩
  obtain ⟨F', a', k, s⟩ := h3 _ _ hp
  have hg := h2 g rfl
  refine ⟨F', a', fun x hx => (s x hx).elim (b x) (Nat.le_trans c.size), c.then k b, fun x hx => ?_⟩
  by_cases hxg : x = g
  · subst hxg
    refine .inr ⟨.cells (cs.setIfInBounds j v) T fr, ?_, rfl⟩
    rw [setCell_setB v e1]; exact setB_same _ (lt_blk e1)
  · rcases s x hx with hx' | hx'
    · rcases d x hx' with hd | ⟨o, ho, hc⟩
      · exact .inl hd
      · refine .inr ⟨o, ?_, hc⟩
        rw [setCell_setB v e1, setB_other _ _ (Ne.symm hxg)]; exact ho
    · have := a'.lt x hx
      simp [World.setCell] at this
      omega
theorem One.alloc3 {w0 w : World} {l : List Asr} (h : One w0 w l) (o o' o'' : Obj) : One w0 (((w.alloc o).alloc o').alloc o'') (Blk (w.heap.size + 1 + 1) o'' :: Blk (w.heap.size + 1) o' :: Blk w.heap.size o :: l) := by
  have := ((h.alloc o).alloc o').alloc o''
  simpa using this
set_option maxRecDepth 100000 in
set_option maxHeartbeats 4000000 in
theorem waiting_in {p : Option Addr} {xs : List PW} {w : World} (h : ∀ W, KN w W → Calls Try.prog 61 #[.pointer p] W (LimGave xs W)) (hlen : xs.length ≤ 9000000) : CallsIn Fence.wide 3 Try.prog 24 #[.pointer p] w fun e W' => e = .returned (.int .i64 xs.length) ∧ Below w.heap.size w W' := by
  have HO := Lib.hid ((One.nil w).alloc (.cells #[.int .i64 0] 3))
  have HN := Lib.hid (h _ HO.out.old)
  have HL := Lib.hid hlen
  clear h hlen
  refine callsIn_of_wp_marks Try.func24 rfl trivial ?_ rfl
  simp only [Try.ntmps24, List.size_toArray, List.length_cons, List.length_nil, Nat.reduceAdd, Nat.reduceSub, Array.replicate_succ, Array.replicate_zero, List.push_toArray, List.append_toArray, List.nil_append, List.cons_append]
  gi_wp2_with fail
  refine ⟨trivial, ?_⟩
  refine ((callsIn_wide (n := 2)).2 HN.out).mono ?_
  rintro e w1 ⟨b1, b2, rfl, G, hA, k1, hG⟩
  have HO1 := Lib.hid (HO.out.kn k1)
  have HSEQ := Lib.hid (limbo_stops Fence.wide 2 trivial rfl (by omega) b1 b2 G xs HL.out w1 hA)
  have hw1 : w.heap.size < w1.heap.size := lt_blk (HO1.out.blk 0 rfl).1
  have hGl := hA.2
  have hGn : ¬ G w.heap.size := fun hh => by
    rcases hG _ hh with h | h
    · exact h
    · simp at h; omega
  have HF0 := Lib.hid HO1.out.loopF
  have hBel := HO1.out.old.below
  clear HO HN HO1 hA hG k1
  gi_wp2_with fail
  refine wpIn_rangeFunc_ownH rfl (show 1 ≤ 3 by omega) (gf := 75) (lb := #[.pointer (some ⟨b1, 0, none⟩), .pointer (some ⟨b2, 0, none⟩)]) rfl trivial (enters_of Try.func75 (by kernel_rfl) rfl)
    HSEQ.out KpG.trans (KpG.put (G := G) hGl) (Below.refl _ _) (fun _ => rfl)
    (fun pre W => OneF w1.heap.size w W [Blk w.heap.size (.cells #[.int .i64 (pre.length : Nat)] 3)])
    (fun c pre W => False)
    (oneF_own (by omega) _)
    (fun c s W W' row hs hg hr => hs.elim)
    HF0.out
    (fun x a' W => a' = { tmps := #[.pointer p, undef, .int .i64 0, .pointer (some ⟨w.heap.size, 0, none⟩), .pointer p, .func (.func 75) #[] #[.pointer (some ⟨b1, 0, none⟩), .pointer (some ⟨b2, 0, none⟩)], .int .i64 x.1, ren x.2, undef, undef, undef], defers := [] })
    (fun x a' _ X Y row hs hg hr => hs)
    ?assign ?body ?done ?stop
  case assign =>
    intro l pre x W K hI hK
    gi_wp2
    exact hK _ _ (keepsFrom_kn (Kp.refl _ _)) (KpG.refl _ _) hI (by simp [Array.zip])
  case body =>
    rintro l pre x a' W hl ⟨r, hr⟩ hI rfl hlt
    obtain ⟨n0, f0⟩ := cells1 (hI.one.blk 0 rfl).1
    have HI := Lib.hid hI
    have hz : (pre.length : Int) < 9000000 := by have := HL.out; omega
    clear hI
    gi_wp2
    refine ⟨keepsFrom_setC (keepsFrom_kn (Kp.refl _ _)) _ (by omega), kpg_setC (KpG.refl _ _) _ hGn, ?_⟩
    have hle : (((pre ++ [x]).length : Nat) : Int) = pre.length + 1 := by simp
    simp only [hle]
    exact HI.out.setC 0 rfl _
  case done =>
    rintro D xs W hD rfl hI hK
    obtain ⟨n0, f0⟩ := cells1 (hI.one.blk 0 rfl).1
    have HI := Lib.hid hI
    have HK := Lib.hid hK
    clear hI hK
    gi_wp2
    refine ⟨by simp, .inl ⟨_, _, rfl, run_takeDeferred HK.out, ?_⟩⟩
    refine ⟨.int .i64 xs.length, by simp [results, Try.results24, go_sem], rfl, below_putO HI.out.one.old.below (by omega)⟩
  case stop =>
    rintro D c pre W hD hpre hI hK
    exact hI.elim
theorem waiting_a {b : Nat} {σ : Eps} {w : World} {F : Nat → Prop} (h : (EpA b σ).on w F) (hf : σ.Fit) (hlen : σ.limbo.length ≤ 9000000) : Calls Try.prog 24 #[.pointer (some ⟨b, 0, none⟩)] w fun e w' => e = .returned (.int .i64 σ.limbo.length) ∧ KN w w' :=
  (callsIn_wide.1 (waiting_in (fun W k => limbo_a ((EpA b σ).kn h k) hf hlen) hlen)).mono fun e W' ⟨he, hb⟩ => ⟨he, Below.kn' hb⟩
end Go.Proofs.Ytinejaganickpaa
