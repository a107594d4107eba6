/- Lists of handles and of texts: their rows, cuts and appends. -/
import Derived.Test.YthbiohfnnjbbgaaArenaB
import Derived.Lib.SliceRun
import Derived.Deep.AppendLies
import Derived.Deep.RegionLaw
namespace Go.Proofs.Ythbiohfnnjbbgaa
set_option linter.unusedVariables false
set_option linter.unusedSimpArgs false
open Go Go.RowKit

def encHn (h : Int × Int) : List Value := [.int .i64 h.1, .int .i64 h.2]
theorem encHn2 (x : Int × Int) : (encHn x).length = 2 := rfl
theorem hn_one (x : Int × Int) : ∀ u ∈ encHn x, u.oneCell' = true := by
  intro u hu
  simp only [encHn, List.mem_cons, List.not_mem_nil, or_false] at hu
  rcases hu with h | h <;> subst h <;> rfl
def encTx (x : ByteArray) : List Value := [.string x]
theorem encTx1 (x : ByteArray) : (encTx x).length = 1 := rfl
theorem tx_one (x : ByteArray) : ∀ u ∈ encTx x, u.oneCell' = true := by
  intro u hu
  simp only [encTx, List.mem_cons, List.not_mem_nil, or_false] at hu
  subst hu; rfl
theorem elt_Hn : Elt Try.prog 28 30 (.agg #[.int .i64 0, .int .i64 0]) 2 16 := ⟨Try.underlying28, by kernel_rfl, rfl, by decide⟩
theorem elt_Tx : Elt Try.prog 40 9 (.string (ByteArray.mk #[])) 1 16 := ⟨Try.underlying40, by kernel_rfl, rfl, by decide⟩
abbrev RH (a : Option Addr) (c : Nat) (l : List (Int × Int)) : Asr := RowA 30 2 (.slice a l.length c) l.length (l.flatMap encHn)
abbrev RS (a : Option Addr) (c : Nat) (l : List ByteArray) : Asr := RowA 9 1 (.slice a l.length c) l.length (l.flatMap encTx)
theorem rl_hn {w : World} {g : Nat} {a b : Int} {fr : Nat × Nat} {T : TypeId} {cap : Nat} (h : w.heap[g]? = some (.cells #[.int .i64 a, .int .i64 b] T fr)) (hc : 1 ≤ cap := by decide) : Rl encHn 2 w (.slice (some ⟨g, 0, none⟩) 1 cap) [(a, b)] := by
  refine ⟨_, cap, rfl, hc, .inr ⟨g, 0, rfl, lt_blk h, fun i x hx j hj => ?_⟩⟩
  match i, hx with
  | 0, hx =>
    simp at hx; subst hx
    match j, hj with
    | 0, _ => exact cell_blk h rfl
    | 1, _ => exact cell_blk h rfl
theorem rl_tx {w : World} {g : Nat} {s : ByteArray} {fr : Nat × Nat} {T : TypeId} {cap : Nat} (hb : w.heap[g]? = some (.cells #[.string s] T fr)) (hc : 1 ≤ cap := by decide) : Rl encTx 1 w (.slice (some ⟨g, 0, none⟩) 1 cap) [s] := by
  refine ⟨_, cap, rfl, hc, .inr ⟨g, 0, rfl, lt_blk hb, fun i x hx j hj => ?_⟩⟩
  match i, hx with
  | 0, hx =>
    simp at hx; subst hx
    match j, hj with
    | 0, _ => exact cell_blk hb rfl
theorem rd_hn {w : World} {a : Option Addr} {l : List (Int × Int)} (h : Rd encHn 2 w a l) {i : Nat} {x : Int × Int} (hx : l[i]? = some x) : ∃ b off, a = some ⟨b, off, none⟩ ∧ b < w.heap.size ∧ w.cell? ⟨b, off + i * 2, none⟩ = some (.int .i64 x.1) ∧ w.cell? ⟨b, off + i * 2 + 1, none⟩ = some (.int .i64 x.2) := by
  obtain ⟨b, off, ha, hb, hc⟩ := h.at hx
  exact ⟨b, off, ha, hb, hc 0 (by omega), hc 1 (by omega)⟩
theorem rd_tx {w : World} {a : Option Addr} {l : List ByteArray} (h : Rd encTx 1 w a l) {i : Nat} {x : ByteArray} (hx : l[i]? = some x) : ∃ b off, a = some ⟨b, off, none⟩ ∧ b < w.heap.size ∧ w.cell? ⟨b, off + i, none⟩ = some (.string x) := by
  obtain ⟨b, off, ha, hb, hc⟩ := h.at hx
  exact ⟨b, off, ha, hb, by rw [show off + i = off + (i * 1 + 0) by omega]; exact hc 0 (by omega)⟩
theorem cutH_pre {a : Option Addr} {c : Nat} {l : List (Int × Int)} (hc : l.length ≤ c) {i : Nat} (hi : i ≤ l.length) :
    ∃ a1, (∀ W, (Instr.slice 28 (.slice a l.length c) none (some (.int .i64 (i : Int))) none).run Try.prog W = .ok (.slice a1 i c) W) ∧ ∀ w, Rd encHn 2 w a l → Rl encHn 2 w (.slice a1 i c) (l.take i) := by
  refine ⟨if c = 0 then a else a.map (·.add (0 * 2)), fun W => ?_, ?_⟩
  · rw [run_slice_h (P := Try.prog) W 28 a l.length c (by kernel_rfl) .i64 i (by omega) (by omega)]
    have : ∀ w, (sizeOf (Try.prog.elem 28)).run Try.prog w = .ok 2 w := fun w => by kernel_rfl
    rw [this]
    simp [sliced, Result.andThen]
  · intro w h
    have hl : (l.take i).length = i := by rw [List.length_take]; omega
    refine ⟨_, c, by rw [hl], by omega, ?_⟩
    have h1 := (h.take i)
    by_cases h0 : c = 0
    · exact .inl (List.length_eq_zero_iff.1 (by rw [List.length_take]; omega))
    · rw [if_neg h0]
      rcases h1 with h1 | ⟨b, off, ha, hb, hx⟩
      · exact .inl h1
      · exact .inr ⟨b, off, by subst ha; simp [Addr.add], hb, hx⟩
theorem cutH_post {a : Option Addr} {c : Nat} {l : List (Int × Int)} (hc : l.length ≤ c) {i : Nat} (hi : i ≤ l.length) :
    ∃ a1, (∀ W, (Instr.slice 28 (.slice a l.length c) (some (.int .i64 (i : Int))) none none).run Try.prog W = .ok (.slice a1 (l.length - i) (c - i)) W) ∧ ∀ w, Rd encHn 2 w a l → Rl encHn 2 w (.slice a1 (l.length - i) (c - i)) (l.drop i) := by
  refine ⟨if c = i then a else a.map (·.add (i * 2)), fun W => ?_, ?_⟩
  · rw [run_slice_l (P := Try.prog) W 28 a l.length c (by kernel_rfl) .i64 i (by omega) (by omega)]
    have : ∀ w, (sizeOf (Try.prog.elem 28)).run Try.prog w = .ok 2 w := fun w => by kernel_rfl
    rw [this]
    simp [sliced, Result.andThen]
  · intro w h
    have hl : (l.drop i).length = l.length - i := by rw [List.length_drop]
    exact ⟨_, c - i, by rw [hl], by omega, h.drop i c hc⟩
theorem cutS_pre {a : Option Addr} {c : Nat} {l : List ByteArray} (hc : l.length ≤ c) {i : Nat} (hi : i ≤ l.length) :
    ∃ a1, (∀ W, (Instr.slice 40 (.slice a l.length c) none (some (.int .i64 (i : Int))) none).run Try.prog W = .ok (.slice a1 i c) W) ∧ ∀ w, Rd encTx 1 w a l → Rl encTx 1 w (.slice a1 i c) (l.take i) := by
  refine ⟨if c = 0 then a else a.map (·.add (0 * 1)), fun W => ?_, ?_⟩
  · rw [run_slice_h (P := Try.prog) W 40 a l.length c (by kernel_rfl) .i64 i (by omega) (by omega)]
    have : ∀ w, (sizeOf (Try.prog.elem 40)).run Try.prog w = .ok 1 w := fun w => by kernel_rfl
    rw [this]
    simp [sliced, Result.andThen]
  · intro w h
    have hl : (l.take i).length = i := by rw [List.length_take]; omega
    refine ⟨_, c, by rw [hl], by omega, ?_⟩
    have h1 := (h.take i)
    by_cases h0 : c = 0
    · exact .inl (List.length_eq_zero_iff.1 (by rw [List.length_take]; omega))
    · rw [if_neg h0]
      rcases h1 with h1 | ⟨b, off, ha, hb, hx⟩
      · exact .inl h1
      · exact .inr ⟨b, off, by subst ha; simp [Addr.add], hb, hx⟩
theorem cutS_post {a : Option Addr} {c : Nat} {l : List ByteArray} (hc : l.length ≤ c) {i : Nat} (hi : i ≤ l.length) :
    ∃ a1, (∀ W, (Instr.slice 40 (.slice a l.length c) (some (.int .i64 (i : Int))) none none).run Try.prog W = .ok (.slice a1 (l.length - i) (c - i)) W) ∧ ∀ w, Rd encTx 1 w a l → Rl encTx 1 w (.slice a1 (l.length - i) (c - i)) (l.drop i) := by
  refine ⟨if c = i then a else a.map (·.add (i * 1)), fun W => ?_, ?_⟩
  · rw [run_slice_l (P := Try.prog) W 40 a l.length c (by kernel_rfl) .i64 i (by omega) (by omega)]
    have : ∀ w, (sizeOf (Try.prog.elem 40)).run Try.prog w = .ok 1 w := fun w => by kernel_rfl
    rw [this]
    simp [sliced, Result.andThen]
  · intro w h
    have hl : (l.drop i).length = l.length - i := by rw [List.length_drop]
    exact ⟨_, c - i, by rw [hl], by omega, h.drop i c hc⟩
/-- A row's own block lies below B. -/
def Low (v : Value) (B : Nat) : Prop := ∀ b, v.ownBlock = some b → b < B
theorem One.low {w0 w : World} {A : List Asr} (h : One w0 w A) (i : Nat) {E sz n : Nat} {v : Value} {xs : List Value} (hi : A[i]? = some (RowA E sz v n xs)) : Low v w.heap.size := by
  obtain ⟨F, h1, _⟩ := h.get i hi
  intro b hb
  exact (RowA E sz v n xs).lt h1 b (by rw [h1.2]; exact hb)
/-- A row grows; what is young and not the row's own stays. -/
theorem One.grow {α : Type} {enc : α → List Value} {P : Program} {E sz n t bytes B : Nat} {z : Value} (el : Elt P t E z sz bytes) (ty : TypeId) {w0 w : World} {A : List Asr} {v s : Value} {l m : List α} (h : One w0 w A) (i : Nat) (hi : A[i]? = some (RowA E sz v n (l.flatMap enc))) (hl : ∀ x, (enc x).length = sz) (hs : Rl enc sz w s m)
    (h1 : ∀ x, ∀ u ∈ enc x, u.oneCell' = true) (hn : n + m.length ≤ 9000000) (hb : bytes ≤ 1000) (hlow : Low v B) :
    ∃ r w', (Builtin.append_ #[t, t] ty #[v, s]).run P w = .ok r w' ∧ ∃ a1 cap, r = .slice a1 (n + m.length) cap ∧ One w0 w' (A.set i (RowA E sz (.slice a1 (n + m.length) cap) (n + m.length) ((l ++ m).flatMap enc))) ∧ ∀ b o, B ≤ b → w.heap[b]? = some o → w'.heap[b]? = some o := by
  obtain ⟨F, hF, _, h3⟩ := h.get i hi
  have hbt : (n + m.length) * bytes ≤ 140737488355328 := Nat.le_trans (Nat.mul_le_mul hn hb) (by decide)
  obtain ⟨a1, cap, w', hrun, hp⟩ := post_appL el ty hF hl hs h1 (by unfold maxLen; omega) hbt
  refine ⟨_, w', hrun, a1, cap, rfl, ?_, fun b o hB hbo => ?_⟩
  · rw [List.flatMap_append]; exact h3 hp
  · refine hp.kp.blk hbo ?_
    rw [hF.2]
    intro hh
    have := hlow b hh
    omega
end Go.Proofs.Ythbiohfnnjbbgaa
