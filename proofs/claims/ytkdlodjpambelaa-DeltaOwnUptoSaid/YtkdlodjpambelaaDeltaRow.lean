/- What came in as a page, as a delta, as deltas. -/
import Derived.Test.YtkdlodjpambelaaTypesPage
import Derived.Test.YtkdlodjpambelaaDeltaF
namespace Go.Proofs.Ytkdlodjpambelaa
set_option linter.unusedVariables false
set_option linter.unusedSimpArgs false
open Go Go.RowKit
def Pa.p (x : Pa) : Pg := ⟨x.leaf, x.low, x.high, x.right, x.list.l⟩
theorem pa_rl {W : World} {B : Option Nat} {x : Pa} (h : Pa.Ok W B x) : Rl En.enc 4 W (Sl.v x.list) x.p.list := Rl.of_rd h.2.2.2.2.1 h.2.2.2.2.2.2.1
theorem pa_len {W : World} {x : Pa} (h : Pa.Ok W (some 1048576) x) : x.p.list.length ≤ 1048576 := h.2.2.2.2.2.2.2.2 1048576 rfl
def De.d (x : De) : Dl := ⟨x.kind, x.entry, x.key, x.page, x.right.p⟩
theorem de_rl {W : World} {B : Option Nat} {x : De} (h : De.Ok W B x) : Rl En.enc 4 W (Sl.v x.right.list) x.d.right.list := pa_rl h.2.2.2.2
theorem de_len {W : World} {x : De} (h : De.Ok W (some 1048576) x) : x.d.right.list.length ≤ 1048576 := pa_len h.2.2.2.2
theorem de_size {W : World} {x : De} (h : De.Ok W (some 1048576) x) : x.d.entry.key.size + x.d.key.size ≤ 2097152 := by
  have h1 : x.entry.key.size ≤ 1048576 := h.2.1.1.2 1048576 rfl
  have h2 : x.key.size ≤ 1048576 := h.2.2.1.2 1048576 rfl
  show x.entry.key.size + x.key.size ≤ 2097152
  omega
theorem de_dlv (x : De) : Value.agg (De.enc x).toArray = dlv x.d (Sl.v x.right.list) := rfl
theorem cofDS : Try.prog.cellsOf 38 = 1 := by kernel_rfl
theorem opens_des (w : World) (B : Option Nat) : Opens Try.prog w B 38 1 (fun x : Sl De => [Sl.v x]) (fun x => SlOk (fun x : De => De.enc x) 12 w B (fun x : De => De.Ok w B x) x) :=
  (opens_slice (w := w) (B := B) (e := fun x : De => De.enc x) (ok := fun x : De => De.Ok w B x) Try.underlying38 cofDS (by decide) (opens_De w B))
theorem des_rl {W : World} {B : Option Nat} {x : Sl De} (h : SlOk (fun x : De => De.enc x) 12 W B (fun x : De => De.Ok W B x) x) : RlD W (Sl.v x) (x.l.map De.d) := by
  obtain ⟨h1, h2, h3, _, _⟩ := h
  refine ⟨x.l.map (fun y => (y.d, Sl.v y.right.list)), by simp, ?_, ?_⟩
  · refine ⟨x.a, x.cap, by simp [Sl.v], by simpa using h3, ?_⟩
    rcases h1 with h1 | ⟨b, off, ha, hb, hx⟩
    · exact .inl (by rw [h1]; rfl)
    · refine .inr ⟨b, off, ha, hb, fun i y hy j hj => ?_⟩
      rw [List.getElem?_map] at hy
      obtain ⟨z, hz, rfl⟩ := Option.map_eq_some_iff.1 hy
      exact hx i z hz j hj
  · intro y hy
    obtain ⟨z, hz, rfl⟩ := List.mem_map.1 hy
    exact de_rl (h2 z hz)
theorem sumD_le {B : Nat} : ∀ (l : List Dl), (∀ d ∈ l, d.right.list.length ≤ B) → sumD l ≤ l.length * (B + 1)
  | [], _ => Nat.zero_le _
  | d :: l, h => by
    have h1 := sumD_le l (fun e he => h e (List.mem_cons_of_mem _ he))
    have h2 := h d (List.mem_cons_self ..)
    rw [sumD_cons, List.length_cons, Nat.succ_mul]
    omega
theorem des_sum {W : World} {x : Sl De} (h : SlOk (fun x : De => De.enc x) 12 W (some 1048576) (fun x : De => De.Ok W (some 1048576) x) x) : sumD (x.l.map De.d) ≤ 1099512676352 := by
  have h1 := sumD_le (B := 1048576) (x.l.map De.d) (fun d hd => by
    obtain ⟨z, hz, rfl⟩ := List.mem_map.1 hd
    exact de_len (h.2.1 z hz))
  have h2 : x.l.length ≤ 1048576 := h.2.2.2.2 1048576 rfl
  rw [List.length_map] at h1
  exact Nat.le_trans h1 (Nat.le_trans (Nat.mul_le_mul_right _ h2) (by decide))
theorem des_cnt {W : World} {x : Sl De} (h : SlOk (fun x : De => De.enc x) 12 W (some 1048576) (fun x : De => De.Ok W (some 1048576) x) x) : (x.l.map De.d).length ≤ 1048576 := by
  rw [List.length_map]
  exact h.2.2.2.2 1048576 rfl
theorem des_each {W : World} {x : Sl De} (h : SlOk (fun x : De => De.enc x) 12 W (some 1048576) (fun x : De => De.Ok W (some 1048576) x) x) : ∀ d ∈ x.l.map De.d, d.right.list.length ≤ 1048576 := fun d hd => by
  obtain ⟨z, hz, rfl⟩ := List.mem_map.1 hd
  exact de_len (h.2.1 z hz)
end Go.Proofs.Ytkdlodjpambelaa
