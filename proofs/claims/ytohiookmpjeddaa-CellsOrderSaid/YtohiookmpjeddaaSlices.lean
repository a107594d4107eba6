/- Slices: what reads as a list, what is owned, append and slicing. -/
import Derived.Test.YtohiookmpjeddaaHeap
import Derived.Maps.AppendAt
import Derived.Deep.AppendSrc
namespace Go.Proofs.Ytohiookmpjeddaa
set_option linter.unusedVariables false
set_option linter.unusedSimpArgs false
open Go Go.RowKit

/-- A slice value that reads as n elements of type E, sz cells each: xs. -/
def Sr (E : TypeId) (sz : Nat) (w : World) (v : Value) (n : Nat) (xs : List Value) : Prop :=
  xs.length = n * sz ∧ ∃ a cap, v = .slice a n cap ∧ n ≤ cap ∧
    (n = 0 ∨ ∃ b off cs fr, a = some ⟨b, off, none⟩ ∧ w.heap[b]? = some (Obj.cells cs E fr) ∧ ∀ j u, xs[j]? = some u → cs[off + j]? = some u)

theorem Sr.step {E sz n : Nat} {w w' : World} {v : Value} {xs : List Value} (h : Sr E sz w v n xs) (hk : ∀ (b : Nat) cs fr, w.heap[b]? = some (Obj.cells cs E fr) → w'.heap[b]? = w.heap[b]?) : Sr E sz w' v n xs := by
  obtain ⟨hl, a, cap, hv, hc, h⟩ := h
  refine ⟨hl, a, cap, hv, hc, ?_⟩
  rcases h with h | ⟨b, off, cs, fr, ha, hb, hx⟩
  · exact .inl h
  · exact .inr ⟨b, off, cs, fr, ha, (hk b cs fr hb).trans hb, hx⟩
theorem Sr.kept {E sz n : Nat} {w w' : World} {v : Value} {xs : List Value} (h : Sr E sz w v n xs) {S : Nat → Prop} (k : Kp S w w') (hS : ∀ b : Nat, S b → ∀ cs fr, w.heap[b]? ≠ some (Obj.cells cs E fr)) : Sr E sz w' v n xs :=
  h.step fun b cs fr hb => k.block b (lt_blk hb) (fun hs => hS b hs cs fr hb)
theorem Sr.nil (E sz : Nat) (w : World) : Sr E sz w (.slice none 0 0) 0 [] := ⟨by simp, none, 0, rfl, Nat.le_refl _, .inl rfl⟩
theorem Sr.empty (E sz : Nat) (w : World) (a : Option Addr) (cap : Nat) : Sr E sz w (.slice a 0 cap) 0 [] := ⟨by simp, a, cap, rfl, Nat.zero_le _, .inl rfl⟩
theorem Sr.form {E sz n : Nat} {w : World} {v : Value} {xs : List Value} (h : Sr E sz w v n xs) : ∃ a cap, v = .slice a n cap ∧ n ≤ cap := let ⟨_, a, cap, hv, hc, _⟩ := h; ⟨a, cap, hv, hc⟩
theorem Sr.cells {E sz n : Nat} {w : World} {v : Value} {xs : List Value} (h : Sr E sz w v n xs) (hn : 0 < n) :
    ∃ b off cap, v = .slice (some ⟨b, off, none⟩) n cap ∧ n ≤ cap ∧ b < w.heap.size ∧ ∀ j u, xs[j]? = some u → w.cell? ⟨b, off + j, none⟩ = some u := by
  obtain ⟨_, a, cap, hv, hc, h⟩ := h
  rcases h with h | ⟨b, off, cs, fr, rfl, hb, hx⟩
  · omega
  · exact ⟨b, off, cap, hv, hc, lt_blk hb, fun j u hj => cell_blk hb (hx j u hj)⟩
theorem Sr.of_own {E sz n base : Nat} {w : World} {v : Value} {xs : List Value} (h : w.ownsRow base E sz v n xs) : Sr E sz w v n xs := by
  obtain ⟨hl, h⟩ := h
  refine ⟨hl, ?_⟩
  rcases h with ⟨rfl, rfl⟩ | ⟨g, cap, cur, rfl, _, hb, hc, hm, hs, ht⟩
  · exact ⟨none, 0, rfl, Nat.le_refl _, .inl rfl⟩
  · refine ⟨_, cap, rfl, hc, .inr ⟨g, 0, cur, (0, 0), rfl, hb, fun j u hj => ?_⟩⟩
    rw [← ht, List.getElem?_take] at hj
    split at hj
    · simpa using hj
    · cases hj
theorem own_nil (base E sz : Nat) (w : World) : w.ownsRow base E sz (.slice none 0 0) 0 [] := ⟨by simp, .inl ⟨rfl, rfl⟩⟩
theorem own_step {E sz n base : Nat} {w w' : World} {v : Value} {xs : List Value} (h : w.ownsRow base E sz v n xs) (hk : ∀ b : Nat, v.ownBlock = some b → w'.heap[b]? = w.heap[b]?) : w'.ownsRow base E sz v n xs := by
  obtain ⟨hl, h⟩ := h
  refine ⟨hl, ?_⟩
  rcases h with h | ⟨g, cap, cur, rfl, hg, hb, hc, hm, hs, ht⟩
  · exact .inl h
  · exact .inr ⟨g, cap, cur, rfl, hg, (hk g rfl).trans hb, hc, hm, hs, ht⟩
theorem own_lt {E sz n base : Nat} {w : World} {v : Value} {xs : List Value} (h : w.ownsRow base E sz v n xs) {b : Nat} (hb : v.ownBlock = some b) : b < w.heap.size := by
  obtain ⟨hl, h⟩ := h
  rcases h with ⟨rfl, _⟩ | ⟨g, cap, cur, rfl, hg, hh, _⟩
  · cases hb
  · cases hb; exact lt_blk hh
theorem kp_grown {w w' : World} {row : Option Nat} (h : w.grownBy w' row) : Kp (fun k => row = some k) w w' := ⟨h.os, h.tape, h.output, h.size, fun k hk hn => h.block k hk (fun e => hn e.symm)⟩

theorem Sr.tail {E b off n cap : Nat} {w : World} {x : Value} {xs : List Value} (h : Sr E 1 w (.slice (some ⟨b, off, none⟩) (n + 1) cap) (n + 1) (x :: xs)) : Sr E 1 w (.slice (some ⟨b, off + 1, none⟩) n (cap - 1)) n xs := by
  obtain ⟨hl, a, cap', hv, hc, h⟩ := h
  injection hv with h1 h2 h3
  subst h3
  simp at hl
  refine ⟨by omega, _, _, rfl, by omega, ?_⟩
  rcases h with h | ⟨b', off', cs, fr, ha, hb, hx⟩
  · omega
  · rw [ha] at h1
    injection h1 with h1
    injection h1 with h4 h5
    subst h4; subst h5
    refine .inr ⟨b, off + 1, cs, fr, rfl, hb, fun j u hj => ?_⟩
    have := hx (j + 1) u (by simpa using hj)
    rwa [show off + 1 + j = off + (j + 1) by omega]
/-- A slice type t of elements E: its zero cell, its cells, its bytes. -/
structure Elt (P : Program) (t E : TypeId) (z : Value) (sz bytes : Nat) : Prop where
  ht : P.underlying t = some (.slice E)
  hi : (P.info? E).map (fun i => (i.zero, i.size, i.bytes)) = some (some z, sz, bytes)
  hz : z.cells.size = sz
  pos : 0 < sz

theorem run_append_nil {P : Program} {w : World} {t ty E sz bytes : Nat} {z : Value} (el : Elt P t E z sz bytes) {v : Value} {n : Nat} {xs : List Value} (hown : w.ownsRow 0 E sz v n xs) (c : Nat) :
    (Builtin.append_ #[t, t] ty #[v, .slice none 0 c]).run P w = .ok v w := by
  obtain ⟨i, hi, hi2⟩ := Option.map_eq_some_iff.1 el.hi
  simp only [Prod.mk.injEq] at hi2
  obtain ⟨hz, hs, hb⟩ := hi2
  obtain ⟨_, h⟩ := hown
  rcases h with ⟨rfl, rfl⟩ | ⟨g, cap, cur, rfl, _, hb, hc, hm, hs, ht⟩
  · simp [Builtin.append_, run_underlying el.ht, sizeOf, typeInfo, hi, Builtin.lenOf, Builtin.firstCells]
  · have := run_append_room_src (P := P) (w := w) t t ty E i el.ht hi g 0 n cap (.slice none 0 c) 0 [] (Src.ofNil _ el.ht c) (by omega) (by simp) (by simp)
    rw [this]
    rfl

/-- append(v, s...): v is owned, s reads as a list. -/
theorem run_app {P : Program} {w : World} {t E sz bytes : Nat} {z : Value} (el : Elt P t E z sz bytes) (ty : TypeId) {v s : Value} {n m : Nat} {xs news : List Value} (hown : w.ownsRow 0 E sz v n xs)
    (hs : Sr E sz w s m news) (h1 : ∀ u ∈ news, u.oneCell' = true) (h63 : n + m ≤ maxLen) (hbytes : (n + m) * bytes ≤ 140737488355328) :
    ∃ v' w', (Builtin.append_ #[t, t] ty #[v, s]).run P w = .ok v' w' ∧ w'.ownsRow 0 E sz v' (n + m) (xs ++ news) ∧ Kp (fun k => v.ownBlock = some k) w w' ∧ (v'.ownBlock = v.ownBlock ∨ v'.ownBlock = some w.heap.size) := by
  obtain ⟨i, hi, hi2⟩ := Option.map_eq_some_iff.1 el.hi
  simp only [Prod.mk.injEq] at hi2
  obtain ⟨hz, hsz, hb⟩ := hi2
  obtain ⟨hl, a, cap, rfl, hc, h⟩ := hs
  cases a with
  | none =>
    have hm : m = 0 := by
      rcases h with h | ⟨b, off, cs, fr, ha, _⟩
      · exact h
      · cases ha
    subst hm
    have : news = [] := List.length_eq_zero_iff.1 (by omega)
    subst this
    exact ⟨v, w, run_append_nil el hown cap, by simpa using hown, Kp.refl _ w, .inl rfl⟩
  | some ad =>
    obtain ⟨v', w', hr, ho, hg, _, hbk⟩ := run_append_own_at (P := P) w 0 t ty E i z sz bytes el.ht hi hz hsz hb el.hz el.pos v n xs hown ad m cap news hl (by
      intro j u hj
      rcases h with h | ⟨b, off, cs, fr, ha, hbk, hx⟩
      · subst h
        have : news = [] := List.length_eq_zero_iff.1 (by omega)
        subst this; cases hj
      · cases ha
        have := cell_blk hbk (hx j u hj)
        simpa [Addr.add] using (by
          by_cases h0 : j = 0
          · subst h0; simpa using this
          · simpa [Addr.add, h0] using this)) h1 h63 hbytes (Nat.zero_le _)
    exact ⟨v', w', hr, ho, kp_grown hg, hbk⟩

/-- An append in a region that runs in the text's order, from its run: '(at_builtin; refine wpList_app DST rfl rfl rfl rfl hrun ?_)'. -/
theorem wpList_app {P : Program} {ops : Array Oper} {rest : List Oper} {o : Oper} {a : Act} {w : World} {Q : Exit → Act → World → Prop} (d : Tmp) (hd : o.dst = some d) (hgd : o.guard = none) {s x : Operand} {t ty : TypeId}
    (ho : o.op = .call { callee := .builtin .append, args := #[s, x], argTypes := #[t, t] }) (hty : o.type = ty) {v : Value} {w' : World}
    (hrun : (Builtin.append_ #[t, t] ty #[a.eval s, a.eval x]).run P w = .ok v w') (h : wpList P ops Q rest (a.put (some d) v) w') : wpList P ops Q (o :: rest) a w := by
  subst hty
  refine wpList_plain hgd fun K hK => ?_
  have := hK _ _ h
  rw [← hd] at this
  simp [Oper.wp, execOp, ho, resolve, invoke, builtin, hrun, Oper.upon]
  exact this

/-- One cell in a block of its own, as 'append(v, x)' lays it. -/
theorem sr_new {E : TypeId} {w : World} {b sz n c : Nat} {cs : List Value} {fr : Nat × Nat} (h : w.heap[b]? = some (Obj.cells cs.toArray E fr)) (hl : cs.length = n * sz) (hc : n ≤ c) : Sr E sz w (.slice (some ⟨b, 0, none⟩) n c) n cs :=
  ⟨hl, _, c, rfl, hc, .inr ⟨b, 0, cs.toArray, fr, rfl, h, fun j u hj => by simpa using hj⟩⟩
end Go.Proofs.Ytohiookmpjeddaa
