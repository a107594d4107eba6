/- Maps that the call has made: their entries as a list. -/
import Derived.Test.YtkjkaliblkihmaaProg
import Derived.Test.YtkjkaliblkihmaaOwn
import Derived.Maps.OwnSet
import Derived.Maps.OwnOps
import Derived.OwnWalk
namespace Go.Proofs.Ytkjkaliblkihmaa
set_option linter.unusedVariables false
set_option linter.unusedSimpArgs false
set_option linter.unusedSectionVars false
open Go Go.RowKit

/-- What is asked of a map's keys: ek a is the key of a. -/
structure KeyT {α : Type} (P : Program) (k : TypeId) (ek : α → Value) : Prop where
  kd : ∃ d, P.underlying k = some d ∧ ∀ a, MapKept.IsKey d (ek a)
  inj : ∀ a b, ek a = ek b → a = b
theorem KeyT.same {α : Type} [DecidableEq α] {P : Program} {k : TypeId} {ek : α → Value} (K : KeyT P k ek) : ∃ d, P.underlying k = some d ∧ ∀ a b, Instr.sameNow d (ek a) (ek b) = some (decide (a = b)) := by
  obtain ⟨d, h1, h2⟩ := K.kd
  refine ⟨d, h1, fun a b => ?_⟩
  obtain ⟨r, h3, h4⟩ := MapKept.sameNow_of_keys (h2 a) (h2 b)
  rw [h3]
  congr 1
  rw [Bool.eq_iff_iff, h4, decide_eq_true_eq]
  exact ⟨K.inj a b, fun h => by rw [h]⟩
theorem KeyT.check {α : Type} {P : Program} {k : TypeId} {ek : α → Value} (K : KeyT P k ek) (em : Bool) (w : World) (a : α) : (Instr.checkKey em 10000 k (ek a)).run P w = .ok () w := by
  obtain ⟨d, h1, h2⟩ := K.kd
  exact MapKept.run_checkKey h1 (h2 a) em 9999
theorem KeyT.stays {α : Type} {P : Program} {k : TypeId} {ek : α → Value} (K : KeyT P k ek) (w : World) (a : α) : (Instr.keyThatStays (ek a) (ek a)).run P w = .ok (ek a) w := by
  obtain ⟨d, h1, h2⟩ := K.kd
  exact MapKept.run_keyThatStays (h2 a)
theorem keyT_int {P : Program} {k : TypeId} {q : IntKind} (h : P.underlying k = some (.int q)) : KeyT P k (fun a : Int => .int q a) :=
  ⟨⟨_, h, fun a => by simp [MapKept.IsKey]⟩, fun a b h => by simpa using h⟩
theorem keyT_str {P : Program} {k : TypeId} (h : P.underlying k = some .string) : KeyT P k (fun a : ByteArray => .string a) :=
  ⟨⟨_, h, fun a => by simp [MapKept.IsKey]⟩, fun a b h => by simpa using h⟩

section
variable {α β : Type} [DecidableEq α]
/-- What a list of entries says of a key. -/
def look (m : List (α × β)) (a : α) : Option β := (m.find? (fun x => decide (x.1 = a))).map (·.2)
def has (m : List (α × β)) (a : α) : Bool := (look m a).isSome
def put (m : List (α × β)) (a : α) (v : β) : List (α × β) := if has m a then m.map (fun x => if x.1 = a then (a, v) else x) else m ++ [(a, v)]
def del (m : List (α × β)) (a : α) : List (α × β) := m.filter (fun x => !decide (x.1 = a))

theorem has_iff {m : List (α × β)} {a : α} : has m a = true ↔ a ∈ m.map (·.1) := by
  unfold has look
  rw [Option.isSome_map, List.find?_isSome]
  simp only [decide_eq_true_eq, List.mem_map]
theorem keys_put (m : List (α × β)) (a : α) (v : β) : (put m a v).map (·.1) = if has m a then m.map (·.1) else m.map (·.1) ++ [a] := by
  unfold put
  split
  · rw [List.map_map]
    refine List.map_congr_left fun x _ => ?_
    simp only [Function.comp]
    split
    · rename_i h; exact h.symm
    · rfl
  · simp
theorem nodup_put {m : List (α × β)} (h : (m.map (·.1)).Nodup) (a : α) (v : β) : ((put m a v).map (·.1)).Nodup := by
  rw [keys_put]
  split
  · exact h
  · rename_i hn
    rw [has_iff] at hn
    rw [List.nodup_append]
    exact ⟨h, by simp, fun x hx y hy e => by simp at hy; subst hy; subst e; exact hn hx⟩
theorem keys_del (m : List (α × β)) (a : α) : (del m a).map (·.1) = (m.map (·.1)).filter (fun x => !decide (x = a)) := by
  unfold del
  rw [List.filter_map]
  rfl
theorem nodup_del {m : List (α × β)} (h : (m.map (·.1)).Nodup) (a : α) : ((del m a).map (·.1)).Nodup := by
  rw [keys_del]; exact h.filter _
theorem look_put (m : List (α × β)) (a : α) (v : β) (b : α) : look (put m a v) b = if b = a then some v else look m b := by
  unfold put
  split
  · rename_i hh
    unfold look
    rw [List.find?_map]
    by_cases hb : b = a
    · subst hb
      rw [if_pos rfl]
      rw [has_iff, List.mem_map] at hh
      obtain ⟨x, hx, hxb⟩ := hh
      have : (List.find? ((fun x : α × β => decide (x.1 = b)) ∘ fun x => if x.1 = b then (b, v) else x) m).isSome := by
        rw [List.find?_isSome]
        exact ⟨x, hx, by simp [hxb]⟩
      obtain ⟨y, hy⟩ := Option.isSome_iff_exists.1 this
      have h2 := List.find?_some hy
      rw [hy]
      simp only [Function.comp] at h2
      split at h2
      · rename_i h3; simp [h3]
      · rename_i h3; simp at h2; exact absurd h2 h3
    · rw [if_neg hb]
      have e : ((fun x : α × β => decide (x.1 = b)) ∘ fun x => if x.1 = a then (a, v) else x) = (fun x : α × β => decide (x.1 = b)) := by
        funext x
        simp only [Function.comp]
        split
        · rename_i h; rw [h]
        · rfl
      rw [e]
      cases hf : List.find? (fun x : α × β => decide (x.1 = b)) m with
      | none => rfl
      | some y =>
        have := List.find?_some hf
        simp at this
        simp [this, hb]
  · rename_i hh
    unfold look
    rw [List.find?_append]
    by_cases hb : b = a
    · subst hb
      rw [if_pos rfl]
      have : List.find? (fun x : α × β => decide (x.1 = b)) m = none := by
        rw [List.find?_eq_none]
        intro x hx hxb
        exact hh (has_iff.2 (List.mem_map.2 ⟨x, hx, by simpa using hxb⟩))
      simp [this]
    · rw [if_neg hb]
      simp [List.find?_cons, Ne.symm hb]
theorem look_del (m : List (α × β)) (a b : α) : look (del m a) b = if b = a then none else look m b := by
  unfold look del
  rw [List.find?_filter]
  split
  · rename_i hb
    subst hb
    rw [List.find?_eq_none.2]
    · rfl
    · intro x _ h
      simp at h
  · rename_i hb
    congr 1
    congr 1
    funext x
    by_cases h : x.1 = b
    · simp [h, hb]
    · simp [h]

/-- A map at block b. -/
def MapA (ek : α → Value) (ev : β → Value) (b : Nat) (m : List (α × β)) : Asr where
  on := fun w F => (∃ (es : Array MapEntry) (clock : Nat), w.heap[b]? = some (.map es clock) ∧ es.toList.map (fun e => (e.key, e.val)) = m.map (fun x => (ek x.1, ev x.2)) ∧ (m.map Prod.fst).Nodup) ∧ F = (· = b)
  keep := fun {w w' F S} ⟨⟨es, c, h1, h2⟩, e⟩ k hS => ⟨⟨es, c, k.blk h1 (hS b (by rw [e])), h2⟩, e⟩
  lt := fun ⟨⟨es, c, h1, h2⟩, e⟩ b hb => by rw [e] at hb; subst hb; exact lt_blk h1

section
variable {P : Program} {k e t : TypeId} {ek : α → Value} {ev : β → Value} {b : Nat} {m : List (α × β)} {w : World} {F : Nat → Prop}
theorem find_from (d : TypeDesc) (hd : ∀ a b, Instr.sameNow d (ek a) (ek b) = some (decide (a = b))) (a : α) : ∀ (m : List (α × β)) (es : List MapEntry) (i : Nat), es.map (fun e => (e.key, e.val)) = m.map (fun x => (ek x.1, ev x.2)) →
    Instr.findNow d (ek a) es i = some ((m.findIdx? (fun x => decide (x.1 = a))).bind fun j => (m[j]?).map fun x => (i + j, ev x.2))
  | [], [], i, h => by simp [Instr.findNow]
  | [], e :: es, i, h => by simp at h
  | x :: m, [], i, h => by simp at h
  | x :: m, e :: es, i, h => by
    simp only [List.map_cons, List.cons.injEq, Prod.mk.injEq] at h
    obtain ⟨⟨h1, h2⟩, h3⟩ := h
    unfold Instr.findNow
    rw [h1, hd]
    by_cases hx : x.1 = a
    · have hx' : decide (a = x.1) = true := by simp [hx]
      have hx2 : decide (x.1 = a) = true := by simp [hx]
      rw [hx', List.findIdx?_cons, if_pos hx2, h2]
      rfl
    · have hx' : ¬ a = x.1 := fun e => hx e.symm
      have ih := find_from d hd a m es (i + 1) h3
      simp only [hx', decide_false]
      rw [ih, List.findIdx?_cons]
      simp only [hx, decide_false]
      cases List.findIdx? (fun x : α × β => decide (x.1 = a)) m with
      | none => rfl
      | some j => simp [Nat.add_assoc, Nat.add_comm 1 j]
theorem run_find (K : KeyT P k ek) (a : α) (es : List MapEntry) (h : es.map (fun e => (e.key, e.val)) = m.map (fun x => (ek x.1, ev x.2))) (w : World) :
    (Instr.findKey k (ek a) es).run P w = .ok ((m.findIdx? (fun x => decide (x.1 = a))).bind fun j => (m[j]?).map fun x => (j, ev x.2)) w := by
  obtain ⟨d, hd, hs⟩ := K.same
  have := find_from (ev := ev) d hs a m es 0 h
  simp only [Nat.zero_add] at this
  simp [Instr.findKey, run_underlying hd, this, Result.andThen]
theorem idx_look (m : List (α × β)) (a : α) : (m.findIdx? (fun x => decide (x.1 = a)) = none ∧ look m a = none) ∨ ∃ j x, m.findIdx? (fun x => decide (x.1 = a)) = some j ∧ m[j]? = some x ∧ x.1 = a ∧ look m a = some x.2 := by
  cases hf : m.findIdx? (fun x => decide (x.1 = a)) with
  | none =>
    left
    refine ⟨rfl, ?_⟩
    rw [List.findIdx?_eq_none_iff] at hf
    unfold look
    rw [List.find?_eq_none.2 (fun x hx => by simpa using hf x hx)]
    rfl
  | some j =>
    right
    rw [List.findIdx?_eq_some_iff_getElem] at hf
    obtain ⟨hj, h1, h2⟩ := hf
    refine ⟨j, m[j], rfl, List.getElem?_eq_getElem hj, by simpa using h1, ?_⟩
    unfold look
    have hfd : m.find? (fun x => decide (x.1 = a)) = some m[j] := List.find?_eq_some_iff_getElem.2 ⟨h1, j, hj, rfl, fun i hi => by simpa using h2 i hi⟩
    rw [hfd]
    rfl
theorem run_look (K : KeyT P k ek) (ht : P.underlying t = some (.map k e)) {z : Value} (hz : (zeroValue e).run P w = .ok z w) (h : (MapA ek ev b m).on w F) (a : α) (c : Bool) :
    (Instr.lookup t (.map (some b)) (ek a) c).run P w = .ok (if c then .tuple #[(look m a).elim z ev, .bool (has m a)] else (look m a).elim z ev) w := by
  obtain ⟨⟨es, cl, h1, h2, h3⟩, rfl⟩ := h
  unfold has
  rcases idx_look m a with ⟨hi, hl⟩ | ⟨j, x, hi, hj, hx, hl⟩
  · simp [Instr.lookup, run_underlying ht, MapKept.run_getObj_map h1, K.check, run_find K a _ h2, hi, hz, hl, Result.andThen]
  · simp [Instr.lookup, run_underlying ht, MapKept.run_getObj_map h1, K.check, run_find K a _ h2, hi, hj, hl, Result.andThen]
theorem run_maplen (ht : P.underlying t = some (.map k e)) (h : (MapA ek ev b m).on w F) (ty : TypeId) : (Builtin.len_ #[t] ty #[.map (some b)]).run P w = .ok (.int .i64 m.length) w := by
  obtain ⟨⟨es, cl, h1, h2, h3⟩, rfl⟩ := h
  have hs : es.size = m.length := by have := congrArg List.length h2; simpa using this
  simp [Builtin.len_, run_underlying ht, MapKept.run_getObj_map h1, Result.andThen, hs, goInt]
theorem run_del (K : KeyT P k ek) (ht : P.underlying t = some (.map k e)) (h : (MapA ek ev b m).on w F) (a : α) (ty : TypeId) :
    ∃ w', (Builtin.delete_ #[t, k] ty #[.map (some b), ek a]).run P w = .ok (.tuple #[]) w' ∧ Post (MapA ek ev b (del m a)) F w w' := by
  obtain ⟨⟨es, cl, h1, h2, h3⟩, rfl⟩ := h
  rcases idx_look m a with ⟨hi, hl⟩ | ⟨j, x, hi, hj, hx, hl⟩
  · refine ⟨setB w b (.map es cl), ?_, _, ⟨⟨es, cl, setB_same _ (lt_blk h1), ?_, nodup_del h3 a⟩, rfl⟩, (Kp.refl (fun x => x = b) w).setB (.inl rfl) _, fun b hb => .inl hb⟩
    · simp [Builtin.delete_, run_underlying ht, MapKept.run_getObj_map h1, K.check, run_find K a _ h2, hi, MapKept.run_setObj_map _ h1, Result.andThen, setB]
    · have : del m a = m := by
        unfold del
        rw [List.filter_eq_self]
        intro x hx
        rw [List.findIdx?_eq_none_iff] at hi
        simpa using hi x hx
      rw [this, h2]
  · have hlen : es.size = m.length := by have := congrArg List.length h2; simpa using this
    have hjl : j < m.length := (List.getElem?_eq_some_iff.1 hj).1
    refine ⟨setB w b (.map (es.eraseIdxIfInBounds j) cl), ?_, _, ⟨⟨_, cl, setB_same _ (lt_blk h1), ?_, nodup_del h3 a⟩, rfl⟩, (Kp.refl (fun x => x = b) w).setB (.inl rfl) _, fun b hb => .inl hb⟩
    · simp [Builtin.delete_, run_underlying ht, MapKept.run_getObj_map h1, K.check, run_find K a _ h2, hi, hj, MapKept.run_setObj_map _ h1, Result.andThen, setB]
    · have e1 : (es.eraseIdxIfInBounds j).toList = es.toList.eraseIdx j := by
        unfold Array.eraseIdxIfInBounds
        rw [dif_pos (by omega)]
        simp
      have e2 : del m a = m.eraseIdx j := by
        have hsplit := List.take_append_drop j m
        have hd : m.drop j = x :: m.drop (j + 1) := by
          obtain ⟨_, e⟩ := List.getElem?_eq_some_iff.1 hj
          rw [List.drop_eq_getElem_cons hjl, e]
        have hn : ((m.take j ++ x :: m.drop (j + 1)).map (·.1)).Nodup := by rw [← hd, hsplit]; exact h3
        rw [List.map_append, List.map_cons, List.nodup_append] at hn
        obtain ⟨_, n2, n3⟩ := hn
        rw [List.nodup_cons] at n2
        rw [List.eraseIdx_eq_take_drop_succ]
        unfold del
        conv => lhs; rw [← hsplit, hd]
        rw [List.filter_append, List.filter_cons]
        simp only [hx, decide_true, Bool.not_true]
        congr 1
        · rw [List.filter_eq_self]
          intro y hy
          have := n3 _ (List.mem_map.2 ⟨y, hy, rfl⟩) x.1 (by simp)
          simp only [Bool.not_eq_true', decide_eq_false_iff_not]
          rw [← hx]; exact this
        · simp only [Bool.false_eq_true, if_false]
          rw [List.filter_eq_self]
          intro y hy
          simp only [Bool.not_eq_true', decide_eq_false_iff_not]
          intro e
          exact n2.1 (List.mem_map.2 ⟨y, hy, by rw [e, hx]⟩)
      rw [e1, e2, ChangeMaps.map_eraseIdx, h2, ChangeMaps.map_eraseIdx]
theorem run_put (K : KeyT P k ek) (ht : P.underlying t = some (.map k e)) (h : (MapA ek ev b m).on w F) (a : α) (v : β) :
    ∃ w', (Instr.mapUpdate t (.map (some b)) (ek a) (ev v)).run P w = .ok () w' ∧ Post (MapA ek ev b (put m a v)) F w w' := by
  obtain ⟨⟨es, cl, h1, h2, h3⟩, rfl⟩ := h
  have hlen : es.size = m.length := by have := congrArg List.length h2; simpa using this
  rcases idx_look m a with ⟨hi, hl⟩ | ⟨j, x, hi, hj, hx, hl⟩
  · refine ⟨setB w b (.map (es.push ⟨ek a, ev v, cl⟩) (cl + 1)), ?_, _, ⟨⟨_, _, setB_same _ (lt_blk h1), ?_, nodup_put h3 a v⟩, rfl⟩, (Kp.refl (fun x => x = b) w).setB (.inl rfl) _, fun b hb => .inl hb⟩
    · simp [Instr.mapUpdate, run_underlying ht, MapKept.run_getObj_map h1, K.check, run_find K a _ h2, hi, MapKept.run_setObj_map _ h1, Result.andThen, setB]
    · unfold put has
      rw [hl]
      simp [h2]
  · have hjl : j < m.length := (List.getElem?_eq_some_iff.1 hj).1
    have hje : j < es.size := by omega
    have hkey : es[j].key = ek a := by
      have : (es.toList.map (fun e => (e.key, e.val)))[j]? = (m.map (fun x => (ek x.1, ev x.2)))[j]? := by rw [h2]
      rw [List.getElem?_map, List.getElem?_map, hj] at this
      simp [hje] at this
      rw [this.1, hx]
    refine ⟨setB w b (.map (es.modify j fun e => { e with key := ek a, val := ev v }) cl), ?_, _, ⟨⟨_, _, setB_same _ (lt_blk h1), ?_, nodup_put h3 a v⟩, rfl⟩, (Kp.refl (fun x => x = b) w).setB (.inl rfl) _, fun b hb => .inl hb⟩
    · have hst := K.stays w a
      simp [Instr.mapUpdate, run_underlying ht, MapKept.run_getObj_map h1, K.check, run_find K a _ h2, hi, hj, hje, hkey, hst, MapKept.run_setObj_map _ h1, Result.andThen, setB]
    · unfold put has
      rw [hl]
      simp only [Option.isSome_some, if_true]
      refine List.ext_getElem? fun i => ?_
      have hgi : (es.toList.map (fun e => (e.key, e.val)))[i]? = (m.map (fun x => (ek x.1, ev x.2)))[i]? := by rw [h2]
      simp only [List.getElem?_map, Array.getElem?_toList, Array.getElem?_modify] at hgi ⊢
      by_cases hij : j = i
      · subst hij
        simp [hj, hje, hx]
      · rw [if_neg hij, hgi]
        cases hm : m[i]? with
        | none => rfl
        | some y =>
          have hya : y.1 ≠ a := by
            intro hy
            have hil : i < m.length := (List.getElem?_eq_some_iff.1 hm).1
            have hil' : i < (m.map Prod.fst).length := by simpa using hil
            have hjl' : j < (m.map Prod.fst).length := by simpa using hjl
            have := (List.getElem_inj (h₀ := hil') (h₁ := hjl') h3).1 (by
              obtain ⟨_, e1⟩ := List.getElem?_eq_some_iff.1 hm
              obtain ⟨_, e2⟩ := List.getElem?_eq_some_iff.1 hj
              simp [e1, e2, hy, hx])
            exact hij this.symm
          simp [hya]
theorem post_map (ek : α → Value) (ev : β → Value) (w : World) : Post (MapA ek ev w.heap.size []) (fun _ => False) w (w.alloc (.map #[] 0)) :=
  ⟨_, ⟨⟨#[], 0, heap_alloc_same _ _, rfl, List.nodup_nil⟩, rfl⟩, kn_alloc _ _, fun b hb => .inr (by subst hb; exact Nat.le_refl _)⟩
end

/-! ### at the operation, for the walk -/
section
variable {P : Program} {k e t : TypeId} {ek : α → Value} {ev : β → Value} {b : Nat} {m : List (α × β)} {w0 w : World} {l : List Asr} {ops : Array Oper} {rest : List Oper} {o : Oper} {a : Act} {Q : Exit → Act → World → Prop}
theorem wpList_put (hg : o.guard = none) (mo x v : Operand) (hop : o.op = Op.mapUpdate t mo x v) (K : KeyT P k ek) (ht : P.underlying t = some (.map k e)) (h : One w0 w l) (i : Nat) (hi : l[i]? = some (MapA ek ev b m))
    (c : α) (y : β) (hm : a.eval mo = .map (some b)) (hx : a.eval x = ek c) (hv : a.eval v = ev y) (hK : ∀ w', One w0 w' (l.set i (MapA ek ev b (put m c y))) → wpList P ops Q rest (a.put o.dst undef) w') :
    wpList P ops Q (o :: rest) a w := by
  obtain ⟨F, h1, _, h3⟩ := h.get i hi
  obtain ⟨w', hr, hp⟩ := run_put K ht h1 c y
  refine wpList_plain hg fun K' hK' => ?_
  unfold Oper.wp
  simp [execOp, hop, hm, hx, hv, hr, Result.andThen]
  exact hK' _ _ (hK w' (h3 hp))
theorem wpList_del (hg : o.guard = none) (mo x : Operand) (hop : o.op = Op.call { callee := Callee.builtin Builtin.delete, args := #[mo, x], argTypes := #[t, k] }) (K : KeyT P k ek) (ht : P.underlying t = some (.map k e))
    (h : One w0 w l) (i : Nat) (hi : l[i]? = some (MapA ek ev b m)) (c : α) (hm : a.eval mo = .map (some b)) (hx : a.eval x = ek c) (hK : ∀ w', One w0 w' (l.set i (MapA ek ev b (del m c))) → wpList P ops Q rest (a.put o.dst (.tuple #[])) w') :
    wpList P ops Q (o :: rest) a w := by
  obtain ⟨F, h1, _, h3⟩ := h.get i hi
  obtain ⟨w', hr, hp⟩ := run_del K ht h1 c o.type
  refine wpList_plain hg fun K' hK' => ?_
  unfold Oper.wp
  simp [execOp, hop, resolve, invoke, builtin, hm, hx, hr, Result.andThen]
  exact hK' _ _ (hK w' (h3 hp))
/-- Its lookups, in this world and behind what is laid. -/
theorem One.looks (h : One w0 w l) (i : Nat) (hi : l[i]? = some (MapA ek ev b m)) (K : KeyT P k ek) (ht : P.underlying t = some (.map k e)) {z : Value} (hz : ∀ w, (zeroValue e).run P w = .ok z w) (a : α) :
    ((Instr.lookup t (.map (some b)) (ek a) true).run P w = .ok (.tuple #[(look m a).elim z ev, .bool (has m a)]) w ∧ (Instr.lookup t (.map (some b)) (ek a) false).run P w = .ok ((look m a).elim z ev) w) ∧
    ∀ o, (Instr.lookup t (.map (some b)) (ek a) true).run P (w.alloc o) = .ok (.tuple #[(look m a).elim z ev, .bool (has m a)]) (w.alloc o) ∧ (Instr.lookup t (.map (some b)) (ek a) false).run P (w.alloc o) = .ok ((look m a).elim z ev) (w.alloc o) := by
  obtain ⟨F, h1, _, h3⟩ := h.get i hi
  refine ⟨⟨by simpa using run_look K ht (hz w) h1 a true, by simpa using run_look K ht (hz w) h1 a false⟩, fun o => ?_⟩
  have h1' := (MapA ek ev b m).kn h1 (kn_alloc w o)
  exact ⟨by simpa using run_look K ht (hz _) h1' a true, by simpa using run_look K ht (hz _) h1' a false⟩
theorem One.len (h : One w0 w l) (i : Nat) (hi : l[i]? = some (MapA ek ev b m)) (ht : P.underlying t = some (.map k e)) (ty : TypeId) : (Builtin.len_ #[t] ty #[.map (some b)]).run P w = .ok (.int .i64 m.length) w := by
  obtain ⟨F, h1, _, h3⟩ := h.get i hi
  exact run_maplen ht h1 ty
end
end
end Go.Proofs.Ytkjkaliblkihmaa
