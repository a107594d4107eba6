/- What is seen: readings that hold as long as their blocks are let alone; rows of deltas; keys that are turned. -/
import Derived.Test.YtkdlodjpambelaaDelP
import Derived.Test.YtkdlodjpambelaaDeltaF
import Derived.Test.YtkdlodjpambelaaFoldP
namespace Go.Proofs.Ytkdlodjpambelaa
set_option linter.unusedVariables false
set_option linter.unusedSimpArgs false
open Go Go.RowKit

/-- R holds, and goes on to hold as long as the blocks are let alone. -/
def Sees (R : World → Prop) : Asr where
  on := fun w F => (∀ b, F b → b < w.heap.size) ∧ ∀ (w' : World) (S : Nat → Prop), Kp S w w' → (∀ b, F b → ¬ S b) → R w'
  keep := fun {w w' F S} ⟨h1, h2⟩ k hS => ⟨fun b hb => Nat.lt_of_lt_of_le (h1 b hb) k.size, fun w'' S' k' hS' => h2 w'' (fun b => S b ∨ S' b) ((k.mono (fun _ h => .inl h)).trans k' (fun _ h => .inl (.inr h))) (fun b hb h => h.elim (hS b hb) (hS' b hb))⟩
  lt := fun ⟨h1, _⟩ b hb => h1 b hb
theorem sees_of {A : Asr} {R : World → Prop} {w : World} {F : Nat → Prop} (h : A.on w F) (hR : ∀ w', A.on w' F → R w') : (Sees R).on w F := ⟨A.lt h, fun w' S k hS => hR w' (A.keep h k hS)⟩
theorem Sees.now {R : World → Prop} {w : World} {F : Nat → Prop} (h : (Sees R).on w F) : R w := h.2 w (fun _ => False) (Kp.refl _ _) (fun _ _ h => h)
theorem One.see {w0 w : World} {l : List Asr} {R : World → Prop} (h : One w0 w l) (i : Nat) (hi : l[i]? = some (Sees R)) : R w := let ⟨_, a, _⟩ := h.get i hi; Sees.now a
theorem flat_key : ∀ (l : List En) (i : Nat) (x : En) (s : ByteArray), l[i]? = some x → (l.set i { x with key := s }).flatMap En.enc = (l.flatMap En.enc).set (i * 4) (.string s)
  | [], i, x, s, h => by simp at h
  | y :: l, 0, x, s, h => by
    simp only [List.getElem?_cons_zero, Option.some.injEq] at h
    subst h
    simp [En.enc, Hd.enc]
  | y :: l, i + 1, x, s, h => by
    have h1 : (i + 1) * 4 = i * 4 + 4 := by omega
    rw [List.set_cons_succ, List.flatMap_cons, flat_key l i x s (by simpa using h), List.flatMap_cons, h1]
    rw [List.set_append_right _ _ (by rw [enc4]; omega), enc4]
    simp
theorem One.key {w0 w : World} {l : List Asr} {a : Option Addr} {n c : Nat} {l' : List En} (h : One w0 w l) (i : Nat) (hi : l[i]? = some (RowA 28 4 (.slice a n c) n (l'.flatMap En.enc))) {j : Nat} (hj : j < n) (s : ByteArray) :
    ∃ b off k0, a = some ⟨b, off, none⟩ ∧ w.cell? ⟨b, off + j * 4, none⟩ = some (.string k0) ∧ (∀ t, w.frozen? ⟨b, t, none⟩ = false) ∧ ∃ l'' : List En, One w0 (w.setCell ⟨b, off + j * 4, none⟩ (.string s)) (l.set i (RowA 28 4 (.slice a n c) n (l''.flatMap En.enc))) := by
  obtain ⟨F, hon, _, hup⟩ := h.get i hi
  obtain ⟨h1, rfl⟩ := hon
  have hln : l'.length = n := by have := h1.1; rw [flat_len enc4] at this; omega
  obtain ⟨x, hx⟩ : ∃ x, l'[j]? = some x := ⟨_, List.getElem?_eq_getElem (by omega)⟩
  have hrl : Rl En.enc 4 w (.slice a n c) l' := Rl.of_own enc4 hln h1
  obtain ⟨a1, cap, e, _, hr⟩ := hrl
  simp only [Value.slice.injEq] at e
  obtain ⟨rfl, _, rfl⟩ := e
  obtain ⟨b, off, rfl, hb, c0, _⟩ := rd4 hr hx
  rcases h1.2 with ⟨e, _⟩ | ⟨g, cap, cur, e, _, hg, _⟩
  · cases e
  cases e
  refine ⟨b, 0, x.key, rfl, c0, fun t => free_blk hg, l'.set j { x with key := s }, hup ⟨_, ⟨?_, rfl⟩, ?_, fun b hb => .inl hb⟩⟩
  · rw [flat_key l' j x s hx, Nat.zero_add]
    exact (h1.stored (j * 4) (.string s)).1
  · have k0 := Kp.refl (fun b1 => (Value.slice (some ⟨b, 0, none⟩) n c).ownBlock = some b1) w
    exact Kp.setCell (p := ⟨b, 0 + j * 4, none⟩) k0 (.inl rfl) _
/-- A delta whose list is told by its slice. -/
def dlx (x : Dl × Option Addr × Nat) : List Value := dlc (x.1, .slice x.2.1 x.1.right.list.length x.2.2)
theorem dlx_len (x : Dl × Option Addr × Nat) : (dlx x).length = 12 := rfl
theorem dlx_one (x : Dl × Option Addr × Nat) : ∀ u ∈ dlx x, u.oneCell' = true := by
  intro u hu
  simp only [dlx, dlc, List.mem_cons, List.not_mem_nil, or_false] at hu
  rcases hu with h | h | h | h | h | h | h | h | h | h | h | h <;> subst h <;> rfl
theorem elt_Dl : Elt Try.prog 38 30 (.agg #[.int .i64 0, .string empS, .int .i64 0, .int .i64 0, .int .i64 0, .string empS, .int .i64 0, .bool false, .string empS, .string empS, .int .i64 0, .slice none 0 0]) 12 144 := ⟨Try.underlying38, by kernel_rfl, rfl, by decide⟩
theorem rl_blkG {α : Type} {enc : α → List Value} {sz : Nat} (hl : ∀ x, (enc x).length = sz) {W : World} {g cap n : Nat} {l : List α} {cs : Array Value} {T : TypeId} {fr : Nat × Nat} (h : W.heap[g]? = some (.cells cs T fr)) (hc : cs = (l.flatMap enc).toArray) (hn : n = l.length) (hcap : n ≤ cap) : Rl enc sz W (.slice (some ⟨g, 0, none⟩) n cap) l := by
  subst hn
  refine ⟨_, cap, rfl, hcap, .inr ⟨g, 0, rfl, lt_blk h, fun i x hx j hj => ?_⟩⟩
  have h1 := flat_at hl l i x hx j hj
  rw [← h1]
  subst hc
  have hi := (List.getElem?_eq_some_iff.1 hx).1
  have h3 : (i + 1) * sz ≤ l.length * sz := Nat.mul_le_mul_right _ hi
  rw [Nat.succ_mul] at h3
  have h2 : i * sz + j < (l.flatMap enc).length := by rw [flat_len hl]; omega
  rw [Nat.zero_add, List.getElem?_eq_getElem h2]
  exact cell_blk h (by simp [h2])
/-- The rows of the lists of all deltas. -/
def ListsOk (xs : List (Dl × Option Addr × Nat)) (w : World) : Prop := ∀ x ∈ xs, Rl En.enc 4 w (.slice x.2.1 x.1.right.list.length x.2.2) x.1.right.list
abbrev RowD (a : Option Addr) (c : Nat) (xs : List (Dl × Option Addr × Nat)) : Asr := RowA 30 12 (.slice a xs.length c) xs.length (xs.flatMap dlx)
theorem sees_nil (w : World) : Post (Sees (ListsOk [])) (fun _ => False) w w := ⟨fun _ => False, ⟨fun b h => h.elim, fun w' S k hS x hx => by cases hx⟩, Kp.refl _ _, fun b h => h.elim⟩
theorem One.seeMore {w0 w : World} {l : List Asr} {d : Dl} {a : Option Addr} {c : Nat} {xs : List (Dl × Option Addr × Nat)} (h : One w0 w (RowE a c d.right.list :: Sees (ListsOk xs) :: l)) : One w0 w (Sees (ListsOk (xs ++ [(d, a, c)])) :: l) := by
  have h2 := (One.all (l1 := [RowE a c d.right.list, Sees (ListsOk xs)]) (l2 := l)).1 h
  refine h2.imp (fun F hF => sees_of hF (fun w' hw => ?_))
  obtain ⟨F1, F2, h1, ⟨F3, F4, h3, _, _, _⟩, _, _⟩ := hw
  intro x hx
  rcases List.mem_append.1 hx with hx | hx
  · exact Sees.now h3 x hx
  · rw [List.mem_singleton] at hx
    subst hx
    exact RowE.rl h1
theorem One.seeAll {w0 w : World} {l : List Asr} {a : Option Addr} {c : Nat} {xs : List (Dl × Option Addr × Nat)} (h : One w0 w (Sees (ListsOk xs) :: RowD a c xs :: l)) : One w0 w (Sees (fun W => RlD W (.slice a xs.length c) (xs.map (·.1))) :: l) := by
  have h2 := (One.all (l1 := [Sees (ListsOk xs), RowD a c xs]) (l2 := l)).1 h
  refine h2.imp (fun F hF => sees_of hF (fun w' hw => ?_))
  obtain ⟨F1, F2, h1, ⟨F3, F4, h3, _, _, _⟩, _, _⟩ := hw
  have hr : Rl dlx 12 w' (.slice a xs.length c) xs := Rl.of_row dlx_len rfl h3
  refine ⟨xs.map (fun x => (x.1, .slice x.2.1 x.1.right.list.length x.2.2)), by simp, ?_, ?_⟩
  · obtain ⟨a1, c1, e, hc, hr⟩ := hr
    refine ⟨a1, c1, by rw [e, List.length_map], by rw [List.length_map]; exact hc, ?_⟩
    rcases hr with h | ⟨b, off, ha, hb, hx⟩
    · exact .inl (by rw [h]; rfl)
    · refine .inr ⟨b, off, ha, hb, fun i y hy j hj => ?_⟩
      rw [List.getElem?_map] at hy
      obtain ⟨z, hz, rfl⟩ := Option.map_eq_some_iff.1 hy
      exact hx i z hz j hj
  · intro y hy
    obtain ⟨z, hz, rfl⟩ := List.mem_map.1 hy
    exact Sees.now h1 z hz
end Go.Proofs.Ytkdlodjpambelaa
