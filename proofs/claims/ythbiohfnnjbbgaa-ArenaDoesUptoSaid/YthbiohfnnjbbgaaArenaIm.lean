/- Arenas of texts: the iterator of All, where the body is told that what it is given is of the list. -/
import Derived.Test.YthbiohfnnjbbgaaArenaIt
namespace Go.Proofs.Ythbiohfnnjbbgaa
set_option linter.unusedVariables false
set_option linter.unusedSimpArgs false
open Go Go.RowKit Go.Shelf

/-- The same, where the body is told that what it is given is of the list. -/
theorem all_stopsM (F : Fence) (n : Nat) (hf : F.fn 52) (hro : F.round = none) (hn : 1 ≤ n) (b1 b2 : Nat) (G : Nat → Prop) (xs : List HS) (hlen : xs.length ≤ 9000000) (w : World) (hA : (AllA b1 b2 xs).on w G) :
    SeqStopsK F n Try.prog 52 #[.pointer (some ⟨b1, 0, none⟩), .pointer (some ⟨b2, 0, none⟩)] (fun x : { x : HS // x ∈ xs } => #[hv x.1.1, .string x.1.2]) (KpG G) (fun ys => ys.map (·.1) = xs) (fun pre => pre.map (·.1) <+: xs) xs.length w :=
  fun l J Jx W hW hJ _ hY h0 => (all1_in F n hf hro hn l b1 b2 G xs hlen (fun pre W => ∃ p : List { x : HS // x ∈ xs }, p.map (·.1) = pre ∧ J p W) (fun pre W => ∃ p : List { x : HS // x ∈ xs }, p.map (·.1) = pre ∧ Jx p W)
    (fun pre x W ⟨p, hp, hj⟩ hpre => by
      have hx : x ∈ xs := by obtain ⟨t, rfl⟩ := hpre; simp
      have hl : p.length < xs.length := by have := hpre.length_le; rw [← hp] at this; simp at this; omega
      obtain ⟨fn, tmps, assign, body, hy, hR⟩ := hY p ⟨x, hx⟩ W hj hl
      refine ⟨fn, tmps, assign, body, hy, hR.mono fun e W' h => ?_⟩
      rcases h with ⟨h1, h2, h3⟩ | ⟨h1, h2⟩
      · exact .inl ⟨h1, ⟨p ++ [⟨x, hx⟩], by simp [hp], h2⟩, h3⟩
      · exact .inr ⟨h1, ⟨p ++ [⟨x, hx⟩], by simp [hp], h2⟩⟩)
    (fun pre W W' ⟨p, hp, h⟩ k => ⟨p, hp, abides_kn hJ p W W' k h⟩) W (fun k hk => Nat.lt_of_lt_of_le (hA.2 k hk) hW.size) (hA.1.kept (KpG.of_below hW)) ⟨[], rfl, h0⟩).mono fun e W' ⟨hv, h⟩ => ⟨hv, h.imp (fun ⟨ys, e, p, hp, hj⟩ => ⟨p, hp.trans e, hj⟩) (fun ⟨pre, hpre, p, hp, hj⟩ => ⟨p, (show p.map (·.1) <+: xs from hp ▸ hpre), hj⟩)⟩
end Go.Proofs.Ythbiohfnnjbbgaa
