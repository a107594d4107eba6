/- Heaps, the plain side: what always holds of a heap; cells and versions that are put. -/
import Derived.Test.YtinejaganickpaaHeapJ
import Derived.Test.YtinejaganickpaaBaseH
namespace Go.Proofs.Ytinejaganickpaa
set_option linter.unusedVariables false
set_option linter.unusedSimpArgs false
open Go Go.RowKit

def sumOf (f : Rsv → Int) : List Rsv → Int
  | [] => 0
  | r :: l => f r + sumOf f l
theorem room_fold (f : Rsv → Int) : ∀ (l : List Rsv) (a : Int), l.foldl (fun x r => x - f r) a = a - sumOf f l
  | [], a => by simp [sumOf]
  | r :: l, a => by rw [List.foldl_cons, room_fold f l, sumOf]; omega
theorem room_eq (n live : Int) (f : Rsv → Int) (l : List Rsv) : roomOf n live f l = n - live - sumOf f l := room_fold f l _
theorem sum_set (f : Rsv → Int) : ∀ {l : List Rsv} {i : Nat} {r : Rsv} (r' : Rsv), l[i]? = some r → sumOf f (l.set i r') = sumOf f l + f r' - f r
  | [], i, r, r', h => by simp at h
  | x :: l, 0, r, r', h => by
    simp at h; subst h
    simp [sumOf]; omega
  | x :: l, i + 1, r, r', h => by
    rw [List.set_cons_succ, sumOf, sumOf, sum_set f r' (by simpa using h)]; omega
theorem sum_le {f : Rsv → Int} : ∀ {l : List Rsv}, (∀ r ∈ l, 0 ≤ f r) → 0 ≤ sumOf f l ∧ ∀ r ∈ l, f r ≤ sumOf f l
  | [], _ => ⟨Int.le_refl _, fun r h => by simp at h⟩
  | x :: l, h => by
    obtain ⟨h1, h2⟩ := sum_le (l := l) (fun r hr => h r (List.mem_cons_of_mem _ hr))
    have h0 := h x (List.mem_cons_self ..)
    refine ⟨by rw [sumOf]; omega, fun r hr => ?_⟩
    rw [sumOf]
    rcases List.mem_cons.1 hr with rfl | hr
    · omega
    · have := h2 r hr; omega
theorem live_le {α : Type} (l : List (Slot α)) : 0 ≤ liveOf l ∧ liveOf l ≤ l.length := by
  have := free_len l
  unfold liveOf
  omega
/-- What always holds, behind k operations. -/
structure Hps.Ok (k : Nat) (σ : Hps) : Prop where
  len : σ.L.length ≤ 65536 ∧ σ.V.length ≤ 65536
  rs : σ.rs.length = 17
  rb : ∀ r ∈ σ.rs, 0 ≤ r.cells ∧ 0 ≤ r.versions
  room : 0 ≤ σ.room.1 ∧ 0 ≤ σ.room.2
  genL : ∀ s ∈ σ.L, 0 ≤ s.gen ∧ s.gen ≤ k ∧ (s.given = true → 1 ≤ s.gen)
  genV : ∀ s ∈ σ.V, 0 ≤ s.gen ∧ s.gen ≤ k ∧ (s.given = true → 1 ≤ s.gen)
  st : (0 ≤ σ.sl ∧ σ.sl ≤ k) ∧ (0 ≤ σ.sv ∧ σ.sv ≤ k)
  ch : ∀ s ∈ σ.L, s.given = true → ∃ xs, Ch σ.V s.has.newest xs ∧ xs.length ≤ 1024
namespace Hps.Ok
variable {k : Nat} {σ : Hps}
theorem mono (h : σ.Ok k) {k' : Nat} (hk : k ≤ k') : σ.Ok k' := ⟨h.len, h.rs, h.rb, h.room, fun s hs => by have := h.genL s hs; exact ⟨this.1, by omega, this.2.2⟩, fun s hs => by have := h.genV s hs; exact ⟨this.1, by omega, this.2.2⟩, by have := h.st; omega, h.ch⟩
theorem sums (h : σ.Ok k) : (0 ≤ sumOf (·.cells) σ.rs ∧ ∀ r ∈ σ.rs, r.cells ≤ sumOf (·.cells) σ.rs) ∧ (0 ≤ sumOf (·.versions) σ.rs ∧ ∀ r ∈ σ.rs, r.versions ≤ sumOf (·.versions) σ.rs) :=
  ⟨sum_le (fun r hr => (h.rb r hr).1), sum_le (fun r hr => (h.rb r hr).2)⟩
theorem rooms (h : σ.Ok k) : σ.room.1 = σ.L.length - liveOf σ.L - sumOf (·.cells) σ.rs ∧ σ.room.2 = σ.V.length - liveOf σ.V - sumOf (·.versions) σ.rs := ⟨room_eq _ _ _ _, room_eq _ _ _ _⟩
theorem bounds (h : σ.Ok k) : ∀ r ∈ σ.rs, 0 ≤ r.cells ∧ r.cells ≤ 65536 ∧ 0 ≤ r.versions ∧ r.versions ≤ 65536 := fun r hr => by
  obtain ⟨⟨h1, h2⟩, ⟨h3, h4⟩⟩ := h.sums
  have h5 := h2 r hr
  have h6 := h4 r hr
  have h7 := h.rb r hr
  obtain ⟨h8, h9⟩ := h.rooms
  have h10 := h.room
  have h11 := live_le σ.L
  have h12 := live_le σ.V
  have h13 := h.len
  omega
/-- Who has cells left finds a free one. -/
theorem freeL (h : σ.Ok k) {i : Nat} {r : Rsv} (hr : σ.rs[i]? = some r) (hc : 1 ≤ r.cells) : ∃ (j : Nat) (fr : List Int) (s : Slot Cl), freeOf σ.L = (j : Int) :: fr ∧ σ.L[j]? = some s ∧ s.given = false := by
  obtain ⟨⟨h1, h2⟩, _⟩ := h.sums
  have h5 := h2 r (List.mem_of_getElem? hr)
  obtain ⟨h8, _⟩ := h.rooms
  have h10 := h.room.1
  cases hf : freeOf σ.L with
  | nil =>
    exfalso
    have : liveOf σ.L = σ.L.length := by unfold liveOf; rw [hf]; simp
    omega
  | cons a fr =>
    obtain ⟨j, rfl⟩ : ∃ j : Nat, a = j := by
      have : a ∈ freeOf σ.L := by rw [hf]; exact List.mem_cons_self ..
      unfold freeOf at this
      obtain ⟨j, _, hj⟩ := List.mem_map.1 this
      exact ⟨j, hj.symm⟩
    obtain ⟨hj, hg, _⟩ := free_put (s := (⟨⟨⟨#[]⟩, ⟨0, 0⟩, false, false⟩, 0, true⟩ : Slot Cl)) hf rfl
    obtain ⟨s, hs⟩ : ∃ s, σ.L[j]? = some s := ⟨_, List.getElem?_eq_getElem hj⟩
    exact ⟨j, fr, s, rfl, hs, by rw [← given_of hs]; exact hg⟩
theorem freeV (h : σ.Ok k) {i : Nat} {r : Rsv} (hr : σ.rs[i]? = some r) (hc : 1 ≤ r.versions) : ∃ (j : Nat) (fr : List Int) (s : Slot No), freeOf σ.V = (j : Int) :: fr ∧ σ.V[j]? = some s ∧ s.given = false := by
  obtain ⟨_, ⟨h1, h2⟩⟩ := h.sums
  have h5 := h2 r (List.mem_of_getElem? hr)
  obtain ⟨_, h8⟩ := h.rooms
  have h10 := h.room.2
  cases hf : freeOf σ.V with
  | nil =>
    exfalso
    have : liveOf σ.V = σ.V.length := by unfold liveOf; rw [hf]; simp
    omega
  | cons a fr =>
    obtain ⟨j, rfl⟩ : ∃ j : Nat, a = j := by
      have : a ∈ freeOf σ.V := by rw [hf]; exact List.mem_cons_self ..
      unfold freeOf at this
      obtain ⟨j, _, hj⟩ := List.mem_map.1 this
      exact ⟨j, hj.symm⟩
    obtain ⟨hj, hg, _⟩ := free_put (s := (⟨⟨⟨0, ⟨#[]⟩, false⟩, ⟨0, 0⟩⟩, 0, true⟩ : Slot No)) hf rfl
    obtain ⟨s, hs⟩ : ∃ s, σ.V[j]? = some s := ⟨_, List.getElem?_eq_getElem hj⟩
    exact ⟨j, fr, s, rfl, hs, by rw [← given_of hs]; exact hg⟩
end Hps.Ok
theorem live_put {α : Type} {l : List (Slot α)} {j : Nat} {fr : List Int} {s : Slot α} (h : freeOf l = (j : Int) :: fr) (hg : s.given = true) : liveOf (l.set j s) = liveOf l + 1 := by
  obtain ⟨_, _, h3⟩ := free_put h hg
  unfold liveOf
  rw [h3, h, List.length_set]
  simp; omega
theorem live_same {α : Type} {l : List (Slot α)} {j : Nat} {s s' : Slot α} (h : l[j]? = some s) (hg : s'.given = s.given) : liveOf (l.set j s') = liveOf l := by
  unfold liveOf
  rw [free_same h hg, List.length_set]
theorem mem_set {α : Type} {l : List α} {i : Nat} {x y : α} (h : y ∈ l.set i x) : y = x ∨ y ∈ l := by
  rcases List.mem_or_eq_of_mem_set h with h | h
  · exact .inr h
  · exact .inl h
/-- A chain is not moved by what is put into a free slot. -/
theorem ch_put {V : List (Slot No)} {j : Nat} {s : Slot No} (x : Slot No) (hs : V[j]? = some s) (hg : s.given = false) : ∀ {h : Hd} {xs : List (Hd × No)}, Ch V h xs → Ch (V.set j x) h xs
  | h, [], hc => hc
  | h, y :: r, ⟨e1, e2, ⟨i, e3, e4⟩, e5⟩ => by
    refine ⟨e1, e2, ⟨i, e3, ?_⟩, ch_put x hs hg e5⟩
    rw [List.getElem?_set_ne (fun e => ?_)]
    · exact e4
    · subst e
      rw [hs] at e4
      cases e4
      cases hg
/-- What a cell leaves. -/
def Hps.put (σ : Hps) (i : Nat) (r : Rsv) (j : Nat) (s : Slot Cl) (key : ByteArray) : Hps := ⟨σ.L.set j ⟨⟨key, ⟨0, 0⟩, false, false⟩, s.gen + 1, true⟩, σ.sl, σ.V, σ.sv, σ.rs.set i ⟨r.on, r.cells - 1, r.versions⟩⟩
theorem Hps.Ok.put {k : Nat} {σ : Hps} (h : σ.Ok k) {i j : Nat} {r : Rsv} {fr : List Int} {s : Slot Cl} (hr : σ.rs[i]? = some r) (hc : 1 ≤ r.cells) (hf : freeOf σ.L = (j : Int) :: fr) (hs : σ.L[j]? = some s) (key : ByteArray) : (σ.put i r j s key).Ok (k + 1) := by
  have hg := h.genL s (List.mem_of_getElem? hs)
  have hrb := h.rb r (List.mem_of_getElem? hr)
  refine ⟨by simpa [Hps.put] using h.len, by simpa [Hps.put] using h.rs, fun q hq => ?_, ?_, fun t ht => ?_, fun t ht => ?_, ?_, fun t ht htg => ?_⟩
  · rcases mem_set hq with rfl | hq
    · exact ⟨by simp only; omega, hrb.2⟩
    · exact h.rb q hq
  · have h1 := h.rooms
    have h2 := h.room
    have e1 : (σ.put i r j s key).room.1 = σ.room.1 := by
      rw [h1.1]
      show roomOf _ _ _ _ = _
      rw [room_eq]
      unfold Hps.put
      simp only
      rw [sum_set _ _ hr, live_put hf rfl, List.length_set]
      simp only
      omega
    have e2 : (σ.put i r j s key).room.2 = σ.room.2 := by
      rw [h1.2]
      show roomOf _ _ _ _ = _
      rw [room_eq]
      unfold Hps.put
      simp only
      rw [sum_set _ _ hr]
      simp only
      omega
    rw [e1, e2]; exact h2
  · rcases mem_set ht with rfl | ht
    · exact ⟨by simp only; omega, by simp only; omega, fun _ => by simp only; omega⟩
    · have := h.genL t ht; exact ⟨this.1, by omega, this.2.2⟩
  · have := h.genV t ht; exact ⟨this.1, by omega, this.2.2⟩
  · have := h.st; simp only [Hps.put]; omega
  · rcases mem_set ht with rfl | ht
    · exact ⟨[], rfl, by simp⟩
    · exact h.ch t ht htg
/-- What a version leaves. -/
def Hps.add (σ : Hps) (i : Nat) (r : Rsv) (m : Nat) (s : Slot Cl) (j : Nat) (t : Slot No) (y : Ve) : Hps := ⟨σ.L.set m ⟨⟨s.has.key, ⟨j, t.gen + 1⟩, s.has.closed, s.has.retired⟩, s.gen, s.given⟩, σ.sl, σ.V.set j ⟨⟨y, s.has.newest⟩, t.gen + 1, true⟩, σ.sv, σ.rs.set i ⟨r.on, r.cells, r.versions - 1⟩⟩
theorem ch_add {V : List (Slot No)} {j : Nat} {t : Slot No} {h : Hd} {xs : List (Hd × No)} (y : Ve) (ht : V[j]? = some t) (hg : t.given = false) (h0 : 0 ≤ t.gen) (hc : Ch V h xs) : Ch (V.set j ⟨⟨y, h⟩, t.gen + 1, true⟩) ⟨j, t.gen + 1⟩ ((⟨j, t.gen + 1⟩, ⟨y, h⟩) :: xs) := by
  refine ⟨rfl, zH_ne (by omega), ⟨j, rfl, ?_⟩, ch_put _ ht hg hc⟩
  rw [List.getElem?_set_self (List.getElem?_eq_some_iff.1 ht).1]
theorem Hps.Ok.add {k : Nat} {σ : Hps} (h : σ.Ok k) {i j m : Nat} {r : Rsv} {fr : List Int} {s : Slot Cl} {t : Slot No} {xs : List (Hd × No)} (hr : σ.rs[i]? = some r) (hc : 1 ≤ r.versions) (hf : freeOf σ.V = (j : Int) :: fr) (ht : σ.V[j]? = some t) (htg : t.given = false) (hs : σ.L[m]? = some s) (hch : Ch σ.V s.has.newest xs) (hxl : xs.length < 1024) (y : Ve) : (σ.add i r m s j t y).Ok (k + 1) := by
  have hg := h.genV t (List.mem_of_getElem? ht)
  have hgs := h.genL s (List.mem_of_getElem? hs)
  have hrb := h.rb r (List.mem_of_getElem? hr)
  refine ⟨by simpa [Hps.add] using h.len, by simpa [Hps.add] using h.rs, fun q hq => ?_, ?_, fun q hq => ?_, fun q hq => ?_, ?_, fun q hq hqg => ?_⟩
  · rcases mem_set hq with rfl | hq
    · exact ⟨hrb.1, by simp only; omega⟩
    · exact h.rb q hq
  · have h1 := h.rooms
    have h2 := h.room
    have e1 : (σ.add i r m s j t y).room.1 = σ.room.1 := by
      rw [h1.1]
      show roomOf _ _ _ _ = _
      rw [room_eq]
      unfold Hps.add
      simp only
      rw [sum_set _ _ hr, live_same (s' := ⟨⟨s.has.key, ⟨j, t.gen + 1⟩, s.has.closed, s.has.retired⟩, s.gen, s.given⟩) hs rfl, List.length_set]
      simp only
      omega
    have e2 : (σ.add i r m s j t y).room.2 = σ.room.2 := by
      rw [h1.2]
      show roomOf _ _ _ _ = _
      rw [room_eq]
      unfold Hps.add
      simp only
      rw [sum_set _ _ hr, live_put hf rfl, List.length_set]
      simp only
      omega
    rw [e1, e2]; exact h2
  · rcases mem_set hq with rfl | hq
    · exact ⟨hgs.1, by simp only; omega, hgs.2.2⟩
    · have := h.genL q hq; exact ⟨this.1, by omega, this.2.2⟩
  · rcases mem_set hq with rfl | hq
    · exact ⟨by simp only; omega, by simp only; omega, fun _ => by simp only; omega⟩
    · have := h.genV q hq; exact ⟨this.1, by omega, this.2.2⟩
  · have := h.st; simp only [Hps.add]; omega
  · rcases mem_set hq with rfl | hq
    · exact ⟨_, ch_add y ht htg hg.1 hch, by simp; omega⟩
    · obtain ⟨ys, h1, h2⟩ := h.ch q hq hqg
      exact ⟨ys, ch_put _ ht htg h1, h2⟩
theorem Hps.Ok.setRsv {k : Nat} {σ : Hps} (h : σ.Ok k) {i : Nat} {r : Rsv} (r' : Rsv) (hr : σ.rs[i]? = some r) (h0 : 0 ≤ r'.cells ∧ 0 ≤ r'.versions) (h1 : r'.cells ≤ σ.room.1 + r.cells) (h2 : r'.versions ≤ σ.room.2 + r.versions) : (σ.setRsv i r').Ok k := by
  refine ⟨h.len, by simpa [Hps.setRsv] using h.rs, fun q hq => ?_, ?_, h.genL, h.genV, h.st, h.ch⟩
  · rcases mem_set hq with rfl | hq
    · exact h0
    · exact h.rb q hq
  · have h3 := h.rooms
    have e1 : (σ.setRsv i r').room.1 = σ.room.1 + r.cells - r'.cells := by
      rw [h3.1]
      show roomOf _ _ _ _ = _
      rw [room_eq]
      unfold Hps.setRsv
      simp only
      rw [sum_set _ _ hr]
      try simp only
      omega
    have e2 : (σ.setRsv i r').room.2 = σ.room.2 + r.versions - r'.versions := by
      rw [h3.2]
      show roomOf _ _ _ _ = _
      rw [room_eq]
      unfold Hps.setRsv
      simp only
      rw [sum_set _ _ hr]
      try simp only
      omega
    rw [e1, e2]; omega
theorem Hps.Ok.reserve {k : Nat} {σ : Hps} (h : σ.Ok k) (s x y : Int) : (σ.reserve s x y).Ok k := by
  unfold Hps.reserve
  by_cases hm : σ.mayReserve s x y = 0
  · rw [if_pos hm]
    unfold Hps.mayReserve at hm
    split at hm
    · rename_i hl
      have hs : 0 ≤ s ∧ s ≤ 16 := by
        unfold looksH at hl
        split at hl
        · assumption
        · cases hl
      obtain ⟨i, rfl⟩ : ∃ i : Nat, s = i := ⟨s.toNat, by omega⟩
      split at hm
      · cases hm
      · split at hm
        · cases hm
        · split at hm
          · cases hm
          · obtain ⟨r, hri⟩ : ∃ r, σ.rs[i]? = some r := ⟨_, List.getElem?_eq_getElem (by rw [h.rs]; omega)⟩
            have hrb := h.rb r (List.mem_of_getElem? hri)
            rw [Int.toNat_natCast]
            exact h.setRsv _ hri ⟨by simp only; omega, by simp only; omega⟩ (by simp only; omega) (by simp only; omega)
    · cases hm
  · rw [if_neg hm]; exact h
theorem Hps.Ok.release {k : Nat} {σ : Hps} (h : σ.Ok k) (s : Int) : (σ.release s).Ok k := by
  unfold Hps.release
  rcases holds_cases h.rs s with ⟨hn, _⟩ | ⟨i, r, rfl, hi, hri, _, _, hn⟩
  · rw [if_neg hn]; exact h
  · rw [if_pos hn, Int.toNat_natCast]
    have hrb := h.rb r (List.mem_of_getElem? hri)
    have := h.room
    exact h.setRsv _ hri ⟨by decide, by decide⟩ (by simp only; omega) (by simp only; omega)
end Go.Proofs.Ytinejaganickpaa

namespace Go.Proofs.Ytinejaganickpaa
set_option linter.unusedVariables false
set_option linter.unusedSimpArgs false
open Go Go.RowKit Go.Sort

section
variable {b c v e : Nat} {σ : Hps} {w w' : World} {F : Nat → Prop}
theorem cell_no_h {s : Int} {key : ByteArray} (h : Pw F w w' (HpL b c v e σ)) (hl : σ.rs.length = 17) (hn : σ.holds s ≠ 0) :
    Calls Try.prog 12 #[.pointer (some ⟨b, 0, none⟩), .int .i64 s, .string key] w' fun e' w'' => e' = .returned (.tuple #[.agg #[.int .i64 0, .int .i64 0], .int .i64 (σ.holds s)]) ∧ KN w' w'' := by
  have HH := Lib.hid (holds_h (h.kn (kn_alloc w' (.cells #[.int .i64 0, .int .i64 0] 36))) hl s)
  obtain ⟨g0, g1, gf0, gf1⟩ := cells2 (heap_alloc_same w' (.cells #[.int .i64 0, .int .i64 0] 36))
  have hk := kn_alloc w' (.cells #[.int .i64 0, .int .i64 0] 36)
  have HN := Lib.hid hn
  clear h hn
  generalize σ.holds s = q at *
  have hq : (q != 0) = true := by simpa using HN.out
  go_enter Try.func12, Try.ntmps12
  go_wp2_with (go_at_call 34; refine HH.out.mono ?_; rintro e w3 ⟨rfl, rfl⟩)
  exact bodyPost_ret (v := .tuple #[.agg #[.int .i64 0, .int .i64 0], .int .i64 q]) (by simp [results, Try.results12, go_sem, g0, g1]) rfl ⟨rfl, hk⟩
theorem cell_key_h {s : Int} {key : ByteArray} (h : Pw F w w' (HpL b c v e σ)) (hl : σ.rs.length = 17) (hn : σ.holds s = 0) (hks : key.size ≤ maxLen) (hkey : keyOk key ≠ 0) :
    Calls Try.prog 12 #[.pointer (some ⟨b, 0, none⟩), .int .i64 s, .string key] w' fun e' w'' => e' = .returned (.tuple #[.agg #[.int .i64 0, .int .i64 0], .int .i64 (keyOk key)]) ∧ KN w' w'' := by
  have HH := Lib.hid (holds_h (h.kn (kn_alloc w' (.cells #[.int .i64 0, .int .i64 0] 36))) hl s)
  rw [hn] at HH
  have HKy := Lib.hid (fun w => key_r key hks w)
  obtain ⟨g0, g1, gf0, gf1⟩ := cells2 (heap_alloc_same w' (.cells #[.int .i64 0, .int .i64 0] 36))
  have hk := kn_alloc w' (.cells #[.int .i64 0, .int .i64 0] 36)
  have HN := Lib.hid hkey
  clear h hn hkey hks
  generalize keyOk key = q at *
  have hq : (q != 0) = true := by simpa using HN.out
  go_enter Try.func12, Try.ntmps12
  go_wp2_with (first | (go_at_call 34; refine HH.out.mono ?_; rintro e w3 ⟨rfl, rfl⟩) | (go_at_call 35; refine (HKy.out _).mono ?_; rintro e w3 ⟨rfl, rfl⟩))
  exact bodyPost_ret (v := .tuple #[.agg #[.int .i64 0, .int .i64 0], .int .i64 q]) (by simp [results, Try.results12, go_sem, g0, g1]) rfl ⟨rfl, hk⟩
theorem cell_zero_h {i : Nat} {r : Rsv} {key : ByteArray} (h : Pw F w w' (HpL b c v e σ)) (hl : σ.rs.length = 17) (hi : i < 17) (hri : σ.rs[i]? = some r) (hon : r.on = true) (hks : key.size ≤ maxLen) (hkey : keyOk key = 0) (hc : r.cells = 0) :
    Calls Try.prog 12 #[.pointer (some ⟨b, 0, none⟩), .int .i64 i, .string key] w' fun e' w'' => e' = .returned (.tuple #[.agg #[.int .i64 0, .int .i64 0], .int .i64 5]) ∧ KN w' w'' := by
  have HH := Lib.hid (holds_h (h.kn (kn_alloc w' (.cells #[.int .i64 0, .int .i64 0] 36))) hl (i : Int))
  rw [holds_on hi hri hon] at HH
  have HKy := Lib.hid (fun w => key_r key hks w)
  rw [hkey] at HKy
  obtain ⟨q0, q1, q2⟩ := hp_rsv (h.kn (kn_alloc w' (.cells #[.int .i64 0, .int .i64 0] 36))) hri
  rw [hc] at q1
  obtain ⟨g0, g1, gf0, gf1⟩ := cells2 (heap_alloc_same w' (.cells #[.int .i64 0, .int .i64 0] 36))
  have hk := kn_alloc w' (.cells #[.int .i64 0, .int .i64 0] 36)
  have hz0 : (0 : Int) ≤ (i : Int) := by omega
  have hz1 : (i : Int) < 17 := by omega
  clear h hkey hks hri hon
  go_enter Try.func12, Try.ntmps12
  go_wp2_with (first | (go_at_call 34; refine HH.out.mono ?_; rintro e w3 ⟨rfl, rfl⟩) | (go_at_call 35; refine (HKy.out _).mono ?_; rintro e w3 ⟨rfl, rfl⟩))
  exact bodyPost_ret (v := .tuple #[.agg #[.int .i64 0, .int .i64 0], .int .i64 5]) (by simp [results, Try.results12, go_sem, g0, g1]) rfl ⟨rfl, hk⟩
end
end Go.Proofs.Ytinejaganickpaa

namespace Go.Proofs.Ytinejaganickpaa
set_option linter.unusedVariables false
set_option linter.unusedSimpArgs false
open Go Go.RowKit

/-- What Cell does. -/
inductive CellR (σ : Hps) (s : Int) (key : ByteArray) : Hps → Hd → Int → Prop
  | no : σ.holds s ≠ 0 → CellR σ s key σ zH (σ.holds s)
  | bad : σ.holds s = 0 → keyOk key ≠ 0 → CellR σ s key σ zH (keyOk key)
  | none {i : Nat} {r : Rsv} : s = i → i < 17 → σ.rs[i]? = some r → r.on = true → keyOk key = 0 → r.cells = 0 → CellR σ s key σ zH 5
  | ok {i j : Nat} {r : Rsv} {fr : List Int} {t : Slot Cl} : s = i → i < 17 → σ.rs[i]? = some r → r.on = true → keyOk key = 0 → 1 ≤ r.cells → freeOf σ.L = (j : Int) :: fr → σ.L[j]? = some t → t.given = false → CellR σ s key (σ.put i r j t key) ⟨j, t.gen + 1⟩ 0
/-- What Install does at a good handle. -/
inductive InstR (σ : Hps) (s : Int) (m : Nat) (t : Slot Cl) (xs : List (Hd × No)) (y : Ve) : Hps → Int → Prop
  | no : σ.holds s ≠ 0 → InstR σ s m t xs y σ (σ.holds s)
  | closed : σ.holds s = 0 → t.has.closed = true → InstR σ s m t xs y σ 160
  | bad : σ.holds s = 0 → t.has.closed = false → putV (xs.map (·.2.has)) y ≠ 0 → InstR σ s m t xs y σ (putV (xs.map (·.2.has)) y)
  | none {i : Nat} {r : Rsv} : s = i → i < 17 → σ.rs[i]? = some r → r.on = true → t.has.closed = false → putV (xs.map (·.2.has)) y = 0 → r.versions = 0 → InstR σ s m t xs y σ 5
  | ok {i j : Nat} {r : Rsv} {fr : List Int} {u : Slot No} : s = i → i < 17 → σ.rs[i]? = some r → r.on = true → t.has.closed = false → putV (xs.map (·.2.has)) y = 0 → 1 ≤ r.versions → freeOf σ.V = (j : Int) :: fr → σ.V[j]? = some u → u.given = false → InstR σ s m t xs y (σ.add i r m t j u y) 0
theorem put_short {l : List Ve} {y : Ve} (h : putV l y = 0) : l.length < 1024 := by
  unfold putV at h
  split at h
  · cases h
  · split at h
    · cases h
    · split at h
      · cases h
      · omega
section
variable {b e : Nat} {σ : Hps} {ε : Eps} {w0 w w' : World} {F : Nat → Prop} {k : Nat}
theorem cell_t {M : List Asr} (hO : σ.Ok k) (hk : k ≤ 9000000) (s : Int) (key : ByteArray) (hks : key.size ≤ maxLen) (h : One w0 w (EpA e ε :: HpA b e σ :: M)) :
    Calls Try.prog 12 #[.pointer (some ⟨b, 0, none⟩), .int .i64 s, .string key] w fun e' w' => ∃ σ' x err, e' = .returned (.tuple #[hdV x, .int .i64 err]) ∧ CellR σ s key σ' x err ∧ One w0 w' (EpA e ε :: HpA b e σ' :: M) := by
  rcases holds_cases hO.rs s with ⟨hn, _⟩ | ⟨i, r, rfl, hi, hri, hon, _, hn⟩
  · exact (h.still (fun c d F1 hp => cell_no_h hp hO.rs hn)).mono fun e' w'' ⟨he, ho⟩ => ⟨_, _, _, he, .no hn, ho⟩
  · by_cases hkey : keyOk key = 0
    · have hrb := hO.bounds r (List.mem_of_getElem? hri)
      by_cases hc : r.cells = 0
      · exact (h.still (fun c d F1 hp => cell_zero_h hp hO.rs hi hri hon hks hkey hc)).mono fun e' w'' ⟨he, ho⟩ => ⟨_, _, _, he, .none rfl hi hri hon hkey hc, ho⟩
      · obtain ⟨j, fr, t, hf, ht, htg⟩ := hO.freeL hri (by omega)
        have hg := hO.genL t (List.mem_of_getElem? ht)
        exact (h.lift 1 rfl (fun F h => cell_ok_h h hO.rs hi hri hon hkey hks ⟨by omega, by omega⟩ hf ht ⟨hg.1, by omega⟩ hO.len.1)).mono fun e' w'' ⟨he, ho⟩ => ⟨_, _, _, he, .ok rfl hi hri hon hkey (by omega) hf ht htg, ho⟩
    · exact (h.still (fun c d F1 hp => cell_key_h hp hO.rs hn hks hkey)).mono fun e' w'' ⟨he, ho⟩ => ⟨_, _, _, he, .bad hn hkey, ho⟩
theorem install_t {M : List Asr} {m : Nat} {t : Slot Cl} {xs : List (Hd × No)} (hO : σ.Ok k) (hk : k ≤ 9000000) (s : Int) (hm : σ.L[m]? = some t) (hg : t.given = true) (hc : Ch σ.V t.has.newest xs) (hxl : xs.length ≤ 1024) (y : Ve) (hys : y.value.size ≤ maxLen) (h : One w0 w (EpA e ε :: HpA b e σ :: M)) :
    Calls Try.prog 13 #[.pointer (some ⟨b, 0, none⟩), .int .i64 s, .agg #[.int .i64 m, .int .i64 t.gen], vev y] w fun e' w' => ∃ σ' err, e' = .returned (.int .i64 err) ∧ InstR σ s m t xs y σ' err ∧ One w0 w' (EpA e ε :: HpA b e σ' :: M) := by
  rcases holds_cases hO.rs s with ⟨hn, _⟩ | ⟨i, r, rfl, hi, hri, hon, _, hn⟩
  · exact (h.still (fun c d F1 hp => install_no hp hO.rs hn)).mono fun e' w'' ⟨he, ho⟩ => ⟨_, _, he, .no hn, ho⟩
  · have hrb := hO.bounds r (List.mem_of_getElem? hri)
    cases hcl : t.has.closed with
    | true => exact (h.still (fun c d F1 hp => install_closed hp hO.rs hi hri hon hm hg hcl)).mono fun e' w'' ⟨he, ho⟩ => ⟨_, _, he, .closed hn hcl, ho⟩
    | false =>
      by_cases hp0 : putV (xs.map (·.2.has)) y = 0
      · by_cases hv : r.versions = 0
        · exact (h.still (fun c d F1 hp => install_zero hp hO.rs hi hri hon hm hg hcl hc (by omega) hys hp0 hv)).mono fun e' w'' ⟨he, ho⟩ => ⟨_, _, he, .none rfl hi hri hon hcl hp0 hv, ho⟩
        · obtain ⟨j, fr, u, hf, hu, hug⟩ := hO.freeV hri (by omega)
          have hgu := hO.genV u (List.mem_of_getElem? hu)
          exact (h.heap (fun c d F1 hp => install_ok hp hO.rs hi hri hon hm hg hcl hc (by omega) hys hp0 ⟨by omega, by omega⟩ hf hu ⟨hgu.1, by omega⟩ hO.len.2)).mono fun e' w'' ⟨he, ho⟩ => ⟨_, _, he, .ok rfl hi hri hon hcl hp0 (by omega) hf hu hug, ho⟩
      · exact (h.still (fun c d F1 hp => install_err hp hO.rs hi hri hon hm hg hcl hc (by omega) hys hp0)).mono fun e' w'' ⟨he, ho⟩ => ⟨_, _, he, .bad hn hcl hp0, ho⟩
end
theorem CellR.ok' {k : Nat} {σ σ' : Hps} {s err : Int} {key : ByteArray} {x : Hd} (h : CellR σ s key σ' x err) (hO : σ.Ok k) : σ'.Ok (k + 1) := by
  cases h with
  | no => exact hO.mono (by omega)
  | bad => exact hO.mono (by omega)
  | none => exact hO.mono (by omega)
  | ok h1 h2 h3 h4 h5 h6 h7 h8 h9 => exact hO.put h3 h6 h7 h8 key
theorem InstR.ok' {k m : Nat} {σ σ' : Hps} {s err : Int} {t : Slot Cl} {xs : List (Hd × No)} {y : Ve} (h : InstR σ s m t xs y σ' err) (hO : σ.Ok k) (hm : σ.L[m]? = some t) (hc : Ch σ.V t.has.newest xs) : σ'.Ok (k + 1) := by
  cases h with
  | no => exact hO.mono (by omega)
  | closed => exact hO.mono (by omega)
  | bad => exact hO.mono (by omega)
  | none => exact hO.mono (by omega)
  | ok h1 h2 h3 h4 h5 h6 h7 h8 h9 h10 =>
    have := put_short h6
    rw [List.length_map] at this
    exact hO.add h3 h7 h8 h9 h10 hm hc this y
/-- A good handle stays one. -/
theorem good_put {l : List (Slot Cl)} {j : Nat} {t x u : Slot Cl} {s g : Int} (ht : l[j]? = some t) (hg : t.given = false) (h : goodAt l s g = some u) : goodAt (l.set j x) s g = some u := by
  obtain ⟨i, rfl, h1, h2, h3⟩ := goodAt_some h
  have hij : j ≠ i := fun e => by subst e; rw [ht] at h1; cases h1; rw [hg] at h2; cases h2
  unfold goodAt at h ⊢
  rw [Int.toNat_natCast, List.getElem?_set_ne hij]
  rw [Int.toNat_natCast] at h
  exact h
theorem good_same {l : List (Slot Cl)} {j : Nat} {t x u : Slot Cl} {s g : Int} (ht : l[j]? = some t) (hg : x.given = t.given) (hgg : x.gen = t.gen) (h : goodAt l s g = some u) : ∃ u', goodAt (l.set j x) s g = some u' := by
  obtain ⟨i, rfl, h1, h2, h3⟩ := goodAt_some h
  have hi := (List.getElem?_eq_some_iff.1 h1).1
  unfold goodAt
  rw [Int.toNat_natCast, if_pos (by omega)]
  by_cases e : j = i
  · subst e
    rw [ht] at h1; cases h1
    rw [List.getElem?_set_self hi]
    simp [hg, hgg, h2, h3]
  · rw [List.getElem?_set_ne e, h1]
    simp [h2, h3]
theorem good_self {l : List (Slot Cl)} {j : Nat} {x : Slot Cl} (hj : j < l.length) (hg : x.given = true) : goodAt (l.set j x) j x.gen = some x := by
  unfold goodAt
  rw [Int.toNat_natCast, if_pos (by omega), List.getElem?_set_self hj]
  simp [hg]
end Go.Proofs.Ytinejaganickpaa

namespace Go.Proofs.Ytinejaganickpaa
set_option linter.unusedVariables false
set_option linter.unusedSimpArgs false
open Go Go.RowKit

/-- Session 3 has x cells and y versions; the handles of hs are good. -/
structure Kps (k : Nat) (σ : Hps) (x y : Int) (hs : List Hd) : Prop where
  ok : σ.Ok k
  mine : σ.rs[3]? = some ⟨true, x, y⟩
  good : ∀ h ∈ hs, ∃ t, goodAt σ.L h.slot h.gen = some t
  len : hs.length ≤ k
theorem holds3 {σ : Hps} {s : Int} (h3 : s ≠ 3) (hl : looksH s = 0) : s.toNat ≠ 3 := by
  unfold looksH at hl
  split at hl
  · omega
  · cases hl
theorem Kps.step {k : Nat} {σ : Hps} {x y : Int} {hs : List Hd} (h : Kps k σ x y hs) : Kps (k + 1) σ x y hs := ⟨h.ok.mono (by omega), h.mine, h.good, by have := h.len; omega⟩
theorem Kps.reserve {k : Nat} {σ : Hps} {x y : Int} {hs : List Hd} (h : Kps k σ x y hs) {s : Int} (h3 : s ≠ 3) (a b : Int) : Kps (k + 1) (σ.reserve s a b) x y hs := by
  have h0 := h.step
  refine ⟨h0.ok.reserve s a b, ?_, ?_, h0.len⟩
  · unfold Hps.reserve
    split
    · rename_i hm
      have hl : looksH s = 0 := by
        unfold Hps.mayReserve at hm
        split at hm
        · assumption
        · cases hm
      unfold Hps.setRsv
      simp only
      rw [List.getElem?_set_ne (holds3 (σ := σ) h3 hl)]
      exact h.mine
    · exact h.mine
  · unfold Hps.reserve
    split
    · exact h.good
    · exact h.good
theorem Kps.release {k : Nat} {σ : Hps} {x y : Int} {hs : List Hd} (h : Kps k σ x y hs) {s : Int} (h3 : s ≠ 3) : Kps (k + 1) (σ.release s) x y hs := by
  have h0 := h.step
  refine ⟨h0.ok.release s, ?_, ?_, h0.len⟩
  · unfold Hps.release
    split
    · rename_i hm
      have hl : looksH s = 0 := by
        unfold Hps.holds at hm
        split at hm
        · assumption
        · cases hm
      unfold Hps.setRsv
      simp only
      rw [List.getElem?_set_ne (holds3 (σ := σ) h3 hl)]
      exact h.mine
    · exact h.mine
  · unfold Hps.release
    split
    · exact h.good
    · exact h.good
theorem Kps.cell {k : Nat} {σ σ' : Hps} {x y : Int} {hs : List Hd} (h : Kps k σ x y hs) {s err : Int} {key : ByteArray} {q : Hd} (h3 : s ≠ 3) (hc : CellR σ s key σ' q err) : Kps (k + 1) σ' x y (if err = 0 then hs ++ [q] else hs) := by
  have h0 := h.step
  have hok := hc.ok' h.ok
  cases hc with
  | no hn => rw [if_neg hn]; exact h0
  | bad _ hn => rw [if_neg hn]; exact h0
  | none => exact h0
  | @ok i j r fr t h1 h2 h5 h6 h7 h8 h9 h10 h11 =>
    rw [if_pos rfl]
    refine ⟨hok, ?_, fun z hz => ?_, by have := h.len; simp; omega⟩
    · unfold Hps.put
      simp only
      rw [List.getElem?_set_ne (by omega)]
      exact h.mine
    · rcases List.mem_append.1 hz with hz | hz
      · obtain ⟨u, hu⟩ := h.good z hz
        exact ⟨u, good_put h10 h11 hu⟩
      · rw [List.mem_singleton] at hz
        subst hz
        exact ⟨_, good_self (List.getElem?_eq_some_iff.1 h10).1 rfl⟩
theorem Kps.install {k m : Nat} {σ σ' : Hps} {x y : Int} {hs : List Hd} (h : Kps k σ x y hs) {s err : Int} {t : Slot Cl} {xs : List (Hd × No)} {v : Ve} (h3 : s ≠ 3) (hm : σ.L[m]? = some t) (hc : Ch σ.V t.has.newest xs) (hi : InstR σ s m t xs v σ' err) : Kps (k + 1) σ' x y hs := by
  have h0 := h.step
  have hok := hi.ok' h.ok hm hc
  cases hi with
  | no => exact h0
  | closed => exact h0
  | bad => exact h0
  | none => exact h0
  | @ok i j r fr u h1 h2 h5 h6 h7 h8 h9 h10 h11 h12 =>
    refine ⟨hok, ?_, fun z hz => ?_, h0.len⟩
    · unfold Hps.add
      simp only
      rw [List.getElem?_set_ne (by omega)]
      exact h.mine
    · obtain ⟨w, hw⟩ := h.good z hz
      exact good_same hm rfl rfl hw
/-- The heap that is made. -/
theorem ok0 {n m : Nat} (hn : 1 ≤ n ∧ n ≤ 65536) (hm : 1 ≤ m ∧ m ≤ 65536) : (hp0 n m).Ok 0 := by
  have hf : ∀ (α : Type) (z : Slot α) (q : Nat), z.given = false → liveOf (List.replicate q z) = 0 := fun α z q hz => by
    unfold liveOf
    rw [free_new q z hz]
    simp
  have hs : ∀ f : Rsv → Int, f ⟨false, 0, 0⟩ = 0 → sumOf f (List.replicate 17 ⟨false, 0, 0⟩) = 0 := fun f h0 => by simp [List.replicate, sumOf, h0]
  refine ⟨by simp [hp0]; omega, by simp [hp0], fun r hr => ?_, ?_, fun s h => ?_, fun s h => ?_, by simp [hp0], fun s h hg => ?_⟩
  · rw [List.eq_of_mem_replicate hr]; decide
  · constructor
    · show 0 ≤ roomOf _ _ _ _
      rw [room_eq]
      simp only [hp0]
      rw [hf _ _ _ rfl, hs _ rfl]
      omega
    · show 0 ≤ roomOf _ _ _ _
      rw [room_eq]
      simp only [hp0]
      rw [hf _ _ _ rfl, hs _ rfl]
      omega
  · rw [List.eq_of_mem_replicate h]; exact ⟨by decide, by decide, fun h => by cases h⟩
  · rw [List.eq_of_mem_replicate h]; exact ⟨by decide, by decide, fun h => by cases h⟩
  · rw [List.eq_of_mem_replicate h] at hg; cases hg
theorem room0 (n m : Nat) : (hp0 n m).room = ((n : Int), (m : Int)) := by
  have hf : ∀ (α : Type) (z : Slot α) (q : Nat), z.given = false → liveOf (List.replicate q z) = 0 := fun α z q hz => by
    unfold liveOf
    rw [free_new q z hz]
    simp
  have hs : ∀ f : Rsv → Int, f ⟨false, 0, 0⟩ = 0 → sumOf f (List.replicate 17 ⟨false, 0, 0⟩) = 0 := fun f h0 => by simp [List.replicate, sumOf, h0]
  unfold Hps.room
  rw [room_eq, room_eq]
  simp only [hp0]
  rw [hf _ _ _ rfl, hf _ _ _ rfl, hs _ rfl, hs _ rfl]
  simp
theorem may3 {n m : Nat} {s x y : Int} (hs : 0 ≤ s ∧ s ≤ 16) (hx : 0 ≤ x ∧ x ≤ n) (hy : 0 ≤ y ∧ y ≤ m) : (hp0 n m).mayReserve s x y = 0 := by
  have hl : looksH s = 0 := by unfold looksH; rw [if_pos hs]
  have ho : (hp0 n m).isOn s = false := by
    unfold Hps.isOn hp0
    simp only
    rw [List.getElem?_replicate, if_pos (by omega)]
    rfl
  unfold Hps.mayReserve
  rw [if_pos hl, if_neg (by omega), ho, if_neg (by simp), room0, if_neg (by simp only; omega)]
theorem kps0 {n m : Nat} (hn : 1 ≤ n ∧ n ≤ 65536) (hm : 1 ≤ m ∧ m ≤ 65536) {x y : Int} (hx : 0 ≤ x ∧ x ≤ n) (hy : 0 ≤ y ∧ y ≤ m) : Kps 0 ((hp0 n m).reserve 3 x y) x y [] := by
  refine ⟨(ok0 hn hm).reserve 3 x y, ?_, by simp, by simp⟩
  unfold Hps.reserve
  rw [if_pos (may3 (by decide) hx hy)]
  rfl
end Go.Proofs.Ytinejaganickpaa

namespace Go.Proofs.Ytinejaganickpaa
set_option linter.unusedVariables false
set_option linter.unusedSimpArgs false
open Go Go.RowKit

section
variable {b e : Nat} {σ : Hps} {ε : Eps} {w0 w w' : World} {k : Nat}
/-- A cell is given. -/
theorem cell_step {M : List Asr} {i : Nat} {x y : Int} {key : ByteArray} (H : One w0 w (EpA e ε :: HpA b e σ :: M)) (hO : σ.Ok k) (hk : k ≤ 8000000) (hi : i < 17) (hr : σ.rs[i]? = some ⟨true, x, y⟩) (hx : 1 ≤ x) (hkey : keyOk key = 0) (hks : key.size ≤ maxLen) :
    ∃ (σ' : Hps) (j : Nat) (g : Int), Calls Try.prog 12 #[.pointer (some ⟨b, 0, none⟩), .int .i64 i, .string key] w (fun e' w' => e' = .returned (.tuple #[.agg #[.int .i64 j, .int .i64 g], .int .i64 0]) ∧ One w0 w' (EpA e ε :: HpA b e σ' :: M)) ∧
      σ'.Ok (k + 1) ∧ σ'.rs[i]? = some ⟨true, x - 1, y⟩ ∧ σ'.L[j]? = some ⟨⟨key, ⟨0, 0⟩, false, false⟩, g, true⟩ ∧ σ'.V = σ.V ∧ σ'.sl = σ.sl ∧ σ'.sv = σ.sv ∧ (∀ (m : Nat) (s : Slot Cl), σ.L[m]? = some s → s.given = true → σ'.L[m]? = some s ∧ m ≠ j) ∧ liveOf σ'.L = liveOf σ.L + 1 ∧ σ'.L.length = σ.L.length := by
  obtain ⟨j, fr, t, hf, ht, htg⟩ := hO.freeL hr hx
  have hg := hO.genL t (List.mem_of_getElem? ht)
  have hb := hO.bounds _ (List.mem_of_getElem? hr)
  refine ⟨σ.put i ⟨true, x, y⟩ j t key, j, t.gen + 1, H.lift 1 rfl (fun F h => cell_ok_h h hO.rs hi hr rfl hkey hks ⟨hx, hb.2.1⟩ hf ht ⟨hg.1, by omega⟩ hO.len.1), hO.put hr hx hf ht key, ?_, ?_, rfl, rfl, rfl, fun m s hm hs => ?_, ?_, ?_⟩
  · exact List.getElem?_set_self (by rw [hO.rs]; exact hi)
  · exact List.getElem?_set_self (List.getElem?_eq_some_iff.1 ht).1
  · have hne : m ≠ j := fun e => by subst e; rw [ht] at hm; cases hm; rw [htg] at hs; cases hs
    exact ⟨(List.getElem?_set_ne (Ne.symm hne)).trans hm, hne⟩
  · exact live_put hf rfl
  · exact List.length_set
/-- A version is put. -/
theorem inst_step {M : List Asr} {i m : Nat} {x v g : Int} {key : ByteArray} {h0 : Hd} {xs : List (Hd × No)} {rt : Bool} (y : Ve) (H : One w0 w (EpA e ε :: HpA b e σ :: M)) (hO : σ.Ok k) (hk : k ≤ 8000000) (hi : i < 17) (hr : σ.rs[i]? = some ⟨true, x, v⟩) (hv : 1 ≤ v)
    (hm : σ.L[m]? = some ⟨⟨key, h0, false, rt⟩, g, true⟩) (hc : Ch σ.V h0 xs) (hp : putV (xs.map (·.2.has)) y = 0) (hys : y.value.size ≤ maxLen) :
    ∃ (σ' : Hps) (h1 : Hd), Calls Try.prog 13 #[.pointer (some ⟨b, 0, none⟩), .int .i64 i, .agg #[.int .i64 m, .int .i64 g], vev y] w (fun e' w' => e' = .returned (.int .i64 0) ∧ One w0 w' (EpA e ε :: HpA b e σ' :: M)) ∧
      σ'.Ok (k + 1) ∧ σ'.rs[i]? = some ⟨true, x, v - 1⟩ ∧ σ'.L[m]? = some ⟨⟨key, h1, false, rt⟩, g, true⟩ ∧ Ch σ'.V h1 ((h1, ⟨y, h0⟩) :: xs) ∧ σ'.sl = σ.sl ∧ σ'.sv = σ.sv ∧ (∀ m', m' ≠ m → σ'.L[m']? = σ.L[m']?) ∧ (∀ h zs, Ch σ.V h zs → Ch σ'.V h zs) ∧ (∀ (q : Nat) (s : Slot No), σ.V[q]? = some s → s.given = true → σ'.V[q]? = some s ∧ h1.slot ≠ q) ∧ liveOf σ'.L = liveOf σ.L ∧ liveOf σ'.V = liveOf σ.V + 1 ∧ σ'.L.length = σ.L.length ∧ σ'.V.length = σ.V.length := by
  obtain ⟨j, fr, t, hf, ht, htg⟩ := hO.freeV hr hv
  have hg := hO.genV t (List.mem_of_getElem? ht)
  have hb := hO.bounds _ (List.mem_of_getElem? hr)
  have hsh := put_short hp
  rw [List.length_map] at hsh
  refine ⟨σ.add i ⟨true, x, v⟩ m ⟨⟨key, h0, false, rt⟩, g, true⟩ j t y, ⟨j, t.gen + 1⟩, H.heap (fun c d F1 hpp => install_ok hpp hO.rs hi hr rfl hm rfl rfl hc (by omega) hys hp ⟨hv, hb.2.2.2⟩ hf ht ⟨hg.1, by omega⟩ hO.len.2), hO.add hr hv hf ht htg hm hc hsh y, ?_, ?_, ch_add y ht htg hg.1 hc, rfl, rfl, fun m' hne => List.getElem?_set_ne (Ne.symm hne), fun h zs hz => ch_put _ ht htg hz, fun q s hq hs => ?_, ?_, ?_, ?_, ?_⟩
  · exact List.getElem?_set_self (by rw [hO.rs]; exact hi)
  · exact List.getElem?_set_self (List.getElem?_eq_some_iff.1 hm).1
  · have hne : q ≠ j := fun e => by subst e; rw [ht] at hq; cases hq; rw [htg] at hs; cases hs
    exact ⟨(List.getElem?_set_ne (Ne.symm hne)).trans hq, by simp only; omega⟩
  · exact live_same (s' := ⟨⟨key, ⟨j, t.gen + 1⟩, false, rt⟩, g, true⟩) hm rfl
  · exact live_put hf rfl
  · exact List.length_set
  · exact List.length_set
/-- No version is left. -/
theorem inst_none {M : List Asr} {i m : Nat} {x g : Int} {key : ByteArray} {h0 : Hd} {xs : List (Hd × No)} {rt : Bool} (y : Ve) (H : One w0 w (EpA e ε :: HpA b e σ :: M)) (hO : σ.Ok k) (hi : i < 17) (hr : σ.rs[i]? = some ⟨true, x, 0⟩)
    (hm : σ.L[m]? = some ⟨⟨key, h0, false, rt⟩, g, true⟩) (hc : Ch σ.V h0 xs) (hp : putV (xs.map (·.2.has)) y = 0) (hys : y.value.size ≤ maxLen) :
    Calls Try.prog 13 #[.pointer (some ⟨b, 0, none⟩), .int .i64 i, .agg #[.int .i64 m, .int .i64 g], vev y] w (fun e' w' => e' = .returned (.int .i64 5) ∧ One w0 w' (EpA e ε :: HpA b e σ :: M)) := by
  have hsh := put_short hp
  rw [List.length_map] at hsh
  have h0' : (⟨true, x, 0⟩ : Rsv).versions = 0 := rfl
  exact H.still (fun c d F1 hpp => install_zero (r := ⟨true, x, 0⟩) (s := ⟨⟨key, h0, false, rt⟩, g, true⟩) hpp hO.rs hi hr rfl hm rfl rfl hc (by omega) hys hp h0')
/-- No cell is left. -/
theorem cell_none {M : List Asr} {i : Nat} {v : Int} {key : ByteArray} (H : One w0 w (EpA e ε :: HpA b e σ :: M)) (hO : σ.Ok k) (hi : i < 17) (hr : σ.rs[i]? = some ⟨true, 0, v⟩) (hkey : keyOk key = 0) (hks : key.size ≤ maxLen) :
    Calls Try.prog 12 #[.pointer (some ⟨b, 0, none⟩), .int .i64 i, .string key] w (fun e' w' => e' = .returned (.tuple #[.agg #[.int .i64 0, .int .i64 0], .int .i64 5]) ∧ One w0 w' (EpA e ε :: HpA b e σ :: M)) :=
  H.still (fun c d F1 hpp => cell_zero_h hpp hO.rs hi hr rfl hks hkey rfl)
end
end Go.Proofs.Ytinejaganickpaa
