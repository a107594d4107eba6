/- The walks of slices.IndexFunc on entries, of page.index, at. -/
import Derived.Test.YtkdlodjpambelaaKeys1
import Derived.Shelf.Abstract
namespace Go.Proofs.Ytkdlodjpambelaa
set_option linter.unusedVariables false
set_option linter.unusedSimpArgs false
open Go Go.RowKit

theorem rd4 {w : World} {a : Option Addr} {l : List En} (h : Rd En.enc 4 w a l) {i : Nat} {x : En} (hx : l[i]? = some x) : ∃ b off, a = some ⟨b, off, none⟩ ∧ b < w.heap.size ∧
    w.cell? ⟨b, off + i * 4, none⟩ = some (.string x.key) ∧ w.cell? ⟨b, off + i * 4 + 1, none⟩ = some (.int .i64 x.ref.slot) ∧ w.cell? ⟨b, off + i * 4 + 2, none⟩ = some (.int .i64 x.ref.gen) ∧ w.cell? ⟨b, off + i * 4 + 3, none⟩ = some (.int .i64 x.child) := by
  obtain ⟨b, off, ha, hb, hc⟩ := h.at hx
  exact ⟨b, off, ha, hb, hc 0 (by omega), hc 1 (by omega), hc 2 (by omega), hc 3 (by omega)⟩
theorem ix_hit {p : En → Bool} {l : List En} {k : Nat} {x : En} (hx : l[k]? = some x) (h : p x = true) (hm : ∀ m y, m < k → l[m]? = some y → p y = false) : ixOf p l = k := by
  unfold ixOf
  have hlt : k < l.length := (List.getElem?_eq_some_iff.1 hx).1
  rw [List.findIdx?_eq_some_iff_getElem.2 ⟨hlt, by rw [(List.getElem?_eq_some_iff.1 hx).2]; exact h, fun j hj => by rw [hm j _ hj (List.getElem?_eq_getElem (by omega))]; simp⟩]
theorem ix_miss {p : En → Bool} {l : List En} (hm : ∀ (m : Nat) y, l[m]? = some y → p y = false) : ixOf p l = -1 := by
  unfold ixOf
  rw [List.findIdx?_eq_none_iff.2 (fun x hx => by obtain ⟨i, hi⟩ := List.getElem?_of_mem hx; exact hm i x hi)]
/-- What a predicate on entries says, in whatever later world. -/
def Says (p : En → Bool) (g : Nat) (lb : Array Value) (w : World) : Prop := ∀ (W : World) (x : En), KN w W → Calls Try.prog g (#[env x] ++ lb) W fun e w' => e = .returned (.bool (p x)) ∧ KN W w'
theorem Says.kn {p : En → Bool} {g : Nat} {lb : Array Value} {w w' : World} (h : Says p g lb w) (k : KN w w') : Says p g lb w' := fun W x k' => h W x (k.trans k' (fun _ h => h.elim))
set_option maxHeartbeats 1000000 in
theorem ix_func (p : En → Bool) (g : Nat) (lb : Array Value) (eg : ∀ args w, (callFunc g args).run Try.prog w = .ok (.enter g args) w) (w : World) (hp : Says p g lb w) {v : Value} {l : List En} (hr : Rl En.enc 4 w v l) (hl : l.length ≤ maxLen) :
    Calls Try.prog 63 #[v, .func (.func g) #[] lb] w fun e w' => e = .returned (.int .i64 (ixOf p l)) ∧ KN w w' := by
  obtain ⟨a, cap, rfl, hc, hr⟩ := hr
  unfold maxLen at hl
  have HR := Lib.hid hr
  have HP := Lib.hid hp
  clear hr hp
  go_enter Try.func63, Try.ntmps63
  go_wp2
  go_loopw [5, 8] (fun _ s8 wr => ∃ kk : Nat, kk ≤ l.length ∧ s8 = .int .i64 kk ∧ Hid (KN w wr) ∧ Hid (∀ m y, m < kk → l[m]? = some y → p y = false)) (fun _ s8 _ => l.length - (intOf s8).toNat)
  case atStart => exact ⟨0, Nat.zero_le _, rfl, Lib.hid (Kp.refl _ w), Lib.hid (fun m y h => by omega)⟩
  case round =>
    obtain ⟨kk, hkk, rfl, HK, HM⟩ := hrel
    by_cases hlt : kk < l.length
    · obtain ⟨x, hx⟩ : ∃ x, l[kk]? = some x := ⟨_, List.getElem?_eq_getElem hlt⟩
      obtain ⟨b, off, rfl, hb, c0, c1, c2, c3⟩ := rd4 (HR.out.kn HK.out) hx
      have hcall := HP.out wr x HK.out
      have HX := Lib.hid hx
      clear hx
      cases hq : p x with
      | true =>
        rw [hq] at hcall
        have HQ := Lib.hid hq
        clear hq
        go_wp2_with (go_at_fn g; refine hcall.mono ?_; rintro e w' ⟨rfl, hb'⟩)
        go_ret
        exact ⟨by rw [ix_hit HX.out HQ.out HM.out]; rfl, HK.out.then hb' (fun _ h => h.elim)⟩
      | false =>
        rw [hq] at hcall
        have HQ := Lib.hid hq
        clear hq
        go_wp2_with (go_at_fn g; refine hcall.mono ?_; rintro e w' ⟨rfl, hb'⟩)
        go_roundw
        case rel =>
          refine ⟨kk + 1, by omega, by go_num, Lib.hid (HK.out.then hb' (fun _ h => h.elim)), Lib.hid (fun m y hm hy => ?_)⟩
          by_cases e : m = kk
          · subst e; rw [HX.out] at hy; cases hy; exact HQ.out
          · exact HM.out m y (by omega) hy
        case measure => simp [intOf]; omega
    · obtain rfl : kk = l.length := by omega
      go_wp2
      go_ret
      exact ⟨by rw [ix_miss (fun m y hy => HM.out m y (List.getElem?_eq_some_iff.1 hy).1 hy)]; rfl, HK.out⟩
theorem index_page (p : En → Bool) (g : Nat) (lb : Array Value) (eg : ∀ args w, (callFunc g args).run Try.prog w = .ok (.enter g args) w) (w : World) (hp : Says p g lb w) {lf : Bool} {low high : ByteArray} {r : Int} {v : Value} {l : List En} (hr : Rl En.enc 4 w v l) (hl : l.length ≤ maxLen) :
    Calls Try.prog 61 #[.agg #[.bool lf, .string low, .string high, .int .i64 r, v], .func (.func g) #[] lb] w fun e w' => e = .returned (.int .i64 (ixOf p l)) ∧ KN w w' := by
  have HC := Lib.hid (fun W (k : KN w W) => ix_func p g lb eg W (hp.kn k) (hr.kn k) hl)
  clear hp hr
  go_enter Try.func61, Try.ntmps61
  go_wp2_with fail
  refine (HC.out _ ((Kp.refl _ w).alloc _)).mono ?_
  rintro e w1 ⟨rfl, k1⟩
  go_wp2_with fail
  go_ret
  exact ⟨rfl, ((Kp.refl _ w).alloc _).then k1 (fun _ h => h.elim)⟩
theorem eg_at1 : ∀ args w, (callFunc 64 args).run Try.prog w = .ok (.enter 64 args) w := enters_of Try.func64 (by kernel_rfl) rfl
theorem eg_put1 : ∀ args w, (callFunc 62 args).run Try.prog w = .ok (.enter 62 args) w := enters_of Try.func62 (by kernel_rfl) rfl
theorem says_at1 (key : ByteArray) (B : Nat) (w : World) (hB : w.cell? ⟨B, 0, none⟩ = some (.string key)) : Says (fun x => eqS x.key key) 64 #[.pointer (some ⟨B, 0, none⟩)] w := fun W x k => by
  have hc : W.cell? ⟨B, 0, none⟩ = some (.string key) := cell_kp k id hB
  have hBW : B < W.heap.size := World.block_lt_of_cell? W _ hc
  have hne : B ≠ W.heap.size := by omega
  show Calls Try.prog 64 #[.agg #[.string x.key, .int .i64 x.ref.slot, .int .i64 x.ref.gen, .int .i64 x.child], .pointer (some ⟨B, 0, none⟩)] W _
  clear hB k
  go_enter Try.func64, Try.ntmps64
  go_wp2
  go_ret
  exact ⟨rfl, kn_alloc _ _⟩
theorem says_put1 (key : ByteArray) (B : Nat) (w : World) (hB : w.cell? ⟨B, 0, none⟩ = some (.string key)) : Says (fun x => ltS key x.key) 62 #[.pointer (some ⟨B, 0, none⟩)] w := fun W x k => by
  have hc : W.cell? ⟨B, 0, none⟩ = some (.string key) := cell_kp k id hB
  have hBW : B < W.heap.size := World.block_lt_of_cell? W _ hc
  have hne : B ≠ W.heap.size := by omega
  show Calls Try.prog 62 #[.agg #[.string x.key, .int .i64 x.ref.slot, .int .i64 x.ref.gen, .int .i64 x.child], .pointer (some ⟨B, 0, none⟩)] W _
  clear hB k
  go_enter Try.func62, Try.ntmps62
  go_wp2
  go_ret
  have e : (!(Op.bytesLess x.key.toList key.toList || x.key.toList == key.toList)) = ltS key x.key := by rw [bytesLe]; simp [ltS]
  exact ⟨by rw [← e]; simp, kn_alloc _ _⟩
theorem at_page (key : ByteArray) (w : World) {lf : Bool} {low high : ByteArray} {r : Int} {v : Value} {l : List En} (hr : Rl En.enc 4 w v l) (hl : l.length ≤ maxLen) :
    Calls Try.prog 57 #[.agg #[.bool lf, .string low, .string high, .int .i64 r, v], .string key] w fun e w' => e = .returned (.int .i64 (ixOf (fun x => eqS x.key key) l)) ∧ KN w w' := by
  have HC := Lib.hid (fun W B lf low high r (k : KN w W) (hB : W.cell? ⟨B, 0, none⟩ = some (.string key)) => index_page (fun x => eqS x.key key) 64 #[.pointer (some ⟨B, 0, none⟩)] eg_at1 W (says_at1 key B W hB) (lf := lf) (low := low) (high := high) (r := r) (hr.kn k) hl)
  clear hr
  go_enter Try.func57, Try.ntmps57
  go_wp2_with fail
  refine (HC.out _ _ _ _ _ _ (((Kp.refl _ w).alloc _).alloc _) (by simp)).mono ?_
  rintro e w1 ⟨rfl, k1⟩
  go_wp2_with fail
  go_ret
  exact ⟨rfl, (((Kp.refl _ w).alloc _).alloc _).then k1 (fun _ h => h.elim)⟩
end Go.Proofs.Ytkdlodjpambelaa
