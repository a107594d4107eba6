/- Deltas: plain form, Same. -/
import Derived.Test.YtkdlodjpambelaaSameP
namespace Go.Proofs.Ytkdlodjpambelaa
set_option linter.unusedVariables false
set_option linter.unusedSimpArgs false
open Go Go.RowKit

structure Dl where
  kind : Int
  entry : En
  key : ByteArray
  page : Int
  right : Pg
def dlv (d : Dl) (v : Value) : Value := .agg #[.int .i64 d.kind, .string d.entry.key, .int .i64 d.entry.ref.slot, .int .i64 d.entry.ref.gen, .int .i64 d.entry.child, .string d.key, .int .i64 d.page, .bool d.right.leaf, .string d.right.low, .string d.right.high, .int .i64 d.right.right, v]
def sameD (a b : Dl) : Bool := (a.kind == b.kind) && eqS a.entry.key b.entry.key && (a.entry.ref.slot == b.entry.ref.slot) && (a.entry.ref.gen == b.entry.ref.gen) && (a.entry.child == b.entry.child) && eqS a.key b.key && (a.page == b.page) && sameP a.right b.right
theorem str_ne {x y : ByteArray} (h : x ≠ y) : ¬ x.toList = y.toList := fun e => by
  have := beq_str_false h
  rw [e] at this
  simp at this
set_option maxHeartbeats 2000000 in
theorem same_delta (a b : Dl) (w : World) {v u : Value} (h1 : Rl En.enc 4 w v a.right.list) (h2 : Rl En.enc 4 w u b.right.list) (hl : a.right.list.length ≤ maxLen) : Calls Try.prog 20 #[dlv a v, dlv b u] w fun e w' => e = .returned (.bool (sameD a b)) ∧ KN w w' := by
  obtain ⟨k, ⟨ek, ⟨es, eg⟩, ec⟩, key, pg, p⟩ := a
  obtain ⟨k', ⟨ek', ⟨es', eg'⟩, ec'⟩, key', pg', q⟩ := b
  simp only at h1 h2 hl
  have HC := Lib.hid (fun W (k : KN w W) => same_page p q W (h1.kn k) (h2.kn k) hl)
  clear h1 h2 hl
  obtain ⟨sv, hsv⟩ : ∃ x, sameP p q = x := ⟨_, rfl⟩
  rw [hsv] at HC
  unfold sameD dlv eqS
  simp only [hsv]
  clear hsv
  obtain ⟨lf, lo, hi, r, l⟩ := p
  obtain ⟨lf', lo', hi', r', l'⟩ := q
  by_cases e : k = k'
  case neg =>
    have e1 : (k == k') = false := beq_false_of_ne e
    have e2 : ¬ k = k' := e
    clear HC
    go_enter Try.func20, Try.ntmps20
    go_wp2
    go_ret
    exact ⟨by simp [e1, e2], ((Kp.refl _ w).alloc _).alloc _⟩
  subst e
  by_cases e : ek = ek'
  case neg =>
    have e1 : (ek.toList == ek'.toList) = false := beq_str_false e
    have e2 : ¬ ek.toList = ek'.toList := str_ne e
    clear HC
    go_enter Try.func20, Try.ntmps20
    go_wp2
    go_ret
    exact ⟨by simp [e1, e2], ((Kp.refl _ w).alloc _).alloc _⟩
  subst e
  by_cases e : es = es'
  case neg =>
    have e1 : (es == es') = false := beq_false_of_ne e
    have e2 : ¬ es = es' := e
    clear HC
    go_enter Try.func20, Try.ntmps20
    go_wp2
    go_ret
    exact ⟨by simp [e1, e2], ((Kp.refl _ w).alloc _).alloc _⟩
  subst e
  by_cases e : eg = eg'
  case neg =>
    have e1 : (eg == eg') = false := beq_false_of_ne e
    have e2 : ¬ eg = eg' := e
    clear HC
    go_enter Try.func20, Try.ntmps20
    go_wp2
    go_ret
    exact ⟨by simp [e1, e2], ((Kp.refl _ w).alloc _).alloc _⟩
  subst e
  by_cases e : ec = ec'
  case neg =>
    have e1 : (ec == ec') = false := beq_false_of_ne e
    have e2 : ¬ ec = ec' := e
    clear HC
    go_enter Try.func20, Try.ntmps20
    go_wp2
    go_ret
    exact ⟨by simp [e1, e2], ((Kp.refl _ w).alloc _).alloc _⟩
  subst e
  by_cases e : key = key'
  case neg =>
    have e1 : (key.toList == key'.toList) = false := beq_str_false e
    have e2 : ¬ key.toList = key'.toList := str_ne e
    clear HC
    go_enter Try.func20, Try.ntmps20
    go_wp2
    go_ret
    exact ⟨by simp [e1, e2], ((Kp.refl _ w).alloc _).alloc _⟩
  subst e
  by_cases e : pg = pg'
  case neg =>
    have e1 : (pg == pg') = false := beq_false_of_ne e
    have e2 : ¬ pg = pg' := e
    clear HC
    go_enter Try.func20, Try.ntmps20
    go_wp2
    go_ret
    exact ⟨by simp [e1, e2], ((Kp.refl _ w).alloc _).alloc _⟩
  subst e
  go_enter Try.func20, Try.ntmps20
  go_wp2_with fail
  refine (HC.out _ (((Kp.refl _ w).alloc _).alloc _)).mono ?_
  rintro e w1 ⟨rfl, k1⟩
  go_wp2_with fail
  go_ret
  exact ⟨by simp, (((Kp.refl _ w).alloc _).alloc _).then k1 (fun _ h => h.elim)⟩
set_option maxHeartbeats 2000000 in
theorem same_dref (a b : Dl) (w : World) {v u : Value} (h1 : Rl En.enc 4 w v a.right.list) (h2 : Rl En.enc 4 w u b.right.list) (hl : a.right.list.length ≤ maxLen) : Calls Try.prog 21 #[dlv a v, dlv b u] w fun e w' => e = .returned (.bool (sameD a b)) ∧ KN w w' := by
  obtain ⟨k, ⟨ek, ⟨es, eg⟩, ec⟩, key, pg, p⟩ := a
  obtain ⟨k', ⟨ek', ⟨es', eg'⟩, ec'⟩, key', pg', q⟩ := b
  simp only at h1 h2 hl
  have HC := Lib.hid (fun W (k : KN w W) => same_ref p q W (h1.kn k) (h2.kn k) hl)
  clear h1 h2 hl
  obtain ⟨sv, hsv⟩ : ∃ x, sameP p q = x := ⟨_, rfl⟩
  rw [hsv] at HC
  unfold sameD dlv eqS
  simp only [hsv]
  clear hsv
  obtain ⟨lf, lo, hi, r, l⟩ := p
  obtain ⟨lf', lo', hi', r', l'⟩ := q
  by_cases e : k = k'
  case neg =>
    have e1 : (k == k') = false := beq_false_of_ne e
    have e2 : ¬ k = k' := e
    clear HC
    go_enter Try.func21, Try.ntmps21
    go_wp2
    go_ret
    exact ⟨by simp [e1, e2], ((Kp.refl _ w).alloc _).alloc _⟩
  subst e
  by_cases e : ek = ek'
  case neg =>
    have e1 : (ek.toList == ek'.toList) = false := beq_str_false e
    have e2 : ¬ ek.toList = ek'.toList := str_ne e
    clear HC
    go_enter Try.func21, Try.ntmps21
    go_wp2
    go_ret
    exact ⟨by simp [e1, e2], ((Kp.refl _ w).alloc _).alloc _⟩
  subst e
  by_cases e : es = es'
  case neg =>
    have e1 : (es == es') = false := beq_false_of_ne e
    have e2 : ¬ es = es' := e
    clear HC
    go_enter Try.func21, Try.ntmps21
    go_wp2
    go_ret
    exact ⟨by simp [e1, e2], ((Kp.refl _ w).alloc _).alloc _⟩
  subst e
  by_cases e : eg = eg'
  case neg =>
    have e1 : (eg == eg') = false := beq_false_of_ne e
    have e2 : ¬ eg = eg' := e
    clear HC
    go_enter Try.func21, Try.ntmps21
    go_wp2
    go_ret
    exact ⟨by simp [e1, e2], ((Kp.refl _ w).alloc _).alloc _⟩
  subst e
  by_cases e : ec = ec'
  case neg =>
    have e1 : (ec == ec') = false := beq_false_of_ne e
    have e2 : ¬ ec = ec' := e
    clear HC
    go_enter Try.func21, Try.ntmps21
    go_wp2
    go_ret
    exact ⟨by simp [e1, e2], ((Kp.refl _ w).alloc _).alloc _⟩
  subst e
  by_cases e : key = key'
  case neg =>
    have e1 : (key.toList == key'.toList) = false := beq_str_false e
    have e2 : ¬ key.toList = key'.toList := str_ne e
    clear HC
    go_enter Try.func21, Try.ntmps21
    go_wp2
    go_ret
    exact ⟨by simp [e1, e2], ((Kp.refl _ w).alloc _).alloc _⟩
  subst e
  by_cases e : pg = pg'
  case neg =>
    have e1 : (pg == pg') = false := beq_false_of_ne e
    have e2 : ¬ pg = pg' := e
    clear HC
    go_enter Try.func21, Try.ntmps21
    go_wp2
    go_ret
    exact ⟨by simp [e1, e2], ((Kp.refl _ w).alloc _).alloc _⟩
  subst e
  go_enter Try.func21, Try.ntmps21
  go_wp2_with fail
  refine (HC.out _ (((Kp.refl _ w).alloc _).alloc _)).mono ?_
  rintro e w1 ⟨rfl, k1⟩
  go_wp2_with fail
  go_ret
  exact ⟨by simp, (((Kp.refl _ w).alloc _).alloc _).then k1 (fun _ h => h.elim)⟩
end Go.Proofs.Ytkdlodjpambelaa
