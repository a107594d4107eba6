/- The walks of Find. -/
import Derived.Test.YtkdlodjpambelaaPutP
import Derived.Deep.CutBlock
namespace Go.Proofs.Ytkdlodjpambelaa
set_option linter.unusedVariables false
set_option linter.unusedSimpArgs false
open Go Go.RowKit

def GaveE (x : En × Bool) (w : World) (e : Ending) (w' : World) : Prop := e = .returned (.tuple #[env x.1, .bool x.2]) ∧ KN w w'
theorem load_en {W : World} {g : Nat} {v0 v1 v2 v3 : Value} (h : W.heap[g]? = some (.cells #[v0, v1, v2, v3] 28)) : (loadVar 28 ⟨g, 0, none⟩).run Try.prog W = .ok (.agg #[v0, v1, v2, v3]) W := by
  have z0 := cell_blk (i := 0) h rfl
  have z1 := cell_blk (i := 1) h rfl
  have z2 := cell_blk (i := 2) h rfl
  have z3 := cell_blk (i := 3) h rfl
  clear h
  go_simp
theorem cells4 {w : World} {b : Nat} {T : TypeId} {v0 v1 v2 v3 : Value} (h : w.heap[b]? = some (.cells #[v0, v1, v2, v3] T (0, 0))) : w.cell? ⟨b, 0, none⟩ = some v0 ∧ w.cell? ⟨b, 1, none⟩ = some v1 ∧ w.cell? ⟨b, 2, none⟩ = some v2 ∧ w.cell? ⟨b, 3, none⟩ = some v3 ∧ (∀ j, w.frozen? ⟨b, j, none⟩ = false) :=
  ⟨cell_blk h rfl, cell_blk h rfl, cell_blk h rfl, cell_blk h rfl, fun j => free_blk h⟩
theorem One.set4 {w0 w : World} {l : List Asr} (h : One w0 w l) (i : Nat) {g : Nat} {a0 a1 a2 a3 : Value} {T : TypeId} (hi : l[i]? = some (Blk g (.cells #[a0, a1, a2, a3] T))) (v0 v1 v2 v3 : Value) :
    One w0 ((((w.setCell ⟨g, 0, none⟩ v0).setCell ⟨g, 1, none⟩ v1).setCell ⟨g, 2, none⟩ v2).setCell ⟨g, 3, none⟩ v3) (l.set i (Blk g (.cells #[v0, v1, v2, v3] T))) := by
  have hb := (h.blk i hi).1
  have hl := lt_blk hb
  rw [setCell_setB v0 hb, setCell_setB v1 (setB_same _ hl), setB_setB, setCell_setB v2 (setB_same _ hl), setB_setB, setCell_setB v3 (setB_same _ hl), setB_setB]
  exact h.setB i hi _
theorem find_of_ix {q : En → Bool} {l : List En} {i : Nat} {x : En} (h : l.findIdx? q = some i) (hx : l[i]? = some x) : l.find? q = some x := by
  obtain ⟨hlt, h1, h2⟩ := List.findIdx?_eq_some_iff_getElem.1 h
  rw [List.getElem?_eq_getElem hlt] at hx
  cases hx
  refine List.find?_eq_some_iff_getElem.2 ⟨h1, i, hlt, rfl, fun j hj => ?_⟩
  have := h2 j hj
  simpa using this
theorem rev_hit {q : En → Bool} {l : List En} {k : Nat} {x : En} (hx : l[k]? = some x) (h : q x = true) (hm : ∀ (j : Nat) y, k < j → l[j]? = some y → q y = false) : l.reverse.find? q = some x := by
  have hk := (List.getElem?_eq_some_iff.1 hx).1
  have he : l = l.take k ++ x :: l.drop (k + 1) := by
    rw [← (List.getElem?_eq_some_iff.1 hx).2, List.getElem_cons_drop, List.take_append_drop]
  rw [he, List.reverse_append, List.reverse_cons, List.append_assoc, List.find?_append]
  have h0 : (l.drop (k + 1)).reverse.find? q = none := by
    rw [List.find?_eq_none]
    intro y hy
    rw [List.mem_reverse] at hy
    obtain ⟨i, hi⟩ := List.getElem?_of_mem hy
    rw [List.getElem?_drop] at hi
    rw [hm (k + 1 + i) y (by omega) hi]
    simp
  rw [h0]
  simp [List.find?_cons, h]
theorem rev_miss {q : En → Bool} {l : List En} (hm : ∀ (j : Nat) y, l[j]? = some y → q y = false) : l.reverse.find? q = none := by
  rw [List.find?_eq_none]
  intro y hy
  rw [List.mem_reverse] at hy
  obtain ⟨i, hi⟩ := List.getElem?_of_mem hy
  rw [hm i y hi]; simp
theorem find_hit {q : En → Bool} {l : List En} {k : Nat} {x : En} (hx : l[k]? = some x) (h : q x = true) (hm : ∀ (j : Nat) y, j < k → l[j]? = some y → q y = false) : l.find? q = some x := by
  have hk := (List.getElem?_eq_some_iff.1 hx).1
  refine List.find?_eq_some_iff_getElem.2 ⟨h, k, hk, (List.getElem?_eq_some_iff.1 hx).2, fun j hj => ?_⟩
  have := hm j _ hj (List.getElem?_eq_getElem (by omega))
  simp [this]
theorem find_miss {q : En → Bool} {l : List En} (hm : ∀ (j : Nat) y, l[j]? = some y → q y = false) : l.find? q = none := by
  rw [List.find?_eq_none]
  intro y hy
  obtain ⟨i, hi⟩ := List.getElem?_of_mem hy
  rw [hm i y hi]; simp
def foundOf : Option En → En × Bool
  | some e => (e, true)
  | none => (zeroEn, false)
theorem findP_leaf {p : Pg} {key : ByteArray} (h : p.leaf = true) {o : Option En} (hf : p.list.find? (fun x => eqS x.key key) = o) : findP p key = foundOf o := by
  subst hf; unfold findP foundOf; rw [h, if_pos rfl]
  generalize p.list.find? (fun x => eqS x.key key) = o
  cases o <;> rfl
theorem findP_inner {p : Pg} {key : ByteArray} (h : p.leaf = false) {o : Option En} (hf : p.list.reverse.find? (fun x => !ltS key x.key) = o) : findP p key = foundOf o := by
  subst hf; unfold findP foundOf; rw [h, if_neg (by simp)]
  generalize p.list.reverse.find? (fun x => !ltS key x.key) = o
  cases o <;> rfl

set_option maxHeartbeats 1000000 in
theorem find_page (p : Pg) (key : ByteArray) (w : World) {v : Value} (hr : Rl En.enc 4 w v p.list) (hl : p.list.length ≤ maxLen) : Calls Try.prog 38 #[pgv p v, .string key] w (GaveE (findP p key) w) := by
  obtain ⟨a0, cp, rfl, hc0, hrd⟩ := hr
  unfold maxLen at hl
  have HR := Lib.hid hrd
  obtain ⟨lf, lo, hi, r, l⟩ := p
  simp only at hl hc0 hrd HR
  have HO := Lib.hid ((One.nil w).alloc2 (.cells #[.bool lf, .string lo, .string hi, .int .i64 r, .slice a0 l.length cp] 24) (.cells #[.string ⟨#[]⟩, .int .i64 0, .int .i64 0, .int .i64 0] 28))

  have HA := Lib.hid (fun W lf lo hi r (k : KN w W) => at_page key W (lf := lf) (low := lo) (high := hi) (r := r) ((Rl.of_rd hrd hc0).kn k) (by unfold maxLen; omega))
  clear hrd
  cases lf with
  | true =>
    have HF := Lib.hid (fun o h => findP_leaf (p := ⟨true, lo, hi, r, l⟩) (key := key) rfl (o := o) h)
    cases hi' : l.findIdx? (fun x => eqS x.key key) with
    | none =>
      rw [HF.out none (by rw [List.find?_eq_none]; intro x hx; have := List.findIdx?_eq_none_iff.1 hi' x hx; rw [this]; simp)]
      rw [ix_none hi'] at HA
      clear HF hi'
      go_enter Try.func38, Try.ntmps38
      go_wp2_with fail
      refine (HA.out _ _ _ _ _ HO.out.old).mono ?_
      rintro e w1 ⟨rfl, k1⟩
      have HO1 := Lib.hid (HO.out.kn k1)
      clear HO HA k1
      obtain ⟨x0, x1, x2, x3, x4, xf⟩ := cells5 (HO1.out.blk 1 rfl).1
      obtain ⟨y0, y1, y2, y3, yf⟩ := cells4 (HO1.out.blk 0 rfl).1
      go_wp2_with fail
      have HO2 := Lib.hid (HO1.out.set4 0 rfl (.string ⟨#[]⟩) (.int .i64 0) (.int .i64 0) (.int .i64 0))
      exact bodyPost_ret (res_c1t rfl rfl (load_en (HO2.out.blk 0 rfl).1) rfl) rfl ⟨rfl, HO2.out.old⟩
    | some i =>
      obtain ⟨x, hx⟩ : ∃ x, l[i]? = some x := ⟨_, List.getElem?_eq_getElem (ix_some hi').2⟩
      rw [HF.out (some x) (find_of_ix hi' hx)]
      have hlt := (ix_some hi').2
      rw [(ix_some hi').1] at HA
      have HX := Lib.hid hx
      clear HF hi' hx
      go_enter Try.func38, Try.ntmps38
      go_wp2_with fail
      refine (HA.out _ _ _ _ _ HO.out.old).mono ?_
      rintro e w1 ⟨rfl, k1⟩
      have HO1 := Lib.hid (HO.out.kn k1)
      clear HO HA k1
      obtain ⟨x0, x1, x2, x3, x4, xf⟩ := cells5 (HO1.out.blk 1 rfl).1
      obtain ⟨y0, y1, y2, y3, yf⟩ := cells4 (HO1.out.blk 0 rfl).1
      obtain ⟨b, off, rfl, hbw, e0, e1, e2, e3⟩ := rd4 (HR.out.kn HO1.out.old) HX.out
      have hz0 : (0 : Int) ≤ (i : Int) := by omega
      have hz1 : (i : Int) < (l.length : Int) := by omega
      go_wp2_with fail
      have HO2 := Lib.hid (HO1.out.set4 0 rfl (.string x.key) (.int .i64 x.ref.slot) (.int .i64 x.ref.gen) (.int .i64 x.child))
      exact bodyPost_ret (res_c1t rfl rfl (load_en (HO2.out.blk 0 rfl).1) rfl) rfl ⟨rfl, HO2.out.old⟩
  | false =>
    have HF := Lib.hid (fun o h => findP_inner (p := ⟨false, lo, hi, r, l⟩) (key := key) rfl (o := o) h)
    go_enter Try.func38, Try.ntmps38
    go_wp2_with fail
    refine (HA.out _ _ _ _ _ HO.out.old).mono ?_
    rintro e w1 ⟨rfl, k1⟩
    have HO1 := Lib.hid (HO.out.kn k1)
    clear HO HA k1
    obtain ⟨x0, x1, x2, x3, x4, xf⟩ := cells5 (HO1.out.blk 1 rfl).1
    obtain ⟨y0, y1, y2, y3, yf⟩ := cells4 (HO1.out.blk 0 rfl).1
    have hw0 : wrap64 ((l.length : Int) - 1) = (l.length : Int) - 1 := by unfold wrap64; omega
    generalize ixOf (fun x => eqS x.key key) l = z at *
    go_wp2_with fail
    clear hw0
    go_loop [6] (fun s => ∃ i : Int, s = .int .i64 i ∧ -1 ≤ i ∧ i < l.length ∧ Hid (∀ (j : Nat) y, i < j → l[j]? = some y → (!ltS key y.key) = false)) (fun s => (intOf s + 1).toNat)
    case atStart => exact ⟨_, rfl, by omega, by omega, Lib.hid (fun j y h hy => by have := (List.getElem?_eq_some_iff.1 hy).1; omega)⟩
    case round =>
      obtain ⟨i, rfl, hi1, hi2, HM⟩ := hrel
      by_cases h0 : i = -1
      · subst h0
        have HFX := Lib.hid (HF.out none (rev_miss (fun j y hy => HM.out j y (by omega) hy)))
        go_wp2_with fail
        have HO2 := Lib.hid (HO1.out.set4 0 rfl (.string ⟨#[]⟩) (.int .i64 0) (.int .i64 0) (.int .i64 0))
        exact bodyPost_ret (res_c1t rfl rfl (load_en (HO2.out.blk 0 rfl).1) rfl) rfl ⟨by rw [HFX.out]; rfl, HO2.out.old⟩
      · obtain ⟨k, rfl⟩ : ∃ k : Nat, i = k := ⟨i.toNat, by omega⟩
        obtain ⟨x, hx⟩ : ∃ x, l[k]? = some x := ⟨_, List.getElem?_eq_getElem (by omega)⟩
        obtain ⟨b, off, rfl, hbw, e0, e1, e2, e3⟩ := rd4 (HR.out.kn HO1.out.old) hx
        have hz0 : (0 : Int) ≤ (k : Int) := by omega
        have HX := Lib.hid hx
        clear hx h0
        cases hq : ltS key x.key with
        | true =>
          have hs1 : Op.bytesLess x.key.toList key.toList = false := ltS_asymm hq
          have hs2 : (x.key.toList == key.toList) = false := beq_str_false (fun e => by rw [e, ltS_irrefl] at hq; cases hq)
          have HQ := Lib.hid hq
          clear hq
          go_wp2
          go_round
          case rel => exact ⟨(k : Int) - 1, rfl, by omega, by omega, Lib.hid (fun j y hj hy => by
            by_cases e : j = k
            · subst e; rw [HX.out] at hy; cases hy; rw [HQ.out]; rfl
            · exact HM.out j y (by omega) hy)⟩
          case measure => simp [intOf]
        | false =>
          have hs0 : (Op.bytesLess x.key.toList key.toList || x.key.toList == key.toList) = true := by rw [bytesLe]; show (!ltS key x.key) = true; rw [hq]; rfl
          have HQ := Lib.hid (show (!ltS key x.key) = true by rw [hq]; rfl)
          clear hq
          have HFX := Lib.hid (HF.out (some x) (rev_hit HX.out HQ.out (fun j y hj hy => HM.out j y (by omega) hy)))
          cases hs1 : Op.bytesLess x.key.toList key.toList with
          | true =>
            clear hs0
            go_wp2_with fail
            have HO2 := Lib.hid (HO1.out.set4 0 rfl (.string x.key) (.int .i64 x.ref.slot) (.int .i64 x.ref.gen) (.int .i64 x.child))
            exact bodyPost_ret (res_c1t rfl rfl (load_en (HO2.out.blk 0 rfl).1) rfl) rfl ⟨by rw [HFX.out]; rfl, HO2.out.old⟩
          | false =>
            rw [hs1, Bool.false_or] at hs0
            go_wp2_with fail
            have HO2 := Lib.hid (HO1.out.set4 0 rfl (.string x.key) (.int .i64 x.ref.slot) (.int .i64 x.ref.gen) (.int .i64 x.child))
            exact bodyPost_ret (res_c1t rfl rfl (load_en (HO2.out.blk 0 rfl).1) rfl) rfl ⟨by rw [HFX.out]; rfl, HO2.out.old⟩
set_option maxHeartbeats 1000000 in
theorem find_ref (p : Pg) (key : ByteArray) (w : World) {v : Value} (hr : Rl En.enc 4 w v p.list) (hl : p.list.length ≤ maxLen) : Calls Try.prog 40 #[pgv p v, .string key] w (GaveE (findP p key) w) := by
  obtain ⟨a0, cp, rfl, hc0, hrd⟩ := hr
  unfold maxLen at hl
  have HR := Lib.hid hrd
  obtain ⟨lf, lo, hi, r, l⟩ := p
  simp only at hl hc0 hrd HR
  have HO := Lib.hid ((One.nil w).alloc2 (.cells #[.bool lf, .string lo, .string hi, .int .i64 r, .slice a0 l.length cp] 24) (.cells #[.string ⟨#[]⟩, .int .i64 0, .int .i64 0, .int .i64 0] 28))

  clear hrd
  obtain ⟨x0, x1, x2, x3, x4, xf⟩ := cells5 (HO.out.blk 1 rfl).1
  obtain ⟨y0, y1, y2, y3, yf⟩ := cells4 (HO.out.blk 0 rfl).1
  cases lf with
  | true =>
    have HF := Lib.hid (fun o h => findP_leaf (p := ⟨true, lo, hi, r, l⟩) (key := key) rfl (o := o) h)
    go_enter Try.func40, Try.ntmps40
    go_wp2_with fail
    generalize (w.alloc (.cells #[.bool true, .string lo, .string hi, .int .i64 r, .slice a0 l.length cp] 24)).alloc (.cells #[.string ⟨#[]⟩, .int .i64 0, .int .i64 0, .int .i64 0] 28) = w1 at *
    go_loop [6] (fun s => ∃ k : Nat, k ≤ l.length ∧ s = .int .i64 k ∧ Hid (∀ (j : Nat) y, j < k → l[j]? = some y → eqS y.key key = false)) (fun s => l.length - (intOf s).toNat)
    case atStart => exact ⟨0, Nat.zero_le _, rfl, Lib.hid (fun j y h => by omega)⟩
    case round =>
      obtain ⟨k, hk, rfl, HM⟩ := hrel
      by_cases hlt : k < l.length
      · obtain ⟨x, hx⟩ : ∃ x, l[k]? = some x := ⟨_, List.getElem?_eq_getElem hlt⟩
        obtain ⟨b, off, rfl, hbw, e0, e1, e2, e3⟩ := rd4 (HR.out.kn HO.out.old) hx
        have hz0 : (0 : Int) ≤ (k : Int) := by omega
        have hz1 : (k : Int) < (l.length : Int) := by omega
        have HX := Lib.hid hx
        clear hx
        cases hq : (x.key.toList == key.toList) with
        | true =>
          have HFX := Lib.hid (HF.out (some x) (find_hit HX.out hq HM.out))
          go_wp2_with fail
          have HO2 := Lib.hid (HO.out.set4 0 rfl (.string x.key) (.int .i64 x.ref.slot) (.int .i64 x.ref.gen) (.int .i64 x.child))
          exact bodyPost_ret (res_c1t rfl rfl (load_en (HO2.out.blk 0 rfl).1) rfl) rfl ⟨by rw [HFX.out]; rfl, HO2.out.old⟩
        | false =>
          have HQ := Lib.hid (show eqS x.key key = false from hq)
          go_wp2
          go_round
          case rel => exact ⟨k + 1, by omega, by go_num, Lib.hid (fun j y hj hy => by
            by_cases e : j = k
            · subst e; rw [HX.out] at hy; cases hy; exact HQ.out
            · exact HM.out j y (by omega) hy)⟩
          case measure => simp [intOf]; omega
      · obtain rfl : k = l.length := by omega
        have HFX := Lib.hid (HF.out none (find_miss (fun j y hy => HM.out j y (List.getElem?_eq_some_iff.1 hy).1 hy)))
        go_wp2_with fail
        have HO2 := Lib.hid (HO.out.set4 0 rfl (.string ⟨#[]⟩) (.int .i64 0) (.int .i64 0) (.int .i64 0))
        exact bodyPost_ret (res_c1t rfl rfl (load_en (HO2.out.blk 0 rfl).1) rfl) rfl ⟨by rw [HFX.out]; rfl, HO2.out.old⟩
  | false =>
    have HF := Lib.hid (fun o h => findP_inner (p := ⟨false, lo, hi, r, l⟩) (key := key) rfl (o := o) h)
    have hw0 : wrap64 ((l.length : Int) - 1) = (l.length : Int) - 1 := by unfold wrap64; omega
    go_enter Try.func40, Try.ntmps40
    go_wp2_with fail
    generalize (w.alloc (.cells #[.bool false, .string lo, .string hi, .int .i64 r, .slice a0 l.length cp] 24)).alloc (.cells #[.string ⟨#[]⟩, .int .i64 0, .int .i64 0, .int .i64 0] 28) = w1 at *
    clear hw0
    go_loop [7] (fun s => ∃ i : Int, s = .int .i64 i ∧ -1 ≤ i ∧ i < l.length ∧ Hid (∀ (j : Nat) y, i < j → l[j]? = some y → (!ltS key y.key) = false)) (fun s => (intOf s + 1).toNat)
    case atStart => exact ⟨_, rfl, by omega, by omega, Lib.hid (fun j y h hy => by have := (List.getElem?_eq_some_iff.1 hy).1; omega)⟩
    case round =>
      obtain ⟨i, rfl, hi1, hi2, HM⟩ := hrel
      by_cases h0 : i = -1
      · subst h0
        have HFX := Lib.hid (HF.out none (rev_miss (fun j y hy => HM.out j y (by omega) hy)))
        go_wp2_with fail
        have HO2 := Lib.hid (HO.out.set4 0 rfl (.string ⟨#[]⟩) (.int .i64 0) (.int .i64 0) (.int .i64 0))
        exact bodyPost_ret (res_c1t rfl rfl (load_en (HO2.out.blk 0 rfl).1) rfl) rfl ⟨by rw [HFX.out]; rfl, HO2.out.old⟩
      · obtain ⟨k, rfl⟩ : ∃ k : Nat, i = k := ⟨i.toNat, by omega⟩
        obtain ⟨x, hx⟩ : ∃ x, l[k]? = some x := ⟨_, List.getElem?_eq_getElem (by omega)⟩
        obtain ⟨b, off, rfl, hbw, e0, e1, e2, e3⟩ := rd4 (HR.out.kn HO.out.old) hx
        have hz0 : (0 : Int) ≤ (k : Int) := by omega
        have HX := Lib.hid hx
        clear hx h0
        cases hq : ltS key x.key with
        | true =>
          have hs1 : Op.bytesLess x.key.toList key.toList = false := ltS_asymm hq
          have hs2 : (x.key.toList == key.toList) = false := beq_str_false (fun e => by rw [e, ltS_irrefl] at hq; cases hq)
          have HQ := Lib.hid hq
          clear hq
          go_wp2
          go_round
          case rel => exact ⟨(k : Int) - 1, rfl, by omega, by omega, Lib.hid (fun j y hj hy => by
            by_cases e : j = k
            · subst e; rw [HX.out] at hy; cases hy; rw [HQ.out]; rfl
            · exact HM.out j y (by omega) hy)⟩
          case measure => simp [intOf]
        | false =>
          have hs0 : (Op.bytesLess x.key.toList key.toList || x.key.toList == key.toList) = true := by rw [bytesLe]; show (!ltS key x.key) = true; rw [hq]; rfl
          have HQ := Lib.hid (show (!ltS key x.key) = true by rw [hq]; rfl)
          clear hq
          have HFX := Lib.hid (HF.out (some x) (rev_hit HX.out HQ.out (fun j y hj hy => HM.out j y (by omega) hy)))
          cases hs1 : Op.bytesLess x.key.toList key.toList with
          | true =>
            clear hs0
            go_wp2_with fail
            have HO2 := Lib.hid (HO.out.set4 0 rfl (.string x.key) (.int .i64 x.ref.slot) (.int .i64 x.ref.gen) (.int .i64 x.child))
            exact bodyPost_ret (res_c1t rfl rfl (load_en (HO2.out.blk 0 rfl).1) rfl) rfl ⟨by rw [HFX.out]; rfl, HO2.out.old⟩
          | false =>
            rw [hs1, Bool.false_or] at hs0
            go_wp2_with fail
            have HO2 := Lib.hid (HO.out.set4 0 rfl (.string x.key) (.int .i64 x.ref.slot) (.int .i64 x.ref.gen) (.int .i64 x.child))
            exact bodyPost_ret (res_c1t rfl rfl (load_en (HO2.out.blk 0 rfl).1) rfl) rfl ⟨by rw [HFX.out]; rfl, HO2.out.old⟩
end Go.Proofs.Ytkdlodjpambelaa
