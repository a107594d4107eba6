/- The walks of page.Put (a new key) and Remove. -/
import Derived.Test.YtkdlodjpambelaaPutP
namespace Go.Proofs.Ytkdlodjpambelaa
set_option linter.unusedVariables false
set_option linter.unusedSimpArgs false
open Go Go.RowKit

set_option maxHeartbeats 1000000 in
theorem put_mid (p : Pg) (e : En) (w : World) {v : Value} (ho : inR p.low p.high e.key = true) (hi : p.list.findIdx? (fun x => eqS x.key e.key) = none) {k : Nat} (hk : p.list.findIdx? (fun x => ltS e.key x.key) = some k) (hr : Rl En.enc 4 w v p.list) (hb : (p.list.length + 1) * 40 ≤ 140737488355328) :
    Calls Try.prog 50 #[pgv p v, env e] w (GavePE (putP p e) w) := by
  have hP : putP p e = (⟨p.leaf, p.low, p.high, p.right, p.list.take k ++ e :: p.list.drop k⟩, 0) := by unfold putP putAt; rw [if_pos ho, hi, hk]; rfl
  have hx := ix_none hi
  have hx2 : ixOf (fun x => ltS e.key x.key) p.list = k := (ix_some hk).1
  have hlt : k ≤ p.list.length := Nat.le_of_lt (ix_some hk).2
  rw [hP]
  clear hP hi hk
  obtain ⟨lf, lo, hi', r, l⟩ := p
  simp only at ho hr hb hx hlt hx2
  have HX := Lib.hid hx
  obtain ⟨a0, c0, rfl, hc0, hrd⟩ := hr
  have HA := Lib.hid (fun W lf lo hi r (k : KN w W) => hx ▸ at_page e.key W (lf := lf) (low := lo) (high := hi) (r := r) ((Rl.of_rd hrd hc0).kn k) (by unfold maxLen; omega))
  have HI := Lib.hid (fun W B lf lo hi r (k : KN w W) (hB : W.cell? ⟨B, 0, none⟩ = some (.string e.key)) => hx2 ▸ index_page (fun x => ltS e.key x.key) 62 #[.pointer (some ⟨B, 0, none⟩)] eg_put1 W (says_put1 e.key B W hB) (lf := lf) (low := lo) (high := hi) (r := r) ((Rl.of_rd hrd hc0).kn k) (by unfold maxLen; omega))
  obtain ⟨a1, hs1, hr1⟩ := cut_pre hrd hc0 (i := k) hlt
  obtain ⟨a2, hs2, hr2⟩ := cut_post hrd hc0 (i := k) hlt

  have HR1 := Lib.hid hr1
  have HR2 := Lib.hid hr2
  clear hr1 hr2 hrd hx hx2
  obtain ⟨key, ⟨sl, ge⟩, ch⟩ := e
  simp only at ho HA HI
  unfold pgv env
  simp only
  have HH := Lib.hid (fun W => ho ▸ has_k lf lo hi' r (.slice a0 l.length c0) key W)
  have HO := Lib.hid (((One.nil w)).alloc3 (.cells #[.bool lf, .string lo, .string hi', .int .i64 r, .slice a0 l.length c0] 24) (.cells #[.string key, .int .i64 sl, .int .i64 ge, .int .i64 ch] 28) (.cells #[.bool false, .string empS, .string empS, .int .i64 0, .slice none 0 0] 24))
  clear ho
  go_enter Try.func50, Try.ntmps50
  go_wp2_with fail
  refine (HH.out _).mono ?_
  rintro e w1 ⟨rfl, k1⟩
  have HO1 := Lib.hid (HO.out.kn k1)
  clear k1 HO
  obtain ⟨x0, x1, x2, x3, x4, xf⟩ := cells5 (HO1.out.blk 2 rfl).1
  have z0 := cell_blk (i := 0) (HO1.out.blk 1 rfl).1 rfl
  have z1 := cell_blk (i := 1) (HO1.out.blk 1 rfl).1 rfl
  have z2 := cell_blk (i := 2) (HO1.out.blk 1 rfl).1 rfl
  have z3 := cell_blk (i := 3) (HO1.out.blk 1 rfl).1 rfl
  go_upto_region 4 with fail
  have HO2 := Lib.hid (HO1.out.alloc (.cells #[.string key, .int .i64 sl, .int .i64 ge, .int .i64 ch] 28))
  clear HO1 x0 x1 x2 x3 x4 xf z0 z1 z2 z3
  generalize w1.alloc (.cells #[.string key, .int .i64 sl, .int .i64 ge, .int .i64 ch] 28) = w2 at *
  generalize w1.heap.size = g1 at *
  obtain ⟨x0, x1, x2, x3, x4, xf⟩ := cells5 (HO2.out.blk 3 rfl).1
  have z0 := cell_blk (i := 0) (HO2.out.blk 2 rfl).1 rfl
  go_wp2_with fail
  refine (HA.out _ _ _ _ _ HO2.out.old).mono ?_
  rintro e w3 ⟨rfl, k3⟩
  have HO3 := Lib.hid (HO2.out.kn k3)
  clear k3 HO2 HA HH x0 x1 x2 x3 x4 xf z0
  obtain ⟨x0, x1, x2, x3, x4, xf⟩ := cells5 (HO3.out.blk 3 rfl).1
  have z0 := cell_blk (i := 0) (HO3.out.blk 2 rfl).1 rfl
  go_wp2_with fail
  refine (HI.out _ _ _ _ _ _ HO3.out.old z0).mono ?_
  rintro e w3' ⟨rfl, k3⟩
  have HO3' := Lib.hid (HO3.out.kn k3)
  clear k3 HO3 HI x0 x1 x2 x3 x4 xf z0
  obtain ⟨x0, x1, x2, x3, x4, xf⟩ := cells5 (HO3'.out.blk 3 rfl).1
  go_wp2_with fail
  have hx3 : l.take k ++ (⟨key, ⟨sl, ge⟩, ch⟩ : En) :: l.drop k = allOf [(.slice a1 k k, l.take k), (.slice (some ⟨g1, 0, none⟩) 1 1, [⟨key, ⟨sl, ge⟩, ch⟩]), (.slice a2 (l.length - k) (c0 - k), l.drop k)] := by simp [allOf]
  have hl3 : (l.take k ++ (⟨key, ⟨sl, ge⟩, ch⟩ : En) :: l.drop k).length ≤ l.length + 1 := by simp; omega
  generalize l.take k ++ (⟨key, ⟨sl, ge⟩, ch⟩ : En) :: l.drop k = xs at *
  have HX3 := Lib.hid hx3
  clear hx3
  have hz0 : (0 : Int) ≤ (k : Int) := by omega
  have hz1 : (k : Int) ≤ (l.length : Int) := by omega
  have HO4 := Lib.hid ((HO3'.out.alloc (.cells #[.slice a1 k k, .slice (some ⟨g1, 0, none⟩) 1 1, .slice a2 (l.length - k) (c0 - k)] 22)).kn ((Kp.refl _ _).drew))
  have HR3 := Lib.hid (HO4.out.blk 1 rfl).1
  have HC4 := Lib.hid (with_at lf lo hi' r (.slice a0 l.length c0) [(.slice a1 k k, l.take k), (.slice (some ⟨g1, 0, none⟩) 1 1, [⟨key, ⟨sl, ge⟩, ch⟩]), (.slice a2 (l.length - k) (c0 - k), l.drop k)] (cap := 3) (n := 3) _ (HO4.out.blk 0 rfl).1 rfl rfl HX3.out
    (parts3 (HR1.out.kn HO4.out.old) (rl_one HR3.out) (HR2.out.kn HO4.out.old)) (by unfold maxLen; omega) (by omega) (by simp))
  clear HR1 HR2 HR3 HX3 HX
  go_region_held3 (fun w' => w'.cell? ⟨w.heap.size, 0, none⟩ = some (.bool lf) ∧ w'.cell? ⟨w.heap.size, 1, none⟩ = some (.string lo) ∧ w'.cell? ⟨w.heap.size, 2, none⟩ = some (.string hi') ∧ w'.cell? ⟨w.heap.size, 3, none⟩ = some (.int .i64 r) ∧ w'.cell? ⟨w.heap.size, 4, none⟩ = some (.slice a0 l.length c0))
    (first | (with_reducible exact K5.out) | (with_reducible exact K6.out) | go_keep) (first | (go_at_call 48; refine HC4.out.mono ?_; rintro e w4 ⟨a4, c4, rfl, hpo⟩; have HO5 := Lib.hid (HO4.out.add hpo); have HO6 := Lib.hid (HO5.out.set5 3 rfl (.bool lf) (.string lo) (.string hi') (.int .i64 r) (.slice a4 xs.length c4)); have K5 := Lib.hid (cells5' (HO5.out.blk 5 rfl).1); have K6 := Lib.hid (cells5' (HO6.out.blk 5 rfl).1); obtain ⟨y0, y1, y2, y3, y4, yf⟩ := cells5 (HO5.out.blk 3 rfl).1))
  go_wp2_with fail
  exact bodyPost_ret (res_c1t rfl rfl (load_pg (HO6.out.blk 3 rfl).1) rfl) rfl ⟨a4, c4, rfl, HO6.out.post 0 rfl⟩

set_option maxHeartbeats 1000000 in
theorem put_end (p : Pg) (e : En) (w : World) {v : Value} (ho : inR p.low p.high e.key = true) (hi : p.list.findIdx? (fun x => eqS x.key e.key) = none) (hk : p.list.findIdx? (fun x => ltS e.key x.key) = none) (hr : Rl En.enc 4 w v p.list) (hb : (p.list.length + 1) * 40 ≤ 140737488355328) :
    Calls Try.prog 50 #[pgv p v, env e] w (GavePE (putP p e) w) := by
  have hP : putP p e = (⟨p.leaf, p.low, p.high, p.right, p.list.take p.list.length ++ e :: p.list.drop p.list.length⟩, 0) := by unfold putP putAt; rw [if_pos ho, hi, hk]; rfl
  have hx := ix_none hi
  have hx2 : ixOf (fun x => ltS e.key x.key) p.list = -1 := ix_none hk
  have hlt : p.list.length ≤ p.list.length := Nat.le_refl _
  rw [hP]
  clear hP hi hk
  obtain ⟨lf, lo, hi', r, l⟩ := p
  simp only at ho hr hb hx hlt hx2
  have HX := Lib.hid hx
  obtain ⟨a0, c0, rfl, hc0, hrd⟩ := hr
  have HA := Lib.hid (fun W lf lo hi r (k : KN w W) => hx ▸ at_page e.key W (lf := lf) (low := lo) (high := hi) (r := r) ((Rl.of_rd hrd hc0).kn k) (by unfold maxLen; omega))
  have HI := Lib.hid (fun W B lf lo hi r (k : KN w W) (hB : W.cell? ⟨B, 0, none⟩ = some (.string e.key)) => hx2 ▸ index_page (fun x => ltS e.key x.key) 62 #[.pointer (some ⟨B, 0, none⟩)] eg_put1 W (says_put1 e.key B W hB) (lf := lf) (low := lo) (high := hi) (r := r) ((Rl.of_rd hrd hc0).kn k) (by unfold maxLen; omega))
  obtain ⟨a1, hs1, hr1⟩ := cut_pre hrd hc0 (i := l.length) hlt
  obtain ⟨a2, hs2, hr2⟩ := cut_post hrd hc0 (i := l.length) hlt
  rw [Nat.sub_self] at hs2 hr2
  have HR1 := Lib.hid hr1
  have HR2 := Lib.hid hr2
  clear hr1 hr2 hrd hx hx2
  obtain ⟨key, ⟨sl, ge⟩, ch⟩ := e
  simp only at ho HA HI
  unfold pgv env
  simp only
  have HH := Lib.hid (fun W => ho ▸ has_k lf lo hi' r (.slice a0 l.length c0) key W)
  have HO := Lib.hid (((One.nil w)).alloc3 (.cells #[.bool lf, .string lo, .string hi', .int .i64 r, .slice a0 l.length c0] 24) (.cells #[.string key, .int .i64 sl, .int .i64 ge, .int .i64 ch] 28) (.cells #[.bool false, .string empS, .string empS, .int .i64 0, .slice none 0 0] 24))
  clear ho
  go_enter Try.func50, Try.ntmps50
  go_wp2_with fail
  refine (HH.out _).mono ?_
  rintro e w1 ⟨rfl, k1⟩
  have HO1 := Lib.hid (HO.out.kn k1)
  clear k1 HO
  obtain ⟨x0, x1, x2, x3, x4, xf⟩ := cells5 (HO1.out.blk 2 rfl).1
  have z0 := cell_blk (i := 0) (HO1.out.blk 1 rfl).1 rfl
  have z1 := cell_blk (i := 1) (HO1.out.blk 1 rfl).1 rfl
  have z2 := cell_blk (i := 2) (HO1.out.blk 1 rfl).1 rfl
  have z3 := cell_blk (i := 3) (HO1.out.blk 1 rfl).1 rfl
  go_upto_region 4 with fail
  have HO2 := Lib.hid (HO1.out.alloc (.cells #[.string key, .int .i64 sl, .int .i64 ge, .int .i64 ch] 28))
  clear HO1 x0 x1 x2 x3 x4 xf z0 z1 z2 z3
  generalize w1.alloc (.cells #[.string key, .int .i64 sl, .int .i64 ge, .int .i64 ch] 28) = w2 at *
  generalize w1.heap.size = g1 at *
  obtain ⟨x0, x1, x2, x3, x4, xf⟩ := cells5 (HO2.out.blk 3 rfl).1
  have z0 := cell_blk (i := 0) (HO2.out.blk 2 rfl).1 rfl
  go_wp2_with fail
  refine (HA.out _ _ _ _ _ HO2.out.old).mono ?_
  rintro e w3 ⟨rfl, k3⟩
  have HO3 := Lib.hid (HO2.out.kn k3)
  clear k3 HO2 HA HH x0 x1 x2 x3 x4 xf z0
  obtain ⟨x0, x1, x2, x3, x4, xf⟩ := cells5 (HO3.out.blk 3 rfl).1
  have z0 := cell_blk (i := 0) (HO3.out.blk 2 rfl).1 rfl
  go_wp2_with fail
  refine (HI.out _ _ _ _ _ _ HO3.out.old z0).mono ?_
  rintro e w3' ⟨rfl, k3⟩
  have HO3' := Lib.hid (HO3.out.kn k3)
  clear k3 HO3 HI x0 x1 x2 x3 x4 xf z0
  obtain ⟨x0, x1, x2, x3, x4, xf⟩ := cells5 (HO3'.out.blk 3 rfl).1
  go_wp2_with fail
  have hx3 : l.take l.length ++ (⟨key, ⟨sl, ge⟩, ch⟩ : En) :: l.drop l.length = allOf [(.slice a1 l.length l.length, l.take l.length), (.slice (some ⟨g1, 0, none⟩) 1 1, [⟨key, ⟨sl, ge⟩, ch⟩]), (.slice a2 0 (c0 - l.length), l.drop l.length)] := by simp [allOf]
  have hl3 : (l.take l.length ++ (⟨key, ⟨sl, ge⟩, ch⟩ : En) :: l.drop l.length).length ≤ l.length + 1 := by simp
  generalize l.take l.length ++ (⟨key, ⟨sl, ge⟩, ch⟩ : En) :: l.drop l.length = xs at *
  have HX3 := Lib.hid hx3
  clear hx3
  have hz0 : (0 : Int) ≤ (l.length : Int) := by omega
  have hz1 : (l.length : Int) ≤ (l.length : Int) := by omega
  have HO4 := Lib.hid ((HO3'.out.alloc (.cells #[.slice a1 l.length l.length, .slice (some ⟨g1, 0, none⟩) 1 1, .slice a2 0 (c0 - l.length)] 22)).kn ((Kp.refl _ _).drew))
  have HR3 := Lib.hid (HO4.out.blk 1 rfl).1
  have HC4 := Lib.hid (with_at lf lo hi' r (.slice a0 l.length c0) [(.slice a1 l.length l.length, l.take l.length), (.slice (some ⟨g1, 0, none⟩) 1 1, [⟨key, ⟨sl, ge⟩, ch⟩]), (.slice a2 0 (c0 - l.length), l.drop l.length)] (cap := 3) (n := 3) _ (HO4.out.blk 0 rfl).1 rfl rfl HX3.out
    (parts3 (HR1.out.kn HO4.out.old) (rl_one HR3.out) (HR2.out.kn HO4.out.old)) (by unfold maxLen; omega) (by omega) (by simp))
  clear HR1 HR2 HR3 HX3 HX
  go_region_held3 (fun w' => w'.cell? ⟨w.heap.size, 0, none⟩ = some (.bool lf) ∧ w'.cell? ⟨w.heap.size, 1, none⟩ = some (.string lo) ∧ w'.cell? ⟨w.heap.size, 2, none⟩ = some (.string hi') ∧ w'.cell? ⟨w.heap.size, 3, none⟩ = some (.int .i64 r) ∧ w'.cell? ⟨w.heap.size, 4, none⟩ = some (.slice a0 l.length c0))
    (first | (with_reducible exact K5.out) | (with_reducible exact K6.out) | go_keep) (first | (go_at_call 48; refine HC4.out.mono ?_; rintro e w4 ⟨a4, c4, rfl, hpo⟩; have HO5 := Lib.hid (HO4.out.add hpo); have HO6 := Lib.hid (HO5.out.set5 3 rfl (.bool lf) (.string lo) (.string hi') (.int .i64 r) (.slice a4 xs.length c4)); have K5 := Lib.hid (cells5' (HO5.out.blk 5 rfl).1); have K6 := Lib.hid (cells5' (HO6.out.blk 5 rfl).1); obtain ⟨y0, y1, y2, y3, y4, yf⟩ := cells5 (HO5.out.blk 3 rfl).1))
  go_wp2_with fail
  exact bodyPost_ret (res_c1t rfl rfl (load_pg (HO6.out.blk 3 rfl).1) rfl) rfl ⟨a4, c4, rfl, HO6.out.post 0 rfl⟩

theorem put_page (p : Pg) (e : En) (w : World) {v : Value} (hr : Rl En.enc 4 w v p.list) (hb : (p.list.length + 1) * 40 ≤ 140737488355328) : Calls Try.prog 50 #[pgv p v, env e] w (GavePE (putP p e) w) := by
  cases ho : inR p.low p.high e.key with
  | false => exact put_out p e w ho
  | true =>
    cases hi : p.list.findIdx? (fun x => eqS x.key e.key) with
    | some i => exact put_at p e w ho hi hr hb
    | none =>
      cases hk : p.list.findIdx? (fun x => ltS e.key x.key) with
      | some k => exact put_mid p e w ho hi hk hr hb
      | none => exact put_end p e w ho hi hk hr hb
set_option maxHeartbeats 1000000 in
theorem remove_page (p : Pg) (key : ByteArray) (w : World) {v : Value} (hr : Rl En.enc 4 w v p.list) (hb : p.list.length * 40 ≤ 140737488355328) : Calls Try.prog 51 #[pgv p v, .string key] w (GavePE (removeP p key) w) := by
  obtain ⟨a0, c0, rfl, hc0, hrd⟩ := hr
  cases hi : p.list.findIdx? (fun x => eqS x.key key) with
  | none =>
    have hP : removeP p key = (zeroPg, 4) := by unfold removeP; rw [hi]
    rw [hP]
    have hx := ix_none hi
    obtain ⟨lf, lo, hi', r, l⟩ := p
    simp only at hb hx hc0 hrd
    have HA := Lib.hid (fun W lf lo hi r (k : KN w W) => hx ▸ at_page key W (lf := lf) (low := lo) (high := hi) (r := r) ((Rl.of_rd hrd hc0).kn k) (by unfold maxLen; omega))
    have HO := Lib.hid ((((One.nil w).nilRow 28 4)).alloc2 (.cells #[.bool lf, .string lo, .string hi', .int .i64 r, .slice a0 l.length c0] 24) (.cells #[.bool false, .string empS, .string empS, .int .i64 0, .slice none 0 0] 24))
    clear hrd hx hP hi
    unfold pgv
    simp only
    go_enter Try.func51, Try.ntmps51
    go_wp2_with fail
    refine (HA.out _ _ _ _ _ HO.out.old).mono ?_
    rintro e w1 ⟨rfl, k1⟩
    have HO1 := Lib.hid (HO.out.kn k1)
    clear k1 HO
    obtain ⟨y0, y1, y2, y3, y4, yf⟩ := cells5 (HO1.out.blk 0 rfl).1
    go_wp2_with fail
    have HO2 := Lib.hid (HO1.out.set5 0 rfl (.bool false) (.string empS) (.string empS) (.int .i64 0) (.slice none 0 0))
    exact bodyPost_ret (res_c1t rfl rfl (load_pg (HO2.out.blk 0 rfl).1) rfl) rfl ⟨none, 0, rfl, HO2.out.post 2 rfl⟩
  | some i =>
    have hP : removeP p key = (⟨p.leaf, p.low, p.high, p.right, p.list.take i ++ p.list.drop (i + 1)⟩, 0) := by unfold removeP; rw [hi]
    rw [hP]
    obtain ⟨hx, hlt⟩ := ix_some hi
    obtain ⟨lf, lo, hi', r, l⟩ := p
    simp only at hb hx hc0 hrd hlt
    have HA := Lib.hid (fun W lf lo hi r (k : KN w W) => hx ▸ at_page key W (lf := lf) (low := lo) (high := hi) (r := r) ((Rl.of_rd hrd hc0).kn k) (by unfold maxLen; omega))
    have HO := Lib.hid (((One.nil w)).alloc2 (.cells #[.bool lf, .string lo, .string hi', .int .i64 r, .slice a0 l.length c0] 24) (.cells #[.bool false, .string empS, .string empS, .int .i64 0, .slice none 0 0] 24))
    obtain ⟨a1, hs1, hr1⟩ := cut_pre hrd hc0 (i := i) (by omega)
    obtain ⟨a2, hs2, hr2⟩ := cut_post hrd hc0 (i := i + 1) (by omega)
    have HR1 := Lib.hid hr1
    have HR2 := Lib.hid hr2
    have hs2' : ∀ W, (Instr.slice 22 (.slice a0 l.length c0) (some (.int .i64 ((i : Int) + 1))) none none).run Try.prog W = .ok (.slice a2 (l.length - (i + 1)) (c0 - (i + 1))) W := hs2
    clear hrd hx hP hi hs2 hr1 hr2
    unfold pgv
    simp only
    go_enter Try.func51, Try.ntmps51
    go_wp2_with fail
    refine (HA.out _ _ _ _ _ HO.out.old).mono ?_
    rintro e w3 ⟨rfl, k1⟩
    have HO3 := Lib.hid (HO.out.kn k1)
    clear k1 HO
    obtain ⟨x0, x1, x2, x3, x4, xf⟩ := cells5 (HO3.out.blk 1 rfl).1
    go_wp2_with fail
    have hx3 : l.take i ++ l.drop (i + 1) = allOf [(.slice a1 i i, l.take i), (.slice a2 (l.length - (i + 1)) (c0 - (i + 1)), l.drop (i + 1))] := by simp [allOf]
    have hl3 : (l.take i ++ l.drop (i + 1)).length ≤ l.length := by simp; omega
    generalize l.take i ++ l.drop (i + 1) = xs at *
    have HX3 := Lib.hid hx3
    clear hx3
    have hz0 : (0 : Int) ≤ (i : Int) := by omega
    have hz1 : (i : Int) + 1 ≤ (l.length : Int) := by omega
    have HO4 := Lib.hid ((HO3.out.alloc (.cells #[.slice a1 i i, .slice a2 (l.length - (i + 1)) (c0 - (i + 1))] 22)).kn ((Kp.refl _ _).drew))
    have HC4 := Lib.hid (with_at lf lo hi' r (.slice a0 l.length c0) [(.slice a1 i i, l.take i), (.slice a2 (l.length - (i + 1)) (c0 - (i + 1)), l.drop (i + 1))] (cap := 2) (n := 2) _ (HO4.out.blk 0 rfl).1 rfl rfl HX3.out
      (parts2 (HR1.out.kn HO4.out.old) (HR2.out.kn HO4.out.old)) (by unfold maxLen; omega) (by omega) (by simp))
    clear HR1 HR2 HX3
    have hw : IntKind.i64.wrap ((i : Int) + 1) = (i : Int) + 1 := Go.IntWalk.i64_in _ (by omega)
    go_region_held3 (fun w' => w'.cell? ⟨w.heap.size, 0, none⟩ = some (.bool lf) ∧ w'.cell? ⟨w.heap.size, 1, none⟩ = some (.string lo) ∧ w'.cell? ⟨w.heap.size, 2, none⟩ = some (.string hi') ∧ w'.cell? ⟨w.heap.size, 3, none⟩ = some (.int .i64 r) ∧ w'.cell? ⟨w.heap.size, 4, none⟩ = some (.slice a0 l.length c0))
      (first | (with_reducible exact K5.out) | (with_reducible exact K6.out) | go_keep) (first | (go_at_call 48; refine HC4.out.mono ?_; rintro e w4 ⟨a4, c4, rfl, hpo⟩; have HO5 := Lib.hid (HO4.out.add hpo); have HO6 := Lib.hid (HO5.out.set5 2 rfl (.bool lf) (.string lo) (.string hi') (.int .i64 r) (.slice a4 xs.length c4)); have K5 := Lib.hid (cells5' (HO5.out.blk 3 rfl).1); have K6 := Lib.hid (cells5' (HO6.out.blk 3 rfl).1); obtain ⟨y0, y1, y2, y3, y4, yf⟩ := cells5 (HO5.out.blk 2 rfl).1))
    clear hw
    go_wp2_with fail
    exact bodyPost_ret (res_c1t rfl rfl (load_pg (HO6.out.blk 2 rfl).1) rfl) rfl ⟨a4, c4, rfl, HO6.out.post 0 rfl⟩
end Go.Proofs.Ytkdlodjpambelaa
