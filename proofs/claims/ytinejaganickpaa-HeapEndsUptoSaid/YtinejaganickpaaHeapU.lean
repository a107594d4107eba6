/- Heaps: Install. Printed by gen16c.py. -/
import Derived.Test.YtinejaganickpaaBaseI
import Derived.Test.YtinejaganickpaaBaseH
namespace Go.Proofs.Ytinejaganickpaa
set_option linter.unusedVariables false
set_option linter.unusedSimpArgs false
open Go Go.RowKit Go.Sort

/-- How many versions a row has left is written. -/
theorem rsv_set2 (c v e : Nat) (rs : List Rsv) {i : Nat} {r : Rsv} (hr : rs[i]? = some r) (x : Int) :
    (hpCells c v e rs).setIfInBounds (3 + i * 3 + 2) (.int .i64 x) = hpCells c v e (rs.set i ⟨r.on, r.cells, x⟩) := by
  unfold hpCells
  apply Array.ext'
  simp only [Array.toList_setIfInBounds, List.cons_append, List.nil_append]
  show _ = Value.pointer (some ⟨c, 0, none⟩) :: Value.pointer (some ⟨v, 0, none⟩) :: Value.pointer (some ⟨e, 0, none⟩) :: (rs.set i ⟨r.on, r.cells, x⟩).flatMap Rsv.enc
  have hs : ∀ (n : Nat) (x : Value) (l : List Value), (Value.pointer (some ⟨c, 0, none⟩) :: Value.pointer (some ⟨v, 0, none⟩) :: Value.pointer (some ⟨e, 0, none⟩) :: l).set (3 + n) x = Value.pointer (some ⟨c, 0, none⟩) :: Value.pointer (some ⟨v, 0, none⟩) :: Value.pointer (some ⟨e, 0, none⟩) :: l.set n x := fun n x l => by
    rw [show 3 + n = n + 1 + 1 + 1 by omega]; rfl
  rw [show 3 + i * 3 + 2 = 3 + (i * 3 + 2) by omega, hs]
  congr 3
  clear hs
  induction rs generalizing i with
  | nil => simp at hr
  | cons q rs ih =>
    cases i with
    | zero =>
      simp at hr; subst hr
      simp [Rsv.enc]
    | succ i =>
      have hr' : rs[i]? = some r := by simpa using hr
      rw [List.set_cons_succ, List.flatMap_cons, List.flatMap_cons, ← ih hr']
      simp [Rsv.enc, Nat.add_mul]
section
variable {b c d e : Nat} {σ : Hps} {w w' : World} {F : Nat → Prop}
theorem install_no {x y1 : Int} {s : Int} {y : Ve} (h : Pw F w w' (HpL b c d e σ)) (hl : σ.rs.length = 17) (hn : σ.holds s ≠ 0) : Calls Try.prog 13 #[.pointer (some ⟨b, 0, none⟩), .int .i64 s, .agg #[.int .i64 x, .int .i64 y1], vev y] w' fun e' w'' => e' = .returned (.int .i64 (σ.holds s)) ∧ KN w' w'' := by
  have HH := Lib.hid (fun (W' : World) (k : KN w' W') => holds_h (h.kn k) hl s)
  have hk : KN w' ((w'.alloc (.cells #[.int .i64 x, .int .i64 y1] 36)).alloc (.cells #[.int .i64 y.tS, .string y.value, .bool y.del] 34)) := (kn_alloc _ _).alloc _
  have HK := Lib.hid hk
  have HN := Lib.hid hn
  clear h hn hk
  generalize σ.holds s = q at *
  have hq : (q != 0) = true := by simpa using HN.out
  go_enter Try.func13, Try.ntmps13
  go_wp2_with (go_at_call 34; refine (HH.out _ (by exact HK.out)).mono ?_; rintro e3 w3 ⟨rfl, rfl⟩)
  go_ret
  exact ⟨rfl, HK.out⟩
set_option maxRecDepth 100000 in
set_option maxHeartbeats 2000000 in
theorem install_closed {i k : Nat} {r : Rsv} {s : Slot Cl} {y : Ve} (h : Pw F w w' (HpL b c d e σ)) (hl : σ.rs.length = 17) (hi : i < 17) (hri : σ.rs[i]? = some r) (hon : r.on = true) (hs : σ.L[k]? = some s) (hg : s.given = true) (hcl : s.has.closed = true) : Calls Try.prog 13 #[.pointer (some ⟨b, 0, none⟩), .int .i64 (i : Int), .agg #[.int .i64 (k : Int), .int .i64 s.gen], vev y] w' fun e' w'' =>
    e' = .returned (.int .i64 160) ∧ KN w' w'' := by
  have HH := Lib.hid (fun (W' : World) (k : KN w' W') => holds_h (h.kn k) hl (i : Int))
  rw [holds_on hi hri hon] at HH
  have hq := (Pw.alloc (Pw.alloc h (.cells #[.int .i64 (k : Int), .int .i64 s.gen] 36)) (.cells #[.int .i64 y.tS, .string y.value, .bool y.del] 34))
  rw [show (w'.alloc (.cells #[.int .i64 (k : Int), .int .i64 s.gen] 36)).heap.size = w'.heap.size + 1 by simp] at hq
  have hk : KN w' ((w'.alloc (.cells #[.int .i64 (k : Int), .int .i64 s.gen] 36)).alloc (.cells #[.int .i64 y.tS, .string y.value, .bool y.del] 34)) := (Kp.alloc (kn_alloc w' (.cells #[.int .i64 (k : Int), .int .i64 s.gen] 36)) (.cells #[.int .i64 y.tS, .string y.value, .bool y.del] 34))
  generalize hW : ((w'.alloc (.cells #[.int .i64 (k : Int), .int .i64 s.gen] 36)).alloc (.cells #[.int .i64 y.tS, .string y.value, .bool y.del] 34)) = W at *
  have HGs := Lib.hid (show W.heap.size = w'.heap.size + 2 by rw [← hW]; simp)
  have HK := Lib.hid hk
  have HQ := Lib.hid hq
  have HSG := Lib.hid (And.intro hs hg)
  have HRI := Lib.hid hri
  have HON := Lib.hid hon
  have hz0 : (0 : Int) ≤ (i : Int) := by omega
  have hz1 : (i : Int) < 17 := by omega
  have HCl := Lib.hid hcl
  clear h hs hg hk hq hri hon hl hcl
  go_enter Try.func13, Try.ntmps13
  go_upto_region 4 with (go_at_call 34; refine (HH.out _ HK.out).mono ?_; rintro e3 w3 ⟨rfl, hw3⟩; subst hw3)
  clear HH hW
  have HGt := Lib.hid (fun (W' : World) (k' : KN W W') => show Calls Try.prog 37 #[.pointer (some ⟨c, 0, none⟩), .agg #[.int .i64 (k : Int), .int .i64 s.gen]] W' (fun e' w'' => e' = .returned (.tuple #[clV s.has, .int .i64 0]) ∧ KN W' w'') from by
    obtain ⟨F1, h1, _⟩ := (HQ.out.kn k').get 3 rfl
    exact get_good_C h1 HSG.out.1 HSG.out.2)
  have HU := Lib.hid (And.intro (hp_ptrs HQ.out.drop.drop).1 (And.intro (cells2 (HQ.out.blk 1 rfl)).1 (cells2 (HQ.out.blk 1 rfl)).2.1))
  go_cut [10, 11] (fun h1 c1 wx => ∃ g1 : Nat, h1 = .pointer (some ⟨g1, 0, none⟩) ∧ c1 = .int .i64 0 ∧ Hid (KN W wx ∧ Pw F w wx (Blk g1 (.cells #[.string s.has.key, .int .i64 s.has.newest.slot, .int .i64 s.has.newest.gen, .bool s.has.closed, .bool s.has.retired] 94) :: Blk (w'.heap.size + 1) (.cells #[.int .i64 y.tS, .string y.value, .bool y.del] 34) :: Blk w'.heap.size (.cells #[.int .i64 (k : Int), .int .i64 s.gen] 36) :: HpL b c d e σ)))
  case first =>
    have hbw : b < W.heap.size := World.block_lt_of_cell? _ _ HU.out.1
    have hxw : w'.heap.size < W.heap.size := by have := HGs.out; omega
    have s0 := up3 HU.out (kn_drew W)
    have sA := up3 HU.out ((kn_alloc W (.cells #[.string ⟨#[]⟩, .int .i64 0, .int .i64 0, .bool false, .bool false] 94)).drew)
    have HZ := Lib.hid (HQ.out.alloc (.cells #[.string ⟨#[]⟩, .int .i64 0, .int .i64 0, .bool false, .bool false] 94))
    go_region_held3 (fun W' => KN W W' ∧ W'.cell? ⟨b, 0, none⟩ = some (.pointer (some ⟨c, 0, none⟩)) ∧ W'.cell? ⟨w'.heap.size, 0, none⟩ = some (.int .i64 (k : Int)) ∧ W'.cell? ⟨w'.heap.size, 1, none⟩ = some (.int .i64 s.gen)) (first | with_reducible exact s0 | with_reducible exact sA | with_reducible exact s1 | with_reducible exact s2 | with_reducible exact s3) (first
      | (go_at_call 37; refine (HGt.out _ s0.1).mono ?_; rintro e5 w5 ⟨rfl, k5⟩; have s1 := up3 HU.out (s0.1.trans k5 (fun _ h => h.elim)); have s2 := up3 HU.out (s1.1.alloc (.cells #[.string s.has.key, .int .i64 s.has.newest.slot, .int .i64 s.has.newest.gen, .bool s.has.closed, .bool s.has.retired] 94)); have s3 := up3 HU.out (s1.1.alloc (.cells #[.string ⟨#[]⟩, .int .i64 0, .int .i64 0, .bool false, .bool false] 94)))
      | (go_at_call 37; refine (HGt.out _ sA.1).mono ?_; rintro e5 w5 ⟨rfl, k5⟩; have s1 := up3 HU.out (sA.1.trans k5 (fun _ h => h.elim)); have HP5 := Lib.hid ((HZ.out.kn (kn_drew _)).kn k5); have hb5 := HP5.out.blk 0 rfl; have z0 := cell_blk hb5 (i := 0) (v := .string ⟨#[]⟩) rfl; have z1 := cell_blk hb5 (i := 1) (v := .int .i64 0) rfl; have z2 := cell_blk hb5 (i := 2) (v := .int .i64 0) rfl; have z3 := cell_blk hb5 (i := 3) (v := .bool false) rfl; have z4 := cell_blk hb5 (i := 4) (v := .bool false) rfl; have zf : ∀ j, w5.frozen? ⟨W.heap.size, j, none⟩ = false := (fun j => free_blk hb5); have s3 := up3 HU.out (s1.1.then (kp_set5 w5 W.heap.size (.string s.has.key) (.int .i64 s.has.newest.slot) (.int .i64 s.has.newest.gen) (.bool s.has.closed) (.bool s.has.retired)) (fun y hy => by rw [hy]; exact Nat.le_refl _))))
    · go_wp2_with fail
      go_meet
      exact ⟨_, rfl, rfl, Lib.hid ⟨s2.1, (HQ.out.kn s1.1).alloc _⟩⟩
    · go_wp2_with fail
      go_meet
      have HP6 := HP5.out.setRow (i := 0) (base := 0) [(0, .string s.has.key), (1, .int .i64 s.has.newest.slot), (2, .int .i64 s.has.newest.gen), (3, .bool s.has.closed), (4, .bool s.has.retired)] rfl
      simp only [List.foldl_cons, List.foldl_nil, Nat.zero_add, List.set_cons_zero] at HP6
      exact ⟨_, rfl, rfl, Lib.hid ⟨s3.1, HP6⟩⟩
  case rest =>
    obtain ⟨g1, rfl, rfl, HS⟩ := hcut
    have HQ1 := Lib.hid HS.out.2
    have HK1 := Lib.hid (HK.out.trans HS.out.1 (fun _ h => h.elim))
    clear HGt HU HQ HK HS
    obtain ⟨y0, y1, y2, y3, y4, yf⟩ := cells5 (HQ1.out.blk 0 rfl)
    rw [HCl.out] at y3
    go_wp2_with fail
    go_ret
    exact ⟨rfl, HK1.out⟩
set_option maxRecDepth 100000 in
set_option maxHeartbeats 2000000 in
theorem install_err {i k : Nat} {r : Rsv} {s : Slot Cl} {xs : List (Hd × No)} {y : Ve} (h : Pw F w w' (HpL b c d e σ)) (hl : σ.rs.length = 17) (hi : i < 17) (hri : σ.rs[i]? = some r) (hon : r.on = true) (hs : σ.L[k]? = some s) (hg : s.given = true) (hcl : s.has.closed = false) (hc : Ch σ.V s.has.newest xs) (hxl : xs.length ≤ 9000000) (hys : y.value.size ≤ maxLen) (hp0 : putV (xs.map (·.2.has)) y ≠ 0) : Calls Try.prog 13 #[.pointer (some ⟨b, 0, none⟩), .int .i64 (i : Int), .agg #[.int .i64 (k : Int), .int .i64 s.gen], vev y] w' fun e' w'' =>
    e' = .returned (.int .i64 (putV (xs.map (·.2.has)) y)) ∧ KN w' w'' := by
  have HH := Lib.hid (fun (W' : World) (k : KN w' W') => holds_h (h.kn k) hl (i : Int))
  rw [holds_on hi hri hon] at HH
  have HCh := Lib.hid (And.intro hc hxl)
  have HYs := Lib.hid hys
  clear hc hxl hys
  obtain ⟨q, hq0⟩ : ∃ q, q = putV (xs.map (·.2.has)) y := ⟨_, rfl⟩
  have HV := Lib.hid hq0.symm
  have HP0 := Lib.hid hq0.symm
  have hqn : (q != 0) = true := by rw [hq0]; simpa using hp0
  clear hp0 hq0
  have hq := (Pw.alloc (Pw.alloc h (.cells #[.int .i64 (k : Int), .int .i64 s.gen] 36)) (.cells #[.int .i64 y.tS, .string y.value, .bool y.del] 34))
  rw [show (w'.alloc (.cells #[.int .i64 (k : Int), .int .i64 s.gen] 36)).heap.size = w'.heap.size + 1 by simp] at hq
  have hk : KN w' ((w'.alloc (.cells #[.int .i64 (k : Int), .int .i64 s.gen] 36)).alloc (.cells #[.int .i64 y.tS, .string y.value, .bool y.del] 34)) := (Kp.alloc (kn_alloc w' (.cells #[.int .i64 (k : Int), .int .i64 s.gen] 36)) (.cells #[.int .i64 y.tS, .string y.value, .bool y.del] 34))
  generalize hW : ((w'.alloc (.cells #[.int .i64 (k : Int), .int .i64 s.gen] 36)).alloc (.cells #[.int .i64 y.tS, .string y.value, .bool y.del] 34)) = W at *
  have HGs := Lib.hid (show W.heap.size = w'.heap.size + 2 by rw [← hW]; simp)
  have HK := Lib.hid hk
  have HQ := Lib.hid hq
  have HSG := Lib.hid (And.intro hs hg)
  have HRI := Lib.hid hri
  have HON := Lib.hid hon
  have hz0 : (0 : Int) ≤ (i : Int) := by omega
  have hz1 : (i : Int) < 17 := by omega
  have HCl := Lib.hid hcl
  clear h hs hg hk hq hri hon hl hcl
  go_enter Try.func13, Try.ntmps13
  go_upto_region 4 with (go_at_call 34; refine (HH.out _ HK.out).mono ?_; rintro e3 w3 ⟨rfl, hw3⟩; subst hw3)
  clear HH hW
  have HGt := Lib.hid (fun (W' : World) (k' : KN W W') => show Calls Try.prog 37 #[.pointer (some ⟨c, 0, none⟩), .agg #[.int .i64 (k : Int), .int .i64 s.gen]] W' (fun e' w'' => e' = .returned (.tuple #[clV s.has, .int .i64 0]) ∧ KN W' w'') from by
    obtain ⟨F1, h1, _⟩ := (HQ.out.kn k').get 3 rfl
    exact get_good_C h1 HSG.out.1 HSG.out.2)
  have HU := Lib.hid (And.intro (hp_ptrs HQ.out.drop.drop).1 (And.intro (cells2 (HQ.out.blk 1 rfl)).1 (cells2 (HQ.out.blk 1 rfl)).2.1))
  go_cut [10, 11] (fun h1 c1 wx => ∃ g1 : Nat, h1 = .pointer (some ⟨g1, 0, none⟩) ∧ c1 = .int .i64 0 ∧ Hid (KN W wx ∧ Pw F w wx (Blk g1 (.cells #[.string s.has.key, .int .i64 s.has.newest.slot, .int .i64 s.has.newest.gen, .bool s.has.closed, .bool s.has.retired] 94) :: Blk (w'.heap.size + 1) (.cells #[.int .i64 y.tS, .string y.value, .bool y.del] 34) :: Blk w'.heap.size (.cells #[.int .i64 (k : Int), .int .i64 s.gen] 36) :: HpL b c d e σ)))
  case first =>
    have hbw : b < W.heap.size := World.block_lt_of_cell? _ _ HU.out.1
    have hxw : w'.heap.size < W.heap.size := by have := HGs.out; omega
    have s0 := up3 HU.out (kn_drew W)
    have sA := up3 HU.out ((kn_alloc W (.cells #[.string ⟨#[]⟩, .int .i64 0, .int .i64 0, .bool false, .bool false] 94)).drew)
    have HZ := Lib.hid (HQ.out.alloc (.cells #[.string ⟨#[]⟩, .int .i64 0, .int .i64 0, .bool false, .bool false] 94))
    go_region_held3 (fun W' => KN W W' ∧ W'.cell? ⟨b, 0, none⟩ = some (.pointer (some ⟨c, 0, none⟩)) ∧ W'.cell? ⟨w'.heap.size, 0, none⟩ = some (.int .i64 (k : Int)) ∧ W'.cell? ⟨w'.heap.size, 1, none⟩ = some (.int .i64 s.gen)) (first | with_reducible exact s0 | with_reducible exact sA | with_reducible exact s1 | with_reducible exact s2 | with_reducible exact s3) (first
      | (go_at_call 37; refine (HGt.out _ s0.1).mono ?_; rintro e5 w5 ⟨rfl, k5⟩; have s1 := up3 HU.out (s0.1.trans k5 (fun _ h => h.elim)); have s2 := up3 HU.out (s1.1.alloc (.cells #[.string s.has.key, .int .i64 s.has.newest.slot, .int .i64 s.has.newest.gen, .bool s.has.closed, .bool s.has.retired] 94)); have s3 := up3 HU.out (s1.1.alloc (.cells #[.string ⟨#[]⟩, .int .i64 0, .int .i64 0, .bool false, .bool false] 94)))
      | (go_at_call 37; refine (HGt.out _ sA.1).mono ?_; rintro e5 w5 ⟨rfl, k5⟩; have s1 := up3 HU.out (sA.1.trans k5 (fun _ h => h.elim)); have HP5 := Lib.hid ((HZ.out.kn (kn_drew _)).kn k5); have hb5 := HP5.out.blk 0 rfl; have z0 := cell_blk hb5 (i := 0) (v := .string ⟨#[]⟩) rfl; have z1 := cell_blk hb5 (i := 1) (v := .int .i64 0) rfl; have z2 := cell_blk hb5 (i := 2) (v := .int .i64 0) rfl; have z3 := cell_blk hb5 (i := 3) (v := .bool false) rfl; have z4 := cell_blk hb5 (i := 4) (v := .bool false) rfl; have zf : ∀ j, w5.frozen? ⟨W.heap.size, j, none⟩ = false := (fun j => free_blk hb5); have s3 := up3 HU.out (s1.1.then (kp_set5 w5 W.heap.size (.string s.has.key) (.int .i64 s.has.newest.slot) (.int .i64 s.has.newest.gen) (.bool s.has.closed) (.bool s.has.retired)) (fun y hy => by rw [hy]; exact Nat.le_refl _))))
    · go_wp2_with fail
      go_meet
      exact ⟨_, rfl, rfl, Lib.hid ⟨s2.1, (HQ.out.kn s1.1).alloc _⟩⟩
    · go_wp2_with fail
      go_meet
      have HP6 := HP5.out.setRow (i := 0) (base := 0) [(0, .string s.has.key), (1, .int .i64 s.has.newest.slot), (2, .int .i64 s.has.newest.gen), (3, .bool s.has.closed), (4, .bool s.has.retired)] rfl
      simp only [List.foldl_cons, List.foldl_nil, Nat.zero_add, List.set_cons_zero] at HP6
      exact ⟨_, rfl, rfl, Lib.hid ⟨s3.1, HP6⟩⟩
  case rest =>
    obtain ⟨g1, rfl, rfl, HS⟩ := hcut
    have HQ1 := Lib.hid HS.out.2
    have HK1 := Lib.hid (HK.out.trans HS.out.1 (fun _ h => h.elim))
    clear HGt HU HQ HK HS
    obtain ⟨y0, y1, y2, y3, y4, yf⟩ := cells5 (HQ1.out.blk 0 rfl)
    rw [HCl.out] at y3
    have HLi := Lib.hid (fun (W' : World) (k' : KN wc W') => list_h ((HQ1.out.drop.drop.drop).kn k') HCh.out.1 HCh.out.2)
    have HLen := Lib.hid (show (xs.map (·.2.has)).length ≤ 9000000 by rw [List.length_map]; exact HCh.out.2)
    have HPv := Lib.hid HP0.out
    clear HP0
    generalize hE : xs.map (·.2.has) = ys at *
    have HE := Lib.hid hE
    clear hE
    obtain ⟨v0, v1, v2, _⟩ := cells3 (HQ1.out.blk 1 rfl)
    go_upto_region 9 with fail
    have HU := Lib.hid (And.intro y1 (And.intro y2 (And.intro v0 (And.intro v1 v2))))
    have s0 := up5 HU.out (kn_drew wc)
    clear v0 v1 v2
    go_region_held3 (fun W' => KN wc W' ∧ W'.cell? ⟨g1, 1, none⟩ = some (.int .i64 s.has.newest.slot) ∧ W'.cell? ⟨g1, 2, none⟩ = some (.int .i64 s.has.newest.gen) ∧ W'.cell? ⟨w'.heap.size + 1, 0, none⟩ = some (.int .i64 y.tS) ∧ W'.cell? ⟨w'.heap.size + 1, 1, none⟩ = some (.string y.value) ∧ W'.cell? ⟨w'.heap.size + 1, 2, none⟩ = some (.bool y.del)) (first | with_reducible exact s0 | with_reducible exact s1 | with_reducible exact s2)
      (first
        | (go_at_call 39; refine (HLi.out _ s0.1).mono ?_; rintro e5 w5 ⟨a5, c5, rfl, ho5⟩; have s1 := up5 HU.out (s0.1.trans ho5.old (fun _ h => h.elim)); have HR5 := Lib.hid (show Rl Ve.enc 3 w5 (.slice a5 ys.length c5) ys from by
            obtain ⟨F1, hr, _⟩ := ho5.get 0 rfl
            exact Rl.of_row encV3 rfl hr); clear ho5)
        | (go_at_call 38; refine (put_v y HYs.out (HR5.out.kn (by first | exact kn_drew _ | exact Kp.refl _ _)) (by have := HLen.out; unfold maxLen; omega)).mono ?_; rw [HPv.out]; rintro e6 w6 ⟨⟨sx, rfl⟩, k6⟩; have s2 := up5 HU.out (s1.1.trans k6 (fun _ h => h.elim))))
    have HK6 := Lib.hid s2.1
    clear s0 s1 s2 HU HLi HPv HR5 k6
    go_wp2_with fail
    go_ret
    exact ⟨by rw [HE.out, HV.out]; rfl, (HK1.out.trans HK6.out (fun _ h => h.elim))⟩
set_option maxRecDepth 100000 in
set_option maxHeartbeats 2000000 in
theorem install_zero {i k : Nat} {r : Rsv} {s : Slot Cl} {xs : List (Hd × No)} {y : Ve} (h : Pw F w w' (HpL b c d e σ)) (hl : σ.rs.length = 17) (hi : i < 17) (hri : σ.rs[i]? = some r) (hon : r.on = true) (hs : σ.L[k]? = some s) (hg : s.given = true) (hcl : s.has.closed = false) (hc : Ch σ.V s.has.newest xs) (hxl : xs.length ≤ 9000000) (hys : y.value.size ≤ maxLen) (hp0 : putV (xs.map (·.2.has)) y = 0) (hv0 : r.versions = 0) : Calls Try.prog 13 #[.pointer (some ⟨b, 0, none⟩), .int .i64 (i : Int), .agg #[.int .i64 (k : Int), .int .i64 s.gen], vev y] w' fun e' w'' =>
    e' = .returned (.int .i64 5) ∧ KN w' w'' := by
  have HH := Lib.hid (fun (W' : World) (k : KN w' W') => holds_h (h.kn k) hl (i : Int))
  rw [holds_on hi hri hon] at HH
  have HCh := Lib.hid (And.intro hc hxl)
  have HYs := Lib.hid hys
  clear hc hxl hys
  have HP0 := Lib.hid hp0
  clear hp0
  have hq := (Pw.alloc (Pw.alloc h (.cells #[.int .i64 (k : Int), .int .i64 s.gen] 36)) (.cells #[.int .i64 y.tS, .string y.value, .bool y.del] 34))
  rw [show (w'.alloc (.cells #[.int .i64 (k : Int), .int .i64 s.gen] 36)).heap.size = w'.heap.size + 1 by simp] at hq
  have hk : KN w' ((w'.alloc (.cells #[.int .i64 (k : Int), .int .i64 s.gen] 36)).alloc (.cells #[.int .i64 y.tS, .string y.value, .bool y.del] 34)) := (Kp.alloc (kn_alloc w' (.cells #[.int .i64 (k : Int), .int .i64 s.gen] 36)) (.cells #[.int .i64 y.tS, .string y.value, .bool y.del] 34))
  generalize hW : ((w'.alloc (.cells #[.int .i64 (k : Int), .int .i64 s.gen] 36)).alloc (.cells #[.int .i64 y.tS, .string y.value, .bool y.del] 34)) = W at *
  have HGs := Lib.hid (show W.heap.size = w'.heap.size + 2 by rw [← hW]; simp)
  have HK := Lib.hid hk
  have HQ := Lib.hid hq
  have HSG := Lib.hid (And.intro hs hg)
  have HRI := Lib.hid hri
  have HON := Lib.hid hon
  have hz0 : (0 : Int) ≤ (i : Int) := by omega
  have hz1 : (i : Int) < 17 := by omega
  have HCl := Lib.hid hcl
  clear h hs hg hk hq hri hon hl hcl
  go_enter Try.func13, Try.ntmps13
  go_upto_region 4 with (go_at_call 34; refine (HH.out _ HK.out).mono ?_; rintro e3 w3 ⟨rfl, hw3⟩; subst hw3)
  clear HH hW
  have HGt := Lib.hid (fun (W' : World) (k' : KN W W') => show Calls Try.prog 37 #[.pointer (some ⟨c, 0, none⟩), .agg #[.int .i64 (k : Int), .int .i64 s.gen]] W' (fun e' w'' => e' = .returned (.tuple #[clV s.has, .int .i64 0]) ∧ KN W' w'') from by
    obtain ⟨F1, h1, _⟩ := (HQ.out.kn k').get 3 rfl
    exact get_good_C h1 HSG.out.1 HSG.out.2)
  have HU := Lib.hid (And.intro (hp_ptrs HQ.out.drop.drop).1 (And.intro (cells2 (HQ.out.blk 1 rfl)).1 (cells2 (HQ.out.blk 1 rfl)).2.1))
  go_cut [10, 11] (fun h1 c1 wx => ∃ g1 : Nat, h1 = .pointer (some ⟨g1, 0, none⟩) ∧ c1 = .int .i64 0 ∧ Hid (KN W wx ∧ Pw F w wx (Blk g1 (.cells #[.string s.has.key, .int .i64 s.has.newest.slot, .int .i64 s.has.newest.gen, .bool s.has.closed, .bool s.has.retired] 94) :: Blk (w'.heap.size + 1) (.cells #[.int .i64 y.tS, .string y.value, .bool y.del] 34) :: Blk w'.heap.size (.cells #[.int .i64 (k : Int), .int .i64 s.gen] 36) :: HpL b c d e σ)))
  case first =>
    have hbw : b < W.heap.size := World.block_lt_of_cell? _ _ HU.out.1
    have hxw : w'.heap.size < W.heap.size := by have := HGs.out; omega
    have s0 := up3 HU.out (kn_drew W)
    have sA := up3 HU.out ((kn_alloc W (.cells #[.string ⟨#[]⟩, .int .i64 0, .int .i64 0, .bool false, .bool false] 94)).drew)
    have HZ := Lib.hid (HQ.out.alloc (.cells #[.string ⟨#[]⟩, .int .i64 0, .int .i64 0, .bool false, .bool false] 94))
    go_region_held3 (fun W' => KN W W' ∧ W'.cell? ⟨b, 0, none⟩ = some (.pointer (some ⟨c, 0, none⟩)) ∧ W'.cell? ⟨w'.heap.size, 0, none⟩ = some (.int .i64 (k : Int)) ∧ W'.cell? ⟨w'.heap.size, 1, none⟩ = some (.int .i64 s.gen)) (first | with_reducible exact s0 | with_reducible exact sA | with_reducible exact s1 | with_reducible exact s2 | with_reducible exact s3) (first
      | (go_at_call 37; refine (HGt.out _ s0.1).mono ?_; rintro e5 w5 ⟨rfl, k5⟩; have s1 := up3 HU.out (s0.1.trans k5 (fun _ h => h.elim)); have s2 := up3 HU.out (s1.1.alloc (.cells #[.string s.has.key, .int .i64 s.has.newest.slot, .int .i64 s.has.newest.gen, .bool s.has.closed, .bool s.has.retired] 94)); have s3 := up3 HU.out (s1.1.alloc (.cells #[.string ⟨#[]⟩, .int .i64 0, .int .i64 0, .bool false, .bool false] 94)))
      | (go_at_call 37; refine (HGt.out _ sA.1).mono ?_; rintro e5 w5 ⟨rfl, k5⟩; have s1 := up3 HU.out (sA.1.trans k5 (fun _ h => h.elim)); have HP5 := Lib.hid ((HZ.out.kn (kn_drew _)).kn k5); have hb5 := HP5.out.blk 0 rfl; have z0 := cell_blk hb5 (i := 0) (v := .string ⟨#[]⟩) rfl; have z1 := cell_blk hb5 (i := 1) (v := .int .i64 0) rfl; have z2 := cell_blk hb5 (i := 2) (v := .int .i64 0) rfl; have z3 := cell_blk hb5 (i := 3) (v := .bool false) rfl; have z4 := cell_blk hb5 (i := 4) (v := .bool false) rfl; have zf : ∀ j, w5.frozen? ⟨W.heap.size, j, none⟩ = false := (fun j => free_blk hb5); have s3 := up3 HU.out (s1.1.then (kp_set5 w5 W.heap.size (.string s.has.key) (.int .i64 s.has.newest.slot) (.int .i64 s.has.newest.gen) (.bool s.has.closed) (.bool s.has.retired)) (fun y hy => by rw [hy]; exact Nat.le_refl _))))
    · go_wp2_with fail
      go_meet
      exact ⟨_, rfl, rfl, Lib.hid ⟨s2.1, (HQ.out.kn s1.1).alloc _⟩⟩
    · go_wp2_with fail
      go_meet
      have HP6 := HP5.out.setRow (i := 0) (base := 0) [(0, .string s.has.key), (1, .int .i64 s.has.newest.slot), (2, .int .i64 s.has.newest.gen), (3, .bool s.has.closed), (4, .bool s.has.retired)] rfl
      simp only [List.foldl_cons, List.foldl_nil, Nat.zero_add, List.set_cons_zero] at HP6
      exact ⟨_, rfl, rfl, Lib.hid ⟨s3.1, HP6⟩⟩
  case rest =>
    obtain ⟨g1, rfl, rfl, HS⟩ := hcut
    have HQ1 := Lib.hid HS.out.2
    have HK1 := Lib.hid (HK.out.trans HS.out.1 (fun _ h => h.elim))
    clear HGt HU HQ HK HS
    obtain ⟨y0, y1, y2, y3, y4, yf⟩ := cells5 (HQ1.out.blk 0 rfl)
    rw [HCl.out] at y3
    have HLi := Lib.hid (fun (W' : World) (k' : KN wc W') => list_h ((HQ1.out.drop.drop.drop).kn k') HCh.out.1 HCh.out.2)
    have HLen := Lib.hid (show (xs.map (·.2.has)).length ≤ 9000000 by rw [List.length_map]; exact HCh.out.2)
    have HPv := Lib.hid HP0.out
    clear HP0
    generalize hE : xs.map (·.2.has) = ys at *
    have HE := Lib.hid hE
    clear hE
    obtain ⟨v0, v1, v2, _⟩ := cells3 (HQ1.out.blk 1 rfl)
    go_upto_region 9 with fail
    have HU := Lib.hid (And.intro y1 (And.intro y2 (And.intro v0 (And.intro v1 v2))))
    have s0 := up5 HU.out (kn_drew wc)
    clear v0 v1 v2
    go_region_held3 (fun W' => KN wc W' ∧ W'.cell? ⟨g1, 1, none⟩ = some (.int .i64 s.has.newest.slot) ∧ W'.cell? ⟨g1, 2, none⟩ = some (.int .i64 s.has.newest.gen) ∧ W'.cell? ⟨w'.heap.size + 1, 0, none⟩ = some (.int .i64 y.tS) ∧ W'.cell? ⟨w'.heap.size + 1, 1, none⟩ = some (.string y.value) ∧ W'.cell? ⟨w'.heap.size + 1, 2, none⟩ = some (.bool y.del)) (first | with_reducible exact s0 | with_reducible exact s1 | with_reducible exact s2)
      (first
        | (go_at_call 39; refine (HLi.out _ s0.1).mono ?_; rintro e5 w5 ⟨a5, c5, rfl, ho5⟩; have s1 := up5 HU.out (s0.1.trans ho5.old (fun _ h => h.elim)); have HR5 := Lib.hid (show Rl Ve.enc 3 w5 (.slice a5 ys.length c5) ys from by
            obtain ⟨F1, hr, _⟩ := ho5.get 0 rfl
            exact Rl.of_row encV3 rfl hr); clear ho5)
        | (go_at_call 38; refine (put_v y HYs.out (HR5.out.kn (by first | exact kn_drew _ | exact Kp.refl _ _)) (by have := HLen.out; unfold maxLen; omega)).mono ?_; rw [HPv.out]; rintro e6 w6 ⟨⟨sx, rfl⟩, k6⟩; have s2 := up5 HU.out (s1.1.trans k6 (fun _ h => h.elim))))
    have HK6 := Lib.hid s2.1
    clear s0 s1 s2 HU HLi HPv HR5 k6
    have HQ6 := Lib.hid (HQ1.out.kn HK6.out)
    have HK7 := Lib.hid (HK1.out.trans HK6.out (fun _ h => h.elim))
    clear HQ1 HK1 HK6 y0 y1 y2 y3 y4 yf
    obtain ⟨q0, q1, q2⟩ := hp_rsv HQ6.out.drop.drop.drop HRI.out
    rw [hv0] at q2
    go_wp2_with fail
    go_ret
    exact ⟨rfl, HK7.out⟩
set_option maxRecDepth 100000 in
set_option maxHeartbeats 2000000 in
theorem install_ok {i k : Nat} {r : Rsv} {s : Slot Cl} {xs : List (Hd × No)} {y : Ve} {j : Nat} {fr : List Int} {t : Slot No} (h : Pw F w w' (HpL b c d e σ)) (hl : σ.rs.length = 17) (hi : i < 17) (hri : σ.rs[i]? = some r) (hon : r.on = true) (hs : σ.L[k]? = some s) (hg : s.given = true) (hcl : s.has.closed = false) (hc : Ch σ.V s.has.newest xs) (hxl : xs.length ≤ 9000000) (hys : y.value.size ≤ maxLen) (hp0 : putV (xs.map (·.2.has)) y = 0) (hv0 : 1 ≤ r.versions ∧ r.versions ≤ 65536) (hfr : freeOf σ.V = (j : Int) :: fr) (ht : σ.V[j]? = some t) (htg : 0 ≤ t.gen ∧ t.gen ≤ 9000000) (hm : σ.V.length ≤ 65536) : Calls Try.prog 13 #[.pointer (some ⟨b, 0, none⟩), .int .i64 (i : Int), .agg #[.int .i64 (k : Int), .int .i64 s.gen], vev y] w' fun e' w'' =>
    e' = .returned (.int .i64 0) ∧ Pw F w w'' (HpL b c d e ⟨σ.L.set k ⟨⟨s.has.key, ⟨j, t.gen + 1⟩, s.has.closed, s.has.retired⟩, s.gen, s.given⟩, σ.sl, (σ.V.set j ⟨⟨y, s.has.newest⟩, t.gen + 1, true⟩), σ.sv, σ.rs.set i ⟨r.on, r.cells, r.versions - 1⟩⟩) := by
  have HH := Lib.hid (fun (W' : World) (k : KN w' W') => holds_h (h.kn k) hl (i : Int))
  rw [holds_on hi hri hon] at HH
  have HCh := Lib.hid (And.intro hc hxl)
  have HYs := Lib.hid hys
  clear hc hxl hys
  have HP0 := Lib.hid hp0
  clear hp0
  have HA0 := Lib.hid (And.intro hfr (And.intro ht (And.intro htg hm)))
  clear hfr ht htg hm
  have hq := (Pw.alloc (Pw.alloc h (.cells #[.int .i64 (k : Int), .int .i64 s.gen] 36)) (.cells #[.int .i64 y.tS, .string y.value, .bool y.del] 34))
  rw [show (w'.alloc (.cells #[.int .i64 (k : Int), .int .i64 s.gen] 36)).heap.size = w'.heap.size + 1 by simp] at hq
  have hk : KN w' ((w'.alloc (.cells #[.int .i64 (k : Int), .int .i64 s.gen] 36)).alloc (.cells #[.int .i64 y.tS, .string y.value, .bool y.del] 34)) := (Kp.alloc (kn_alloc w' (.cells #[.int .i64 (k : Int), .int .i64 s.gen] 36)) (.cells #[.int .i64 y.tS, .string y.value, .bool y.del] 34))
  generalize hW : ((w'.alloc (.cells #[.int .i64 (k : Int), .int .i64 s.gen] 36)).alloc (.cells #[.int .i64 y.tS, .string y.value, .bool y.del] 34)) = W at *
  have HGs := Lib.hid (show W.heap.size = w'.heap.size + 2 by rw [← hW]; simp)
  have HK := Lib.hid hk
  have HQ := Lib.hid hq
  have HSG := Lib.hid (And.intro hs hg)
  have HRI := Lib.hid hri
  have HON := Lib.hid hon
  have hz0 : (0 : Int) ≤ (i : Int) := by omega
  have hz1 : (i : Int) < 17 := by omega
  have HCl := Lib.hid hcl
  clear h hs hg hk hq hri hon hl hcl
  go_enter Try.func13, Try.ntmps13
  go_upto_region 4 with (go_at_call 34; refine (HH.out _ HK.out).mono ?_; rintro e3 w3 ⟨rfl, hw3⟩; subst hw3)
  clear HH hW
  have HGt := Lib.hid (fun (W' : World) (k' : KN W W') => show Calls Try.prog 37 #[.pointer (some ⟨c, 0, none⟩), .agg #[.int .i64 (k : Int), .int .i64 s.gen]] W' (fun e' w'' => e' = .returned (.tuple #[clV s.has, .int .i64 0]) ∧ KN W' w'') from by
    obtain ⟨F1, h1, _⟩ := (HQ.out.kn k').get 3 rfl
    exact get_good_C h1 HSG.out.1 HSG.out.2)
  have HU := Lib.hid (And.intro (hp_ptrs HQ.out.drop.drop).1 (And.intro (cells2 (HQ.out.blk 1 rfl)).1 (cells2 (HQ.out.blk 1 rfl)).2.1))
  go_cut [10, 11] (fun h1 c1 wx => ∃ g1 : Nat, h1 = .pointer (some ⟨g1, 0, none⟩) ∧ c1 = .int .i64 0 ∧ Hid (KN W wx ∧ Pw F w wx (Blk g1 (.cells #[.string s.has.key, .int .i64 s.has.newest.slot, .int .i64 s.has.newest.gen, .bool s.has.closed, .bool s.has.retired] 94) :: Blk (w'.heap.size + 1) (.cells #[.int .i64 y.tS, .string y.value, .bool y.del] 34) :: Blk w'.heap.size (.cells #[.int .i64 (k : Int), .int .i64 s.gen] 36) :: HpL b c d e σ)))
  case first =>
    have hbw : b < W.heap.size := World.block_lt_of_cell? _ _ HU.out.1
    have hxw : w'.heap.size < W.heap.size := by have := HGs.out; omega
    have s0 := up3 HU.out (kn_drew W)
    have sA := up3 HU.out ((kn_alloc W (.cells #[.string ⟨#[]⟩, .int .i64 0, .int .i64 0, .bool false, .bool false] 94)).drew)
    have HZ := Lib.hid (HQ.out.alloc (.cells #[.string ⟨#[]⟩, .int .i64 0, .int .i64 0, .bool false, .bool false] 94))
    go_region_held3 (fun W' => KN W W' ∧ W'.cell? ⟨b, 0, none⟩ = some (.pointer (some ⟨c, 0, none⟩)) ∧ W'.cell? ⟨w'.heap.size, 0, none⟩ = some (.int .i64 (k : Int)) ∧ W'.cell? ⟨w'.heap.size, 1, none⟩ = some (.int .i64 s.gen)) (first | with_reducible exact s0 | with_reducible exact sA | with_reducible exact s1 | with_reducible exact s2 | with_reducible exact s3) (first
      | (go_at_call 37; refine (HGt.out _ s0.1).mono ?_; rintro e5 w5 ⟨rfl, k5⟩; have s1 := up3 HU.out (s0.1.trans k5 (fun _ h => h.elim)); have s2 := up3 HU.out (s1.1.alloc (.cells #[.string s.has.key, .int .i64 s.has.newest.slot, .int .i64 s.has.newest.gen, .bool s.has.closed, .bool s.has.retired] 94)); have s3 := up3 HU.out (s1.1.alloc (.cells #[.string ⟨#[]⟩, .int .i64 0, .int .i64 0, .bool false, .bool false] 94)))
      | (go_at_call 37; refine (HGt.out _ sA.1).mono ?_; rintro e5 w5 ⟨rfl, k5⟩; have s1 := up3 HU.out (sA.1.trans k5 (fun _ h => h.elim)); have HP5 := Lib.hid ((HZ.out.kn (kn_drew _)).kn k5); have hb5 := HP5.out.blk 0 rfl; have z0 := cell_blk hb5 (i := 0) (v := .string ⟨#[]⟩) rfl; have z1 := cell_blk hb5 (i := 1) (v := .int .i64 0) rfl; have z2 := cell_blk hb5 (i := 2) (v := .int .i64 0) rfl; have z3 := cell_blk hb5 (i := 3) (v := .bool false) rfl; have z4 := cell_blk hb5 (i := 4) (v := .bool false) rfl; have zf : ∀ j, w5.frozen? ⟨W.heap.size, j, none⟩ = false := (fun j => free_blk hb5); have s3 := up3 HU.out (s1.1.then (kp_set5 w5 W.heap.size (.string s.has.key) (.int .i64 s.has.newest.slot) (.int .i64 s.has.newest.gen) (.bool s.has.closed) (.bool s.has.retired)) (fun y hy => by rw [hy]; exact Nat.le_refl _))))
    · go_wp2_with fail
      go_meet
      exact ⟨_, rfl, rfl, Lib.hid ⟨s2.1, (HQ.out.kn s1.1).alloc _⟩⟩
    · go_wp2_with fail
      go_meet
      have HP6 := HP5.out.setRow (i := 0) (base := 0) [(0, .string s.has.key), (1, .int .i64 s.has.newest.slot), (2, .int .i64 s.has.newest.gen), (3, .bool s.has.closed), (4, .bool s.has.retired)] rfl
      simp only [List.foldl_cons, List.foldl_nil, Nat.zero_add, List.set_cons_zero] at HP6
      exact ⟨_, rfl, rfl, Lib.hid ⟨s3.1, HP6⟩⟩
  case rest =>
    obtain ⟨g1, rfl, rfl, HS⟩ := hcut
    have HQ1 := Lib.hid HS.out.2
    have HK1 := Lib.hid (HK.out.trans HS.out.1 (fun _ h => h.elim))
    clear HGt HU HQ HK HS
    obtain ⟨y0, y1, y2, y3, y4, yf⟩ := cells5 (HQ1.out.blk 0 rfl)
    rw [HCl.out] at y3
    have HLi := Lib.hid (fun (W' : World) (k' : KN wc W') => list_h ((HQ1.out.drop.drop.drop).kn k') HCh.out.1 HCh.out.2)
    have HLen := Lib.hid (show (xs.map (·.2.has)).length ≤ 9000000 by rw [List.length_map]; exact HCh.out.2)
    have HPv := Lib.hid HP0.out
    clear HP0
    generalize hE : xs.map (·.2.has) = ys at *
    have HE := Lib.hid hE
    clear hE
    obtain ⟨v0, v1, v2, _⟩ := cells3 (HQ1.out.blk 1 rfl)
    go_upto_region 9 with fail
    have HU := Lib.hid (And.intro y1 (And.intro y2 (And.intro v0 (And.intro v1 v2))))
    have s0 := up5 HU.out (kn_drew wc)
    clear v0 v1 v2
    go_region_held3 (fun W' => KN wc W' ∧ W'.cell? ⟨g1, 1, none⟩ = some (.int .i64 s.has.newest.slot) ∧ W'.cell? ⟨g1, 2, none⟩ = some (.int .i64 s.has.newest.gen) ∧ W'.cell? ⟨w'.heap.size + 1, 0, none⟩ = some (.int .i64 y.tS) ∧ W'.cell? ⟨w'.heap.size + 1, 1, none⟩ = some (.string y.value) ∧ W'.cell? ⟨w'.heap.size + 1, 2, none⟩ = some (.bool y.del)) (first | with_reducible exact s0 | with_reducible exact s1 | with_reducible exact s2)
      (first
        | (go_at_call 39; refine (HLi.out _ s0.1).mono ?_; rintro e5 w5 ⟨a5, c5, rfl, ho5⟩; have s1 := up5 HU.out (s0.1.trans ho5.old (fun _ h => h.elim)); have HR5 := Lib.hid (show Rl Ve.enc 3 w5 (.slice a5 ys.length c5) ys from by
            obtain ⟨F1, hr, _⟩ := ho5.get 0 rfl
            exact Rl.of_row encV3 rfl hr); clear ho5)
        | (go_at_call 38; refine (put_v y HYs.out (HR5.out.kn (by first | exact kn_drew _ | exact Kp.refl _ _)) (by have := HLen.out; unfold maxLen; omega)).mono ?_; rw [HPv.out]; rintro e6 w6 ⟨⟨sx, rfl⟩, k6⟩; have s2 := up5 HU.out (s1.1.trans k6 (fun _ h => h.elim))))
    have HK6 := Lib.hid s2.1
    clear s0 s1 s2 HU HLi HPv HR5 k6
    have HQ6 := Lib.hid (HQ1.out.kn HK6.out)
    clear HQ1 HK1 HK6 y0 y1 y2 y3 y4 yf
    obtain ⟨q0, q1, q2⟩ := hp_rsv HQ6.out.drop.drop.drop HRI.out
    obtain ⟨_, _, _, hf⟩ := hp_ptrs HQ6.out.drop.drop.drop
    have hv1 : (r.versions == 0) = false := by simp; omega
    have hwr : IntKind.i64.wrap (r.versions - 1) = r.versions - 1 := Go.IntWalk.i64_in _ (by omega)
    go_upto_region 14 with fail
    have m1 := fun d os => cell_regrown (d := d) (os := os) q2
    refine wp_region_below_tail 12 (by kernel_rfl) (by kernel_rfl) ?_
    simp only [List.take_succ_cons, List.take_zero, List.drop_succ_cons, List.drop_zero]
    repeat (go_big_quiet_step (fail))
    refine wpQuiet_nil ?_
    intro _ hw'
    obtain ⟨⟨dq, osq⟩, hw''⟩ := hw'
    subst hw''
    have HQ7 := Lib.hid (HQ6.out.kn (kn_regrown w6 dq osq))
    clear q0 q1 q2 hf HQ6 m1
    generalize grow (redrawn w6 dq) osq = w7 at *
    obtain ⟨q0, q1, q2⟩ := hp_rsv HQ7.out.drop.drop.drop HRI.out
    obtain ⟨_, _, _, hf⟩ := hp_ptrs HQ7.out.drop.drop.drop
    go_upto_region 15 with fail
    have h8 := HQ7.out.setC 3 rfl (j := 3 + i * 3 + 2) (.int .i64 (r.versions - 1))
    rw [rsv_set2 c d e σ.rs HRI.out] at h8
    have H8 : Hid (Pw F w (w7.setCell ⟨b, 3 + i * 3 + 2, none⟩ (.int .i64 (r.versions - 1))) (Blk g1 (.cells #[.string s.has.key, .int .i64 s.has.newest.slot, .int .i64 s.has.newest.gen, .bool s.has.closed, .bool s.has.retired] 94) :: Blk (w'.heap.size + 1) (.cells #[.int .i64 y.tS, .string y.value, .bool y.del] 34) :: Blk w'.heap.size (.cells #[.int .i64 (k : Int), .int .i64 s.gen] 36) :: HpL b c d e ⟨σ.L, σ.sl, σ.V, σ.sv, σ.rs.set i ⟨r.on, r.cells, r.versions - 1⟩⟩)) := Lib.hid h8
    clear h8 q0 q1 q2 hf HQ7 hwr
    generalize w7.setCell ⟨b, 3 + i * 3 + 2, none⟩ (.int .i64 (r.versions - 1)) = w8 at *
    have HA := Lib.hid (fun (W' : World) (k' : KN w8 W') => show Calls Try.prog 40 #[.pointer (some ⟨d, 0, none⟩), .agg #[.int .i64 y.tS, .string y.value, .bool y.del, .int .i64 s.has.newest.slot, .int .i64 s.has.newest.gen]] W' (fun e' w'' => e' = .returned (.tuple #[.agg #[.int .i64 (j : Int), .int .i64 (t.gen + 1)], .int .i64 0]) ∧ Pw F w w'' (Blk g1 (.cells #[.string s.has.key, .int .i64 s.has.newest.slot, .int .i64 s.has.newest.gen, .bool s.has.closed, .bool s.has.retired] 94) :: Blk (w'.heap.size + 1) (.cells #[.int .i64 y.tS, .string y.value, .bool y.del] 34) :: Blk w'.heap.size (.cells #[.int .i64 (k : Int), .int .i64 s.gen] 36) :: HpL b c d e ⟨σ.L, σ.sl, (σ.V.set j ⟨⟨y, s.has.newest⟩, t.gen + 1, true⟩), σ.sv, σ.rs.set i ⟨r.on, r.cells, r.versions - 1⟩⟩)) from by
      obtain ⟨F1, h1, _, hup⟩ := (H8.out.kn k').get 5 rfl
      exact (put_ok_N h1 HA0.out.1 HA0.out.2.1 HA0.out.2.2.1 HA0.out.2.2.2 ⟨y, s.has.newest⟩).mono fun e' w'' ⟨he, hp'⟩ => ⟨he, hup hp'⟩)
    have HB := Lib.hid (fun (W' : World) (k' : KN (w8.alloc (.cells #[.int .i64 0, .int .i64 0] 36)) W') => show Calls Try.prog 40 #[.pointer (some ⟨d, 0, none⟩), .agg #[.int .i64 y.tS, .string y.value, .bool y.del, .int .i64 s.has.newest.slot, .int .i64 s.has.newest.gen]] W' (fun e' w'' => e' = .returned (.tuple #[.agg #[.int .i64 (j : Int), .int .i64 (t.gen + 1)], .int .i64 0]) ∧ Pw F w w'' (Blk w8.heap.size (.cells #[.int .i64 0, .int .i64 0] 36) :: Blk g1 (.cells #[.string s.has.key, .int .i64 s.has.newest.slot, .int .i64 s.has.newest.gen, .bool s.has.closed, .bool s.has.retired] 94) :: Blk (w'.heap.size + 1) (.cells #[.int .i64 y.tS, .string y.value, .bool y.del] 34) :: Blk w'.heap.size (.cells #[.int .i64 (k : Int), .int .i64 s.gen] 36) :: HpL b c d e ⟨σ.L, σ.sl, (σ.V.set j ⟨⟨y, s.has.newest⟩, t.gen + 1, true⟩), σ.sv, σ.rs.set i ⟨r.on, r.cells, r.versions - 1⟩⟩)) from by
      obtain ⟨F1, h1, _, hup⟩ := ((H8.out.alloc (.cells #[.int .i64 0, .int .i64 0] 36)).kn k').get 6 rfl
      exact (put_ok_N h1 HA0.out.1 HA0.out.2.1 HA0.out.2.2.1 HA0.out.2.2.2 ⟨y, s.has.newest⟩).mono fun e' w'' ⟨he, hp'⟩ => ⟨he, hup hp'⟩)
    go_cut [14, 11] (fun h1 c1 wx => ∃ g2 : Nat, h1 = .pointer (some ⟨g2, 0, none⟩) ∧ c1 = .int .i64 0 ∧ Hid (Pw F w wx (Blk g2 (.cells #[.int .i64 (j : Int), .int .i64 (t.gen + 1)] 36) :: Blk g1 (.cells #[.string s.has.key, .int .i64 s.has.newest.slot, .int .i64 s.has.newest.gen, .bool s.has.closed, .bool s.has.retired] 94) :: Blk (w'.heap.size + 1) (.cells #[.int .i64 y.tS, .string y.value, .bool y.del] 34) :: Blk w'.heap.size (.cells #[.int .i64 (k : Int), .int .i64 s.gen] 36) :: HpL b c d e ⟨σ.L, σ.sl, (σ.V.set j ⟨⟨y, s.has.newest⟩, t.gen + 1, true⟩), σ.sv, σ.rs.set i ⟨r.on, r.cells, r.versions - 1⟩⟩)))
    case first =>
      have HSS := Lib.hid (fun (W' : World) (k' : KN w8 W') => show W'.cell? ⟨b, 1, none⟩ = some (.pointer (some ⟨d, 0, none⟩)) ∧ W'.cell? ⟨w'.heap.size + 1, 0, none⟩ = some (.int .i64 y.tS) ∧ W'.cell? ⟨w'.heap.size + 1, 1, none⟩ = some (.string y.value) ∧ W'.cell? ⟨w'.heap.size + 1, 2, none⟩ = some (.bool y.del) ∧ W'.cell? ⟨g1, 1, none⟩ = some (.int .i64 s.has.newest.slot) ∧ W'.cell? ⟨g1, 2, none⟩ = some (.int .i64 s.has.newest.gen) from by
        have h' := H8.out.kn k'
        exact ⟨(hp_ptrs h'.drop.drop.drop).2.1, (cells3 (h'.blk 1 rfl)).1, (cells3 (h'.blk 1 rfl)).2.1, (cells3 (h'.blk 1 rfl)).2.2.1, (cells5 (h'.blk 0 rfl)).2.1, (cells5 (h'.blk 0 rfl)).2.2.1⟩)
      have HS7 := Lib.hid (fun (W' : World) (h' : Pw F w W' (Blk g1 (.cells #[.string s.has.key, .int .i64 s.has.newest.slot, .int .i64 s.has.newest.gen, .bool s.has.closed, .bool s.has.retired] 94) :: Blk (w'.heap.size + 1) (.cells #[.int .i64 y.tS, .string y.value, .bool y.del] 34) :: Blk w'.heap.size (.cells #[.int .i64 (k : Int), .int .i64 s.gen] 36) :: HpL b c d e ⟨σ.L, σ.sl, (σ.V.set j ⟨⟨y, s.has.newest⟩, t.gen + 1, true⟩), σ.sv, σ.rs.set i ⟨r.on, r.cells, r.versions - 1⟩⟩)) => show W'.cell? ⟨b, 1, none⟩ = some (.pointer (some ⟨d, 0, none⟩)) ∧ W'.cell? ⟨w'.heap.size + 1, 0, none⟩ = some (.int .i64 y.tS) ∧ W'.cell? ⟨w'.heap.size + 1, 1, none⟩ = some (.string y.value) ∧ W'.cell? ⟨w'.heap.size + 1, 2, none⟩ = some (.bool y.del) ∧ W'.cell? ⟨g1, 1, none⟩ = some (.int .i64 s.has.newest.slot) ∧ W'.cell? ⟨g1, 2, none⟩ = some (.int .i64 s.has.newest.gen) from ⟨(hp_ptrs h'.drop.drop.drop).2.1, (cells3 (h'.blk 1 rfl)).1, (cells3 (h'.blk 1 rfl)).2.1, (cells3 (h'.blk 1 rfl)).2.2.1, (cells5 (h'.blk 0 rfl)).2.1, (cells5 (h'.blk 0 rfl)).2.2.1⟩)
      have s0 := HSS.out _ (kn_drew w8)
      have sA := HSS.out _ ((kn_alloc w8 (.cells #[.int .i64 0, .int .i64 0] 36)).drew)
      go_region_held3 (fun W' => W'.cell? ⟨b, 1, none⟩ = some (.pointer (some ⟨d, 0, none⟩)) ∧ W'.cell? ⟨w'.heap.size + 1, 0, none⟩ = some (.int .i64 y.tS) ∧ W'.cell? ⟨w'.heap.size + 1, 1, none⟩ = some (.string y.value) ∧ W'.cell? ⟨w'.heap.size + 1, 2, none⟩ = some (.bool y.del) ∧ W'.cell? ⟨g1, 1, none⟩ = some (.int .i64 s.has.newest.slot) ∧ W'.cell? ⟨g1, 2, none⟩ = some (.int .i64 s.has.newest.gen)) (first | with_reducible exact s0 | with_reducible exact sA | with_reducible exact s1 | with_reducible exact s2 | with_reducible exact s3)
        (first
          | (go_at_call 40; refine (HA.out _ (kn_drew w8)).mono ?_; rintro e9 w9 ⟨rfl, hp9⟩; have HP9 := Lib.hid hp9; have s1 := HS7.out w9 hp9; have s2 := HS7.out _ (hp9.kn (kn_alloc w9 (.cells #[.int .i64 (j : Int), .int .i64 (t.gen + 1)] 36))); have s3 := HS7.out _ (hp9.kn (kn_alloc w9 (.cells #[.int .i64 0, .int .i64 0] 36))); clear hp9)
          | (go_at_call 40; refine (HB.out _ (kn_drew _)).mono ?_; rintro e9 w9 ⟨rfl, hp9⟩; have HP9 := Lib.hid hp9; have s1 := HS7.out w9 hp9.drop; obtain ⟨n0, n1, n2, n3⟩ := cells2 (hp9.blk 0 rfl); have HP10 := Lib.hid ((hp9.setC 0 rfl (j := 0) (.int .i64 (j : Int))).setC 0 rfl (j := 1) (.int .i64 (t.gen + 1))); have s3 := HS7.out _ HP10.out.drop; clear hp9))
      · go_wp2_with fail
        go_meet
        exact ⟨_, rfl, rfl, Lib.hid (HP9.out.alloc _)⟩
      · go_wp2_with fail
        go_meet
        exact ⟨_, rfl, rfl, HP10⟩
    case rest =>
      obtain ⟨g2, rfl, rfl, HP⟩ := hcut
      clear HA HB H8
      obtain ⟨u0, u1, _, _⟩ := cells2 (HP.out.blk 0 rfl)
      obtain ⟨y0, y1, y2, y3, y4, yf⟩ := cells5 (HP.out.blk 1 rfl)
      go_upto_region 19 with fail
      have HP11 := Lib.hid ((HP.out.setC 1 rfl (j := 1) (.int .i64 (j : Int))).setC 1 rfl (j := 2) (.int .i64 (t.gen + 1)))
      simp only [List.set_cons_zero, List.set_cons_succ] at HP11
      replace HP11 : Hid (Pw F w _ (Blk g1 (.cells #[.string s.has.key, .int .i64 (j : Int), .int .i64 (t.gen + 1), .bool s.has.closed, .bool s.has.retired] 94) :: Blk (w'.heap.size + 1) (.cells #[.int .i64 y.tS, .string y.value, .bool y.del] 34) :: Blk w'.heap.size (.cells #[.int .i64 (k : Int), .int .i64 s.gen] 36) :: HpL b c d e ⟨σ.L, σ.sl, (σ.V.set j ⟨⟨y, s.has.newest⟩, t.gen + 1, true⟩), σ.sv, σ.rs.set i ⟨r.on, r.cells, r.versions - 1⟩⟩)) := Lib.hid (Pw.drop HP11.out)
      clear u0 u1 y0 y1 y2 y3 y4 yf HP
      generalize (wc.setCell ⟨g1, 1, none⟩ (.int .i64 (j : Int))).setCell ⟨g1, 2, none⟩ (.int .i64 (t.gen + 1)) = w11 at *
      have HSt := Lib.hid (fun (W' : World) (k' : KN w11 W') => show Calls Try.prog 41 #[.pointer (some ⟨c, 0, none⟩), .agg #[.int .i64 (k : Int), .int .i64 s.gen], clV ⟨s.has.key, ⟨j, t.gen + 1⟩, s.has.closed, s.has.retired⟩] W' (fun e' w'' => e' = .returned (.int .i64 0) ∧ Pw F w w'' (Blk g1 (.cells #[.string s.has.key, .int .i64 (j : Int), .int .i64 (t.gen + 1), .bool s.has.closed, .bool s.has.retired] 94) :: Blk (w'.heap.size + 1) (.cells #[.int .i64 y.tS, .string y.value, .bool y.del] 34) :: Blk w'.heap.size (.cells #[.int .i64 (k : Int), .int .i64 s.gen] 36) :: HpL b c d e ⟨σ.L.set k ⟨⟨s.has.key, ⟨j, t.gen + 1⟩, s.has.closed, s.has.retired⟩, s.gen, s.given⟩, σ.sl, (σ.V.set j ⟨⟨y, s.has.newest⟩, t.gen + 1, true⟩), σ.sv, σ.rs.set i ⟨r.on, r.cells, r.versions - 1⟩⟩)) from by
        obtain ⟨F1, h1, _, hup⟩ := (HP11.out.kn k').get 4 rfl
        exact (set_good_C h1 HSG.out.1 HSG.out.2 ⟨s.has.key, ⟨j, t.gen + 1⟩, s.has.closed, s.has.retired⟩).mono fun e' w'' ⟨he, hp'⟩ => ⟨he, hup hp'⟩)
      have HS8 := Lib.hid (fun (W' : World) (L : List (Slot Cl)) (h' : Pw F w W' (Blk g1 (.cells #[.string s.has.key, .int .i64 (j : Int), .int .i64 (t.gen + 1), .bool s.has.closed, .bool s.has.retired] 94) :: Blk (w'.heap.size + 1) (.cells #[.int .i64 y.tS, .string y.value, .bool y.del] 34) :: Blk w'.heap.size (.cells #[.int .i64 (k : Int), .int .i64 s.gen] 36) :: HpL b c d e ⟨L, σ.sl, (σ.V.set j ⟨⟨y, s.has.newest⟩, t.gen + 1, true⟩), σ.sv, σ.rs.set i ⟨r.on, r.cells, r.versions - 1⟩⟩)) => show W'.cell? ⟨b, 0, none⟩ = some (.pointer (some ⟨c, 0, none⟩)) ∧ W'.cell? ⟨w'.heap.size, 0, none⟩ = some (.int .i64 (k : Int)) ∧ W'.cell? ⟨w'.heap.size, 1, none⟩ = some (.int .i64 s.gen) ∧ W'.cell? ⟨g1, 0, none⟩ = some (.string s.has.key) ∧ W'.cell? ⟨g1, 1, none⟩ = some (.int .i64 (j : Int)) ∧ W'.cell? ⟨g1, 2, none⟩ = some (.int .i64 (t.gen + 1)) ∧ W'.cell? ⟨g1, 3, none⟩ = some (.bool s.has.closed) ∧ W'.cell? ⟨g1, 4, none⟩ = some (.bool s.has.retired) from ⟨(hp_ptrs h'.drop.drop.drop).1, (cells2 (h'.blk 2 rfl)).1, (cells2 (h'.blk 2 rfl)).2.1, cell_blk (h'.blk 0 rfl) rfl, cell_blk (h'.blk 0 rfl) rfl, cell_blk (h'.blk 0 rfl) rfl, cell_blk (h'.blk 0 rfl) rfl, cell_blk (h'.blk 0 rfl) rfl⟩)
      have s0 := HS8.out _ _ (HP11.out.kn (kn_drew w11))
      go_region_held3 (fun W' => W'.cell? ⟨b, 0, none⟩ = some (.pointer (some ⟨c, 0, none⟩)) ∧ W'.cell? ⟨w'.heap.size, 0, none⟩ = some (.int .i64 (k : Int)) ∧ W'.cell? ⟨w'.heap.size, 1, none⟩ = some (.int .i64 s.gen) ∧ W'.cell? ⟨g1, 0, none⟩ = some (.string s.has.key) ∧ W'.cell? ⟨g1, 1, none⟩ = some (.int .i64 (j : Int)) ∧ W'.cell? ⟨g1, 2, none⟩ = some (.int .i64 (t.gen + 1)) ∧ W'.cell? ⟨g1, 3, none⟩ = some (.bool s.has.closed) ∧ W'.cell? ⟨g1, 4, none⟩ = some (.bool s.has.retired)) (first | with_reducible exact s0 | with_reducible exact s1)
        ((go_at_call 41; refine (HSt.out _ (kn_drew w11)).mono ?_; rintro e12 w12 ⟨rfl, hp12⟩; have HP12 := Lib.hid hp12; have s1 := HS8.out _ _ hp12; clear hp12))
      go_wp2_with fail
      go_ret
      exact ⟨rfl, HP12.out.drop.drop.drop⟩
end
end Go.Proofs.Ytinejaganickpaa
