/- The walks of page.Put and Remove. -/
import Derived.Test.YtkdlodjpambelaaClones
namespace Go.Proofs.Ytkdlodjpambelaa
set_option linter.unusedVariables false
set_option linter.unusedSimpArgs false
open Go Go.RowKit

/-- The cuts s[:i:i], s[:i], s[i:]. -/
theorem cut_pre {w : World} {a : Option Addr} {c : Nat} {l : List En} (h : Rd En.enc 4 w a l) (hc : l.length ≤ c) {i : Nat} (hi : i ≤ l.length) :
    ∃ a1, (∀ W, (Instr.slice 22 (.slice a l.length c) none (some (.int .i64 (i : Int))) (some (.int .i64 (i : Int)))).run Try.prog W = .ok (.slice a1 i i) W) ∧ Rl En.enc 4 w (.slice a1 i i) (l.take i) := by
  refine ⟨if i = 0 then a else a.map (·.add (0 * 4)), fun W => ?_, ?_⟩
  · rw [run_slice_hm (P := Try.prog) W 22 a l.length c (by kernel_rfl) .i64 .i64 i i (by omega) (by omega) (by omega)]
    have : ∀ w, (sizeOf (Try.prog.elem 22)).run Try.prog w = .ok 4 w := fun w => by kernel_rfl
    rw [this]
    simp [sliced, Result.andThen]
  · have hl : (l.take i).length = i := by rw [List.length_take]; omega
    refine ⟨_, i, by rw [hl], by omega, ?_⟩
    have h1 := (h.take i)
    by_cases h0 : i = 0
    · subst h0; exact .inl (by simp)
    · rw [if_neg h0]
      rcases h1 with h1 | ⟨b, off, ha, hb, hx⟩
      · exact .inl h1
      · exact .inr ⟨b, off, by subst ha; simp [Addr.add], hb, hx⟩
theorem cut_pre2 {w : World} {a : Option Addr} {c : Nat} {l : List En} (h : Rd En.enc 4 w a l) (hc : l.length ≤ c) {i : Nat} (hi : i ≤ l.length) :
    ∃ a1, (∀ W, (Instr.slice 22 (.slice a l.length c) none (some (.int .i64 (i : Int))) none).run Try.prog W = .ok (.slice a1 i c) W) ∧ Rl En.enc 4 w (.slice a1 i c) (l.take i) := by
  refine ⟨if c = 0 then a else a.map (·.add (0 * 4)), fun W => ?_, ?_⟩
  · rw [run_slice_h (P := Try.prog) W 22 a l.length c (by kernel_rfl) .i64 i (by omega) (by omega)]
    have : ∀ w, (sizeOf (Try.prog.elem 22)).run Try.prog w = .ok 4 w := fun w => by kernel_rfl
    rw [this]
    simp [sliced, Result.andThen]
  · have hl : (l.take i).length = i := by rw [List.length_take]; omega
    refine ⟨_, c, by rw [hl], by omega, ?_⟩
    have h1 := (h.take i)
    by_cases h0 : c = 0
    · exact .inl (List.length_eq_zero_iff.1 (by rw [List.length_take]; omega))
    · rw [if_neg h0]
      rcases h1 with h1 | ⟨b, off, ha, hb, hx⟩
      · exact .inl h1
      · exact .inr ⟨b, off, by subst ha; simp [Addr.add], hb, hx⟩
theorem cut_post {w : World} {a : Option Addr} {c : Nat} {l : List En} (h : Rd En.enc 4 w a l) (hc : l.length ≤ c) {i : Nat} (hi : i ≤ l.length) :
    ∃ a1, (∀ W, (Instr.slice 22 (.slice a l.length c) (some (.int .i64 (i : Int))) none none).run Try.prog W = .ok (.slice a1 (l.length - i) (c - i)) W) ∧ Rl En.enc 4 w (.slice a1 (l.length - i) (c - i)) (l.drop i) := by
  refine ⟨if c = i then a else a.map (·.add (i * 4)), fun W => ?_, ?_⟩
  · rw [run_slice_l (P := Try.prog) W 22 a l.length c (by kernel_rfl) .i64 i (by omega) (by omega)]
    have : ∀ w, (sizeOf (Try.prog.elem 22)).run Try.prog w = .ok 4 w := fun w => by kernel_rfl
    rw [this]
    simp [sliced, Result.andThen]
  · have hl : (l.drop i).length = l.length - i := by rw [List.length_drop]
    exact ⟨_, c - i, by rw [hl], by omega, h.drop i c hc⟩
theorem put_out (p : Pg) (e : En) (w : World) {v : Value} (ho : inR p.low p.high e.key = false) : Calls Try.prog 50 #[pgv p v, env e] w (GavePE (putP p e) w) := by
  have hP : putP p e = (zeroPg, 73) := by unfold putP; rw [if_neg (by rw [ho]; simp)]
  rw [hP]
  obtain ⟨lf, lo, hi, r, l⟩ := p
  obtain ⟨key, ⟨sl, ge⟩, ch⟩ := e
  simp only at ho
  unfold pgv env
  simp only
  have HH := Lib.hid (fun W => ho ▸ has_k lf lo hi r v key W)
  have HO := Lib.hid (((One.nil w).nilRow 28 4).alloc3 (.cells #[.bool lf, .string lo, .string hi, .int .i64 r, v] 24) (.cells #[.string key, .int .i64 sl, .int .i64 ge, .int .i64 ch] 28) (.cells #[.bool false, .string empS, .string empS, .int .i64 0, .slice none 0 0] 24))
  clear ho hP
  go_enter Try.func50, Try.ntmps50
  go_wp2_with fail
  refine (HH.out _).mono ?_
  rintro e w1 ⟨rfl, k1⟩
  have HO1 := Lib.hid (HO.out.kn k1)
  clear k1 HO
  obtain ⟨y0, y1, y2, y3, y4, yf⟩ := cells5 (HO1.out.blk 0 rfl).1
  go_wp2_with fail
  have HO2 := Lib.hid (HO1.out.set5 0 rfl (.bool false) (.string empS) (.string empS) (.int .i64 0) (.slice none 0 0))
  exact bodyPost_ret (res_c1t rfl rfl (load_pg (HO2.out.blk 0 rfl).1) rfl) rfl ⟨none, 0, rfl, HO2.out.post 3 rfl⟩

theorem ix_some {p : En → Bool} {l : List En} {i : Nat} (h : l.findIdx? p = some i) : ixOf p l = i ∧ i < l.length := by
  unfold ixOf; rw [h]; exact ⟨rfl, (List.findIdx?_eq_some_iff_getElem.1 h).1⟩
theorem ix_none {p : En → Bool} {l : List En} (h : l.findIdx? p = none) : ixOf p l = -1 := by unfold ixOf; rw [h]
theorem cells5' {w : World} {b : Nat} {T : TypeId} {v0 v1 v2 v3 v4 : Value} (h : w.heap[b]? = some (.cells #[v0, v1, v2, v3, v4] T (0, 0))) : w.cell? ⟨b, 0, none⟩ = some v0 ∧ w.cell? ⟨b, 1, none⟩ = some v1 ∧ w.cell? ⟨b, 2, none⟩ = some v2 ∧ w.cell? ⟨b, 3, none⟩ = some v3 ∧ w.cell? ⟨b, 4, none⟩ = some v4 :=
  ⟨cell_blk h rfl, cell_blk h rfl, cell_blk h rfl, cell_blk h rfl, cell_blk h rfl⟩
/-- One entry in a block of its own. -/
theorem rl_one {w : World} {g : Nat} {k : ByteArray} {s e c : Int} {fr : Nat × Nat} {T : TypeId} {cap : Nat} (h : w.heap[g]? = some (.cells #[.string k, .int .i64 s, .int .i64 e, .int .i64 c] T fr)) (hc : 1 ≤ cap := by decide) : Rl En.enc 4 w (.slice (some ⟨g, 0, none⟩) 1 cap) [⟨k, ⟨s, e⟩, c⟩] := by
  refine ⟨_, cap, rfl, hc, .inr ⟨g, 0, rfl, lt_blk h, fun i x hx j hj => ?_⟩⟩
  match i, hx with
  | 0, hx =>
    simp at hx; subst hx
    match j, hj with
    | 0, _ => exact cell_blk h rfl
    | 1, _ => exact cell_blk h rfl
    | 2, _ => exact cell_blk h rfl
    | 3, _ => exact cell_blk h rfl
set_option maxHeartbeats 1000000 in
theorem put_at (p : Pg) (e : En) (w : World) {v : Value} (ho : inR p.low p.high e.key = true) {i : Nat} (hi : p.list.findIdx? (fun x => eqS x.key e.key) = some i) (hr : Rl En.enc 4 w v p.list) (hb : (p.list.length + 1) * 40 ≤ 140737488355328) :
    Calls Try.prog 50 #[pgv p v, env e] w (GavePE (putP p e) w) := by
  have hP : putP p e = (⟨p.leaf, p.low, p.high, p.right, p.list.take i ++ e :: p.list.drop (i + 1)⟩, 0) := by unfold putP putAt; rw [if_pos ho, hi]
  obtain ⟨hx, hlt⟩ := ix_some hi
  rw [hP]
  clear hP hi
  obtain ⟨lf, lo, hi', r, l⟩ := p
  simp only at ho hr hb hx hlt
  have HX := Lib.hid hx
  obtain ⟨a0, c0, rfl, hc0, hrd⟩ := hr
  have HA := Lib.hid (fun W lf lo hi r (k : KN w W) => hx ▸ at_page e.key W (lf := lf) (low := lo) (high := hi) (r := r) ((Rl.of_rd hrd hc0).kn k) (by unfold maxLen; omega))
  obtain ⟨a1, hs1, hr1⟩ := cut_pre hrd hc0 (i := i) (by omega)
  obtain ⟨a2, hs2, hr2⟩ := cut_post hrd hc0 (i := i + 1) (by omega)
  have HR1 := Lib.hid hr1
  have HR2 := Lib.hid hr2
  clear hr1 hr2 hrd hx
  have hs2' : ∀ W, (Instr.slice 22 (.slice a0 l.length c0) (some (.int .i64 ((i : Int) + 1))) none none).run Try.prog W = .ok (.slice a2 (l.length - (i + 1)) (c0 - (i + 1))) W := hs2
  clear hs2
  obtain ⟨key, ⟨sl, ge⟩, ch⟩ := e
  simp only at ho HA
  unfold pgv env
  simp only
  have HH := Lib.hid (fun W => ho ▸ has_k lf lo hi' r (.slice a0 l.length c0) key W)
  have HO := Lib.hid (((One.nil w)).alloc3 (.cells #[.bool lf, .string lo, .string hi', .int .i64 r, .slice a0 l.length c0] 24) (.cells #[.string key, .int .i64 sl, .int .i64 ge, .int .i64 ch] 28) (.cells #[.bool false, .string empS, .string empS, .int .i64 0, .slice none 0 0] 24))
  clear ho
  go_enter Try.func50, Try.ntmps50
  go_wp2_with fail
  refine (HH.out _).mono ?_
  rintro e w1 ⟨rfl, k1⟩
  have HO1 := Lib.hid (HO.out.kn k1)
  clear k1 HO
  obtain ⟨x0, x1, x2, x3, x4, xf⟩ := cells5 (HO1.out.blk 2 rfl).1
  have z0 := cell_blk (i := 0) (HO1.out.blk 1 rfl).1 rfl
  have z1 := cell_blk (i := 1) (HO1.out.blk 1 rfl).1 rfl
  have z2 := cell_blk (i := 2) (HO1.out.blk 1 rfl).1 rfl
  have z3 := cell_blk (i := 3) (HO1.out.blk 1 rfl).1 rfl
  go_upto_region 4 with fail
  have HO2 := Lib.hid (HO1.out.alloc (.cells #[.string key, .int .i64 sl, .int .i64 ge, .int .i64 ch] 28))
  clear HO1 x0 x1 x2 x3 x4 xf z0 z1 z2 z3
  generalize w1.alloc (.cells #[.string key, .int .i64 sl, .int .i64 ge, .int .i64 ch] 28) = w2 at *
  generalize w1.heap.size = g1 at *
  obtain ⟨x0, x1, x2, x3, x4, xf⟩ := cells5 (HO2.out.blk 3 rfl).1
  have z0 := cell_blk (i := 0) (HO2.out.blk 2 rfl).1 rfl
  go_wp2_with fail
  refine (HA.out _ _ _ _ _ HO2.out.old).mono ?_
  rintro e w3 ⟨rfl, k3⟩
  have HO3 := Lib.hid (HO2.out.kn k3)
  clear k3 HO2 HA HH x0 x1 x2 x3 x4 xf z0
  obtain ⟨x0, x1, x2, x3, x4, xf⟩ := cells5 (HO3.out.blk 3 rfl).1
  go_wp2_with fail
  have hx3 : l.take i ++ (⟨key, ⟨sl, ge⟩, ch⟩ : En) :: l.drop (i + 1) = allOf [(.slice a1 i i, l.take i), (.slice (some ⟨g1, 0, none⟩) 1 1, [⟨key, ⟨sl, ge⟩, ch⟩]), (.slice a2 (l.length - (i + 1)) (c0 - (i + 1)), l.drop (i + 1))] := by simp [allOf]
  have hl3 : (l.take i ++ (⟨key, ⟨sl, ge⟩, ch⟩ : En) :: l.drop (i + 1)).length ≤ l.length := by simp; omega
  generalize l.take i ++ (⟨key, ⟨sl, ge⟩, ch⟩ : En) :: l.drop (i + 1) = xs at *
  have HX3 := Lib.hid hx3
  clear hx3
  have hz0 : (0 : Int) ≤ (i : Int) := by omega
  have hz1 : (i : Int) + 1 ≤ (l.length : Int) := by omega
  have HO4 := Lib.hid ((HO3.out.alloc (.cells #[.slice a1 i i, .slice (some ⟨g1, 0, none⟩) 1 1, .slice a2 (l.length - (i + 1)) (c0 - (i + 1))] 22)).kn ((Kp.refl _ _).drew))
  have HR3 := Lib.hid (HO4.out.blk 1 rfl).1
  have HC4 := Lib.hid (with_at lf lo hi' r (.slice a0 l.length c0) [(.slice a1 i i, l.take i), (.slice (some ⟨g1, 0, none⟩) 1 1, [⟨key, ⟨sl, ge⟩, ch⟩]), (.slice a2 (l.length - (i + 1)) (c0 - (i + 1)), l.drop (i + 1))] (cap := 3) (n := 3) _ (HO4.out.blk 0 rfl).1 rfl rfl HX3.out
    (parts3 (HR1.out.kn HO4.out.old) (rl_one HR3.out) (HR2.out.kn HO4.out.old)) (by unfold maxLen; omega) (by omega) (by simp))
  clear HR1 HR2 HR3 HX3 HX
  have hw : IntKind.i64.wrap ((i : Int) + 1) = (i : Int) + 1 := Go.IntWalk.i64_in _ (by omega)
  go_region_held3 (fun w' => w'.cell? ⟨w.heap.size, 0, none⟩ = some (.bool lf) ∧ w'.cell? ⟨w.heap.size, 1, none⟩ = some (.string lo) ∧ w'.cell? ⟨w.heap.size, 2, none⟩ = some (.string hi') ∧ w'.cell? ⟨w.heap.size, 3, none⟩ = some (.int .i64 r) ∧ w'.cell? ⟨w.heap.size, 4, none⟩ = some (.slice a0 l.length c0))
    (first | (with_reducible exact K5.out) | (with_reducible exact K6.out) | go_keep) (first | (go_at_call 48; refine HC4.out.mono ?_; rintro e w4 ⟨a4, c4, rfl, hpo⟩; have HO5 := Lib.hid (HO4.out.add hpo); have HO6 := Lib.hid (HO5.out.set5 3 rfl (.bool lf) (.string lo) (.string hi') (.int .i64 r) (.slice a4 xs.length c4)); have K5 := Lib.hid (cells5' (HO5.out.blk 5 rfl).1); have K6 := Lib.hid (cells5' (HO6.out.blk 5 rfl).1); obtain ⟨y0, y1, y2, y3, y4, yf⟩ := cells5 (HO5.out.blk 3 rfl).1))
  clear hw
  go_wp2_with fail
  exact bodyPost_ret (res_c1t rfl rfl (load_pg (HO6.out.blk 3 rfl).1) rfl) rfl ⟨a4, c4, rfl, HO6.out.post 0 rfl⟩
end Go.Proofs.Ytkdlodjpambelaa
