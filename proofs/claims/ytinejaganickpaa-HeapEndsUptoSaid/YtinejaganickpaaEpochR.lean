/- Epochs: Retire. -/
import Derived.Test.YtinejaganickpaaBaseE
import Derived.Test.YtinejaganickpaaBaseA
namespace Go.Proofs.Ytinejaganickpaa
set_option linter.unusedVariables false
set_option linter.unusedSimpArgs false
open Go Go.RowKit

/-- append at a step of a region that draws, from its run. -/
theorem step_appX {P : Program} {ops : Array Oper} {o : Oper} {a : Act} {w : World} {K : Act → World → Prop} {Q : Exit → Act → World → Prop} {G : Prop} (hgd : o.guard = none) {so xo : Operand} {t : TypeId}
    (ho : o.op = .call { callee := .builtin .append, args := #[so, xo], argTypes := #[t, t] }) {v s : Value} (hv : a.eval so = v) (hs : a.eval xo = s) {H : Value → World → Prop}
    (h : ∃ r w', (Builtin.append_ #[t, t] o.type #[v, s]).run P w = .ok r w' ∧ H r w') (hK : ∀ r w', H r w' → K (a.put o.dst r) w') :
    if Region.wanted o (yielded ops a.tmps) = true then Oper.wp P o a w K Q else G := by
  have hw : Region.wanted o (yielded ops a.tmps) = true := by simp [Region.wanted, hgd]
  rw [if_pos hw]
  obtain ⟨r, w', hrun, hH⟩ := h
  unfold Oper.wp execOp
  simp only [ho, resolve, invoke, builtin, Sem.run_bind, Sem.run_pure, Result.andThen_ok, List.map_toArray, List.map_cons, List.map_nil, hv, hs, hrun]
  exact hK r w' hH
abbrev ren (x : Re) : Value := .agg #[.int .i64 x.kind, .int .i64 x.handle.slot, .int .i64 x.handle.gen]
theorem cell_kn {w w' : World} {a : Addr} {v : Value} (hc : w.cell? a = some v) (k : KN w w') : w'.cell? a = some v := cell_kp k id hc
theorem frozen_kn {w w' : World} {a : Addr} (hb : a.block < w.heap.size) (hc : w.frozen? a = false) (k : KN w w') : w'.frozen? a = false := free_kp k id hb hc
theorem rl_re {w : World} {g : Nat} {k s e : Int} {fr : Nat × Nat} {T : TypeId} {cap : Nat} (h : w.heap[g]? = some (.cells #[.int .i64 k, .int .i64 s, .int .i64 e] T fr)) (hc : 1 ≤ cap := by decide) : Rl Re.enc 3 w (.slice (some ⟨g, 0, none⟩) 1 cap) [⟨k, ⟨s, e⟩⟩] := by
  refine ⟨_, cap, rfl, hc, .inr ⟨g, 0, rfl, lt_blk h, fun i x hx j hj => ?_⟩⟩
  match i, hx with
  | 0, hx =>
    simp at hx; subst hx
    match j, hj with
    | 0, _ => exact cell_blk h rfl
    | 1, _ => exact cell_blk h rfl
    | 2, _ => exact cell_blk h rfl
def Eps.row (σ : Eps) (j : Nat) : List Re := σ.ls.getD j []
def Eps.retire (σ : Eps) (x : Re) : Eps := ⟨σ.now, σ.xs, σ.ls.set (σ.now % 3) (σ.row (σ.now % 3) ++ [x])⟩
/-- What is known of a row. -/
theorem EpA.lim {b : Nat} {σ : Eps} {w : World} {F : Nat → Prop} (h : (EpA b σ).on w F) (hf : σ.Fit) {j : Nat} (hj : j < 3) : ∃ ps rs r, ps.length = 17 ∧ rs.map (fun r : Lim => r.2.2) = σ.ls ∧ rs[j]? = some r ∧ r.2.2 = σ.row j ∧ (Ep b σ.now ps σ.xs rs).on w F ∧
    w.cell? ⟨b, 0, none⟩ = some (.int .i64 σ.now) ∧ w.cell? ⟨b, 18 + j, none⟩ = some r.v ∧ (∀ i, w.frozen? ⟨b, i, none⟩ = false) ∧ b < w.heap.size := by
  obtain ⟨ps, rs, h1, h2, h⟩ := h
  have hl : rs.length = 3 := by rw [← hf.llen, ← h2, List.length_map]
  have hr : rs[j]? = some rs[j] := List.getElem?_eq_getElem (by omega)
  refine ⟨ps, rs, rs[j], h1, h2, hr, ?_, h, cell_blk (EpO.blk h).1 ec_now, ?_, fun i => free_blk (EpO.blk h).1, lt_blk (EpO.blk h).1⟩
  · simp [Eps.row, ← h2, List.getD, hr]
  · have := cell_blk (EpO.blk h).1 (ec_lim (now := σ.now) (vs := ps.map ptrv) (ss := rs.map Lim.v) (j := j) (v := rs[j].v) (by rw [List.getElem?_map, hr]; rfl))
    rw [List.length_map, h1] at this
    exact this
/-- What append leaves. -/
def Gave1 (b : Nat) (o : Obj) (ps : List Nat) (xs : List Int) (rs : List Lim) (j n : Nat) (l : List Re) (F : Nat → Prop) (w : World) (r : Value) (w' : World) : Prop :=
  ∃ a1 cap, r = .slice a1 n cap ∧ w'.heap[b]? = some o ∧ Post (EpO b o ps xs (rs.set j (a1, cap, l))) F w w'
theorem app_ep {b j n : Nat} {o : Obj} {ps : List Nat} {xs : List Int} {rs : List Lim} {r : Lim} {w : World} {F : Nat → Prop} (h : (EpO b o ps xs rs).on w F) (hl : ps.length = xs.length) (hr : rs[j]? = some r) (hn : r.2.2.length = n) (hb : (n + 1) * 24 ≤ 140737488355328) (x : Re) (W : World) (k : KN w W) (s : Value) (hs : Rl Re.enc 3 W s [x]) (ty : TypeId) :
    ∃ v w', (Builtin.append_ #[55, 55] ty #[.slice r.1 n r.2.1, s]).run Try.prog W = .ok v w' ∧ Gave1 b o ps xs rs j (n + 1) (r.2.2 ++ [x]) F w v w' := by
  subst hn
  obtain ⟨F1, h1, hs1, hup⟩ := EpO.row ((EpO b o ps xs rs).kn h k) hl hr
  obtain ⟨a1, cap, w', hrun, hp⟩ := post_appL elt_Re ty h1 enc3 hs re_one (by unfold maxLen; simp only [List.length_singleton]; omega) (by simpa using hb)
  refine ⟨_, w', hrun, a1, cap, rfl, ?_, ?_⟩
  · obtain ⟨F', a', k', s'⟩ := hup w' (a1, cap, r.2.2 ++ [x]) (by simpa [Lim.row] using hp)
    exact (EpO.blk a').1
  · exact (hup w' (a1, cap, r.2.2 ++ [x]) (by simpa [Lim.row] using hp)).pre k
/-- The store behind it. -/
theorem put_ep {b j : Nat} {now : Int} {ps : List Nat} {xs : List Int} {rs : List Lim} {w w' : World} {F : Nat → Prop} (r' : Lim) (hp : Post (EpO b (EObj now (ps.map ptrv) (rs.map Lim.v)) ps xs (rs.set j r')) F w w') (hb : w'.heap[b]? = some (EObj now (ps.map ptrv) (rs.map Lim.v))) (h17 : ps.length = 17) :
    Post (Ep b now ps xs (rs.set j r')) F w (w'.setCell ⟨b, 18 + j, none⟩ r'.v) := by
  refine hp.trans fun F' h' => ?_
  have e := setCell_setB (i := 18 + j) r'.v hb
  have e2 := ec_set_lim (now := now) (vs := ps.map ptrv) (ss := rs.map Lim.v) (j := j) r'.v
  rw [List.length_map, h17, ← List.map_set] at e2
  rw [e, e2]
  exact EpO.put h' _
theorem mod3 (n : Nat) : ((n : Int).tmod 3) = ((n % 3 : Nat) : Int) := rfl
set_option maxHeartbeats 2000000 in
theorem retire_a {b : Nat} {σ : Eps} {w : World} {F : Nat → Prop} (h : (EpA b σ).on w F) (hf : σ.Fit) (x : Re) (hb : ((σ.row (σ.now % 3)).length + 1) * 24 ≤ 140737488355328) : Calls Try.prog 52 #[.pointer (some ⟨b, 0, none⟩), ren x] w fun e w' => e = .returned (.int .i64 0) ∧ Post (EpA b (σ.retire x)) F w w' := by
  have HC := Lib.hid (fun W (k : KN w W) => none_a ((EpA b σ).kn h k) hf)
  have hj : σ.now % 3 < 3 := Nat.mod_lt _ (by decide)
  obtain ⟨ps, rs, r, h1, h2, hr, hrl, he, c0, cj, fr, hbw⟩ := EpA.lim h hf hj
  have HA := Lib.hid (fun W k s hs => app_ep he (by rw [h1, hf.xlen]) hr (n := (σ.row (σ.now % 3)).length) (by rw [hrl]) hb x W k s hs 55)
  have HN := Lib.hid (show r.v = .slice r.1 (σ.row (σ.now % 3)).length r.2.1 by rw [← hrl]; rfl)
  rw [HN.out] at cj
  have HR := Lib.hid (And.intro h1 (And.intro h2 (And.intro hrl (And.intro hf.llen hf.xlen))))
  have HS := Lib.hid (show σ.retire x = ⟨σ.now, σ.xs, σ.ls.set (σ.now % 3) (σ.row (σ.now % 3) ++ [x])⟩ from rfl)
  have hm : (σ.now : Int).tmod 3 = ((σ.now % 3 : Nat) : Int) := mod3 _
  have hz0 : (0 : Int) ≤ ((σ.now % 3 : Nat) : Int) := by omega
  have hz1 : ((σ.now % 3 : Nat) : Int) < 3 := by omega
  have HQ := Lib.hid (fun (W : World) (hb : W.heap[b]? = some (EObj σ.now (ps.map ptrv) (rs.map Lim.v))) => cell_blk hb (show (EC σ.now (ps.map ptrv) (rs.map Lim.v)).toArray[18 + σ.now % 3]? = some (.slice r.1 (σ.row (σ.now % 3)).length r.2.1) from by
    have := ec_lim (now := σ.now) (vs := ps.map ptrv) (ss := rs.map Lim.v) (j := σ.now % 3) (v := r.v) (by rw [List.getElem?_map, hr]; rfl)
    rw [List.length_map, h1, HN.out] at this
    exact this))
  have HLn := Lib.hid (show r.2.2.length = (σ.row (σ.now % 3)).length by rw [hrl])
  clear h hf he hr h1 h2 hrl
  generalize (σ.row (σ.now % 3)).length = n at *
  generalize hjj : σ.now % 3 = j at *
  generalize hnn : σ.now = N at *
  obtain ⟨k, ⟨sl, g⟩⟩ := x
  go_enter Try.func52, Try.ntmps52
  go_wp2_with fail
  refine (HC.out _ (by exact kn_alloc _ _)).mono ?_
  rintro e w' ⟨rfl, hw⟩
  subst hw
  go_wp2_with fail
  have K0 := Lib.hid (show KN w (w.alloc (.cells #[.int .i64 k, .int .i64 sl, .int .i64 g] 59)) from kn_alloc _ _)
  have B0 := Lib.hid (show (w.alloc (.cells #[.int .i64 k, .int .i64 sl, .int .i64 g] 59)).heap[w.heap.size]? = some (.cells #[.int .i64 k, .int .i64 sl, .int .i64 g] 59) from heap_alloc_same _ _)
  have L0 := Lib.hid (show b < (w.alloc (.cells #[.int .i64 k, .int .i64 sl, .int .i64 g] 59)).heap.size by simp; omega)
  have c0' := cell_kn c0 K0.out
  have cj' := cell_kn cj K0.out
  have fr' := fun i => frozen_kn hbw (fr i) K0.out
  obtain ⟨x0, x1, x2, xf⟩ := cells3 B0.out
  generalize w.heap.size = bx at *
  generalize w.alloc (.cells #[.int .i64 k, .int .i64 sl, .int .i64 g] 59) = w1 at *
  have L1 := L0.out
  have K1 := Lib.hid (show KN w (w1.alloc (.cells #[.int .i64 k, .int .i64 sl, .int .i64 g] 59)).drew from (K0.out.alloc _).drew)
  have B1 := Lib.hid (show (w1.alloc (.cells #[.int .i64 k, .int .i64 sl, .int .i64 g] 59)).drew.heap[w1.heap.size]? = some (.cells #[.int .i64 k, .int .i64 sl, .int .i64 g] 59) from heap_alloc_same _ _)
  have y0 := cell_kn c0 K1.out
  have yj := cell_kn cj K1.out
  have HA1 := Lib.hid (HA.out _ K1.out _ (rl_re B1.out (cap := 1)))
  clear HA K1 B1
  go_region_law ((refine step_appX (so := .tmp 22) (xo := .tmp 24) (t := 55) (v := .slice r.fst n r.snd.fst) (s := .slice (some ⟨w1.heap.size, 0, none⟩) 1 1) (by rfl) (by rfl) (by rfl) (by rfl) HA1.out ?_); rintro r' w2 ⟨a1, cap, rfl, hbl, hpo⟩; have HP := Lib.hid hpo; have HB := Lib.hid hbl; have z0 := cell_blk hbl ec_now; have z2 := HQ.out _ hbl; have z1 := fun i => free_blk (i := i) hbl; clear hbl hpo)
  all_goals
    go_wp2_with fail
    go_ret
    have hfin : Post (EpA b (σ.retire ⟨k, ⟨sl, g⟩⟩)) F w (w2.setCell ⟨b, 18 + j, none⟩ (.slice a1 (r.2.2 ++ [(⟨k, ⟨sl, g⟩⟩ : Re)]).length cap)) := by
      have hq := put_ep (a1, cap, r.2.2 ++ [(⟨k, ⟨sl, g⟩⟩ : Re)]) HP.out HB.out HR.out.1
      refine hq.imp (fun F' h' => ?_)
      rw [HS.out]
      exact ⟨ps, _, HR.out.1, by rw [List.map_set, HR.out.2.1, ← HR.out.2.2.1], h'⟩
    rw [List.length_append, HLn.out] at hfin
    exact ⟨rfl, hfin⟩
end Go.Proofs.Ytinejaganickpaa
