/- Heaps: what a law owns: an epoch, a heap over it, and more; begun. -/
import Derived.Test.YtinejaganickpaaHeapZ
import Derived.Test.YtinejaganickpaaHeapN
import Derived.Test.YtinejaganickpaaBaseH
import Derived.Test.YtinejaganickpaaBaseF
import Derived.Test.YtinejaganickpaaBaseG
namespace Go.Proofs.Ytinejaganickpaa
set_option linter.unusedVariables false
set_option linter.unusedSimpArgs false
open Go Go.RowKit Go.Sort

section
variable {P : Program} {f : FuncId} {args : Array Value} {b c d e : Nat} {σ σ' : Hps} {ε ε' : Eps} {w0 w w' : World} {F : Nat → Prop} {M : List Asr} {R : Ending → Prop} {Q : Ending → World → Prop}
theorem One.pw {l : List Asr} (h : One w0 w l) : Pw (fun _ => False) w0 w l := let ⟨F, a, b, c⟩ := h; ⟨F, a, c, fun y hy => .inr (b y hy)⟩
theorem Pw.oneW {l : List Asr} (h : Pw (fun _ => False) w0 w l) : One w0 w l := let ⟨F, a, c, s⟩ := h; ⟨F, a, fun y hy => (s y hy).elim False.elim id, c⟩
theorem One.heap (h : One w0 w (EpA e ε :: HpA b e σ :: M)) (hc : ∀ c d F1, Pw F1 w w (HpL b c d e σ) → Calls P f args w fun e' w'' => R e' ∧ Pw F1 w w'' (HpL b c d e σ')) : Calls P f args w fun e' w'' => R e' ∧ One w0 w'' (EpA e ε :: HpA b e σ' :: M) := by
  obtain ⟨F1, hon, _, hup⟩ := h.get 1 rfl
  obtain ⟨c, d, hp⟩ := hp_here hon
  exact (hc c d F1 hp).mono fun e' w'' ⟨he, hp'⟩ => ⟨he, hup hp'.hp⟩
theorem One.seen (h : One w0 w (EpA e ε :: HpA b e σ :: M)) (hc : ∀ c d F1, Pw F1 w w (HpL b c d e σ) → Calls P f args w Q) : Calls P f args w Q := by
  obtain ⟨F1, hon, _, _⟩ := h.get 1 rfl
  obtain ⟨c, d, hp⟩ := hp_here hon
  exact hc c d F1 hp
theorem One.still (h : One w0 w (EpA e ε :: HpA b e σ :: M)) (hc : ∀ c d F1, Pw F1 w w (HpL b c d e σ) → Calls P f args w fun e' w'' => R e' ∧ KN w w'') : Calls P f args w fun e' w'' => R e' ∧ One w0 w'' (EpA e ε :: HpA b e σ :: M) :=
  (h.seen hc).mono fun e' w'' ⟨he, hk⟩ => ⟨he, h.kn hk⟩
theorem One.both (h : One w0 w (EpA e ε :: HpA b e σ :: M)) (hc : ∀ c d F1, Pw F1 w w (EpA e ε :: HpL b c d e σ) → Calls P f args w fun e' w'' => R e' ∧ Pw F1 w w'' (EpA e ε' :: HpL b c d e σ')) : Calls P f args w fun e' w'' => R e' ∧ One w0 w'' (EpA e ε' :: HpA b e σ' :: M) := by
  have h1 := (One.all (l1 := [EpA e ε, HpA b e σ]) (l2 := M)).1 h
  obtain ⟨F1, ⟨G1, G2, g1, ⟨G3, G4, g3, g4, gd, gF⟩, hd, hF⟩, _, hup⟩ := h1.get 0 rfl
  obtain ⟨c, d, hp⟩ := g3
  have hs : (All (EpA e ε :: HpL b c d e σ)).on w F1 := by
    refine ⟨G1, G3, g1, hp, fun y hy hn => hd y hy ((gF y).2 (.inl hn)), fun y => (hF y).trans ⟨fun h => h.imp id (fun h => ((gF y).1 h).elim id (fun h => (g4 y h).elim)), fun h => h.imp id (fun h => (gF y).2 (.inl h))⟩⟩
  refine (hc c d F1 (Pw.start hs)).mono fun e' w'' ⟨he, hp'⟩ => ⟨he, ?_⟩
  have h2 : Post (All [EpA e ε', HpA b e σ']) F1 w w'' := Post.imp hp' fun F' ⟨H1, H2, a1, a2, ad, aF⟩ => ⟨H1, H2, a1, ⟨H2, fun _ => False, ⟨c, d, a2⟩, fun _ h => h, fun _ _ h => h, fun y => ⟨.inl, fun h => h.elim id False.elim⟩⟩, ad, aF⟩
  have h3 := hup h2
  exact (One.all (l1 := [EpA e ε', HpA b e σ']) (l2 := M)).2 h3
end
theorem retire_h {b c d e : Nat} {σ : Hps} {ε : Eps} {w w' : World} {F : Nat → Prop} {i : Nat} {s : Slot Cl} {xs : List (Hd × No)} (h : Pw F w w' (EpA e ε :: HpL b c d e σ)) (hf : ε.Fit) (hs : σ.L[i]? = some s) (hg : s.given = true) (hcl : s.has.closed = true) (hrt : s.has.retired = false) (hc : Ch σ.V s.has.newest xs) (hl : xs.length ≤ 1000000) (hrow : ∀ j, (ε.row j).length ≤ 90000000) :
    Calls Try.prog 18 #[.pointer (some ⟨b, 0, none⟩), .agg #[.int .i64 i, .int .i64 s.gen]] w' fun e' w'' => e' = .returned (.int .i64 0) ∧ Pw F w w'' (EpA e ((ε.retires (xs.map (·.1))).retire ⟨4, ⟨i, s.gen⟩⟩) :: HpL b c d e ⟨σ.L.set i ⟨⟨s.has.key, zH, s.has.closed, true⟩, s.gen, s.given⟩, σ.sl, σ.V, σ.sv, σ.rs⟩) :=
  callsIn_wide.1 (retire_in h hf hs hg hcl hrt hc hl hrow)
/-- What begun makes. -/
def keyA : ByteArray := ⟨#[97]⟩
def valX : ByteArray := ⟨#[120]⟩
def bg1 : Hps := (hp0 2 4).reserve 0 1 2
def bg2 : Hps := ⟨[⟨⟨keyA, ⟨0, 0⟩, false, false⟩, 1, true⟩, zC], 0, List.replicate 4 zN, 0, (List.replicate 17 ⟨false, 0, 0⟩).set 0 ⟨true, 0, 2⟩⟩
def bg3 : Hps := ⟨[⟨⟨keyA, ⟨0, 1⟩, false, false⟩, 1, true⟩, zC], 0, [⟨⟨⟨5, valX, false⟩, ⟨0, 0⟩⟩, 1, true⟩, zN, zN, zN], 0, (List.replicate 17 ⟨false, 0, 0⟩).set 0 ⟨true, 0, 1⟩⟩
def bg4 : Hps := ⟨[⟨⟨keyA, ⟨1, 1⟩, false, false⟩, 1, true⟩, zC], 0, [⟨⟨⟨5, valX, false⟩, ⟨0, 0⟩⟩, 1, true⟩, ⟨⟨⟨7, ⟨#[]⟩, true⟩, ⟨0, 1⟩⟩, 1, true⟩, zN, zN], 0, (List.replicate 17 ⟨false, 0, 0⟩).set 0 ⟨true, 0, 0⟩⟩
def bg5 : Hps := ⟨[⟨⟨keyA, ⟨1, 1⟩, true, false⟩, 1, true⟩, zC], 0, [⟨⟨⟨5, valX, false⟩, ⟨0, 0⟩⟩, 1, true⟩, ⟨⟨⟨7, ⟨#[]⟩, true⟩, ⟨0, 1⟩⟩, 1, true⟩, zN, zN], 0, (List.replicate 17 ⟨false, 0, 0⟩).set 0 ⟨true, 0, 0⟩⟩
abbrev bx1 : Hd × No := (⟨0, 1⟩, ⟨⟨5, valX, false⟩, ⟨0, 0⟩⟩)
abbrev bx2 : Hd × No := (⟨1, 1⟩, ⟨⟨7, ⟨#[]⟩, true⟩, ⟨0, 1⟩⟩)
theorem zH_ne {s g : Int} (h : g ≠ 0) : (⟨s, g⟩ : Hd) ≠ zH := fun e => h (by injection e)
theorem ch3 : Ch bg3.V ⟨0, 1⟩ [bx1] := ⟨rfl, zH_ne (by decide), ⟨0, rfl, rfl⟩, rfl⟩
theorem ch4 : Ch bg4.V ⟨1, 1⟩ [bx2, bx1] := ⟨rfl, zH_ne (by decide), ⟨1, rfl, rfl⟩, rfl, zH_ne (by decide), ⟨0, rfl, rfl⟩, rfl⟩
theorem keyA_ok : keyOk keyA = 0 := by decide
theorem pr4 : pruneS 7 [⟨7, ⟨#[]⟩, true⟩, ⟨5, valX, false⟩] = ([], [⟨7, ⟨#[]⟩, true⟩, ⟨5, valX, false⟩], true) := by rfl
def bg6 : Hps := ⟨[⟨⟨keyA, ⟨0, 0⟩, true, true⟩, 1, true⟩, zC], 0, [⟨⟨⟨5, valX, false⟩, ⟨0, 0⟩⟩, 1, true⟩, ⟨⟨⟨7, ⟨#[]⟩, true⟩, ⟨0, 1⟩⟩, 1, true⟩, zN, zN], 0, (List.replicate 17 ⟨false, 0, 0⟩).set 0 ⟨true, 0, 0⟩⟩
def bgE : Eps := (ep0.retires [⟨1, 1⟩, ⟨0, 1⟩]).retire ⟨4, ⟨0, 1⟩⟩
theorem bgE_fit : bgE.Fit := fit_retire (fit_retires _ fit0) _
theorem bgE_len : bgE.limbo.length = 3 := by decide
theorem bg_may : (hp0 2 4).mayReserve 0 1 2 = 0 := by decide
theorem bg_is : (hp0 2 4).reserve 0 1 2 = bg1 := rfl
theorem ep0_row (j : Nat) : (ep0.row j).length ≤ 90000000 := by
  unfold ep0 Eps.row
  match j with
  | 0 => decide
  | 1 => decide
  | 2 => decide
  | j + 3 => simp
set_option maxRecDepth 100000 in
set_option maxHeartbeats 4000000 in
theorem begun_true (w : World) : Calls Try.prog 9 #[] w fun e w' => e = .returned (.bool true) ∧ KN w w' := by
  go_enter Try.func9, Try.ntmps9
  go_wp2_with fail
  refine (new_a w).mono ?_
  rintro e w1 ⟨eb, rfl, hp⟩
  have HO := Lib.hid ((One.nil w).add hp)
  clear hp
  go_wp2_with fail
  refine (show Calls Try.prog 8 #[.int .i64 2, .int .i64 4, .pointer (some ⟨eb, 0, none⟩)] w1 (GaveHp 2 4 eb w1) from HO.out.rd 0 rfl (fun F h => new_h h fit0 2 4 (by decide) (by decide))).mono ?_
  rintro e w2 ⟨b, rfl, hp⟩
  have HO2 := Lib.hid (((HO.out).add hp).perm (List.Perm.swap _ _ _))
  clear hp HO
  go_wp2_with fail
  have HC := Lib.hid (HO2.out.lift 1 rfl (fun F h => reserve_h h rfl ⟨by decide, by decide⟩ (by decide) 0 1 2))
  rw [bg_may, bg_is] at HC
  refine HC.out.mono ?_
  rintro e w3 ⟨rfl, ho⟩
  have HO3 := Lib.hid (show One w w3 [EpA eb ep0, HpA b eb bg1] from ho)
  clear ho HC HO2
  go_wp2_with fail
  have HC := Lib.hid (show Calls Try.prog 12 #[.pointer (some ⟨b, 0, none⟩), .int .i64 0, .string ⟨#[97]⟩] w3 (fun e' w' => e' = .returned (.tuple #[.agg #[.int .i64 0, .int .i64 1], .int .i64 0]) ∧ One w w' [EpA eb ep0, HpA b eb bg2]) from
    HO3.out.lift 1 rfl (fun F h => cell_ok_h (i := 0) (j := 0) (r := ⟨true, 1, 2⟩) (fr := [1]) (s := zC) (key := keyA) h rfl (by decide) rfl rfl keyA_ok (by decide) (by decide) rfl rfl (by decide) (by decide)))
  refine HC.out.mono ?_
  rintro e w4 ⟨rfl, ho⟩
  have HO4 := Lib.hid (One.alloc ho (.cells #[.int .i64 0, .int .i64 1] 36))
  clear ho HC HO3
  go_upto_region 6 with fail
  generalize w4.alloc (.cells #[.int .i64 0, .int .i64 1] 36) = w5 at *
  generalize w4.heap.size = g4 at *
  obtain ⟨c0, c1, _, _⟩ := cells2 (HO4.out.blk 0 rfl).1
  go_wp2_with fail
  have HC := Lib.hid (show Calls Try.prog 13 #[.pointer (some ⟨b, 0, none⟩), .int .i64 0, .agg #[.int .i64 0, .int .i64 1], vev ⟨5, valX, false⟩] w5 (fun e' w' => e' = .returned (.int .i64 0) ∧ One w w' (EpA eb ep0 :: HpA b eb bg3 :: [Blk g4 (.cells #[.int .i64 0, .int .i64 1] 36)])) from
    One.heap (HO4.out.perm ((List.Perm.swap _ _ _).trans (.cons _ (.swap _ _ _)))) (fun c d F1 h => install_ok (i := 0) (k := 0) (r := ⟨true, 0, 2⟩) (s := ⟨⟨keyA, ⟨0, 0⟩, false, false⟩, 1, true⟩) (xs := []) (y := ⟨5, valX, false⟩) (j := 0) (fr := [1, 2, 3]) (t := zN) h rfl (by decide) rfl rfl rfl rfl rfl rfl (by decide) (by decide) (by decide) (by decide) rfl rfl (by decide) (by decide)))
  refine HC.out.mono ?_
  rintro e w6 ⟨rfl, ho⟩
  have HO6 := Lib.hid ho
  clear ho HC HO4 c0 c1
  obtain ⟨c0, c1, _, _⟩ := cells2 (HO6.out.blk 2 rfl).1
  go_wp2_with fail
  have HC := Lib.hid (show Calls Try.prog 13 #[.pointer (some ⟨b, 0, none⟩), .int .i64 0, .agg #[.int .i64 0, .int .i64 1], vev ⟨7, ⟨#[]⟩, true⟩] w6 (fun e' w' => e' = .returned (.int .i64 0) ∧ One w w' (EpA eb ep0 :: HpA b eb bg4 :: [Blk g4 (.cells #[.int .i64 0, .int .i64 1] 36)])) from
    One.heap HO6.out (fun c d F1 h => install_ok (i := 0) (k := 0) (r := ⟨true, 0, 1⟩) (s := ⟨⟨keyA, ⟨0, 1⟩, false, false⟩, 1, true⟩) (xs := [bx1]) (y := ⟨7, ⟨#[]⟩, true⟩) (j := 1) (fr := [2, 3]) (t := zN) h rfl (by decide) rfl rfl rfl rfl rfl ch3 (by decide) (by decide) (by decide) (by decide) rfl rfl (by decide) (by decide)))
  refine HC.out.mono ?_
  rintro e w7 ⟨rfl, ho⟩
  have HO7 := Lib.hid ho
  clear ho HC HO6 c0 c1
  obtain ⟨c0, c1, _, _⟩ := cells2 (HO7.out.blk 2 rfl).1
  go_upto_region 8 with fail
  go_wp2_with fail
  have HC := Lib.hid (show Calls Try.prog 15 #[.pointer (some ⟨b, 0, none⟩), .agg #[.int .i64 0, .int .i64 1], .int .i64 6] w7 (fun e' w' => e' = .returned (.tuple #[vev ⟨5, valX, false⟩, .bool true, .int .i64 0]) ∧ One w w' (EpA eb ep0 :: HpA b eb bg4 :: [Blk g4 (.cells #[.int .i64 0, .int .i64 1] 36)])) from
    One.still HO7.out (fun c d F1 h => read_good_h (i := 0) (s := ⟨⟨keyA, ⟨1, 1⟩, false, false⟩, 1, true⟩) (xs := [bx2, bx1]) 6 h rfl rfl ch4 (by decide)))
  refine HC.out.mono ?_
  rintro e w8 ⟨rfl, ho⟩
  have HO8 := Lib.hid ((One.alloc ho (.cells #[.int .i64 5, .string valX, .bool false] 34)).perm ((List.Perm.swap _ _ _).trans (.cons _ (.swap _ _ _))))
  clear ho HC HO7 c0 c1
  go_upto_region 9 with fail
  generalize w8.alloc (.cells #[.int .i64 5, .string valX, .bool false] 34) = w9 at *
  generalize w8.heap.size = g8 at *
  obtain ⟨c0, c1, _, _⟩ := cells2 (HO8.out.blk 3 rfl).1
  obtain ⟨d0, d1, d2, _⟩ := cells3 (HO8.out.blk 2 rfl).1
  go_wp2_with fail
  have HC := Lib.hid (show Calls Try.prog 14 #[.pointer (some ⟨b, 0, none⟩), .agg #[.int .i64 0, .int .i64 1], .int .i64 7] w9 (fun e' w' => e' = .returned (.tuple #[.int .i64 0, .bool true, .int .i64 0]) ∧ One w w' (EpA eb ep0 :: HpA b eb bg5 :: [Blk g8 (.cells #[.int .i64 5, .string valX, .bool false] 34), Blk g4 (.cells #[.int .i64 0, .int .i64 1] 36)])) from
    One.heap HO8.out (fun c d F1 h => prune_close_h (i := 0) (s := ⟨⟨keyA, ⟨1, 1⟩, false, false⟩, 1, true⟩) (xs := [bx2, bx1]) 7 h rfl rfl ch4 (by decide) rfl (zH_ne (by decide)) rfl))
  refine HC.out.mono ?_
  rintro e w10 ⟨rfl, ho⟩
  have HO10 := Lib.hid ho
  clear ho HC HO8 c0 c1 d0 d1 d2
  obtain ⟨c0, c1, _, _⟩ := cells2 (HO10.out.blk 3 rfl).1
  obtain ⟨d0, d1, d2, _⟩ := cells3 (HO10.out.blk 2 rfl).1
  have HC := Lib.hid (show Calls Try.prog 18 #[.pointer (some ⟨b, 0, none⟩), .agg #[.int .i64 0, .int .i64 1]] w10 (fun e' w' => e' = .returned (.int .i64 0) ∧ One w w' (EpA eb bgE :: HpA b eb bg6 :: [Blk g8 (.cells #[.int .i64 5, .string valX, .bool false] 34), Blk g4 (.cells #[.int .i64 0, .int .i64 1] 36)])) from
    One.both HO10.out (fun c d F1 h => retire_h (i := 0) (s := ⟨⟨keyA, ⟨1, 1⟩, true, false⟩, 1, true⟩) (xs := [bx2, bx1]) h fit0 rfl rfl rfl rfl ch4 (by decide) ep0_row))
  have hx : valX = ⟨#[120]⟩ := rfl
  unfold valX at d1
  clear hx
  go_wp2_with (first | (go_at_call 18; refine HC.out.mono ?_; rintro e w11 ⟨rfl, ho⟩; have HO11 := Lib.hid ho; have HW := Lib.hid (ho.rd 0 rfl (fun F h => waiting_a h bgE_fit (by rw [bgE_len]; decide))); rw [bgE_len] at HW) | (go_at_call 24; refine HW.out.mono ?_; rintro e w12 ⟨rfl, k12⟩))
  go_ret
  exact ⟨rfl, (HO11.out.kn k12).old⟩
end Go.Proofs.Ytinejaganickpaa
