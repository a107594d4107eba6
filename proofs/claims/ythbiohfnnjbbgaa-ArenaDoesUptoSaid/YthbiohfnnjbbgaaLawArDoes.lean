/- ArenaDoes: its walk. -/
import Derived.Test.YthbiohfnnjbbgaaEqualA
import Derived.Test.YthbiohfnnjbbgaaQuietP
import Derived.Test.YthbiohfnnjbbgaaTypesAr
namespace Go.Proofs.Ythbiohfnnjbbgaa
set_option linter.unusedVariables false
set_option linter.unusedSimpArgs false
open Go Go.RowKit Go.Sort

theorem step_all {n k p t r c : Nat} {a : Option Addr} {hs : List (Int × Int)} {L R : Rs} {st : Int} {w0 w : World} {d us os og : Int} {tx : ByteArray} (H : One w0 w (DzL p t r a c hs L R st)) (D : Dz n k hs L R st) (hk : k ≤ 2000000) (hn : n ≤ 65536) (hn1 : 1 ≤ n) :
    Calls Try.prog 21 #[.pointer (some ⟨p, 0, none⟩), .agg #[.int .i64 d, .int .i64 us, .string tx, .int .i64 os, .int .i64 og]] w (StepPost n k p r w0) := by
  by_cases h0 : d = 0
  · subst h0; exact step_put H D hk hn
  by_cases h2 : d = 2
  · subst h2; exact step_set H D hk hn
  by_cases h3 : d = 3
  · subst h3; exact step_free H D hk hn
  by_cases h4 : d = 4
  · subst h4; exact step_clone H D hk hn hn1
  exact step_get H D hk h0 h2 h3 h4
set_option maxRecDepth 100000 in
set_option maxHeartbeats 8000000 in
theorem ardoes_walk (slots : Int) (a : Option Addr) (cap : Nat) (l : List Op4) (stop : Int) (w : World) (hl : l.length ≤ 1048576) (hr : Rd Op4.enc 5 w a l) :
    Calls Try.prog 5 #[.int .i64 slots, .slice a l.length cap, .int .i64 stop] w fun e w' => e = .returned (.bool true) ∧ KN w w' := by
  by_cases hb : slots < 1 ∨ 65536 < slots
  · have hbad := Lib.hid (new_bad_S slots hb w)
    have hbadr := Lib.hid (new_bad_r slots hb)
    clear hb hr
    go_enter Try.func5, Try.ntmps5
    go_wp2_with fail
    refine hbad.out.mono ?_
    rintro e w1 ⟨rfl, rfl⟩
    go_wp2_with fail
    refine (hbadr.out _).mono ?_
    rintro e w1 ⟨rfl, rfl⟩
    go_wp2_with fail
    refine (begun_true _).mono ?_
    rintro e w2 ⟨rfl, hk⟩
    have HK := Lib.hid hk
    clear hk
    go_wp2_with fail
    go_ret
    exact ⟨rfl, HK.out⟩
  · obtain ⟨n, rfl, hn1, hn2⟩ : ∃ n : Nat, slots = n ∧ 1 ≤ n ∧ n ≤ 65536 := ⟨slots.toNat, by omega, by omega, by omega⟩
    have HR := Lib.hid hr
    clear hb hr
    go_enter Try.func5, Try.ntmps5
    go_wp2_with fail
    refine (new_S n hn1 hn2 _).mono ?_
    rintro e w1 ⟨t, rfl, hp1⟩
    have HO := Lib.hid ((One.nil w).add hp1)
    clear hp1
    go_wp2_with fail
    refine (new_r n hn1 hn2 _).mono ?_
    rintro e w2 ⟨r, rfl, hp2⟩
    have HO2 := Lib.hid ((HO.out.add hp2).perm (List.Perm.swap _ _ _))
    clear hp2 HO
    go_wp2_with fail
    refine (begun_true _).mono ?_
    rintro e w3 ⟨rfl, hk⟩
    have HO3 := Lib.hid (((HO2.out.kn hk).nilRow 30 2).alloc (prO t r (.slice none 0 0)))
    have HD := Lib.hid (show Dz n 0 [] (List.replicate n zS) (List.replicate n zS) 0 from ⟨Same4.refl _, by simp, fun s hs => by rw [List.eq_of_mem_replicate hs]; exact ⟨Int.le_refl _, by simp [zS]⟩, ⟨Int.le_refl _, by simp⟩, Nat.le_refl _⟩)
    clear HO2 hk
    go_upto_region 8 with fail
    generalize w3.alloc (prO t r (.slice none 0 0)) = W at *
    generalize w3.heap.size = p at *
    go_wp2_with fail
    go_loopw [46] (fun i wr => ∃ (k t c : Nat) (a2 : Option Addr) (hs : List (Int × Int)) (L R : Rs) (st : Int), k ≤ l.length ∧ i = .int .i64 k ∧ Hid (Dz n k hs L R st) ∧ Hid (One w wr (DzL p t r a2 c hs L R st))) (fun i _ => l.length - (intOf i).toNat)
    case atStart => exact ⟨0, t, 0, none, [], _, _, 0, Nat.zero_le _, rfl, HD, HO3⟩
    case round =>
      clear HO3 HD
      obtain ⟨k, t2, c, a2, hs, L, R, st, hk, rfl, HD, HO⟩ := hrel
      by_cases hlt : k < l.length
      · obtain ⟨o, hx⟩ : ∃ o, l[k]? = some o := ⟨_, List.getElem?_eq_getElem hlt⟩
        obtain ⟨b, off, rfl, hb, h0, h1, h2, h3, h4⟩ := rd_op4 (HR.out.kn HO.out.old) hx
        clear hx
        go_upto_region 11 with (fail)
        have HO1 := Lib.hid (HO.out.alloc (.cells #[.int .i64 o.do_, .int .i64 o.use, .string o.text, .int .i64 o.odd.slot, .int .i64 o.odd.gen] 42))
        clear h0 h1 h2 h3 h4 HO
        generalize wr.alloc (.cells #[.int .i64 o.do_, .int .i64 o.use, .string o.text, .int .i64 o.odd.slot, .int .i64 o.odd.gen] 42) = W1 at *
        generalize wr.heap.size = g at *
        obtain ⟨c0, c1, c2, c3, c4⟩ := cells5x (HO1.out.blk 0 rfl).1
        have m0 := fun d os => cell_regrown (d := d) (os := os) c0
        have m1 := fun d os => cell_regrown (d := d) (os := os) c1
        have m2 := fun d os => cell_regrown (d := d) (os := os) c2
        have m3 := fun d os => cell_regrown (d := d) (os := os) c3
        have m4 := fun d os => cell_regrown (d := d) (os := os) c4
        clear c0 c1 c2 c3 c4
        refine wp_region_ph [2] (by kernel_rfl) (by kernel_rfl) ?_
        refine ph_first ?_
        simp only [List.drop_zero, List.take_succ_cons, List.take_zero, List.drop_succ_cons, Nat.sub_zero, Nat.reduceSub, Nat.reduceAdd]
        repeat (go_big_quiet_step (fail))
        refine wpQuiet_nil ?_
        intro _ hw'
        obtain ⟨⟨dq, osq⟩, hw''⟩ := hw'
        subst hw''
        have HO2 := Lib.hid ((HO1.out.kn (kn_regrown W1 dq osq)).drop)
        clear HO1 m0 m1 m2 m3 m4
        generalize grow (redrawn W1 dq) osq = W2 at *
        go_wp2_with fail
        refine (step_all HO2.out HD.out (by omega) hn2 hn1).mono ?_
        rintro e w5 ⟨rfl, t3, a3, c3, hs3, L3, R3, st3, D3, ho⟩
        have HO5 := Lib.hid ho
        have HD5 := Lib.hid D3
        have hm3 : L3.length ≤ 65536 := by have := D3.len; omega
        obtain ⟨F1, ha, _⟩ := ho.get 2 rfl
        obtain ⟨F2, hrr, _⟩ := ho.get 3 rfl
        obtain ⟨b0, b1, b2, _⟩ := cells3 (ho.blk 0 rfl).1
        have x3 := fun d os => quiet_kn (d := d) (os := os) (live_S ((ArS t3 L3 st3).kn ha (kn_regrown w5 d os)) hm3)
        have x4 := fun d os => quiet_same (d := d) (os := os) (live_r ((RfA r R3 st3).kn hrr (kn_regrown w5 d os)) (by rw [← D3.same.len]; exact hm3))
        have x5 := fun d os => quiet_same (d := d) (os := os) (stale_S ((ArS t3 L3 st3).kn ha (kn_regrown w5 d os)))
        have x6 := fun d os => quiet_same (d := d) (os := os) (stale_r ((RfA r R3 st3).kn hrr (kn_regrown w5 d os)))
        rw [← D3.same.len, ← D3.same.free] at x4
        have X3 := Lib.hid x3
        have X4 := Lib.hid x4
        have X5 := Lib.hid x5
        have X6 := Lib.hid x6
        have m0 := fun d os => cell_regrown (d := d) (os := os) b0
        have m1 := fun d os => cell_regrown (d := d) (os := os) b1
        clear x3 x4 x5 x6 ho D3 ha hrr b0 b1 b2 HO2 HD
        go_wp2_with fail
        refine ph_nil ?_
        simp only [List.drop_zero, List.drop_succ_cons]
        repeat (go_big_quiet_step (first | (go_at_call 18; with_reducible exact X3.out _ _) | (go_at_call 22; with_reducible exact X4.out _ _) | (go_at_call 19; with_reducible exact X5.out _ _) | (go_at_call 23; with_reducible exact X6.out _ _)))
        refine wpQuiet_nil ?_
        intro _ hw'
        obtain ⟨⟨dq, osq⟩, hw''⟩ := hw'
        subst hw''
        have HO6 := Lib.hid (HO5.out.kn (kn_regrown w5 dq osq))
        go_wp2_with fail
        go_roundw
        case rel => exact ⟨k + 1, t3, c3, a3, hs3, L3, R3, st3, by omega, by go_num, HD5, HO6⟩
        case measure => simp [intOf]; omega
      · go_wp2_with fail
        refine (equal_p HO.out HD.out hn2 stop).mono ?_
        rintro e w5 ⟨rfl, hk5⟩
        have HO5 := Lib.hid (HO.out.kn hk5)
        clear hk5
        go_wp2
        go_ret
        exact ⟨rfl, HO5.out.old⟩
end Go.Proofs.Ythbiohfnnjbbgaa
