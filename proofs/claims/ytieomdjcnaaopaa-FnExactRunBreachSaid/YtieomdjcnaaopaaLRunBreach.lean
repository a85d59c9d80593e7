/- The law on RunBreach, walked out of the contracts of what it calls. -/
import Derived.Test.YtieomdjcnaaopaaRn
import Derived.Deep.RegionHeld3
import Derived.Deep.DeepCutAuto
namespace Go.Proofs.Ytieomdjcnaaopaa
open Go.RowKit
set_option linter.unusedVariables false

set_option maxRecDepth 100000 in
set_option maxHeartbeats 2000000 in
theorem FnExactRunBreach_calls (aaCL : Option Addr) (naCL caCL : Nat) (xaCL : List Int) (aaCV : Option Addr) (naCV caCV : Nat) (xaCV : List Int) (aB0 : Int) (aB1 : Int) (aB2 : Int) (aaOutside : Option Addr) (naOutside caOutside : Nat) (xaOutside : List (Int)) (aaStones : Option Addr) (naStones caStones : Nat) (xaStones : List (Int)) (w : World)
    (raCL : RdI w aaCL naCL xaCL) (_laCL : naCL ≤ caCL) (_maCL : caCL ≤ maxLen) (_oaCL : ∀ z ∈ xaCL, OkInt64 z) (raCV : RdI w aaCV naCV xaCV) (_laCV : naCV ≤ caCV) (_maCV : caCV ≤ maxLen) (_oaCV : ∀ z ∈ xaCV, OkInt64 z) (_waB0 : (Lit.int .i64 aB0).wf = true) (_waB1 : (Lit.int .i64 aB1).wf = true) (_waB2 : (Lit.int .i64 aB2).wf = true) (raOutside : RdInt64 w aaOutside naOutside xaOutside) (_laOutside : naOutside ≤ caOutside) (_maOutside : caOutside ≤ maxLen) (_oaOutside : ∀ z ∈ xaOutside, OkInt64 z) (raStones : RdInt64 w aaStones naStones xaStones) (_laStones : naStones ≤ caStones) (_maStones : caStones ≤ maxLen) (_oaStones : ∀ z ∈ xaStones, OkInt64 z) :
    Calls Try.prog 15 #[.agg #[.slice aaCL naCL caCL, .slice aaCV naCV caCV], .agg #[.int .i64 aB0, .int .i64 aB1, .int .i64 aB2], .slice aaOutside naOutside caOutside, .slice aaStones naStones caStones] w fun e w' => e = .returned (.bool true) ∧ Below w.heap.size w w' := by
  by_cases haOutside : naOutside ≤ 1048576
  case neg =>
    have haOutside' : (1048576 : Int) < naOutside := by omega
    have _zaOutside := _maOutside
    unfold maxLen at _zaOutside
    go_enter Try.func15, Try.ntmps15
    go_wp2
    go_ret
    exact ⟨rfl, (((Below.refl _ _).alloc (Nat.le_refl _) _).alloc (by simp) _)⟩
  by_cases haStones : naStones ≤ 1048576
  case neg =>
    have haStones' : (1048576 : Int) < naStones := by omega
    have _zaStones := _maStones
    unfold maxLen at _zaStones
    go_enter Try.func15, Try.ntmps15
    go_wp2
    go_ret
    exact ⟨rfl, (((Below.refl _ _).alloc (Nat.le_refl _) _).alloc (by simp) _)⟩
  go_enter Try.func15, Try.ntmps15
  go_wp2_with fail
  have _zaCL := _maCL
  unfold maxLen at _zaCL
  have _zaCV := _maCV
  unfold maxLen at _zaCV
  refine (szCurve_calls _ _ _ _ _ _ _ _ (by omega) (by omega) (by omega) (by omega)).mono ?_
  rintro e w1 ⟨l1, rfl, hs1, b1⟩
  have c1 := b1
  have d1 := bbox2 b1
  have s1 := b1.size
  clear b1
  obtain ⟨k1, f1⟩ := bcell c1
  rcases hs1 with ⟨hs1, rfl⟩ | ⟨hs1, rfl⟩
  case inl =>
    go_wp2_with fail
    go_ret
    exact ⟨rfl, d1⟩
  have haCL : naCL ≤ 1048576 := by omega
  have haCV : naCV ≤ 1048576 := by omega
  clear _zaCL _zaCV
  go_upto_region 9 with fail
  have gb_aC := blk_below (blk_alloc (heap_alloc_new w (.cells #[.slice aaCL naCL caCL, .slice aaCV naCV caCV] 24)) (.cells #[.int .i64 aB0, .int .i64 aB1, .int .i64 aB2] 26)) c1 (by simp <;> omega)
  have lb_aC := blk_lt gb_aC
  have kb_aC0 : w1.cell? ⟨w.heap.size, 0, none⟩ = some (.slice aaCL naCL caCL) := blk_cell gb_aC 0
  have kb_aC1 : w1.cell? ⟨w.heap.size, 1, none⟩ = some (.slice aaCV naCV caCV) := blk_cell gb_aC 1
  have GB_aC := hd gb_aC
  clear gb_aC
  have gb_aB := blk_below (two_blk' w (.cells #[.slice aaCL naCL caCL, .slice aaCV naCV caCV] 24) (.cells #[.int .i64 aB0, .int .i64 aB1, .int .i64 aB2] 26)).2.1 c1 (by simp <;> omega)
  have lb_aB := blk_lt gb_aB
  have kb_aB0 : w1.cell? ⟨w.heap.size + 1, 0, none⟩ = some (.int .i64 aB0) := blk_cell gb_aB 0
  have kb_aB1 : w1.cell? ⟨w.heap.size + 1, 1, none⟩ = some (.int .i64 aB1) := blk_cell gb_aB 1
  have kb_aB2 : w1.cell? ⟨w.heap.size + 1, 2, none⟩ = some (.int .i64 aB2) := blk_cell gb_aB 2
  have GB_aB := hd gb_aB
  clear gb_aB
  go_region_held3 (fun w' => w'.cell? ⟨w.heap.size, 0, none⟩ = some (.slice aaCL naCL caCL) ∧ w'.cell? ⟨w.heap.size, 1, none⟩ = some (.slice aaCV naCV caCV) ∧ w'.cell? ⟨w.heap.size + 1, 0, none⟩ = some (.int .i64 aB0) ∧ w'.cell? ⟨w.heap.size + 1, 1, none⟩ = some (.int .i64 aB1) ∧ w'.cell? ⟨w.heap.size + 1, 2, none⟩ = some (.int .i64 aB2))
      (first | with_reducible exact ⟨x5_0, x5_1, x5_2, x5_3, x5_4⟩ | with_reducible exact ⟨x4_0, x4_1, x4_2, x4_3, x4_4⟩ | with_reducible exact ⟨x3_0, x3_1, x3_2, x3_3, x3_4⟩ | with_reducible exact ⟨x2_0, x2_1, x2_2, x2_3, x2_4⟩ | with_reducible exact ⟨x1_0, x1_1, x1_2, x1_3, x1_4⟩ | go_keep)
      (first
        | (go_at_call 18; with_reducible refine (toCurve_calls _ _ _ _ _ _ _ _ _ ((raCL.below d1).below (by go_grown)) haCL ((raCV.below d1).below (by go_grown)) haCV).mono ?_; rintro e v1 ⟨A2aCL, A2aCV, U2_0, rfl, o2aCL, o2aCV, -, b1⟩; have q1 : Below w1.heap.size w1 v1 := Below.trans (by go_grown) (b1.mono (by simp)); have x1_0 := (q1.cell (p := ⟨w.heap.size, 0, none⟩) lb_aC).trans kb_aC0; have x1_1 := (q1.cell (p := ⟨w.heap.size, 1, none⟩) lb_aC).trans kb_aC1; have x1_2 := (q1.cell (p := ⟨w.heap.size + 1, 0, none⟩) lb_aB).trans kb_aB0; have x1_3 := (q1.cell (p := ⟨w.heap.size + 1, 1, none⟩) lb_aB).trans kb_aB1; have x1_4 := (q1.cell (p := ⟨w.heap.size + 1, 2, none⟩) lb_aB).trans kb_aB2)
        | (go_at_call 19; with_reducible refine (toBreach_calls _ _ _ _).mono ?_; rintro e v2 ⟨rfl, b2⟩; have q2 : Below w1.heap.size w1 v2 := Below.trans q1 (Below.trans (Below.mono (B := v1.heap.size) (by go_grown) q1.size) (b2.mono (by have := q1.size; simp; try omega))); have x2_0 := (q2.cell (p := ⟨w.heap.size, 0, none⟩) lb_aC).trans kb_aC0; have x2_1 := (q2.cell (p := ⟨w.heap.size, 1, none⟩) lb_aC).trans kb_aC1; have x2_2 := (q2.cell (p := ⟨w.heap.size + 1, 0, none⟩) lb_aB).trans kb_aB0; have x2_3 := (q2.cell (p := ⟨w.heap.size + 1, 1, none⟩) lb_aB).trans kb_aB1; have x2_4 := (q2.cell (p := ⟨w.heap.size + 1, 2, none⟩) lb_aB).trans kb_aB2)
        | (go_at_call 26; with_reducible refine (toInt64S_calls _ _ _ xaOutside _ ((raOutside.below d1).below q2) haOutside).mono ?_; rintro e v3 ⟨A2aOutside, rfl, o2aOutside, b3⟩; have q3 : Below w1.heap.size w1 v3 := Below.trans q2 (Below.trans (Below.mono (B := v2.heap.size) (by go_grown) q2.size) (b3.mono (by have := q2.size; simp; try omega))); have x3_0 := (q3.cell (p := ⟨w.heap.size, 0, none⟩) lb_aC).trans kb_aC0; have x3_1 := (q3.cell (p := ⟨w.heap.size, 1, none⟩) lb_aC).trans kb_aC1; have x3_2 := (q3.cell (p := ⟨w.heap.size + 1, 0, none⟩) lb_aB).trans kb_aB0; have x3_3 := (q3.cell (p := ⟨w.heap.size + 1, 1, none⟩) lb_aB).trans kb_aB1; have x3_4 := (q3.cell (p := ⟨w.heap.size + 1, 2, none⟩) lb_aB).trans kb_aB2)
        | (go_at_call 26; with_reducible refine (toInt64S_calls _ _ _ xaStones _ ((raStones.below d1).below q3) haStones).mono ?_; rintro e v4 ⟨A2aStones, rfl, o2aStones, b4⟩; have q4 : Below w1.heap.size w1 v4 := Below.trans q3 (Below.trans (Below.mono (B := v3.heap.size) (by go_grown) q3.size) (b4.mono (by have := q3.size; simp; try omega))); have x4_0 := (q4.cell (p := ⟨w.heap.size, 0, none⟩) lb_aC).trans kb_aC0; have x4_1 := (q4.cell (p := ⟨w.heap.size, 1, none⟩) lb_aC).trans kb_aC1; have x4_2 := (q4.cell (p := ⟨w.heap.size + 1, 0, none⟩) lb_aB).trans kb_aB0; have x4_3 := (q4.cell (p := ⟨w.heap.size + 1, 1, none⟩) lb_aB).trans kb_aB1; have x4_4 := (q4.cell (p := ⟨w.heap.size + 1, 2, none⟩) lb_aB).trans kb_aB2)
        | (go_at_call 61; with_reducible refine (specRunBreach_calls _ _ _ _ _ _ _ _ _ _ _ _ _ _ _ _ _ _ _ _ ((((o2aCL.rd len_cInt64).below b2).below b3).below b4) haCL ((((o2aCV.rd len_cInt64).below b2).below b3).below b4) haCV ((o2aOutside.rd len_cInt64).below b4) haOutside (o2aStones.rd len_cInt64) haStones).mono ?_; rintro e v5 ⟨A3w0, n3w0, q3w0, rfl, o3w0, h3w0, b5⟩; have q5 : Below w1.heap.size w1 v5 := Below.trans q4 (Below.trans (Below.mono (B := v4.heap.size) (by go_grown) q4.size) (b5.mono (by have := q4.size; simp; try omega))); have x5_0 := (q5.cell (p := ⟨w.heap.size, 0, none⟩) lb_aC).trans kb_aC0; have x5_1 := (q5.cell (p := ⟨w.heap.size, 1, none⟩) lb_aC).trans kb_aC1; have x5_2 := (q5.cell (p := ⟨w.heap.size + 1, 0, none⟩) lb_aB).trans kb_aB0; have x5_3 := (q5.cell (p := ⟨w.heap.size + 1, 1, none⟩) lb_aB).trans kb_aB1; have x5_4 := (q5.cell (p := ⟨w.heap.size + 1, 2, none⟩) lb_aB).trans kb_aB2))
  have b4r := q5
  replace o3w0 := o3w0.mono (L' := w1.heap.size) q4.size (Nat.le_refl _)
  clear q1 q2 q3 q4 q5 x1_0 x1_1 x1_2 x1_3 x1_4 x2_0 x2_1 x2_2 x2_3 x2_4 x3_0 x3_1 x3_2 x3_3 x3_4 x4_0 x4_1 x4_2 x4_3 x4_4 x5_0 x5_1 x5_2 x5_3 x5_4
  clear kb_aC0 kb_aC1 kb_aB0 kb_aB1 kb_aB2
  clear GB_aC lb_aC
  clear GB_aB lb_aB
  clear o2aCL
  clear o2aCV
  clear o2aOutside
  clear o2aStones
  clear b1 b2 b3 b4 b5
  obtain ⟨w2, hW⟩ : ∃ W, W = v5 := ⟨_, rfl⟩
  subst hW
  have c2 := bnext c1 b4r (Nat.le_refl _)
  have d2 := bbox2 c2
  have s2 := b4r.size
  clear d1
  clear c1
  clear b4r
  obtain ⟨k2, f2⟩ := bcell c2
  clear k1 f1
  go_wp2_with fail
  refine (toCurve_calls _ _ _ _ _ _ _ _ _ (raCL.below d2) haCL (raCV.below d2) haCV).mono ?_
  rintro e w3 ⟨A5aCL, A5aCV, U5_0, rfl, o5aCL, o5aCV, ⟨u5_0, u5_1⟩, b5⟩
  have c3 := bnext c2 b5 (Nat.le_refl _)
  have d3 := bbox2 c3
  have s3 := b5.size
  replace o3w0 := o3w0.below b5
  clear d2
  clear c2
  clear b5
  obtain ⟨k3, f3⟩ := bcell c3
  clear k2 f2
  go_wp2_with fail
  refine (toInt64S_calls _ _ _ _ _ ((raOutside.below d3).alloc _) haOutside).mono ?_
  rintro e w4 ⟨A6, rfl, o6, b6⟩
  have qx0 := box_q b6
  replace b6 := bbox1 b6
  have c4 := bnext c3 b6 (Nat.le_refl _)
  have d4 := bbox2 c4
  have s4 := b6.size
  replace o3w0 := o3w0.below b6
  replace o5aCL := o5aCL.below b6
  replace o5aCV := o5aCV.below b6
  clear d3
  clear c3
  clear b6
  obtain ⟨k4, f4⟩ := bcell c4
  clear k3 f3
  replace o6 := o6.mono (L' := w3.heap.size) (by simp) (Nat.le_refl _)
  go_wp2_with fail
  refine (toInt64S_calls _ _ _ _ _ (raStones.below d4) haStones).mono ?_
  rintro e w5 ⟨A7, rfl, o7, b7⟩
  replace qx0 := blk_below qx0 b7 (blk_lt qx0)
  have c5 := bnext c4 b7 (Nat.le_refl _)
  have d5 := bbox2 c5
  have s5 := b7.size
  replace o3w0 := o3w0.below b7
  replace o5aCL := o5aCL.below b7
  replace o5aCV := o5aCV.below b7
  replace o6 := o6.below b7
  clear d4
  clear c4
  clear b7
  obtain ⟨k5, f5⟩ := bcell c5
  clear k4 f4
  go_upto_region 13 with fail
  have lb_x0 := blk_lt qx0
  have kb_x00 : w5.cell? ⟨w3.heap.size, 0, none⟩ = some (.slice A5aCL naCL naCL) := blk_cell qx0 0
  have kb_x01 : w5.cell? ⟨w3.heap.size, 1, none⟩ = some (.slice A5aCV naCV naCV) := blk_cell qx0 1
  have GB_x0 := hd qx0
  clear qx0
  have gb_aB := blk_below (two_blk' w (.cells #[.slice aaCL naCL caCL, .slice aaCV naCV caCV] 24) (.cells #[.int .i64 aB0, .int .i64 aB1, .int .i64 aB2] 26)).2.1 c5 (by simp <;> omega)
  have lb_aB := blk_lt gb_aB
  have kb_aB0 : w5.cell? ⟨w.heap.size + 1, 0, none⟩ = some (.int .i64 aB0) := blk_cell gb_aB 0
  have kb_aB1 : w5.cell? ⟨w.heap.size + 1, 1, none⟩ = some (.int .i64 aB1) := blk_cell gb_aB 1
  have kb_aB2 : w5.cell? ⟨w.heap.size + 1, 2, none⟩ = some (.int .i64 aB2) := blk_cell gb_aB 2
  have GB_aB := hd gb_aB
  clear gb_aB
  go_region_held3 (fun w' => w'.cell? ⟨w3.heap.size, 0, none⟩ = some (.slice A5aCL naCL naCL) ∧ w'.cell? ⟨w3.heap.size, 1, none⟩ = some (.slice A5aCV naCV naCV) ∧ w'.cell? ⟨w.heap.size + 1, 0, none⟩ = some (.int .i64 aB0) ∧ w'.cell? ⟨w.heap.size + 1, 1, none⟩ = some (.int .i64 aB1) ∧ w'.cell? ⟨w.heap.size + 1, 2, none⟩ = some (.int .i64 aB2))
      (first | with_reducible exact ⟨x2_0, x2_1, x2_2, x2_3, x2_4⟩ | with_reducible exact ⟨x1_0, x1_1, x1_2, x1_3, x1_4⟩ | go_keep)
      (first
        | (go_at_call 19; with_reducible refine (toBreach_calls _ _ _ _).mono ?_; rintro e v1 ⟨rfl, b1⟩; have q1 : Below w5.heap.size w5 v1 := Below.trans (by go_grown) (b1.mono (by simp)); have x1_0 := (q1.cell (p := ⟨w3.heap.size, 0, none⟩) lb_x0).trans kb_x00; have x1_1 := (q1.cell (p := ⟨w3.heap.size, 1, none⟩) lb_x0).trans kb_x01; have x1_2 := (q1.cell (p := ⟨w.heap.size + 1, 0, none⟩) lb_aB).trans kb_aB0; have x1_3 := (q1.cell (p := ⟨w.heap.size + 1, 1, none⟩) lb_aB).trans kb_aB1; have x1_4 := (q1.cell (p := ⟨w.heap.size + 1, 2, none⟩) lb_aB).trans kb_aB2)
        | (go_at_call 62; with_reducible refine (RunBreach_calls _ _ _ _ _ _ _ _ _ _ _ _ _ _ _ _ _ _ _ _ ((o5aCL.rd len_cInt64).below q1) haCL ((o5aCV.rd len_cInt64).below q1) haCV ((o6.rd len_cInt64).below q1) haOutside ((o7.rd len_cInt64).below q1) haStones).mono ?_; rintro e v2 ⟨A9g0, n9g0, q9g0, rfl, o9g0, h9g0, b2⟩; have q2 : Below w5.heap.size w5 v2 := Below.trans q1 (Below.trans (Below.mono (B := v1.heap.size) (by go_grown) q1.size) (b2.mono (by have := q1.size; simp; try omega))); have x2_0 := (q2.cell (p := ⟨w3.heap.size, 0, none⟩) lb_x0).trans kb_x00; have x2_1 := (q2.cell (p := ⟨w3.heap.size, 1, none⟩) lb_x0).trans kb_x01; have x2_2 := (q2.cell (p := ⟨w.heap.size + 1, 0, none⟩) lb_aB).trans kb_aB0; have x2_3 := (q2.cell (p := ⟨w.heap.size + 1, 1, none⟩) lb_aB).trans kb_aB1; have x2_4 := (q2.cell (p := ⟨w.heap.size + 1, 2, none⟩) lb_aB).trans kb_aB2))
  have b10r := q2
  replace o9g0 := o9g0.mono (L' := w5.heap.size) q1.size (Nat.le_refl _)
  clear q1 q2 x1_0 x1_1 x1_2 x1_3 x1_4 x2_0 x2_1 x2_2 x2_3 x2_4
  clear kb_x00 kb_x01 kb_aB0 kb_aB1 kb_aB2
  have qx0 := GB_x0.out
  clear GB_x0 lb_x0
  clear GB_aB lb_aB
  clear b1 b2
  obtain ⟨w6, hW⟩ : ∃ W, W = v2 := ⟨_, rfl⟩
  subst hW
  replace qx0 := blk_below qx0 b10r (blk_lt qx0)
  have c6 := bnext c5 b10r (Nat.le_refl _)
  have d6 := bbox2 c6
  have s6 := b10r.size
  replace o3w0 := o3w0.below b10r
  replace o5aCL := o5aCL.below b10r
  replace o5aCV := o5aCV.below b10r
  replace o6 := o6.below b10r
  replace o7 := o7.below b10r
  clear d5
  clear c5
  clear b10r
  obtain ⟨k6, f6⟩ := bcell c6
  clear k5 f5
  go_wp2_with fail
  refine (eqBreachS_calls _ _ _ _ _ _ _ _ _ (o9g0.rd len_cBreach) (o3w0.rd len_cBreach) h9g0 h3w0).mono ?_
  rintro e w7 ⟨rfl, b11⟩
  replace qx0 := blk_below qx0 b11 (blk_lt qx0)
  have c7 := bnext c6 b11 (Nat.le_refl _)
  have d7 := bbox2 c7
  have s7 := b11.size
  replace o3w0 := o3w0.below b11
  replace o5aCL := o5aCL.below b11
  replace o5aCV := o5aCV.below b11
  replace o6 := o6.below b11
  replace o7 := o7.below b11
  replace o9g0 := o9g0.below b11
  clear d6
  clear c6
  clear b11
  obtain ⟨k7, f7⟩ := bcell c7
  clear k6 f6
  go_upto_region 16 with fail
  have ga := blk_below (blk_alloc (heap_alloc_new w (.cells #[.slice aaCL naCL caCL, .slice aaCV naCV caCV] 24)) (.cells #[.int .i64 aB0, .int .i64 aB1, .int .i64 aB2] 26)) c7 (by simp <;> omega)
  have lA := blk_lt ga
  have lX := blk_lt qx0
  obtain ⟨gX, hX⟩ : ∃ G, G = w3.heap.size := ⟨_, rfl⟩
  have QX := hd qx0
  rw [← hX] at lX
  have ka0 : w7.cell? ⟨w.heap.size, 0, none⟩ = some (.slice aaCL naCL caCL) := blk_cell ga 0
  have ka1 : w7.cell? ⟨w.heap.size, 1, none⟩ = some (.slice aaCV naCV caCV) := blk_cell ga 1
  have kx0 : w7.cell? ⟨w3.heap.size, 0, none⟩ = some (.slice A5aCL naCL naCL) := blk_cell qx0 0
  have kx1 : w7.cell? ⟨w3.heap.size, 1, none⟩ = some (.slice A5aCV naCV naCV) := blk_cell qx0 1
  rw [hX] at lX
  clear hX gX
  have GA := hd ga
  clear ga qx0
  go_cut [73] (fun s wx => s = .bool false ∧ Below w7.heap.size w7 wx)
  case first =>
    have nka0 := World.new_ne w7 _ ka0
    have nka1 := World.new_ne w7 _ ka1
    have nkx0 := World.new_ne w7 _ kx0
    have nkx1 := World.new_ne w7 _ kx1
    go_region_held3 (fun w' => w'.cell? ⟨w.heap.size, 0, none⟩ = some (.slice aaCL naCL caCL) ∧ w'.cell? ⟨w.heap.size, 1, none⟩ = some (.slice aaCV naCV caCV) ∧ w'.cell? ⟨w3.heap.size, 0, none⟩ = some (.slice A5aCL naCL naCL) ∧ w'.cell? ⟨w3.heap.size, 1, none⟩ = some (.slice A5aCV naCV naCV))
      (first | with_reducible exact ⟨x2_0, x2_1, x2_2, x2_3⟩ | with_reducible exact ⟨x1_0, x1_1, x1_2, x1_3⟩ | go_keep)
      (first
        | (go_at_call 18; refine (toCurve_calls _ _ _ _ _ _ _ _ _ ((raCL.below d7).below (by go_grown)) haCL ((raCV.below d7).below (by go_grown)) haCV).mono ?_; rintro e v1 ⟨B0, B1, u0, rfl, ob0, ob1, -, b1⟩; have q1 : Below w7.heap.size w7 v1 := Below.trans (by go_grown) (b1.mono (by simp)); have x1_0 := (q1.cell (p := ⟨w.heap.size, 0, none⟩) lA).trans ka0; have x1_1 := (q1.cell (p := ⟨w.heap.size, 1, none⟩) lA).trans ka1; have x1_2 := (q1.cell (p := ⟨w3.heap.size, 0, none⟩) lX).trans kx0; have x1_3 := (q1.cell (p := ⟨w3.heap.size, 1, none⟩) lX).trans kx1)
        | (go_at_call 21; refine (eqCurve_calls _ _ _ _ _ _ _ _ _ _ _ _ _ ((o5aCL.rd len_cInt64).below (Below.trans q1 (Below.mono (by go_grown) q1.size))) ((ob0.rd len_cInt64).below (by go_grown)) haCL ((o5aCV.rd len_cInt64).below (Below.trans q1 (Below.mono (by go_grown) q1.size))) ((ob1.rd len_cInt64).below (by go_grown)) haCV).mono ?_; rintro e v2 ⟨rfl, b2⟩; have q2 : Below w7.heap.size w7 v2 := Below.trans q1 (Below.trans (Below.mono (B := v1.heap.size) (by go_grown) q1.size) (b2.mono (by have := q1.size; simp; try omega))); have x2_0 := (q2.cell (p := ⟨w.heap.size, 0, none⟩) lA).trans ka0; have x2_1 := (q2.cell (p := ⟨w.heap.size, 1, none⟩) lA).trans ka1; have x2_2 := (q2.cell (p := ⟨w3.heap.size, 0, none⟩) lX).trans kx0; have x2_3 := (q2.cell (p := ⟨w3.heap.size, 1, none⟩) lX).trans kx1))
    all_goals
      go_wp2_with fail
      go_meet
      first | exact ⟨rfl, q2⟩ | exact ⟨rfl, q2.drew⟩ | exact ⟨rfl, bdrewN q2 _⟩
  case rest =>
  obtain ⟨rfl, b12⟩ := hcut
  have qx0 := QX.out
  clear ka0 ka1 kx0 kx1 lA lX GA QX
  obtain ⟨w8, hW⟩ : ∃ W, W = wc := ⟨_, rfl⟩
  subst hW
  replace qx0 := blk_below qx0 b12 (blk_lt qx0)
  have c8 := bnext c7 b12 (Nat.le_refl _)
  have d8 := bbox2 c8
  have s8 := b12.size
  replace o3w0 := o3w0.below b12
  replace o5aCL := o5aCL.below b12
  replace o5aCV := o5aCV.below b12
  replace o6 := o6.below b12
  replace o7 := o7.below b12
  replace o9g0 := o9g0.below b12
  clear d7
  clear c7
  clear b12
  obtain ⟨k8, f8⟩ := bcell c8
  clear k7 f7
  go_wp2_with fail
  refine (toInt64S_calls _ _ _ _ _ (raOutside.below d8) haOutside).mono ?_
  rintro e w9 ⟨A13, rfl, o13, b13⟩
  replace qx0 := blk_below qx0 b13 (blk_lt qx0)
  have c9 := bnext c8 b13 (Nat.le_refl _)
  have d9 := bbox2 c9
  have s9 := b13.size
  replace o3w0 := o3w0.below b13
  replace o5aCL := o5aCL.below b13
  replace o5aCV := o5aCV.below b13
  replace o6 := o6.below b13
  replace o7 := o7.below b13
  replace o9g0 := o9g0.below b13
  clear d8
  clear c8
  clear b13
  obtain ⟨k9, f9⟩ := bcell c9
  clear k8 f8
  go_wp2_with fail
  refine (eqInt64S_calls _ _ _ _ _ _ _ _ _ (o6.rd len_cInt64) (o13.rd len_cInt64) haOutside haOutside).mono ?_
  rintro e w10 ⟨rfl, b14⟩
  clear o13
  replace qx0 := blk_below qx0 b14 (blk_lt qx0)
  have c10 := bnext c9 b14 (Nat.le_refl _)
  have d10 := bbox2 c10
  have s10 := b14.size
  replace o3w0 := o3w0.below b14
  replace o5aCL := o5aCL.below b14
  replace o5aCV := o5aCV.below b14
  replace o6 := o6.below b14
  replace o7 := o7.below b14
  replace o9g0 := o9g0.below b14
  clear d9
  clear c9
  clear b14
  obtain ⟨k10, f10⟩ := bcell c10
  clear k9 f9
  go_wp2_with fail
  refine (toInt64S_calls _ _ _ _ _ (raStones.below d10) haStones).mono ?_
  rintro e w11 ⟨A15, rfl, o15, b15⟩
  replace qx0 := blk_below qx0 b15 (blk_lt qx0)
  have c11 := bnext c10 b15 (Nat.le_refl _)
  have d11 := bbox2 c11
  have s11 := b15.size
  replace o3w0 := o3w0.below b15
  replace o5aCL := o5aCL.below b15
  replace o5aCV := o5aCV.below b15
  replace o6 := o6.below b15
  replace o7 := o7.below b15
  replace o9g0 := o9g0.below b15
  clear d10
  clear c10
  clear b15
  obtain ⟨k11, f11⟩ := bcell c11
  clear k10 f10
  go_wp2_with fail
  refine (eqInt64S_calls _ _ _ _ _ _ _ _ _ (o7.rd len_cInt64) (o15.rd len_cInt64) haStones haStones).mono ?_
  rintro e w12 ⟨rfl, b16⟩
  clear o15
  replace qx0 := blk_below qx0 b16 (blk_lt qx0)
  have c12 := bnext c11 b16 (Nat.le_refl _)
  have d12 := bbox2 c12
  have s12 := b16.size
  replace o3w0 := o3w0.below b16
  replace o5aCL := o5aCL.below b16
  replace o5aCV := o5aCV.below b16
  replace o6 := o6.below b16
  replace o7 := o7.below b16
  replace o9g0 := o9g0.below b16
  clear d11
  clear c11
  clear b16
  obtain ⟨k12, f12⟩ := bcell c12
  clear k11 f11
  have y0qx0 := blk_cell qx0 0
  have y1qx0 := blk_cell qx0 1
  go_wp2_with fail
  refine (markCurve_calls _ _ _ _ _ _ _ _ _ _ _ _ o5aCL haCL (by omega) _ _ o5aCV haCV (by omega) (by omega) (by omega) (by omega)).mono ?_
  rintro e w14 ⟨w13, rfl, p17_0, g17_0, p17_1, g17_1⟩
  clear y0qx0 y1qx0
  clear qx0
  have c13 := below_only c12 g17_0 (Nat.le_refl _) (fun g hg => by have := o5aCL.row hg; have := c12.size; omega)
  have d13 := bbox2 c13
  have s13 := g17_0.size
  replace o3w0 := o3w0.only g17_0 (fun g hg => by have := o5aCL.row hg; omega)
  replace o5aCV := o5aCV.only g17_0 (fun g hg => by have := o5aCL.row hg; omega)
  replace o6 := o6.only g17_0 (fun g hg => by have := o5aCL.row hg; omega)
  replace o7 := o7.only g17_0 (fun g hg => by have := o5aCL.row hg; omega)
  replace o9g0 := o9g0.only g17_0 (fun g hg => by have := o5aCL.row hg; omega)
  clear o5aCL
  clear d12
  clear c12
  clear g17_0
  obtain ⟨k13, f13⟩ := bcell c13
  clear k12 f12
  have c14 := below_only c13 g17_1 (Nat.le_refl _) (fun g hg => by have := o5aCV.row hg; have := c13.size; omega)
  have d14 := bbox2 c14
  have s14 := g17_1.size
  replace o3w0 := o3w0.only g17_1 (fun g hg => by have := o5aCV.row hg; omega)
  replace p17_0 := p17_0.only g17_1 (fun g hg => by have := o5aCV.row hg; omega)
  replace o6 := o6.only g17_1 (fun g hg => by have := o5aCV.row hg; omega)
  replace o7 := o7.only g17_1 (fun g hg => by have := o5aCV.row hg; omega)
  replace o9g0 := o9g0.only g17_1 (fun g hg => by have := o5aCV.row hg; omega)
  clear o5aCV
  clear d13
  clear c13
  clear g17_1
  obtain ⟨k14, f14⟩ := bcell c14
  clear k13 f13
  go_wp2_with fail
  refine (markInt64S_calls _ _ _ _ _ _ _ _ o6 haOutside (by omega) (by omega)).mono ?_
  rintro e w15 ⟨rfl, p18, g18⟩
  have c15 := below_only c14 g18 (Nat.le_refl _) (fun g hg => by have := o6.row hg; have := c14.size; omega)
  have d15 := bbox2 c15
  have s15 := g18.size
  replace o3w0 := o3w0.only g18 (fun g hg => by have := o6.row hg; omega)
  replace p17_0 := p17_0.only g18 (fun g hg => by have := o6.row hg; omega)
  replace p17_1 := p17_1.only g18 (fun g hg => by have := o6.row hg; omega)
  replace o7 := o7.only g18 (fun g hg => by have := o6.row hg; omega)
  replace o9g0 := o9g0.only g18 (fun g hg => by have := o6.row hg; omega)
  clear o6
  clear d14
  clear c14
  clear g18
  obtain ⟨k15, f15⟩ := bcell c15
  clear k14 f14
  go_wp2_with fail
  refine (markInt64S_calls _ _ _ _ _ _ _ _ o7 haStones (by omega) (by omega)).mono ?_
  rintro e w16 ⟨rfl, p19, g19⟩
  have c16 := below_only c15 g19 (Nat.le_refl _) (fun g hg => by have := o7.row hg; have := c15.size; omega)
  have d16 := bbox2 c16
  have s16 := g19.size
  replace o3w0 := o3w0.only g19 (fun g hg => by have := o7.row hg; omega)
  replace p17_0 := p17_0.only g19 (fun g hg => by have := o7.row hg; omega)
  replace p17_1 := p17_1.only g19 (fun g hg => by have := o7.row hg; omega)
  replace p18 := p18.only g19 (fun g hg => by have := o7.row hg; omega)
  replace o9g0 := o9g0.only g19 (fun g hg => by have := o7.row hg; omega)
  clear o7
  clear d15
  clear c15
  clear g19
  obtain ⟨k16, f16⟩ := bcell c16
  clear k15 f15
  go_wp2_with fail
  refine (eqBreachS_calls _ _ _ _ _ _ _ _ _ (o9g0.rd len_cBreach) (o3w0.rd len_cBreach) h9g0 h3w0).mono ?_
  rintro e w17 ⟨rfl, b20⟩
  have c17 := bnext c16 b20 (Nat.le_refl _)
  have d17 := bbox2 c17
  have s17 := b20.size
  replace o3w0 := o3w0.below b20
  replace p17_0 := p17_0.below b20
  replace p17_1 := p17_1.below b20
  replace p18 := p18.below b20
  replace p19 := p19.below b20
  replace o9g0 := o9g0.below b20
  clear d16
  clear c16
  clear b20
  obtain ⟨k17, f17⟩ := bcell c17
  clear k16 f16
  go_wp2_with fail
  refine (markBreachS_calls _ _ _ _ _ _ _ _ o9g0 h9g0 (by omega) (by omega)).mono ?_
  rintro e w18 ⟨rfl, p21, g21⟩
  have c18 := below_only c17 g21 (Nat.le_refl _) (fun g hg => by have := o9g0.row hg; have := c17.size; omega)
  have d18 := bbox2 c18
  have s18 := g21.size
  replace o3w0 := o3w0.only g21 (fun g hg => by have := o9g0.row hg; omega)
  replace p17_0 := p17_0.only g21 (fun g hg => by have := o9g0.row hg; omega)
  replace p17_1 := p17_1.only g21 (fun g hg => by have := o9g0.row hg; omega)
  replace p18 := p18.only g21 (fun g hg => by have := o9g0.row hg; omega)
  replace p19 := p19.only g21 (fun g hg => by have := o9g0.row hg; omega)
  clear o9g0
  clear d17
  clear c17
  clear g21
  obtain ⟨k18, f18⟩ := bcell c18
  clear k17 f17
  go_wp2_with fail
  refine (heldBreachS_calls _ _ _ _ _ (p21.rd len_cBreach) h9g0 (by omega) (by omega)).mono ?_
  rintro e w19 ⟨rfl, b22⟩
  have c19 := bnext c18 b22 (Nat.le_refl _)
  have d19 := bbox2 c19
  have s19 := b22.size
  replace o3w0 := o3w0.below b22
  replace p17_0 := p17_0.below b22
  replace p17_1 := p17_1.below b22
  replace p18 := p18.below b22
  replace p19 := p19.below b22
  replace p21 := p21.below b22
  clear d18
  clear c18
  clear b22
  obtain ⟨k19, f19⟩ := bcell c19
  clear k18 f18
  go_upto_region 36 with fail
  have gb_aC := blk_below (blk_alloc (heap_alloc_new w (.cells #[.slice aaCL naCL caCL, .slice aaCV naCV caCV] 24)) (.cells #[.int .i64 aB0, .int .i64 aB1, .int .i64 aB2] 26)) c19 (by simp <;> omega)
  have lb_aC := blk_lt gb_aC
  have kb_aC0 : w19.cell? ⟨w.heap.size, 0, none⟩ = some (.slice aaCL naCL caCL) := blk_cell gb_aC 0
  have kb_aC1 : w19.cell? ⟨w.heap.size, 1, none⟩ = some (.slice aaCV naCV caCV) := blk_cell gb_aC 1
  have GB_aC := hd gb_aC
  clear gb_aC
  have gb_aB := blk_below (two_blk' w (.cells #[.slice aaCL naCL caCL, .slice aaCV naCV caCV] 24) (.cells #[.int .i64 aB0, .int .i64 aB1, .int .i64 aB2] 26)).2.1 c19 (by simp <;> omega)
  have lb_aB := blk_lt gb_aB
  have kb_aB0 : w19.cell? ⟨w.heap.size + 1, 0, none⟩ = some (.int .i64 aB0) := blk_cell gb_aB 0
  have kb_aB1 : w19.cell? ⟨w.heap.size + 1, 1, none⟩ = some (.int .i64 aB1) := blk_cell gb_aB 1
  have kb_aB2 : w19.cell? ⟨w.heap.size + 1, 2, none⟩ = some (.int .i64 aB2) := blk_cell gb_aB 2
  have GB_aB := hd gb_aB
  clear gb_aB
  go_region_held3 (fun w' => w'.cell? ⟨w.heap.size, 0, none⟩ = some (.slice aaCL naCL caCL) ∧ w'.cell? ⟨w.heap.size, 1, none⟩ = some (.slice aaCV naCV caCV) ∧ w'.cell? ⟨w.heap.size + 1, 0, none⟩ = some (.int .i64 aB0) ∧ w'.cell? ⟨w.heap.size + 1, 1, none⟩ = some (.int .i64 aB1) ∧ w'.cell? ⟨w.heap.size + 1, 2, none⟩ = some (.int .i64 aB2))
      (first | with_reducible exact ⟨x5_0, x5_1, x5_2, x5_3, x5_4⟩ | with_reducible exact ⟨x4_0, x4_1, x4_2, x4_3, x4_4⟩ | with_reducible exact ⟨x3_0, x3_1, x3_2, x3_3, x3_4⟩ | with_reducible exact ⟨x2_0, x2_1, x2_2, x2_3, x2_4⟩ | with_reducible exact ⟨x1_0, x1_1, x1_2, x1_3, x1_4⟩ | go_keep)
      (first
        | (go_at_call 18; with_reducible refine (toCurve_calls _ _ _ _ _ _ _ _ _ ((raCL.below d19).below (by go_grown)) haCL ((raCV.below d19).below (by go_grown)) haCV).mono ?_; rintro e v1 ⟨A23aCL, A23aCV, U23_0, rfl, o23aCL, o23aCV, -, b1⟩; have q1 : Below w19.heap.size w19 v1 := Below.trans (by go_grown) (b1.mono (by simp)); have x1_0 := (q1.cell (p := ⟨w.heap.size, 0, none⟩) lb_aC).trans kb_aC0; have x1_1 := (q1.cell (p := ⟨w.heap.size, 1, none⟩) lb_aC).trans kb_aC1; have x1_2 := (q1.cell (p := ⟨w.heap.size + 1, 0, none⟩) lb_aB).trans kb_aB0; have x1_3 := (q1.cell (p := ⟨w.heap.size + 1, 1, none⟩) lb_aB).trans kb_aB1; have x1_4 := (q1.cell (p := ⟨w.heap.size + 1, 2, none⟩) lb_aB).trans kb_aB2)
        | (go_at_call 19; with_reducible refine (toBreach_calls _ _ _ _).mono ?_; rintro e v2 ⟨rfl, b2⟩; have q2 : Below w19.heap.size w19 v2 := Below.trans q1 (Below.trans (Below.mono (B := v1.heap.size) (by go_grown) q1.size) (b2.mono (by have := q1.size; simp; try omega))); have x2_0 := (q2.cell (p := ⟨w.heap.size, 0, none⟩) lb_aC).trans kb_aC0; have x2_1 := (q2.cell (p := ⟨w.heap.size, 1, none⟩) lb_aC).trans kb_aC1; have x2_2 := (q2.cell (p := ⟨w.heap.size + 1, 0, none⟩) lb_aB).trans kb_aB0; have x2_3 := (q2.cell (p := ⟨w.heap.size + 1, 1, none⟩) lb_aB).trans kb_aB1; have x2_4 := (q2.cell (p := ⟨w.heap.size + 1, 2, none⟩) lb_aB).trans kb_aB2)
        | (go_at_call 26; with_reducible refine (toInt64S_calls _ _ _ xaOutside _ ((raOutside.below d19).below q2) haOutside).mono ?_; rintro e v3 ⟨A23aOutside, rfl, o23aOutside, b3⟩; have q3 : Below w19.heap.size w19 v3 := Below.trans q2 (Below.trans (Below.mono (B := v2.heap.size) (by go_grown) q2.size) (b3.mono (by have := q2.size; simp; try omega))); have x3_0 := (q3.cell (p := ⟨w.heap.size, 0, none⟩) lb_aC).trans kb_aC0; have x3_1 := (q3.cell (p := ⟨w.heap.size, 1, none⟩) lb_aC).trans kb_aC1; have x3_2 := (q3.cell (p := ⟨w.heap.size + 1, 0, none⟩) lb_aB).trans kb_aB0; have x3_3 := (q3.cell (p := ⟨w.heap.size + 1, 1, none⟩) lb_aB).trans kb_aB1; have x3_4 := (q3.cell (p := ⟨w.heap.size + 1, 2, none⟩) lb_aB).trans kb_aB2)
        | (go_at_call 26; with_reducible refine (toInt64S_calls _ _ _ xaStones _ ((raStones.below d19).below q3) haStones).mono ?_; rintro e v4 ⟨A23aStones, rfl, o23aStones, b4⟩; have q4 : Below w19.heap.size w19 v4 := Below.trans q3 (Below.trans (Below.mono (B := v3.heap.size) (by go_grown) q3.size) (b4.mono (by have := q3.size; simp; try omega))); have x4_0 := (q4.cell (p := ⟨w.heap.size, 0, none⟩) lb_aC).trans kb_aC0; have x4_1 := (q4.cell (p := ⟨w.heap.size, 1, none⟩) lb_aC).trans kb_aC1; have x4_2 := (q4.cell (p := ⟨w.heap.size + 1, 0, none⟩) lb_aB).trans kb_aB0; have x4_3 := (q4.cell (p := ⟨w.heap.size + 1, 1, none⟩) lb_aB).trans kb_aB1; have x4_4 := (q4.cell (p := ⟨w.heap.size + 1, 2, none⟩) lb_aB).trans kb_aB2)
        | (go_at_call 62; with_reducible refine (RunBreach_calls _ _ _ _ _ _ _ _ _ _ _ _ _ _ _ _ _ _ _ _ ((((o23aCL.rd len_cInt64).below b2).below b3).below b4) haCL ((((o23aCV.rd len_cInt64).below b2).below b3).below b4) haCV ((o23aOutside.rd len_cInt64).below b4) haOutside (o23aStones.rd len_cInt64) haStones).mono ?_; rintro e v5 ⟨A24h0, n24h0, q24h0, rfl, o24h0, h24h0, b5⟩; have q5 : Below w19.heap.size w19 v5 := Below.trans q4 (Below.trans (Below.mono (B := v4.heap.size) (by go_grown) q4.size) (b5.mono (by have := q4.size; simp; try omega))); have x5_0 := (q5.cell (p := ⟨w.heap.size, 0, none⟩) lb_aC).trans kb_aC0; have x5_1 := (q5.cell (p := ⟨w.heap.size, 1, none⟩) lb_aC).trans kb_aC1; have x5_2 := (q5.cell (p := ⟨w.heap.size + 1, 0, none⟩) lb_aB).trans kb_aB0; have x5_3 := (q5.cell (p := ⟨w.heap.size + 1, 1, none⟩) lb_aB).trans kb_aB1; have x5_4 := (q5.cell (p := ⟨w.heap.size + 1, 2, none⟩) lb_aB).trans kb_aB2))
  have b25r := q5
  replace o24h0 := o24h0.mono (L' := w19.heap.size) q4.size (Nat.le_refl _)
  clear q1 q2 q3 q4 q5 x1_0 x1_1 x1_2 x1_3 x1_4 x2_0 x2_1 x2_2 x2_3 x2_4 x3_0 x3_1 x3_2 x3_3 x3_4 x4_0 x4_1 x4_2 x4_3 x4_4 x5_0 x5_1 x5_2 x5_3 x5_4
  clear kb_aC0 kb_aC1 kb_aB0 kb_aB1 kb_aB2
  clear GB_aC lb_aC
  clear GB_aB lb_aB
  clear o23aCL
  clear o23aCV
  clear o23aOutside
  clear o23aStones
  clear b1 b2 b3 b4 b5
  obtain ⟨w20, hW⟩ : ∃ W, W = v5 := ⟨_, rfl⟩
  subst hW
  have c20 := bnext c19 b25r (Nat.le_refl _)
  have d20 := bbox2 c20
  have s20 := b25r.size
  replace o3w0 := o3w0.below b25r
  replace p17_0 := p17_0.below b25r
  replace p17_1 := p17_1.below b25r
  replace p18 := p18.below b25r
  replace p19 := p19.below b25r
  replace p21 := p21.below b25r
  clear d19
  clear c19
  clear b25r
  obtain ⟨k20, f20⟩ := bcell c20
  clear k19 f19
  go_wp2_with fail
  refine (eqBreachS_calls _ _ _ _ _ _ _ _ _ (o24h0.rd len_cBreach) (o3w0.rd len_cBreach) h24h0 h3w0).mono ?_
  rintro e w21 ⟨rfl, b26⟩
  have c21 := bnext c20 b26 (Nat.le_refl _)
  have d21 := bbox2 c21
  have s21 := b26.size
  replace o3w0 := o3w0.below b26
  replace p17_0 := p17_0.below b26
  replace p17_1 := p17_1.below b26
  replace p18 := p18.below b26
  replace p19 := p19.below b26
  replace p21 := p21.below b26
  replace o24h0 := o24h0.below b26
  clear d20
  clear c20
  clear b26
  obtain ⟨k21, f21⟩ := bcell c21
  clear k20 f20
  go_wp2_with fail
  refine (heldBreachS_calls _ _ _ _ _ (p21.rd len_cBreach) h9g0 (by omega) (by omega)).mono ?_
  rintro e w22 ⟨rfl, b27⟩
  have c22 := bnext c21 b27 (Nat.le_refl _)
  have d22 := bbox2 c22
  have s22 := b27.size
  replace o3w0 := o3w0.below b27
  replace p17_0 := p17_0.below b27
  replace p17_1 := p17_1.below b27
  replace p18 := p18.below b27
  replace p19 := p19.below b27
  replace p21 := p21.below b27
  replace o24h0 := o24h0.below b27
  clear d21
  clear c21
  clear b27
  obtain ⟨k22, f22⟩ := bcell c22
  clear k21 f21
  go_wp2_with fail
  go_ret
  exact ⟨rfl, d22⟩
end Go.Proofs.Ytieomdjcnaaopaa
