/- The law on LeastStones, walked out of the contracts of what it calls. -/
import Derived.Test.YtieomdjcnaaopaaLst
import Derived.Deep.RegionHeld3
import Derived.Deep.DeepCutAuto
namespace Go.Proofs.Ytieomdjcnaaopaa
open Go.RowKit
set_option linter.unusedVariables false

set_option maxRecDepth 100000 in
set_option maxHeartbeats 2000000 in
theorem FnExactLeastStones_calls (aaCL : Option Addr) (naCL caCL : Nat) (xaCL : List Int) (aaCV : Option Addr) (naCV caCV : Nat) (xaCV : List Int) (aB0 : Int) (aB1 : Int) (aB2 : Int) (aaOutside : Option Addr) (naOutside caOutside : Nat) (xaOutside : List (Int)) (aLevel : Int) (w : World)
    (raCL : RdI w aaCL naCL xaCL) (_laCL : naCL ≤ caCL) (_maCL : caCL ≤ maxLen) (_oaCL : ∀ z ∈ xaCL, OkInt64 z) (raCV : RdI w aaCV naCV xaCV) (_laCV : naCV ≤ caCV) (_maCV : caCV ≤ maxLen) (_oaCV : ∀ z ∈ xaCV, OkInt64 z) (_waB0 : (Lit.int .i64 aB0).wf = true) (_waB1 : (Lit.int .i64 aB1).wf = true) (_waB2 : (Lit.int .i64 aB2).wf = true) (raOutside : RdInt64 w aaOutside naOutside xaOutside) (_laOutside : naOutside ≤ caOutside) (_maOutside : caOutside ≤ maxLen) (_oaOutside : ∀ z ∈ xaOutside, OkInt64 z) (_waLevel : (Lit.int .i64 aLevel).wf = true) :
    Calls Try.prog 9 #[.agg #[.slice aaCL naCL caCL, .slice aaCV naCV caCV], .agg #[.int .i64 aB0, .int .i64 aB1, .int .i64 aB2], .slice aaOutside naOutside caOutside, .int .i64 aLevel] w fun e w' => e = .returned (.bool true) ∧ Below w.heap.size w w' := by
  by_cases haOutside : naOutside ≤ 1048576
  case neg =>
    have haOutside' : (1048576 : Int) < naOutside := by omega
    have _zaOutside := _maOutside
    unfold maxLen at _zaOutside
    go_enter Try.func9, Try.ntmps9
    go_wp2
    go_ret
    exact ⟨rfl, (((Below.refl _ _).alloc (Nat.le_refl _) _).alloc (by simp) _)⟩
  go_enter Try.func9, Try.ntmps9
  go_wp2_with fail
  have _zaCL := _maCL
  unfold maxLen at _zaCL
  have _zaCV := _maCV
  unfold maxLen at _zaCV
  refine (szCurve_calls _ _ _ _ _ _ _ _ (by omega) (by omega) (by omega) (by omega)).mono ?_
  rintro e w1 ⟨l1, rfl, hs1, b1⟩
  have c1 := b1
  have d1 := bbox2 b1
  have s1 := b1.size
  clear b1
  obtain ⟨k1, f1⟩ := bcell c1
  rcases hs1 with ⟨hs1, rfl⟩ | ⟨hs1, rfl⟩
  case inl =>
    go_wp2_with fail
    go_ret
    exact ⟨rfl, d1⟩
  have haCL : naCL ≤ 1048576 := by omega
  have haCV : naCV ≤ 1048576 := by omega
  clear _zaCL _zaCV
  go_upto_region 7 with fail
  have gb_aC := blk_below (blk_alloc (heap_alloc_new w (.cells #[.slice aaCL naCL caCL, .slice aaCV naCV caCV] 24)) (.cells #[.int .i64 aB0, .int .i64 aB1, .int .i64 aB2] 26)) c1 (by simp <;> omega)
  have lb_aC := blk_lt gb_aC
  have kb_aC0 : w1.cell? ⟨w.heap.size, 0, none⟩ = some (.slice aaCL naCL caCL) := blk_cell gb_aC 0
  have kb_aC1 : w1.cell? ⟨w.heap.size, 1, none⟩ = some (.slice aaCV naCV caCV) := blk_cell gb_aC 1
  have GB_aC := hd gb_aC
  clear gb_aC
  have gb_aB := blk_below (two_blk' w (.cells #[.slice aaCL naCL caCL, .slice aaCV naCV caCV] 24) (.cells #[.int .i64 aB0, .int .i64 aB1, .int .i64 aB2] 26)).2.1 c1 (by simp <;> omega)
  have lb_aB := blk_lt gb_aB
  have kb_aB0 : w1.cell? ⟨w.heap.size + 1, 0, none⟩ = some (.int .i64 aB0) := blk_cell gb_aB 0
  have kb_aB1 : w1.cell? ⟨w.heap.size + 1, 1, none⟩ = some (.int .i64 aB1) := blk_cell gb_aB 1
  have kb_aB2 : w1.cell? ⟨w.heap.size + 1, 2, none⟩ = some (.int .i64 aB2) := blk_cell gb_aB 2
  have GB_aB := hd gb_aB
  clear gb_aB
  go_region_held3 (fun w' => w'.cell? ⟨w.heap.size, 0, none⟩ = some (.slice aaCL naCL caCL) ∧ w'.cell? ⟨w.heap.size, 1, none⟩ = some (.slice aaCV naCV caCV) ∧ w'.cell? ⟨w.heap.size + 1, 0, none⟩ = some (.int .i64 aB0) ∧ w'.cell? ⟨w.heap.size + 1, 1, none⟩ = some (.int .i64 aB1) ∧ w'.cell? ⟨w.heap.size + 1, 2, none⟩ = some (.int .i64 aB2))
      (first | with_reducible exact ⟨x4_0, x4_1, x4_2, x4_3, x4_4⟩ | with_reducible exact ⟨x3_0, x3_1, x3_2, x3_3, x3_4⟩ | with_reducible exact ⟨x2_0, x2_1, x2_2, x2_3, x2_4⟩ | with_reducible exact ⟨x1_0, x1_1, x1_2, x1_3, x1_4⟩ | go_keep)
      (first
        | (go_at_call 18; with_reducible refine (toCurve_calls _ _ _ _ _ _ _ _ _ ((raCL.below d1).below (by go_grown)) haCL ((raCV.below d1).below (by go_grown)) haCV).mono ?_; rintro e v1 ⟨A2aCL, A2aCV, U2_0, rfl, o2aCL, o2aCV, -, b1⟩; have q1 : Below w1.heap.size w1 v1 := Below.trans (by go_grown) (b1.mono (by simp)); have x1_0 := (q1.cell (p := ⟨w.heap.size, 0, none⟩) lb_aC).trans kb_aC0; have x1_1 := (q1.cell (p := ⟨w.heap.size, 1, none⟩) lb_aC).trans kb_aC1; have x1_2 := (q1.cell (p := ⟨w.heap.size + 1, 0, none⟩) lb_aB).trans kb_aB0; have x1_3 := (q1.cell (p := ⟨w.heap.size + 1, 1, none⟩) lb_aB).trans kb_aB1; have x1_4 := (q1.cell (p := ⟨w.heap.size + 1, 2, none⟩) lb_aB).trans kb_aB2)
        | (go_at_call 19; with_reducible refine (toBreach_calls _ _ _ _).mono ?_; rintro e v2 ⟨rfl, b2⟩; have q2 : Below w1.heap.size w1 v2 := Below.trans q1 (Below.trans (Below.mono (B := v1.heap.size) (by go_grown) q1.size) (b2.mono (by have := q1.size; simp; try omega))); have x2_0 := (q2.cell (p := ⟨w.heap.size, 0, none⟩) lb_aC).trans kb_aC0; have x2_1 := (q2.cell (p := ⟨w.heap.size, 1, none⟩) lb_aC).trans kb_aC1; have x2_2 := (q2.cell (p := ⟨w.heap.size + 1, 0, none⟩) lb_aB).trans kb_aB0; have x2_3 := (q2.cell (p := ⟨w.heap.size + 1, 1, none⟩) lb_aB).trans kb_aB1; have x2_4 := (q2.cell (p := ⟨w.heap.size + 1, 2, none⟩) lb_aB).trans kb_aB2)
        | (go_at_call 26; with_reducible refine (toInt64S_calls _ _ _ xaOutside _ ((raOutside.below d1).below q2) haOutside).mono ?_; rintro e v3 ⟨A2aOutside, rfl, o2aOutside, b3⟩; have q3 : Below w1.heap.size w1 v3 := Below.trans q2 (Below.trans (Below.mono (B := v2.heap.size) (by go_grown) q2.size) (b3.mono (by have := q2.size; simp; try omega))); have x3_0 := (q3.cell (p := ⟨w.heap.size, 0, none⟩) lb_aC).trans kb_aC0; have x3_1 := (q3.cell (p := ⟨w.heap.size, 1, none⟩) lb_aC).trans kb_aC1; have x3_2 := (q3.cell (p := ⟨w.heap.size + 1, 0, none⟩) lb_aB).trans kb_aB0; have x3_3 := (q3.cell (p := ⟨w.heap.size + 1, 1, none⟩) lb_aB).trans kb_aB1; have x3_4 := (q3.cell (p := ⟨w.heap.size + 1, 2, none⟩) lb_aB).trans kb_aB2)
        | (go_at_call 36; with_reducible refine (specLeastStones_calls _ _ _ _ _ _ _ _ _ _ _ _ _ _ _ _ _ (((o2aCL.rd len_cInt64).below b2).below b3) haCL (((o2aCV.rd len_cInt64).below b2).below b3) haCV (o2aOutside.rd len_cInt64) haOutside).mono ?_; rintro e v4 ⟨rfl, b4⟩; have q4 : Below w1.heap.size w1 v4 := Below.trans q3 (Below.trans (Below.mono (B := v3.heap.size) (by go_grown) q3.size) (b4.mono (by have := q3.size; simp; try omega))); have x4_0 := (q4.cell (p := ⟨w.heap.size, 0, none⟩) lb_aC).trans kb_aC0; have x4_1 := (q4.cell (p := ⟨w.heap.size, 1, none⟩) lb_aC).trans kb_aC1; have x4_2 := (q4.cell (p := ⟨w.heap.size + 1, 0, none⟩) lb_aB).trans kb_aB0; have x4_3 := (q4.cell (p := ⟨w.heap.size + 1, 1, none⟩) lb_aB).trans kb_aB1; have x4_4 := (q4.cell (p := ⟨w.heap.size + 1, 2, none⟩) lb_aB).trans kb_aB2))
  have b4r := q4
  clear q1 q2 q3 q4 x1_0 x1_1 x1_2 x1_3 x1_4 x2_0 x2_1 x2_2 x2_3 x2_4 x3_0 x3_1 x3_2 x3_3 x3_4 x4_0 x4_1 x4_2 x4_3 x4_4
  clear kb_aC0 kb_aC1 kb_aB0 kb_aB1 kb_aB2
  clear GB_aC lb_aC
  clear GB_aB lb_aB
  clear o2aCL
  clear o2aCV
  clear o2aOutside
  clear b1 b2 b3 b4
  obtain ⟨w2, hW⟩ : ∃ W, W = v4 := ⟨_, rfl⟩
  subst hW
  have c2 := bnext c1 b4r (Nat.le_refl _)
  have d2 := bbox2 c2
  have s2 := b4r.size
  clear d1
  clear c1
  clear b4r
  obtain ⟨k2, f2⟩ := bcell c2
  clear k1 f1
  go_wp2_with fail
  refine (toCurve_calls _ _ _ _ _ _ _ _ _ (raCL.below d2) haCL (raCV.below d2) haCV).mono ?_
  rintro e w3 ⟨A5aCL, A5aCV, U5_0, rfl, o5aCL, o5aCV, ⟨u5_0, u5_1⟩, b5⟩
  have c3 := bnext c2 b5 (Nat.le_refl _)
  have d3 := bbox2 c3
  have s3 := b5.size
  clear d2
  clear c2
  clear b5
  obtain ⟨k3, f3⟩ := bcell c3
  clear k2 f2
  go_wp2_with fail
  refine (toInt64S_calls _ _ _ _ _ ((raOutside.below d3).alloc _) haOutside).mono ?_
  rintro e w4 ⟨A6, rfl, o6, b6⟩
  have qx0 := box_q b6
  replace b6 := bbox1 b6
  have c4 := bnext c3 b6 (Nat.le_refl _)
  have d4 := bbox2 c4
  have s4 := b6.size
  replace o5aCL := o5aCL.below b6
  replace o5aCV := o5aCV.below b6
  clear d3
  clear c3
  clear b6
  obtain ⟨k4, f4⟩ := bcell c4
  clear k3 f3
  replace o6 := o6.mono (L' := w3.heap.size) (by simp) (Nat.le_refl _)
  go_upto_region 10 with fail
  have lb_x0 := blk_lt qx0
  have kb_x00 : w4.cell? ⟨w3.heap.size, 0, none⟩ = some (.slice A5aCL naCL naCL) := blk_cell qx0 0
  have kb_x01 : w4.cell? ⟨w3.heap.size, 1, none⟩ = some (.slice A5aCV naCV naCV) := blk_cell qx0 1
  have GB_x0 := hd qx0
  clear qx0
  have gb_aB := blk_below (two_blk' w (.cells #[.slice aaCL naCL caCL, .slice aaCV naCV caCV] 24) (.cells #[.int .i64 aB0, .int .i64 aB1, .int .i64 aB2] 26)).2.1 c4 (by simp <;> omega)
  have lb_aB := blk_lt gb_aB
  have kb_aB0 : w4.cell? ⟨w.heap.size + 1, 0, none⟩ = some (.int .i64 aB0) := blk_cell gb_aB 0
  have kb_aB1 : w4.cell? ⟨w.heap.size + 1, 1, none⟩ = some (.int .i64 aB1) := blk_cell gb_aB 1
  have kb_aB2 : w4.cell? ⟨w.heap.size + 1, 2, none⟩ = some (.int .i64 aB2) := blk_cell gb_aB 2
  have GB_aB := hd gb_aB
  clear gb_aB
  go_region_held3 (fun w' => w'.cell? ⟨w3.heap.size, 0, none⟩ = some (.slice A5aCL naCL naCL) ∧ w'.cell? ⟨w3.heap.size, 1, none⟩ = some (.slice A5aCV naCV naCV) ∧ w'.cell? ⟨w.heap.size + 1, 0, none⟩ = some (.int .i64 aB0) ∧ w'.cell? ⟨w.heap.size + 1, 1, none⟩ = some (.int .i64 aB1) ∧ w'.cell? ⟨w.heap.size + 1, 2, none⟩ = some (.int .i64 aB2))
      (first | with_reducible exact ⟨x2_0, x2_1, x2_2, x2_3, x2_4⟩ | with_reducible exact ⟨x1_0, x1_1, x1_2, x1_3, x1_4⟩ | go_keep)
      (first
        | (go_at_call 19; with_reducible refine (toBreach_calls _ _ _ _).mono ?_; rintro e v1 ⟨rfl, b1⟩; have q1 : Below w4.heap.size w4 v1 := Below.trans (by go_grown) (b1.mono (by simp)); have x1_0 := (q1.cell (p := ⟨w3.heap.size, 0, none⟩) lb_x0).trans kb_x00; have x1_1 := (q1.cell (p := ⟨w3.heap.size, 1, none⟩) lb_x0).trans kb_x01; have x1_2 := (q1.cell (p := ⟨w.heap.size + 1, 0, none⟩) lb_aB).trans kb_aB0; have x1_3 := (q1.cell (p := ⟨w.heap.size + 1, 1, none⟩) lb_aB).trans kb_aB1; have x1_4 := (q1.cell (p := ⟨w.heap.size + 1, 2, none⟩) lb_aB).trans kb_aB2)
        | (go_at_call 37; with_reducible refine (LeastStones_calls _ _ _ _ _ _ _ _ _ _ _ _ _ _ _ _ _ ((o5aCL.rd len_cInt64).below q1) haCL ((o5aCV.rd len_cInt64).below q1) haCV ((o6.rd len_cInt64).below q1) haOutside).mono ?_; rintro e v2 ⟨rfl, b2⟩; have q2 : Below w4.heap.size w4 v2 := Below.trans q1 (Below.trans (Below.mono (B := v1.heap.size) (by go_grown) q1.size) (b2.mono (by have := q1.size; simp; try omega))); have x2_0 := (q2.cell (p := ⟨w3.heap.size, 0, none⟩) lb_x0).trans kb_x00; have x2_1 := (q2.cell (p := ⟨w3.heap.size, 1, none⟩) lb_x0).trans kb_x01; have x2_2 := (q2.cell (p := ⟨w.heap.size + 1, 0, none⟩) lb_aB).trans kb_aB0; have x2_3 := (q2.cell (p := ⟨w.heap.size + 1, 1, none⟩) lb_aB).trans kb_aB1; have x2_4 := (q2.cell (p := ⟨w.heap.size + 1, 2, none⟩) lb_aB).trans kb_aB2))
  have b9r := q2
  clear q1 q2 x1_0 x1_1 x1_2 x1_3 x1_4 x2_0 x2_1 x2_2 x2_3 x2_4
  clear kb_x00 kb_x01 kb_aB0 kb_aB1 kb_aB2
  have qx0 := GB_x0.out
  clear GB_x0 lb_x0
  clear GB_aB lb_aB
  clear b1 b2
  obtain ⟨w5, hW⟩ : ∃ W, W = v2 := ⟨_, rfl⟩
  subst hW
  replace qx0 := blk_below qx0 b9r (blk_lt qx0)
  have c5 := bnext c4 b9r (Nat.le_refl _)
  have d5 := bbox2 c5
  have s5 := b9r.size
  replace o5aCL := o5aCL.below b9r
  replace o5aCV := o5aCV.below b9r
  replace o6 := o6.below b9r
  clear d4
  clear c4
  clear b9r
  obtain ⟨k5, f5⟩ := bcell c5
  clear k4 f4
  go_upto_region 13 with fail
  have ga := blk_below (blk_alloc (heap_alloc_new w (.cells #[.slice aaCL naCL caCL, .slice aaCV naCV caCV] 24)) (.cells #[.int .i64 aB0, .int .i64 aB1, .int .i64 aB2] 26)) c5 (by simp <;> omega)
  have lA := blk_lt ga
  have lX := blk_lt qx0
  obtain ⟨gX, hX⟩ : ∃ G, G = w3.heap.size := ⟨_, rfl⟩
  have QX := hd qx0
  rw [← hX] at lX
  have ka0 : w5.cell? ⟨w.heap.size, 0, none⟩ = some (.slice aaCL naCL caCL) := blk_cell ga 0
  have ka1 : w5.cell? ⟨w.heap.size, 1, none⟩ = some (.slice aaCV naCV caCV) := blk_cell ga 1
  have kx0 : w5.cell? ⟨w3.heap.size, 0, none⟩ = some (.slice A5aCL naCL naCL) := blk_cell qx0 0
  have kx1 : w5.cell? ⟨w3.heap.size, 1, none⟩ = some (.slice A5aCV naCV naCV) := blk_cell qx0 1
  rw [hX] at lX
  clear hX gX
  have GA := hd ga
  clear ga qx0
  go_cut [60] (fun s wx => s = .bool false ∧ Below w5.heap.size w5 wx)
  case first =>
    have nka0 := World.new_ne w5 _ ka0
    have nka1 := World.new_ne w5 _ ka1
    have nkx0 := World.new_ne w5 _ kx0
    have nkx1 := World.new_ne w5 _ kx1
    go_region_held3 (fun w' => w'.cell? ⟨w.heap.size, 0, none⟩ = some (.slice aaCL naCL caCL) ∧ w'.cell? ⟨w.heap.size, 1, none⟩ = some (.slice aaCV naCV caCV) ∧ w'.cell? ⟨w3.heap.size, 0, none⟩ = some (.slice A5aCL naCL naCL) ∧ w'.cell? ⟨w3.heap.size, 1, none⟩ = some (.slice A5aCV naCV naCV))
      (first | with_reducible exact ⟨x2_0, x2_1, x2_2, x2_3⟩ | with_reducible exact ⟨x1_0, x1_1, x1_2, x1_3⟩ | go_keep)
      (first
        | (go_at_call 18; refine (toCurve_calls _ _ _ _ _ _ _ _ _ ((raCL.below d5).below (by go_grown)) haCL ((raCV.below d5).below (by go_grown)) haCV).mono ?_; rintro e v1 ⟨B0, B1, u0, rfl, ob0, ob1, -, b1⟩; have q1 : Below w5.heap.size w5 v1 := Below.trans (by go_grown) (b1.mono (by simp)); have x1_0 := (q1.cell (p := ⟨w.heap.size, 0, none⟩) lA).trans ka0; have x1_1 := (q1.cell (p := ⟨w.heap.size, 1, none⟩) lA).trans ka1; have x1_2 := (q1.cell (p := ⟨w3.heap.size, 0, none⟩) lX).trans kx0; have x1_3 := (q1.cell (p := ⟨w3.heap.size, 1, none⟩) lX).trans kx1)
        | (go_at_call 21; refine (eqCurve_calls _ _ _ _ _ _ _ _ _ _ _ _ _ ((o5aCL.rd len_cInt64).below (Below.trans q1 (Below.mono (by go_grown) q1.size))) ((ob0.rd len_cInt64).below (by go_grown)) haCL ((o5aCV.rd len_cInt64).below (Below.trans q1 (Below.mono (by go_grown) q1.size))) ((ob1.rd len_cInt64).below (by go_grown)) haCV).mono ?_; rintro e v2 ⟨rfl, b2⟩; have q2 : Below w5.heap.size w5 v2 := Below.trans q1 (Below.trans (Below.mono (B := v1.heap.size) (by go_grown) q1.size) (b2.mono (by have := q1.size; simp; try omega))); have x2_0 := (q2.cell (p := ⟨w.heap.size, 0, none⟩) lA).trans ka0; have x2_1 := (q2.cell (p := ⟨w.heap.size, 1, none⟩) lA).trans ka1; have x2_2 := (q2.cell (p := ⟨w3.heap.size, 0, none⟩) lX).trans kx0; have x2_3 := (q2.cell (p := ⟨w3.heap.size, 1, none⟩) lX).trans kx1))
    all_goals
      go_wp2_with fail
      go_meet
      first | exact ⟨rfl, q2⟩ | exact ⟨rfl, q2.drew⟩ | exact ⟨rfl, bdrewN q2 _⟩
  case rest =>
  obtain ⟨rfl, b10⟩ := hcut
  have qx0 := QX.out
  clear ka0 ka1 kx0 kx1 lA lX GA QX
  obtain ⟨w6, hW⟩ : ∃ W, W = wc := ⟨_, rfl⟩
  subst hW
  replace qx0 := blk_below qx0 b10 (blk_lt qx0)
  have c6 := bnext c5 b10 (Nat.le_refl _)
  have d6 := bbox2 c6
  have s6 := b10.size
  replace o5aCL := o5aCL.below b10
  replace o5aCV := o5aCV.below b10
  replace o6 := o6.below b10
  clear d5
  clear c5
  clear b10
  obtain ⟨k6, f6⟩ := bcell c6
  clear k5 f5
  go_wp2_with fail
  refine (toInt64S_calls _ _ _ _ _ (raOutside.below d6) haOutside).mono ?_
  rintro e w7 ⟨A11, rfl, o11, b11⟩
  replace qx0 := blk_below qx0 b11 (blk_lt qx0)
  have c7 := bnext c6 b11 (Nat.le_refl _)
  have d7 := bbox2 c7
  have s7 := b11.size
  replace o5aCL := o5aCL.below b11
  replace o5aCV := o5aCV.below b11
  replace o6 := o6.below b11
  clear d6
  clear c6
  clear b11
  obtain ⟨k7, f7⟩ := bcell c7
  clear k6 f6
  go_wp2_with fail
  refine (eqInt64S_calls _ _ _ _ _ _ _ _ _ (o6.rd len_cInt64) (o11.rd len_cInt64) haOutside haOutside).mono ?_
  rintro e w8 ⟨rfl, b12⟩
  clear o11
  replace qx0 := blk_below qx0 b12 (blk_lt qx0)
  have c8 := bnext c7 b12 (Nat.le_refl _)
  have d8 := bbox2 c8
  have s8 := b12.size
  replace o5aCL := o5aCL.below b12
  replace o5aCV := o5aCV.below b12
  replace o6 := o6.below b12
  clear d7
  clear c7
  clear b12
  obtain ⟨k8, f8⟩ := bcell c8
  clear k7 f7
  go_wp2_with fail
  go_ret
  exact ⟨rfl, d8⟩
end Go.Proofs.Ytieomdjcnaaopaa
