/- The law on EnoughRate, walked out of the contracts of what it calls. -/
import Derived.Test.YtieomdjcnaaopaaCtl4
import Derived.Deep.RegionHeld3
import Derived.Deep.DeepCutAuto
namespace Go.Proofs.Ytieomdjcnaaopaa
open Go.RowKit
set_option linter.unusedVariables false

set_option maxRecDepth 100000 in
set_option maxHeartbeats 2000000 in
theorem FnExactEnoughRate_calls (aaCL : Option Addr) (naCL caCL : Nat) (xaCL : List Int) (aaCV : Option Addr) (naCV caCV : Nat) (xaCV : List Int) (aW0 : Int) (aW1 : Int) (aVolume : Int) (aaRates : Option Addr) (naRates caRates : Nat) (xaRates : List (Int)) (aaInflows : Option Addr) (naInflows caInflows : Nat) (xaInflows : List (Int)) (aLevel : Int) (w : World)
    (raCL : RdI w aaCL naCL xaCL) (_laCL : naCL ≤ caCL) (_maCL : caCL ≤ maxLen) (_oaCL : ∀ z ∈ xaCL, OkInt64 z) (raCV : RdI w aaCV naCV xaCV) (_laCV : naCV ≤ caCV) (_maCV : caCV ≤ maxLen) (_oaCV : ∀ z ∈ xaCV, OkInt64 z) (_waW0 : (Lit.int .i64 aW0).wf = true) (_waW1 : (Lit.int .i64 aW1).wf = true) (_waVolume : (Lit.int .i64 aVolume).wf = true) (raRates : RdInt64 w aaRates naRates xaRates) (_laRates : naRates ≤ caRates) (_maRates : caRates ≤ maxLen) (_oaRates : ∀ z ∈ xaRates, OkInt64 z) (raInflows : RdInt64 w aaInflows naInflows xaInflows) (_laInflows : naInflows ≤ caInflows) (_maInflows : caInflows ≤ maxLen) (_oaInflows : ∀ z ∈ xaInflows, OkInt64 z) (_waLevel : (Lit.int .i64 aLevel).wf = true) :
    Calls Try.prog 6 #[.agg #[.slice aaCL naCL caCL, .slice aaCV naCV caCV], .agg #[.int .i64 aW0, .int .i64 aW1], .int .i64 aVolume, .slice aaRates naRates caRates, .slice aaInflows naInflows caInflows, .int .i64 aLevel] w fun e w' => e = .returned (.bool true) ∧ Below w.heap.size w w' := by
  by_cases haRates : naRates ≤ 1048576
  case neg =>
    have haRates' : (1048576 : Int) < naRates := by omega
    have _zaRates := _maRates
    unfold maxLen at _zaRates
    go_enter Try.func6, Try.ntmps6
    go_wp2
    go_ret
    exact ⟨rfl, (((Below.refl _ _).alloc (Nat.le_refl _) _).alloc (by simp) _)⟩
  by_cases haInflows : naInflows ≤ 1048576
  case neg =>
    have haInflows' : (1048576 : Int) < naInflows := by omega
    have _zaInflows := _maInflows
    unfold maxLen at _zaInflows
    go_enter Try.func6, Try.ntmps6
    go_wp2
    go_ret
    exact ⟨rfl, (((Below.refl _ _).alloc (Nat.le_refl _) _).alloc (by simp) _)⟩
  go_enter Try.func6, Try.ntmps6
  go_wp2_with fail
  have _zaCL := _maCL
  unfold maxLen at _zaCL
  have _zaCV := _maCV
  unfold maxLen at _zaCV
  refine (szCurve_calls _ _ _ _ _ _ _ _ (by omega) (by omega) (by omega) (by omega)).mono ?_
  rintro e w1 ⟨l1, rfl, hs1, b1⟩
  have c1 := b1
  have d1 := bbox2 b1
  have s1 := b1.size
  clear b1
  obtain ⟨k1, f1⟩ := bcell c1
  rcases hs1 with ⟨hs1, rfl⟩ | ⟨hs1, rfl⟩
  case inl =>
    go_wp2_with fail
    go_ret
    exact ⟨rfl, d1⟩
  have haCL : naCL ≤ 1048576 := by omega
  have haCV : naCV ≤ 1048576 := by omega
  clear _zaCL _zaCV
  go_upto_region 9 with fail
  have gb_aC := blk_below (blk_alloc (heap_alloc_new w (.cells #[.slice aaCL naCL caCL, .slice aaCV naCV caCV] 24)) (.cells #[.int .i64 aW0, .int .i64 aW1] 37)) c1 (by simp <;> omega)
  have lb_aC := blk_lt gb_aC
  have kb_aC0 : w1.cell? ⟨w.heap.size, 0, none⟩ = some (.slice aaCL naCL caCL) := blk_cell gb_aC 0
  have kb_aC1 : w1.cell? ⟨w.heap.size, 1, none⟩ = some (.slice aaCV naCV caCV) := blk_cell gb_aC 1
  have GB_aC := hd gb_aC
  clear gb_aC
  have gb_aW := blk_below (two_blk' w (.cells #[.slice aaCL naCL caCL, .slice aaCV naCV caCV] 24) (.cells #[.int .i64 aW0, .int .i64 aW1] 37)).2.1 c1 (by simp <;> omega)
  have lb_aW := blk_lt gb_aW
  have kb_aW0 : w1.cell? ⟨w.heap.size + 1, 0, none⟩ = some (.int .i64 aW0) := blk_cell gb_aW 0
  have kb_aW1 : w1.cell? ⟨w.heap.size + 1, 1, none⟩ = some (.int .i64 aW1) := blk_cell gb_aW 1
  have GB_aW := hd gb_aW
  clear gb_aW
  go_region_held3 (fun w' => w'.cell? ⟨w.heap.size, 0, none⟩ = some (.slice aaCL naCL caCL) ∧ w'.cell? ⟨w.heap.size, 1, none⟩ = some (.slice aaCV naCV caCV) ∧ w'.cell? ⟨w.heap.size + 1, 0, none⟩ = some (.int .i64 aW0) ∧ w'.cell? ⟨w.heap.size + 1, 1, none⟩ = some (.int .i64 aW1))
      (first | with_reducible exact ⟨x5_0, x5_1, x5_2, x5_3⟩ | with_reducible exact ⟨x4_0, x4_1, x4_2, x4_3⟩ | with_reducible exact ⟨x3_0, x3_1, x3_2, x3_3⟩ | with_reducible exact ⟨x2_0, x2_1, x2_2, x2_3⟩ | with_reducible exact ⟨x1_0, x1_1, x1_2, x1_3⟩ | go_keep)
      (first
        | (go_at_call 18; (with_reducible refine (toCurve_calls _ _ _ _ _ _ _ _ _ ((raCL.below d1).below (by go_grown)) haCL ((raCV.below d1).below (by go_grown)) haCV).mono ?_); rintro e v1 ⟨A2aCL, A2aCV, U2_0, rfl, o2aCL, o2aCV, -, b1⟩; have q1 : Below w1.heap.size w1 v1 := Below.trans (by go_grown) (b1.mono (by simp)); have x1_0 := (q1.cell (p := ⟨w.heap.size, 0, none⟩) lb_aC).trans kb_aC0; have x1_1 := (q1.cell (p := ⟨w.heap.size, 1, none⟩) lb_aC).trans kb_aC1; have x1_2 := (q1.cell (p := ⟨w.heap.size + 1, 0, none⟩) lb_aW).trans kb_aW0; have x1_3 := (q1.cell (p := ⟨w.heap.size + 1, 1, none⟩) lb_aW).trans kb_aW1)
        | (go_at_call 25; (with_reducible refine (toSwitch_calls _ _ _).mono ?_); rintro e v2 ⟨rfl, b2⟩; have q2 : Below w1.heap.size w1 v2 := Below.trans q1 (Below.trans (Below.mono (B := v1.heap.size) (by go_grown) q1.size) (b2.mono (by have := q1.size; simp; try omega))); have x2_0 := (q2.cell (p := ⟨w.heap.size, 0, none⟩) lb_aC).trans kb_aC0; have x2_1 := (q2.cell (p := ⟨w.heap.size, 1, none⟩) lb_aC).trans kb_aC1; have x2_2 := (q2.cell (p := ⟨w.heap.size + 1, 0, none⟩) lb_aW).trans kb_aW0; have x2_3 := (q2.cell (p := ⟨w.heap.size + 1, 1, none⟩) lb_aW).trans kb_aW1)
        | (go_at_call 26; (with_reducible refine (toInt64S_calls _ _ _ xaRates _ ((raRates.below d1).below q2) haRates).mono ?_); rintro e v3 ⟨A2aRates, rfl, o2aRates, b3⟩; have q3 : Below w1.heap.size w1 v3 := Below.trans q2 (Below.trans (Below.mono (B := v2.heap.size) (by go_grown) q2.size) (b3.mono (by have := q2.size; simp; try omega))); have x3_0 := (q3.cell (p := ⟨w.heap.size, 0, none⟩) lb_aC).trans kb_aC0; have x3_1 := (q3.cell (p := ⟨w.heap.size, 1, none⟩) lb_aC).trans kb_aC1; have x3_2 := (q3.cell (p := ⟨w.heap.size + 1, 0, none⟩) lb_aW).trans kb_aW0; have x3_3 := (q3.cell (p := ⟨w.heap.size + 1, 1, none⟩) lb_aW).trans kb_aW1)
        | (go_at_call 26; (with_reducible refine (toInt64S_calls _ _ _ xaInflows _ ((raInflows.below d1).below q3) haInflows).mono ?_); rintro e v4 ⟨A2aInflows, rfl, o2aInflows, b4⟩; have q4 : Below w1.heap.size w1 v4 := Below.trans q3 (Below.trans (Below.mono (B := v3.heap.size) (by go_grown) q3.size) (b4.mono (by have := q3.size; simp; try omega))); have x4_0 := (q4.cell (p := ⟨w.heap.size, 0, none⟩) lb_aC).trans kb_aC0; have x4_1 := (q4.cell (p := ⟨w.heap.size, 1, none⟩) lb_aC).trans kb_aC1; have x4_2 := (q4.cell (p := ⟨w.heap.size + 1, 0, none⟩) lb_aW).trans kb_aW0; have x4_3 := (q4.cell (p := ⟨w.heap.size + 1, 1, none⟩) lb_aW).trans kb_aW1)
        | (go_at_call 29; (with_reducible refine (specEnoughRate_calls _ _ _ _ _ _ _ _ _ _ _ _ _ _ _ _ _ _ _ _ _ ((((o2aCL.rd len_cInt64).below b2).below b3).below b4) haCL ((((o2aCV.rd len_cInt64).below b2).below b3).below b4) haCV ((o2aRates.rd len_cInt64).below b4) haRates (o2aInflows.rd len_cInt64) haInflows).mono ?_); rintro e v5 ⟨rfl, b5⟩; have q5 : Below w1.heap.size w1 v5 := Below.trans q4 (Below.trans (Below.mono (B := v4.heap.size) (by go_grown) q4.size) (b5.mono (by have := q4.size; simp; try omega))); have x5_0 := (q5.cell (p := ⟨w.heap.size, 0, none⟩) lb_aC).trans kb_aC0; have x5_1 := (q5.cell (p := ⟨w.heap.size, 1, none⟩) lb_aC).trans kb_aC1; have x5_2 := (q5.cell (p := ⟨w.heap.size + 1, 0, none⟩) lb_aW).trans kb_aW0; have x5_3 := (q5.cell (p := ⟨w.heap.size + 1, 1, none⟩) lb_aW).trans kb_aW1))
  have b4r := q5
  clear q1 q2 q3 q4 q5 x1_0 x1_1 x1_2 x1_3 x2_0 x2_1 x2_2 x2_3 x3_0 x3_1 x3_2 x3_3 x4_0 x4_1 x4_2 x4_3 x5_0 x5_1 x5_2 x5_3
  clear kb_aC0 kb_aC1 kb_aW0 kb_aW1
  clear GB_aC lb_aC
  clear GB_aW lb_aW
  clear o2aCL
  clear o2aCV
  clear o2aRates
  clear o2aInflows
  clear b1 b2 b3 b4 b5
  obtain ⟨w2, hW⟩ : ∃ W, W = v5 := ⟨_, rfl⟩
  subst hW
  have c2 := bnext c1 b4r (Nat.le_refl _)
  have d2 := bbox2 c2
  have s2 := b4r.size
  clear d1
  clear c1
  clear b4r
  obtain ⟨k2, f2⟩ := bcell c2
  clear k1 f1
  go_wp2_with fail
  refine (toCurve_calls _ _ _ _ _ _ _ _ _ (raCL.below d2) haCL (raCV.below d2) haCV).mono ?_
  rintro e w3 ⟨A5aCL, A5aCV, U5_0, rfl, o5aCL, o5aCV, ⟨u5_0, u5_1⟩, b5⟩
  have c3 := bnext c2 b5 (Nat.le_refl _)
  have d3 := bbox2 c3
  have s3 := b5.size
  clear d2
  clear c2
  clear b5
  obtain ⟨k3, f3⟩ := bcell c3
  clear k2 f2
  go_wp2_with fail
  refine (toInt64S_calls _ _ _ _ _ ((raRates.below d3).alloc _) haRates).mono ?_
  rintro e w4 ⟨A6, rfl, o6, b6⟩
  have qx0 := box_q b6
  replace b6 := bbox1 b6
  have c4 := bnext c3 b6 (Nat.le_refl _)
  have d4 := bbox2 c4
  have s4 := b6.size
  replace o5aCL := o5aCL.below b6
  replace o5aCV := o5aCV.below b6
  clear d3
  clear c3
  clear b6
  obtain ⟨k4, f4⟩ := bcell c4
  clear k3 f3
  replace o6 := o6.mono (L' := w3.heap.size) (by simp) (Nat.le_refl _)
  go_wp2_with fail
  refine (toInt64S_calls _ _ _ _ _ (raInflows.below d4) haInflows).mono ?_
  rintro e w5 ⟨A7, rfl, o7, b7⟩
  replace qx0 := blk_below qx0 b7 (blk_lt qx0)
  have c5 := bnext c4 b7 (Nat.le_refl _)
  have d5 := bbox2 c5
  have s5 := b7.size
  replace o5aCL := o5aCL.below b7
  replace o5aCV := o5aCV.below b7
  replace o6 := o6.below b7
  clear d4
  clear c4
  clear b7
  obtain ⟨k5, f5⟩ := bcell c5
  clear k4 f4
  go_upto_region 13 with fail
  have lb_x0 := blk_lt qx0
  have kb_x00 : w5.cell? ⟨w3.heap.size, 0, none⟩ = some (.slice A5aCL naCL naCL) := blk_cell qx0 0
  have kb_x01 : w5.cell? ⟨w3.heap.size, 1, none⟩ = some (.slice A5aCV naCV naCV) := blk_cell qx0 1
  have GB_x0 := hd qx0
  clear qx0
  have gb_aW := blk_below (two_blk' w (.cells #[.slice aaCL naCL caCL, .slice aaCV naCV caCV] 24) (.cells #[.int .i64 aW0, .int .i64 aW1] 37)).2.1 c5 (by simp <;> omega)
  have lb_aW := blk_lt gb_aW
  have kb_aW0 : w5.cell? ⟨w.heap.size + 1, 0, none⟩ = some (.int .i64 aW0) := blk_cell gb_aW 0
  have kb_aW1 : w5.cell? ⟨w.heap.size + 1, 1, none⟩ = some (.int .i64 aW1) := blk_cell gb_aW 1
  have GB_aW := hd gb_aW
  clear gb_aW
  go_region_held3 (fun w' => w'.cell? ⟨w3.heap.size, 0, none⟩ = some (.slice A5aCL naCL naCL) ∧ w'.cell? ⟨w3.heap.size, 1, none⟩ = some (.slice A5aCV naCV naCV) ∧ w'.cell? ⟨w.heap.size + 1, 0, none⟩ = some (.int .i64 aW0) ∧ w'.cell? ⟨w.heap.size + 1, 1, none⟩ = some (.int .i64 aW1))
      (first | with_reducible exact ⟨x2_0, x2_1, x2_2, x2_3⟩ | with_reducible exact ⟨x1_0, x1_1, x1_2, x1_3⟩ | go_keep)
      (first
        | (go_at_call 25; (with_reducible refine (toSwitch_calls _ _ _).mono ?_); rintro e v1 ⟨rfl, b1⟩; have q1 : Below w5.heap.size w5 v1 := Below.trans (by go_grown) (b1.mono (by simp)); have x1_0 := (q1.cell (p := ⟨w3.heap.size, 0, none⟩) lb_x0).trans kb_x00; have x1_1 := (q1.cell (p := ⟨w3.heap.size, 1, none⟩) lb_x0).trans kb_x01; have x1_2 := (q1.cell (p := ⟨w.heap.size + 1, 0, none⟩) lb_aW).trans kb_aW0; have x1_3 := (q1.cell (p := ⟨w.heap.size + 1, 1, none⟩) lb_aW).trans kb_aW1)
        | (go_at_call 30; (with_reducible refine (EnoughRate_calls _ _ _ _ _ _ _ _ _ _ _ _ _ _ _ _ _ _ _ _ _ ((o5aCL.rd len_cInt64).below q1) haCL ((o5aCV.rd len_cInt64).below q1) haCV ((o6.rd len_cInt64).below q1) haRates ((o7.rd len_cInt64).below q1) haInflows).mono ?_); rintro e v2 ⟨rfl, b2⟩; have q2 : Below w5.heap.size w5 v2 := Below.trans q1 (Below.trans (Below.mono (B := v1.heap.size) (by go_grown) q1.size) (b2.mono (by have := q1.size; simp; try omega))); have x2_0 := (q2.cell (p := ⟨w3.heap.size, 0, none⟩) lb_x0).trans kb_x00; have x2_1 := (q2.cell (p := ⟨w3.heap.size, 1, none⟩) lb_x0).trans kb_x01; have x2_2 := (q2.cell (p := ⟨w.heap.size + 1, 0, none⟩) lb_aW).trans kb_aW0; have x2_3 := (q2.cell (p := ⟨w.heap.size + 1, 1, none⟩) lb_aW).trans kb_aW1))
  have b10r := q2
  clear q1 q2 x1_0 x1_1 x1_2 x1_3 x2_0 x2_1 x2_2 x2_3
  clear kb_x00 kb_x01 kb_aW0 kb_aW1
  have qx0 := GB_x0.out
  clear GB_x0 lb_x0
  clear GB_aW lb_aW
  clear b1 b2
  obtain ⟨w6, hW⟩ : ∃ W, W = v2 := ⟨_, rfl⟩
  subst hW
  replace qx0 := blk_below qx0 b10r (blk_lt qx0)
  have c6 := bnext c5 b10r (Nat.le_refl _)
  have d6 := bbox2 c6
  have s6 := b10r.size
  replace o5aCL := o5aCL.below b10r
  replace o5aCV := o5aCV.below b10r
  replace o6 := o6.below b10r
  replace o7 := o7.below b10r
  clear d5
  clear c5
  clear b10r
  obtain ⟨k6, f6⟩ := bcell c6
  clear k5 f5
  go_upto_region 16 with fail
  have ga := blk_below (blk_alloc (heap_alloc_new w (.cells #[.slice aaCL naCL caCL, .slice aaCV naCV caCV] 24)) (.cells #[.int .i64 aW0, .int .i64 aW1] 37)) c6 (by simp <;> omega)
  have lA := blk_lt ga
  have lX := blk_lt qx0
  obtain ⟨gX, hX⟩ : ∃ G, G = w3.heap.size := ⟨_, rfl⟩
  have QX := hd qx0
  rw [← hX] at lX
  have ka0 : w6.cell? ⟨w.heap.size, 0, none⟩ = some (.slice aaCL naCL caCL) := blk_cell ga 0
  have ka1 : w6.cell? ⟨w.heap.size, 1, none⟩ = some (.slice aaCV naCV caCV) := blk_cell ga 1
  have kx0 : w6.cell? ⟨w3.heap.size, 0, none⟩ = some (.slice A5aCL naCL naCL) := blk_cell qx0 0
  have kx1 : w6.cell? ⟨w3.heap.size, 1, none⟩ = some (.slice A5aCV naCV naCV) := blk_cell qx0 1
  rw [hX] at lX
  clear hX gX
  have GA := hd ga
  clear ga qx0
  go_cut [75] (fun s wx => s = .bool false ∧ Below w6.heap.size w6 wx)
  case first =>
    have nka0 := World.new_ne w6 _ ka0
    have nka1 := World.new_ne w6 _ ka1
    have nkx0 := World.new_ne w6 _ kx0
    have nkx1 := World.new_ne w6 _ kx1
    go_region_held3 (fun w' => w'.cell? ⟨w.heap.size, 0, none⟩ = some (.slice aaCL naCL caCL) ∧ w'.cell? ⟨w.heap.size, 1, none⟩ = some (.slice aaCV naCV caCV) ∧ w'.cell? ⟨w3.heap.size, 0, none⟩ = some (.slice A5aCL naCL naCL) ∧ w'.cell? ⟨w3.heap.size, 1, none⟩ = some (.slice A5aCV naCV naCV))
      (first | with_reducible exact ⟨x2_0, x2_1, x2_2, x2_3⟩ | with_reducible exact ⟨x1_0, x1_1, x1_2, x1_3⟩ | go_keep)
      (first
        | (go_at_call 18; refine (toCurve_calls _ _ _ _ _ _ _ _ _ ((raCL.below d6).below (by go_grown)) haCL ((raCV.below d6).below (by go_grown)) haCV).mono ?_; rintro e v1 ⟨B0, B1, u0, rfl, ob0, ob1, -, b1⟩; have q1 : Below w6.heap.size w6 v1 := Below.trans (by go_grown) (b1.mono (by simp)); have x1_0 := (q1.cell (p := ⟨w.heap.size, 0, none⟩) lA).trans ka0; have x1_1 := (q1.cell (p := ⟨w.heap.size, 1, none⟩) lA).trans ka1; have x1_2 := (q1.cell (p := ⟨w3.heap.size, 0, none⟩) lX).trans kx0; have x1_3 := (q1.cell (p := ⟨w3.heap.size, 1, none⟩) lX).trans kx1)
        | (go_at_call 21; refine (eqCurve_calls _ _ _ _ _ _ _ _ _ _ _ _ _ ((o5aCL.rd len_cInt64).below (Below.trans q1 (Below.mono (by go_grown) q1.size))) ((ob0.rd len_cInt64).below (by go_grown)) haCL ((o5aCV.rd len_cInt64).below (Below.trans q1 (Below.mono (by go_grown) q1.size))) ((ob1.rd len_cInt64).below (by go_grown)) haCV).mono ?_; rintro e v2 ⟨rfl, b2⟩; have q2 : Below w6.heap.size w6 v2 := Below.trans q1 (Below.trans (Below.mono (B := v1.heap.size) (by go_grown) q1.size) (b2.mono (by have := q1.size; simp; try omega))); have x2_0 := (q2.cell (p := ⟨w.heap.size, 0, none⟩) lA).trans ka0; have x2_1 := (q2.cell (p := ⟨w.heap.size, 1, none⟩) lA).trans ka1; have x2_2 := (q2.cell (p := ⟨w3.heap.size, 0, none⟩) lX).trans kx0; have x2_3 := (q2.cell (p := ⟨w3.heap.size, 1, none⟩) lX).trans kx1))
    all_goals
      go_wp2_with fail
      go_meet
      first | exact ⟨rfl, q2⟩ | exact ⟨rfl, q2.drew⟩ | exact ⟨rfl, bdrewN q2 _⟩
  case rest =>
  obtain ⟨rfl, b11⟩ := hcut
  have qx0 := QX.out
  clear ka0 ka1 kx0 kx1 lA lX GA QX
  obtain ⟨w7, hW⟩ : ∃ W, W = wc := ⟨_, rfl⟩
  subst hW
  replace qx0 := blk_below qx0 b11 (blk_lt qx0)
  have c7 := bnext c6 b11 (Nat.le_refl _)
  have d7 := bbox2 c7
  have s7 := b11.size
  replace o5aCL := o5aCL.below b11
  replace o5aCV := o5aCV.below b11
  replace o6 := o6.below b11
  replace o7 := o7.below b11
  clear d6
  clear c6
  clear b11
  obtain ⟨k7, f7⟩ := bcell c7
  clear k6 f6
  go_wp2_with fail
  refine (toInt64S_calls _ _ _ _ _ (raRates.below d7) haRates).mono ?_
  rintro e w8 ⟨A12, rfl, o12, b12⟩
  replace qx0 := blk_below qx0 b12 (blk_lt qx0)
  have c8 := bnext c7 b12 (Nat.le_refl _)
  have d8 := bbox2 c8
  have s8 := b12.size
  replace o5aCL := o5aCL.below b12
  replace o5aCV := o5aCV.below b12
  replace o6 := o6.below b12
  replace o7 := o7.below b12
  clear d7
  clear c7
  clear b12
  obtain ⟨k8, f8⟩ := bcell c8
  clear k7 f7
  go_wp2_with fail
  refine (eqInt64S_calls _ _ _ _ _ _ _ _ _ (o6.rd len_cInt64) (o12.rd len_cInt64) haRates haRates).mono ?_
  rintro e w9 ⟨rfl, b13⟩
  clear o12
  replace qx0 := blk_below qx0 b13 (blk_lt qx0)
  have c9 := bnext c8 b13 (Nat.le_refl _)
  have d9 := bbox2 c9
  have s9 := b13.size
  replace o5aCL := o5aCL.below b13
  replace o5aCV := o5aCV.below b13
  replace o6 := o6.below b13
  replace o7 := o7.below b13
  clear d8
  clear c8
  clear b13
  obtain ⟨k9, f9⟩ := bcell c9
  clear k8 f8
  go_wp2_with fail
  refine (toInt64S_calls _ _ _ _ _ (raInflows.below d9) haInflows).mono ?_
  rintro e w10 ⟨A14, rfl, o14, b14⟩
  replace qx0 := blk_below qx0 b14 (blk_lt qx0)
  have c10 := bnext c9 b14 (Nat.le_refl _)
  have d10 := bbox2 c10
  have s10 := b14.size
  replace o5aCL := o5aCL.below b14
  replace o5aCV := o5aCV.below b14
  replace o6 := o6.below b14
  replace o7 := o7.below b14
  clear d9
  clear c9
  clear b14
  obtain ⟨k10, f10⟩ := bcell c10
  clear k9 f9
  go_wp2_with fail
  refine (eqInt64S_calls _ _ _ _ _ _ _ _ _ (o7.rd len_cInt64) (o14.rd len_cInt64) haInflows haInflows).mono ?_
  rintro e w11 ⟨rfl, b15⟩
  clear o14
  replace qx0 := blk_below qx0 b15 (blk_lt qx0)
  have c11 := bnext c10 b15 (Nat.le_refl _)
  have d11 := bbox2 c11
  have s11 := b15.size
  replace o5aCL := o5aCL.below b15
  replace o5aCV := o5aCV.below b15
  replace o6 := o6.below b15
  replace o7 := o7.below b15
  clear d10
  clear c10
  clear b15
  obtain ⟨k11, f11⟩ := bcell c11
  clear k10 f10
  go_wp2_with fail
  go_ret
  exact ⟨rfl, d11⟩
end Go.Proofs.Ytieomdjcnaaopaa
