/- The law on RunControl, walked out of the contracts of what it calls. -/
import Derived.Test.YtieomdjcnaaopaaCtl3
import Derived.Deep.RegionHeld3
import Derived.Deep.DeepCutAuto
namespace Go.Proofs.Ytieomdjcnaaopaa
open Go.RowKit
set_option linter.unusedVariables false

set_option maxRecDepth 100000 in
set_option maxHeartbeats 2000000 in
theorem FnExactRunControl_calls (aaCL : Option Addr) (naCL caCL : Nat) (xaCL : List Int) (aaCV : Option Addr) (naCV caCV : Nat) (xaCV : List Int) (aW0 : Int) (aW1 : Int) (aVolume : Int) (aRate : Int) (aaInflows : Option Addr) (naInflows caInflows : Nat) (xaInflows : List (Int)) (w : World)
    (raCL : RdI w aaCL naCL xaCL) (_laCL : naCL ≤ caCL) (_maCL : caCL ≤ maxLen) (_oaCL : ∀ z ∈ xaCL, OkInt64 z) (raCV : RdI w aaCV naCV xaCV) (_laCV : naCV ≤ caCV) (_maCV : caCV ≤ maxLen) (_oaCV : ∀ z ∈ xaCV, OkInt64 z) (_waW0 : (Lit.int .i64 aW0).wf = true) (_waW1 : (Lit.int .i64 aW1).wf = true) (_waVolume : (Lit.int .i64 aVolume).wf = true) (_waRate : (Lit.int .i64 aRate).wf = true) (raInflows : RdInt64 w aaInflows naInflows xaInflows) (_laInflows : naInflows ≤ caInflows) (_maInflows : caInflows ≤ maxLen) (_oaInflows : ∀ z ∈ xaInflows, OkInt64 z) :
    Calls Try.prog 11 #[.agg #[.slice aaCL naCL caCL, .slice aaCV naCV caCV], .agg #[.int .i64 aW0, .int .i64 aW1], .int .i64 aVolume, .int .i64 aRate, .slice aaInflows naInflows caInflows] w fun e w' => e = .returned (.bool true) ∧ Below w.heap.size w w' := by
  by_cases haInflows : naInflows ≤ 1048576
  case neg =>
    have haInflows' : (1048576 : Int) < naInflows := by omega
    have _zaInflows := _maInflows
    unfold maxLen at _zaInflows
    go_enter Try.func11, Try.ntmps11
    go_wp2
    go_ret
    exact ⟨rfl, (((Below.refl _ _).alloc (Nat.le_refl _) _).alloc (by simp) _)⟩
  go_enter Try.func11, Try.ntmps11
  go_wp2_with fail
  have _zaCL := _maCL
  unfold maxLen at _zaCL
  have _zaCV := _maCV
  unfold maxLen at _zaCV
  refine (szCurve_calls _ _ _ _ _ _ _ _ (by omega) (by omega) (by omega) (by omega)).mono ?_
  rintro e w1 ⟨l1, rfl, hs1, b1⟩
  have c1 := b1
  have d1 := bbox2 b1
  have s1 := b1.size
  clear b1
  obtain ⟨k1, f1⟩ := bcell c1
  rcases hs1 with ⟨hs1, rfl⟩ | ⟨hs1, rfl⟩
  case inl =>
    go_wp2_with fail
    go_ret
    exact ⟨rfl, d1⟩
  have haCL : naCL ≤ 1048576 := by omega
  have haCV : naCV ≤ 1048576 := by omega
  clear _zaCL _zaCV
  go_upto_region 7 with fail
  have gb_aC := blk_below (blk_alloc (heap_alloc_new w (.cells #[.slice aaCL naCL caCL, .slice aaCV naCV caCV] 24)) (.cells #[.int .i64 aW0, .int .i64 aW1] 37)) c1 (by simp <;> omega)
  have lb_aC := blk_lt gb_aC
  have kb_aC0 : w1.cell? ⟨w.heap.size, 0, none⟩ = some (.slice aaCL naCL caCL) := blk_cell gb_aC 0
  have kb_aC1 : w1.cell? ⟨w.heap.size, 1, none⟩ = some (.slice aaCV naCV caCV) := blk_cell gb_aC 1
  have GB_aC := hd gb_aC
  clear gb_aC
  have gb_aW := blk_below (two_blk' w (.cells #[.slice aaCL naCL caCL, .slice aaCV naCV caCV] 24) (.cells #[.int .i64 aW0, .int .i64 aW1] 37)).2.1 c1 (by simp <;> omega)
  have lb_aW := blk_lt gb_aW
  have kb_aW0 : w1.cell? ⟨w.heap.size + 1, 0, none⟩ = some (.int .i64 aW0) := blk_cell gb_aW 0
  have kb_aW1 : w1.cell? ⟨w.heap.size + 1, 1, none⟩ = some (.int .i64 aW1) := blk_cell gb_aW 1
  have GB_aW := hd gb_aW
  clear gb_aW
  go_region_held3 (fun w' => w'.cell? ⟨w.heap.size, 0, none⟩ = some (.slice aaCL naCL caCL) ∧ w'.cell? ⟨w.heap.size, 1, none⟩ = some (.slice aaCV naCV caCV) ∧ w'.cell? ⟨w.heap.size + 1, 0, none⟩ = some (.int .i64 aW0) ∧ w'.cell? ⟨w.heap.size + 1, 1, none⟩ = some (.int .i64 aW1))
      (first | with_reducible exact ⟨x4_0, x4_1, x4_2, x4_3⟩ | with_reducible exact ⟨x3_0, x3_1, x3_2, x3_3⟩ | with_reducible exact ⟨x2_0, x2_1, x2_2, x2_3⟩ | with_reducible exact ⟨x1_0, x1_1, x1_2, x1_3⟩ | go_keep)
      (first
        | (go_at_call 18; (with_reducible refine (toCurve_calls _ _ _ _ _ _ _ _ _ ((raCL.below d1).below (by go_grown)) haCL ((raCV.below d1).below (by go_grown)) haCV).mono ?_); rintro e v1 ⟨A2aCL, A2aCV, U2_0, rfl, o2aCL, o2aCV, -, b1⟩; have q1 : Below w1.heap.size w1 v1 := Below.trans (by go_grown) (b1.mono (by simp)); have x1_0 := (q1.cell (p := ⟨w.heap.size, 0, none⟩) lb_aC).trans kb_aC0; have x1_1 := (q1.cell (p := ⟨w.heap.size, 1, none⟩) lb_aC).trans kb_aC1; have x1_2 := (q1.cell (p := ⟨w.heap.size + 1, 0, none⟩) lb_aW).trans kb_aW0; have x1_3 := (q1.cell (p := ⟨w.heap.size + 1, 1, none⟩) lb_aW).trans kb_aW1)
        | (go_at_call 25; (with_reducible refine (toSwitch_calls _ _ _).mono ?_); rintro e v2 ⟨rfl, b2⟩; have q2 : Below w1.heap.size w1 v2 := Below.trans q1 (Below.trans (Below.mono (B := v1.heap.size) (by go_grown) q1.size) (b2.mono (by have := q1.size; simp; try omega))); have x2_0 := (q2.cell (p := ⟨w.heap.size, 0, none⟩) lb_aC).trans kb_aC0; have x2_1 := (q2.cell (p := ⟨w.heap.size, 1, none⟩) lb_aC).trans kb_aC1; have x2_2 := (q2.cell (p := ⟨w.heap.size + 1, 0, none⟩) lb_aW).trans kb_aW0; have x2_3 := (q2.cell (p := ⟨w.heap.size + 1, 1, none⟩) lb_aW).trans kb_aW1)
        | (go_at_call 26; (with_reducible refine (toInt64S_calls _ _ _ xaInflows _ ((raInflows.below d1).below q2) haInflows).mono ?_); rintro e v3 ⟨A2aInflows, rfl, o2aInflows, b3⟩; have q3 : Below w1.heap.size w1 v3 := Below.trans q2 (Below.trans (Below.mono (B := v2.heap.size) (by go_grown) q2.size) (b3.mono (by have := q2.size; simp; try omega))); have x3_0 := (q3.cell (p := ⟨w.heap.size, 0, none⟩) lb_aC).trans kb_aC0; have x3_1 := (q3.cell (p := ⟨w.heap.size, 1, none⟩) lb_aC).trans kb_aC1; have x3_2 := (q3.cell (p := ⟨w.heap.size + 1, 0, none⟩) lb_aW).trans kb_aW0; have x3_3 := (q3.cell (p := ⟨w.heap.size + 1, 1, none⟩) lb_aW).trans kb_aW1)
        | (go_at_call 47; (with_reducible refine (specRunControl_calls _ _ _ _ _ _ _ _ _ _ _ _ _ _ _ _ _ (((o2aCL.rd len_cInt64).below b2).below b3) haCL (((o2aCV.rd len_cInt64).below b2).below b3) haCV (o2aInflows.rd len_cInt64) haInflows).mono ?_); rintro e v4 ⟨A3w0, n3w0, q3w0, rfl, o3w0, h3w0, b4⟩; have q4 : Below w1.heap.size w1 v4 := Below.trans q3 (Below.trans (Below.mono (B := v3.heap.size) (by go_grown) q3.size) (b4.mono (by have := q3.size; simp; try omega))); have x4_0 := (q4.cell (p := ⟨w.heap.size, 0, none⟩) lb_aC).trans kb_aC0; have x4_1 := (q4.cell (p := ⟨w.heap.size, 1, none⟩) lb_aC).trans kb_aC1; have x4_2 := (q4.cell (p := ⟨w.heap.size + 1, 0, none⟩) lb_aW).trans kb_aW0; have x4_3 := (q4.cell (p := ⟨w.heap.size + 1, 1, none⟩) lb_aW).trans kb_aW1))
  have b4r := q4
  replace o3w0 := o3w0.mono (L' := w1.heap.size) q3.size (Nat.le_refl _)
  clear q1 q2 q3 q4 x1_0 x1_1 x1_2 x1_3 x2_0 x2_1 x2_2 x2_3 x3_0 x3_1 x3_2 x3_3 x4_0 x4_1 x4_2 x4_3
  clear kb_aC0 kb_aC1 kb_aW0 kb_aW1
  clear GB_aC lb_aC
  clear GB_aW lb_aW
  clear o2aCL
  clear o2aCV
  clear o2aInflows
  clear b1 b2 b3 b4
  obtain ⟨w2, hW⟩ : ∃ W, W = v4 := ⟨_, rfl⟩
  subst hW
  have c2 := bnext c1 b4r (Nat.le_refl _)
  have d2 := bbox2 c2
  have s2 := b4r.size
  clear d1
  clear c1
  clear b4r
  obtain ⟨k2, f2⟩ := bcell c2
  clear k1 f1
  go_wp2_with fail
  refine (toCurve_calls _ _ _ _ _ _ _ _ _ (raCL.below d2) haCL (raCV.below d2) haCV).mono ?_
  rintro e w3 ⟨A5aCL, A5aCV, U5_0, rfl, o5aCL, o5aCV, ⟨u5_0, u5_1⟩, b5⟩
  have c3 := bnext c2 b5 (Nat.le_refl _)
  have d3 := bbox2 c3
  have s3 := b5.size
  replace o3w0 := o3w0.below b5
  clear d2
  clear c2
  clear b5
  obtain ⟨k3, f3⟩ := bcell c3
  clear k2 f2
  go_wp2_with fail
  refine (toInt64S_calls _ _ _ _ _ ((raInflows.below d3).alloc _) haInflows).mono ?_
  rintro e w4 ⟨A6, rfl, o6, b6⟩
  have qx0 := box_q b6
  replace b6 := bbox1 b6
  have c4 := bnext c3 b6 (Nat.le_refl _)
  have d4 := bbox2 c4
  have s4 := b6.size
  replace o3w0 := o3w0.below b6
  replace o5aCL := o5aCL.below b6
  replace o5aCV := o5aCV.below b6
  clear d3
  clear c3
  clear b6
  obtain ⟨k4, f4⟩ := bcell c4
  clear k3 f3
  replace o6 := o6.mono (L' := w3.heap.size) (by simp) (Nat.le_refl _)
  go_upto_region 10 with fail
  have lb_x0 := blk_lt qx0
  have kb_x00 : w4.cell? ⟨w3.heap.size, 0, none⟩ = some (.slice A5aCL naCL naCL) := blk_cell qx0 0
  have kb_x01 : w4.cell? ⟨w3.heap.size, 1, none⟩ = some (.slice A5aCV naCV naCV) := blk_cell qx0 1
  have GB_x0 := hd qx0
  clear qx0
  have gb_aW := blk_below (two_blk' w (.cells #[.slice aaCL naCL caCL, .slice aaCV naCV caCV] 24) (.cells #[.int .i64 aW0, .int .i64 aW1] 37)).2.1 c4 (by simp <;> omega)
  have lb_aW := blk_lt gb_aW
  have kb_aW0 : w4.cell? ⟨w.heap.size + 1, 0, none⟩ = some (.int .i64 aW0) := blk_cell gb_aW 0
  have kb_aW1 : w4.cell? ⟨w.heap.size + 1, 1, none⟩ = some (.int .i64 aW1) := blk_cell gb_aW 1
  have GB_aW := hd gb_aW
  clear gb_aW
  go_region_held3 (fun w' => w'.cell? ⟨w3.heap.size, 0, none⟩ = some (.slice A5aCL naCL naCL) ∧ w'.cell? ⟨w3.heap.size, 1, none⟩ = some (.slice A5aCV naCV naCV) ∧ w'.cell? ⟨w.heap.size + 1, 0, none⟩ = some (.int .i64 aW0) ∧ w'.cell? ⟨w.heap.size + 1, 1, none⟩ = some (.int .i64 aW1))
      (first | with_reducible exact ⟨x2_0, x2_1, x2_2, x2_3⟩ | with_reducible exact ⟨x1_0, x1_1, x1_2, x1_3⟩ | go_keep)
      (first
        | (go_at_call 25; (with_reducible refine (toSwitch_calls _ _ _).mono ?_); rintro e v1 ⟨rfl, b1⟩; have q1 : Below w4.heap.size w4 v1 := Below.trans (by go_grown) (b1.mono (by simp)); have x1_0 := (q1.cell (p := ⟨w3.heap.size, 0, none⟩) lb_x0).trans kb_x00; have x1_1 := (q1.cell (p := ⟨w3.heap.size, 1, none⟩) lb_x0).trans kb_x01; have x1_2 := (q1.cell (p := ⟨w.heap.size + 1, 0, none⟩) lb_aW).trans kb_aW0; have x1_3 := (q1.cell (p := ⟨w.heap.size + 1, 1, none⟩) lb_aW).trans kb_aW1)
        | (go_at_call 48; (with_reducible refine (RunControl_calls _ _ _ _ _ _ _ _ _ _ _ _ _ _ _ _ _ ((o5aCL.rd len_cInt64).below q1) haCL ((o5aCV.rd len_cInt64).below q1) haCV ((o6.rd len_cInt64).below q1) haInflows).mono ?_); rintro e v2 ⟨A8g0, n8g0, q8g0, rfl, o8g0, h8g0, b2⟩; have q2 : Below w4.heap.size w4 v2 := Below.trans q1 (Below.trans (Below.mono (B := v1.heap.size) (by go_grown) q1.size) (b2.mono (by have := q1.size; simp; try omega))); have x2_0 := (q2.cell (p := ⟨w3.heap.size, 0, none⟩) lb_x0).trans kb_x00; have x2_1 := (q2.cell (p := ⟨w3.heap.size, 1, none⟩) lb_x0).trans kb_x01; have x2_2 := (q2.cell (p := ⟨w.heap.size + 1, 0, none⟩) lb_aW).trans kb_aW0; have x2_3 := (q2.cell (p := ⟨w.heap.size + 1, 1, none⟩) lb_aW).trans kb_aW1))
  have b9r := q2
  replace o8g0 := o8g0.mono (L' := w4.heap.size) q1.size (Nat.le_refl _)
  clear q1 q2 x1_0 x1_1 x1_2 x1_3 x2_0 x2_1 x2_2 x2_3
  clear kb_x00 kb_x01 kb_aW0 kb_aW1
  have qx0 := GB_x0.out
  clear GB_x0 lb_x0
  clear GB_aW lb_aW
  clear b1 b2
  obtain ⟨w5, hW⟩ : ∃ W, W = v2 := ⟨_, rfl⟩
  subst hW
  replace qx0 := blk_below qx0 b9r (blk_lt qx0)
  have c5 := bnext c4 b9r (Nat.le_refl _)
  have d5 := bbox2 c5
  have s5 := b9r.size
  replace o3w0 := o3w0.below b9r
  replace o5aCL := o5aCL.below b9r
  replace o5aCV := o5aCV.below b9r
  replace o6 := o6.below b9r
  clear d4
  clear c4
  clear b9r
  obtain ⟨k5, f5⟩ := bcell c5
  clear k4 f4
  go_wp2_with fail
  refine (eqHourS_calls _ _ _ _ _ _ _ _ _ (o8g0.rd len_cHour) (o3w0.rd len_cHour) h8g0 h3w0).mono ?_
  rintro e w6 ⟨rfl, b10⟩
  replace qx0 := blk_below qx0 b10 (blk_lt qx0)
  have c6 := bnext c5 b10 (Nat.le_refl _)
  have d6 := bbox2 c6
  have s6 := b10.size
  replace o3w0 := o3w0.below b10
  replace o5aCL := o5aCL.below b10
  replace o5aCV := o5aCV.below b10
  replace o6 := o6.below b10
  replace o8g0 := o8g0.below b10
  clear d5
  clear c5
  clear b10
  obtain ⟨k6, f6⟩ := bcell c6
  clear k5 f5
  go_upto_region 13 with fail
  have ga := blk_below (blk_alloc (heap_alloc_new w (.cells #[.slice aaCL naCL caCL, .slice aaCV naCV caCV] 24)) (.cells #[.int .i64 aW0, .int .i64 aW1] 37)) c6 (by simp <;> omega)
  have lA := blk_lt ga
  have lX := blk_lt qx0
  obtain ⟨gX, hX⟩ : ∃ G, G = w3.heap.size := ⟨_, rfl⟩
  have QX := hd qx0
  rw [← hX] at lX
  have ka0 : w6.cell? ⟨w.heap.size, 0, none⟩ = some (.slice aaCL naCL caCL) := blk_cell ga 0
  have ka1 : w6.cell? ⟨w.heap.size, 1, none⟩ = some (.slice aaCV naCV caCV) := blk_cell ga 1
  have kx0 : w6.cell? ⟨w3.heap.size, 0, none⟩ = some (.slice A5aCL naCL naCL) := blk_cell qx0 0
  have kx1 : w6.cell? ⟨w3.heap.size, 1, none⟩ = some (.slice A5aCV naCV naCV) := blk_cell qx0 1
  rw [hX] at lX
  clear hX gX
  have GA := hd ga
  clear ga qx0
  go_cut [70] (fun s wx => s = .bool false ∧ Below w6.heap.size w6 wx)
  case first =>
    have nka0 := World.new_ne w6 _ ka0
    have nka1 := World.new_ne w6 _ ka1
    have nkx0 := World.new_ne w6 _ kx0
    have nkx1 := World.new_ne w6 _ kx1
    go_region_held3 (fun w' => w'.cell? ⟨w.heap.size, 0, none⟩ = some (.slice aaCL naCL caCL) ∧ w'.cell? ⟨w.heap.size, 1, none⟩ = some (.slice aaCV naCV caCV) ∧ w'.cell? ⟨w3.heap.size, 0, none⟩ = some (.slice A5aCL naCL naCL) ∧ w'.cell? ⟨w3.heap.size, 1, none⟩ = some (.slice A5aCV naCV naCV))
      (first | with_reducible exact ⟨x2_0, x2_1, x2_2, x2_3⟩ | with_reducible exact ⟨x1_0, x1_1, x1_2, x1_3⟩ | go_keep)
      (first
        | (go_at_call 18; refine (toCurve_calls _ _ _ _ _ _ _ _ _ ((raCL.below d6).below (by go_grown)) haCL ((raCV.below d6).below (by go_grown)) haCV).mono ?_; rintro e v1 ⟨B0, B1, u0, rfl, ob0, ob1, -, b1⟩; have q1 : Below w6.heap.size w6 v1 := Below.trans (by go_grown) (b1.mono (by simp)); have x1_0 := (q1.cell (p := ⟨w.heap.size, 0, none⟩) lA).trans ka0; have x1_1 := (q1.cell (p := ⟨w.heap.size, 1, none⟩) lA).trans ka1; have x1_2 := (q1.cell (p := ⟨w3.heap.size, 0, none⟩) lX).trans kx0; have x1_3 := (q1.cell (p := ⟨w3.heap.size, 1, none⟩) lX).trans kx1)
        | (go_at_call 21; refine (eqCurve_calls _ _ _ _ _ _ _ _ _ _ _ _ _ ((o5aCL.rd len_cInt64).below (Below.trans q1 (Below.mono (by go_grown) q1.size))) ((ob0.rd len_cInt64).below (by go_grown)) haCL ((o5aCV.rd len_cInt64).below (Below.trans q1 (Below.mono (by go_grown) q1.size))) ((ob1.rd len_cInt64).below (by go_grown)) haCV).mono ?_; rintro e v2 ⟨rfl, b2⟩; have q2 : Below w6.heap.size w6 v2 := Below.trans q1 (Below.trans (Below.mono (B := v1.heap.size) (by go_grown) q1.size) (b2.mono (by have := q1.size; simp; try omega))); have x2_0 := (q2.cell (p := ⟨w.heap.size, 0, none⟩) lA).trans ka0; have x2_1 := (q2.cell (p := ⟨w.heap.size, 1, none⟩) lA).trans ka1; have x2_2 := (q2.cell (p := ⟨w3.heap.size, 0, none⟩) lX).trans kx0; have x2_3 := (q2.cell (p := ⟨w3.heap.size, 1, none⟩) lX).trans kx1))
    all_goals
      go_wp2_with fail
      go_meet
      first | exact ⟨rfl, q2⟩ | exact ⟨rfl, q2.drew⟩ | exact ⟨rfl, bdrewN q2 _⟩
  case rest =>
  obtain ⟨rfl, b11⟩ := hcut
  have qx0 := QX.out
  clear ka0 ka1 kx0 kx1 lA lX GA QX
  obtain ⟨w7, hW⟩ : ∃ W, W = wc := ⟨_, rfl⟩
  subst hW
  replace qx0 := blk_below qx0 b11 (blk_lt qx0)
  have c7 := bnext c6 b11 (Nat.le_refl _)
  have d7 := bbox2 c7
  have s7 := b11.size
  replace o3w0 := o3w0.below b11
  replace o5aCL := o5aCL.below b11
  replace o5aCV := o5aCV.below b11
  replace o6 := o6.below b11
  replace o8g0 := o8g0.below b11
  clear d6
  clear c6
  clear b11
  obtain ⟨k7, f7⟩ := bcell c7
  clear k6 f6
  go_wp2_with fail
  refine (toInt64S_calls _ _ _ _ _ (raInflows.below d7) haInflows).mono ?_
  rintro e w8 ⟨A12, rfl, o12, b12⟩
  replace qx0 := blk_below qx0 b12 (blk_lt qx0)
  have c8 := bnext c7 b12 (Nat.le_refl _)
  have d8 := bbox2 c8
  have s8 := b12.size
  replace o3w0 := o3w0.below b12
  replace o5aCL := o5aCL.below b12
  replace o5aCV := o5aCV.below b12
  replace o6 := o6.below b12
  replace o8g0 := o8g0.below b12
  clear d7
  clear c7
  clear b12
  obtain ⟨k8, f8⟩ := bcell c8
  clear k7 f7
  go_wp2_with fail
  refine (eqInt64S_calls _ _ _ _ _ _ _ _ _ (o6.rd len_cInt64) (o12.rd len_cInt64) haInflows haInflows).mono ?_
  rintro e w9 ⟨rfl, b13⟩
  clear o12
  replace qx0 := blk_below qx0 b13 (blk_lt qx0)
  have c9 := bnext c8 b13 (Nat.le_refl _)
  have d9 := bbox2 c9
  have s9 := b13.size
  replace o3w0 := o3w0.below b13
  replace o5aCL := o5aCL.below b13
  replace o5aCV := o5aCV.below b13
  replace o6 := o6.below b13
  replace o8g0 := o8g0.below b13
  clear d8
  clear c8
  clear b13
  obtain ⟨k9, f9⟩ := bcell c9
  clear k8 f8
  have y0qx0 := blk_cell qx0 0
  have y1qx0 := blk_cell qx0 1
  go_wp2_with fail
  refine (markCurve_calls _ _ _ _ _ _ _ _ _ _ _ _ o5aCL haCL (by omega) _ _ o5aCV haCV (by omega) (by omega) (by omega) (by omega)).mono ?_
  rintro e w11 ⟨w10, rfl, p14_0, g14_0, p14_1, g14_1⟩
  clear y0qx0 y1qx0
  clear qx0
  have c10 := below_only c9 g14_0 (Nat.le_refl _) (fun g hg => by have := o5aCL.row hg; have := c9.size; omega)
  have d10 := bbox2 c10
  have s10 := g14_0.size
  replace o3w0 := o3w0.only g14_0 (fun g hg => by have := o5aCL.row hg; omega)
  replace o5aCV := o5aCV.only g14_0 (fun g hg => by have := o5aCL.row hg; omega)
  replace o6 := o6.only g14_0 (fun g hg => by have := o5aCL.row hg; omega)
  replace o8g0 := o8g0.only g14_0 (fun g hg => by have := o5aCL.row hg; omega)
  clear o5aCL
  clear d9
  clear c9
  clear g14_0
  obtain ⟨k10, f10⟩ := bcell c10
  clear k9 f9
  have c11 := below_only c10 g14_1 (Nat.le_refl _) (fun g hg => by have := o5aCV.row hg; have := c10.size; omega)
  have d11 := bbox2 c11
  have s11 := g14_1.size
  replace o3w0 := o3w0.only g14_1 (fun g hg => by have := o5aCV.row hg; omega)
  replace p14_0 := p14_0.only g14_1 (fun g hg => by have := o5aCV.row hg; omega)
  replace o6 := o6.only g14_1 (fun g hg => by have := o5aCV.row hg; omega)
  replace o8g0 := o8g0.only g14_1 (fun g hg => by have := o5aCV.row hg; omega)
  clear o5aCV
  clear d10
  clear c10
  clear g14_1
  obtain ⟨k11, f11⟩ := bcell c11
  clear k10 f10
  go_wp2_with fail
  refine (markInt64S_calls _ _ _ _ _ _ _ _ o6 haInflows (by omega) (by omega)).mono ?_
  rintro e w12 ⟨rfl, p15, g15⟩
  have c12 := below_only c11 g15 (Nat.le_refl _) (fun g hg => by have := o6.row hg; have := c11.size; omega)
  have d12 := bbox2 c12
  have s12 := g15.size
  replace o3w0 := o3w0.only g15 (fun g hg => by have := o6.row hg; omega)
  replace p14_0 := p14_0.only g15 (fun g hg => by have := o6.row hg; omega)
  replace p14_1 := p14_1.only g15 (fun g hg => by have := o6.row hg; omega)
  replace o8g0 := o8g0.only g15 (fun g hg => by have := o6.row hg; omega)
  clear o6
  clear d11
  clear c11
  clear g15
  obtain ⟨k12, f12⟩ := bcell c12
  clear k11 f11
  go_wp2_with fail
  refine (eqHourS_calls _ _ _ _ _ _ _ _ _ (o8g0.rd len_cHour) (o3w0.rd len_cHour) h8g0 h3w0).mono ?_
  rintro e w13 ⟨rfl, b16⟩
  have c13 := bnext c12 b16 (Nat.le_refl _)
  have d13 := bbox2 c13
  have s13 := b16.size
  replace o3w0 := o3w0.below b16
  replace p14_0 := p14_0.below b16
  replace p14_1 := p14_1.below b16
  replace p15 := p15.below b16
  replace o8g0 := o8g0.below b16
  clear d12
  clear c12
  clear b16
  obtain ⟨k13, f13⟩ := bcell c13
  clear k12 f12
  go_wp2_with fail
  refine (markHourS_calls _ _ _ _ _ _ _ _ o8g0 h8g0 (by omega) (by omega)).mono ?_
  rintro e w14 ⟨rfl, p17, g17⟩
  have c14 := below_only c13 g17 (Nat.le_refl _) (fun g hg => by have := o8g0.row hg; have := c13.size; omega)
  have d14 := bbox2 c14
  have s14 := g17.size
  replace o3w0 := o3w0.only g17 (fun g hg => by have := o8g0.row hg; omega)
  replace p14_0 := p14_0.only g17 (fun g hg => by have := o8g0.row hg; omega)
  replace p14_1 := p14_1.only g17 (fun g hg => by have := o8g0.row hg; omega)
  replace p15 := p15.only g17 (fun g hg => by have := o8g0.row hg; omega)
  clear o8g0
  clear d13
  clear c13
  clear g17
  obtain ⟨k14, f14⟩ := bcell c14
  clear k13 f13
  go_wp2_with fail
  refine (heldHourS_calls _ _ _ _ _ (p17.rd len_cHour) h8g0 (by omega) (by omega)).mono ?_
  rintro e w15 ⟨rfl, b18⟩
  have c15 := bnext c14 b18 (Nat.le_refl _)
  have d15 := bbox2 c15
  have s15 := b18.size
  replace o3w0 := o3w0.below b18
  replace p14_0 := p14_0.below b18
  replace p14_1 := p14_1.below b18
  replace p15 := p15.below b18
  replace p17 := p17.below b18
  clear d14
  clear c14
  clear b18
  obtain ⟨k15, f15⟩ := bcell c15
  clear k14 f14
  go_upto_region 30 with fail
  have gb_aC := blk_below (blk_alloc (heap_alloc_new w (.cells #[.slice aaCL naCL caCL, .slice aaCV naCV caCV] 24)) (.cells #[.int .i64 aW0, .int .i64 aW1] 37)) c15 (by simp <;> omega)
  have lb_aC := blk_lt gb_aC
  have kb_aC0 : w15.cell? ⟨w.heap.size, 0, none⟩ = some (.slice aaCL naCL caCL) := blk_cell gb_aC 0
  have kb_aC1 : w15.cell? ⟨w.heap.size, 1, none⟩ = some (.slice aaCV naCV caCV) := blk_cell gb_aC 1
  have GB_aC := hd gb_aC
  clear gb_aC
  have gb_aW := blk_below (two_blk' w (.cells #[.slice aaCL naCL caCL, .slice aaCV naCV caCV] 24) (.cells #[.int .i64 aW0, .int .i64 aW1] 37)).2.1 c15 (by simp <;> omega)
  have lb_aW := blk_lt gb_aW
  have kb_aW0 : w15.cell? ⟨w.heap.size + 1, 0, none⟩ = some (.int .i64 aW0) := blk_cell gb_aW 0
  have kb_aW1 : w15.cell? ⟨w.heap.size + 1, 1, none⟩ = some (.int .i64 aW1) := blk_cell gb_aW 1
  have GB_aW := hd gb_aW
  clear gb_aW
  go_region_held3 (fun w' => w'.cell? ⟨w.heap.size, 0, none⟩ = some (.slice aaCL naCL caCL) ∧ w'.cell? ⟨w.heap.size, 1, none⟩ = some (.slice aaCV naCV caCV) ∧ w'.cell? ⟨w.heap.size + 1, 0, none⟩ = some (.int .i64 aW0) ∧ w'.cell? ⟨w.heap.size + 1, 1, none⟩ = some (.int .i64 aW1))
      (first | with_reducible exact ⟨x4_0, x4_1, x4_2, x4_3⟩ | with_reducible exact ⟨x3_0, x3_1, x3_2, x3_3⟩ | with_reducible exact ⟨x2_0, x2_1, x2_2, x2_3⟩ | with_reducible exact ⟨x1_0, x1_1, x1_2, x1_3⟩ | go_keep)
      (first
        | (go_at_call 18; (with_reducible refine (toCurve_calls _ _ _ _ _ _ _ _ _ ((raCL.below d15).below (by go_grown)) haCL ((raCV.below d15).below (by go_grown)) haCV).mono ?_); rintro e v1 ⟨A19aCL, A19aCV, U19_0, rfl, o19aCL, o19aCV, -, b1⟩; have q1 : Below w15.heap.size w15 v1 := Below.trans (by go_grown) (b1.mono (by simp)); have x1_0 := (q1.cell (p := ⟨w.heap.size, 0, none⟩) lb_aC).trans kb_aC0; have x1_1 := (q1.cell (p := ⟨w.heap.size, 1, none⟩) lb_aC).trans kb_aC1; have x1_2 := (q1.cell (p := ⟨w.heap.size + 1, 0, none⟩) lb_aW).trans kb_aW0; have x1_3 := (q1.cell (p := ⟨w.heap.size + 1, 1, none⟩) lb_aW).trans kb_aW1)
        | (go_at_call 25; (with_reducible refine (toSwitch_calls _ _ _).mono ?_); rintro e v2 ⟨rfl, b2⟩; have q2 : Below w15.heap.size w15 v2 := Below.trans q1 (Below.trans (Below.mono (B := v1.heap.size) (by go_grown) q1.size) (b2.mono (by have := q1.size; simp; try omega))); have x2_0 := (q2.cell (p := ⟨w.heap.size, 0, none⟩) lb_aC).trans kb_aC0; have x2_1 := (q2.cell (p := ⟨w.heap.size, 1, none⟩) lb_aC).trans kb_aC1; have x2_2 := (q2.cell (p := ⟨w.heap.size + 1, 0, none⟩) lb_aW).trans kb_aW0; have x2_3 := (q2.cell (p := ⟨w.heap.size + 1, 1, none⟩) lb_aW).trans kb_aW1)
        | (go_at_call 26; (with_reducible refine (toInt64S_calls _ _ _ xaInflows _ ((raInflows.below d15).below q2) haInflows).mono ?_); rintro e v3 ⟨A19aInflows, rfl, o19aInflows, b3⟩; have q3 : Below w15.heap.size w15 v3 := Below.trans q2 (Below.trans (Below.mono (B := v2.heap.size) (by go_grown) q2.size) (b3.mono (by have := q2.size; simp; try omega))); have x3_0 := (q3.cell (p := ⟨w.heap.size, 0, none⟩) lb_aC).trans kb_aC0; have x3_1 := (q3.cell (p := ⟨w.heap.size, 1, none⟩) lb_aC).trans kb_aC1; have x3_2 := (q3.cell (p := ⟨w.heap.size + 1, 0, none⟩) lb_aW).trans kb_aW0; have x3_3 := (q3.cell (p := ⟨w.heap.size + 1, 1, none⟩) lb_aW).trans kb_aW1)
        | (go_at_call 48; (with_reducible refine (RunControl_calls _ _ _ _ _ _ _ _ _ _ _ _ _ _ _ _ _ (((o19aCL.rd len_cInt64).below b2).below b3) haCL (((o19aCV.rd len_cInt64).below b2).below b3) haCV (o19aInflows.rd len_cInt64) haInflows).mono ?_); rintro e v4 ⟨A20h0, n20h0, q20h0, rfl, o20h0, h20h0, b4⟩; have q4 : Below w15.heap.size w15 v4 := Below.trans q3 (Below.trans (Below.mono (B := v3.heap.size) (by go_grown) q3.size) (b4.mono (by have := q3.size; simp; try omega))); have x4_0 := (q4.cell (p := ⟨w.heap.size, 0, none⟩) lb_aC).trans kb_aC0; have x4_1 := (q4.cell (p := ⟨w.heap.size, 1, none⟩) lb_aC).trans kb_aC1; have x4_2 := (q4.cell (p := ⟨w.heap.size + 1, 0, none⟩) lb_aW).trans kb_aW0; have x4_3 := (q4.cell (p := ⟨w.heap.size + 1, 1, none⟩) lb_aW).trans kb_aW1))
  have b21r := q4
  replace o20h0 := o20h0.mono (L' := w15.heap.size) q3.size (Nat.le_refl _)
  clear q1 q2 q3 q4 x1_0 x1_1 x1_2 x1_3 x2_0 x2_1 x2_2 x2_3 x3_0 x3_1 x3_2 x3_3 x4_0 x4_1 x4_2 x4_3
  clear kb_aC0 kb_aC1 kb_aW0 kb_aW1
  clear GB_aC lb_aC
  clear GB_aW lb_aW
  clear o19aCL
  clear o19aCV
  clear o19aInflows
  clear b1 b2 b3 b4
  obtain ⟨w16, hW⟩ : ∃ W, W = v4 := ⟨_, rfl⟩
  subst hW
  have c16 := bnext c15 b21r (Nat.le_refl _)
  have d16 := bbox2 c16
  have s16 := b21r.size
  replace o3w0 := o3w0.below b21r
  replace p14_0 := p14_0.below b21r
  replace p14_1 := p14_1.below b21r
  replace p15 := p15.below b21r
  replace p17 := p17.below b21r
  clear d15
  clear c15
  clear b21r
  obtain ⟨k16, f16⟩ := bcell c16
  clear k15 f15
  go_wp2_with fail
  refine (eqHourS_calls _ _ _ _ _ _ _ _ _ (o20h0.rd len_cHour) (o3w0.rd len_cHour) h20h0 h3w0).mono ?_
  rintro e w17 ⟨rfl, b22⟩
  have c17 := bnext c16 b22 (Nat.le_refl _)
  have d17 := bbox2 c17
  have s17 := b22.size
  replace o3w0 := o3w0.below b22
  replace p14_0 := p14_0.below b22
  replace p14_1 := p14_1.below b22
  replace p15 := p15.below b22
  replace p17 := p17.below b22
  replace o20h0 := o20h0.below b22
  clear d16
  clear c16
  clear b22
  obtain ⟨k17, f17⟩ := bcell c17
  clear k16 f16
  go_wp2_with fail
  refine (heldHourS_calls _ _ _ _ _ (p17.rd len_cHour) h8g0 (by omega) (by omega)).mono ?_
  rintro e w18 ⟨rfl, b23⟩
  have c18 := bnext c17 b23 (Nat.le_refl _)
  have d18 := bbox2 c18
  have s18 := b23.size
  replace o3w0 := o3w0.below b23
  replace p14_0 := p14_0.below b23
  replace p14_1 := p14_1.below b23
  replace p15 := p15.below b23
  replace p17 := p17.below b23
  replace o20h0 := o20h0.below b23
  clear d17
  clear c17
  clear b23
  obtain ⟨k18, f18⟩ := bcell c18
  clear k17 f17
  go_wp2_with fail
  go_ret
  exact ⟨rfl, d18⟩
end Go.Proofs.Ytieomdjcnaaopaa
