/- The law on LevelsOver, walked out of the contracts of what it calls. -/
import Derived.Test.YtieomdjcnaaopaaLo2
import Derived.Deep.RegionHeld3
import Derived.Deep.DeepCutAuto
namespace Go.Proofs.Ytieomdjcnaaopaa
open Go.RowKit
set_option linter.unusedVariables false

set_option maxRecDepth 100000 in
set_option maxHeartbeats 2000000 in
theorem FnExactLevelsOver_calls (aaCL : Option Addr) (naCL caCL : Nat) (xaCL : List Int) (aaCV : Option Addr) (naCV caCV : Nat) (xaCV : List Int) (aLevel : Int) (aaList : Option Addr) (naList caList : Nat) (xaList : List (Int × Int × Int × Int × Int)) (w : World)
    (raCL : RdI w aaCL naCL xaCL) (_laCL : naCL ≤ caCL) (_maCL : caCL ≤ maxLen) (_oaCL : ∀ z ∈ xaCL, OkInt64 z) (raCV : RdI w aaCV naCV xaCV) (_laCV : naCV ≤ caCV) (_maCV : caCV ≤ maxLen) (_oaCV : ∀ z ∈ xaCV, OkInt64 z) (_waLevel : (Lit.int .i64 aLevel).wf = true) (raList : RdWater w aaList naList xaList) (_laList : naList ≤ caList) (_maList : caList ≤ maxLen) (_oaList : ∀ z ∈ xaList, OkWater z) :
    Calls Try.prog 10 #[.agg #[.slice aaCL naCL caCL, .slice aaCV naCV caCV], .int .i64 aLevel, .slice aaList naList caList] w fun e w' => e = .returned (.bool true) ∧ Below w.heap.size w w' := by
  go_enter Try.func10, Try.ntmps10
  go_wp2_with fail
  have _zaCL := _maCL
  unfold maxLen at _zaCL
  have _zaCV := _maCV
  unfold maxLen at _zaCV
  refine (szCurve_calls _ _ _ _ _ _ _ _ (by omega) (by omega) (by omega) (by omega)).mono ?_
  rintro e w1 ⟨l1, rfl, hs1, b1⟩
  have c1 := b1
  have d1 := bbox1 b1
  have s1 := b1.size
  clear b1
  obtain ⟨k1, f1⟩ := bcell c1
  rcases hs1 with ⟨hs1, rfl⟩ | ⟨hs1, rfl⟩
  case inl =>
    go_wp2_with fail
    go_ret
    exact ⟨rfl, d1⟩
  have haCL : naCL ≤ 1048576 := by omega
  have haCV : naCV ≤ 1048576 := by omega
  clear _zaCL _zaCV
  go_wp2_with fail
  have _zaList := _maList
  unfold maxLen at _zaList
  refine (szWaterS_calls _ _ _ _ _ (by omega) (by omega) (by omega)).mono ?_
  rintro e w' ⟨l2, rfl, hs2, rfl⟩
  rcases hs2 with ⟨hs2, rfl⟩ | ⟨hs2, rfl⟩
  case inl =>
    go_wp2_with fail
    go_ret
    exact ⟨rfl, d1⟩
  have haList : naList ≤ 1048576 := by omega
  clear _zaList
  go_wp2_with fail
  refine (toCurve_calls _ _ _ _ _ _ _ _ _ (raCL.below d1) haCL (raCV.below d1) haCV).mono ?_
  rintro e w2 ⟨A3aCL, A3aCV, U3_0, rfl, o3aCL, o3aCV, ⟨u3_0, u3_1⟩, b3⟩
  have c2 := bnext c1 b3 (Nat.le_refl _)
  have d2 := bbox1 c2
  have s2 := b3.size
  clear d1
  clear c1
  clear b3
  obtain ⟨k2, f2⟩ := bcell c2
  clear k1 f1
  go_wp2_with fail
  refine (toWaterS_calls _ _ _ _ _ (raList.below d2) haList).mono ?_
  rintro e w3 ⟨A4, rfl, o4, b4⟩
  have c3 := bnext c2 b4 (Nat.le_refl _)
  have d3 := bbox1 c3
  have s3 := b4.size
  replace o3aCL := o3aCL.below b4
  replace o3aCV := o3aCV.below b4
  clear d2
  clear c2
  clear b4
  obtain ⟨k3, f3⟩ := bcell c3
  clear k2 f2
  go_wp2_with fail
  refine (specLevelsOver_calls _ _ _ _ _ _ _ _ _ _ _ _ _ _ (o3aCL.rd len_cInt64) haCL (o3aCV.rd len_cInt64) haCV (o4.rd len_cWater) haList).mono ?_
  rintro e w4 ⟨A5w0, n5w0, q5w0, rfl, o5w0, h5w0, b5⟩
  clear o3aCL
  clear o3aCV
  clear o4
  have c4 := bnext c3 b5 (Nat.le_refl _)
  have d4 := bbox1 c4
  have s4 := b5.size
  clear d3
  clear c3
  clear b5
  obtain ⟨k4, f4⟩ := bcell c4
  clear k3 f3
  go_wp2_with fail
  refine (toCurve_calls _ _ _ _ _ _ _ _ _ (raCL.below d4) haCL (raCV.below d4) haCV).mono ?_
  rintro e w5 ⟨A6aCL, A6aCV, U6_0, rfl, o6aCL, o6aCV, ⟨u6_0, u6_1⟩, b6⟩
  have c5 := bnext c4 b6 (Nat.le_refl _)
  have d5 := bbox1 c5
  have s5 := b6.size
  replace o5w0 := o5w0.below b6
  clear d4
  clear c4
  clear b6
  obtain ⟨k5, f5⟩ := bcell c5
  clear k4 f4
  go_wp2_with fail
  refine (toWaterS_calls _ _ _ _ _ ((raList.below d5).alloc _) haList).mono ?_
  rintro e w6 ⟨A7, rfl, o7, b7⟩
  have qx0 := box_q b7
  replace b7 := bbox1 b7
  have c6 := bnext c5 b7 (Nat.le_refl _)
  have d6 := bbox1 c6
  have s6 := b7.size
  replace o5w0 := o5w0.below b7
  replace o6aCL := o6aCL.below b7
  replace o6aCV := o6aCV.below b7
  clear d5
  clear c5
  clear b7
  obtain ⟨k6, f6⟩ := bcell c6
  clear k5 f5
  replace o7 := o7.mono (L' := w5.heap.size) (by simp) (Nat.le_refl _)
  have y0qx0 := blk_cell qx0 0
  have y1qx0 := blk_cell qx0 1
  go_wp2_with fail
  refine (LevelsOver_calls _ _ _ _ _ _ _ _ _ _ _ _ _ _ (o6aCL.rd len_cInt64) haCL (o6aCV.rd len_cInt64) haCV (o7.rd len_cWater) haList).mono ?_
  rintro e w7 ⟨A8g0, n8g0, q8g0, rfl, o8g0, h8g0, b8⟩
  clear y0qx0 y1qx0
  replace qx0 := blk_below qx0 b8 (blk_lt qx0)
  have c7 := bnext c6 b8 (Nat.le_refl _)
  have d7 := bbox1 c7
  have s7 := b8.size
  replace o5w0 := o5w0.below b8
  replace o6aCL := o6aCL.below b8
  replace o6aCV := o6aCV.below b8
  replace o7 := o7.below b8
  clear d6
  clear c6
  clear b8
  obtain ⟨k7, f7⟩ := bcell c7
  clear k6 f6
  go_wp2_with fail
  refine (eqInt64S_calls _ _ _ _ _ _ _ _ _ (o8g0.rd len_cInt64) (o5w0.rd len_cInt64) h8g0 h5w0).mono ?_
  rintro e w8 ⟨rfl, b9⟩
  replace qx0 := blk_below qx0 b9 (blk_lt qx0)
  have c8 := bnext c7 b9 (Nat.le_refl _)
  have d8 := bbox1 c8
  have s8 := b9.size
  replace o5w0 := o5w0.below b9
  replace o6aCL := o6aCL.below b9
  replace o6aCV := o6aCV.below b9
  replace o7 := o7.below b9
  replace o8g0 := o8g0.below b9
  clear d7
  clear c7
  clear b9
  obtain ⟨k8, f8⟩ := bcell c8
  clear k7 f7
  go_upto_region 14 with fail
  have ga := blk_below (heap_alloc_new w (.cells #[.slice aaCL naCL caCL, .slice aaCV naCV caCV] 24)) c8 (by simp)
  have lA := blk_lt ga
  have lX := blk_lt qx0
  obtain ⟨gX, hX⟩ : ∃ G, G = w5.heap.size := ⟨_, rfl⟩
  have QX := hd qx0
  rw [← hX] at lX
  have ka0 : w8.cell? ⟨w.heap.size, 0, none⟩ = some (.slice aaCL naCL caCL) := blk_cell ga 0
  have ka1 : w8.cell? ⟨w.heap.size, 1, none⟩ = some (.slice aaCV naCV caCV) := blk_cell ga 1
  have kx0 : w8.cell? ⟨w5.heap.size, 0, none⟩ = some (.slice A6aCL naCL naCL) := blk_cell qx0 0
  have kx1 : w8.cell? ⟨w5.heap.size, 1, none⟩ = some (.slice A6aCV naCV naCV) := blk_cell qx0 1
  rw [hX] at lX
  clear hX gX
  have GA := hd ga
  clear ga qx0
  go_cut [62] (fun s wx => s = .bool false ∧ Below w8.heap.size w8 wx)
  case first =>
    have nka0 := World.new_ne w8 _ ka0
    have nka1 := World.new_ne w8 _ ka1
    have nkx0 := World.new_ne w8 _ kx0
    have nkx1 := World.new_ne w8 _ kx1
    go_region_held3 (fun w' => w'.cell? ⟨w.heap.size, 0, none⟩ = some (.slice aaCL naCL caCL) ∧ w'.cell? ⟨w.heap.size, 1, none⟩ = some (.slice aaCV naCV caCV) ∧ w'.cell? ⟨w5.heap.size, 0, none⟩ = some (.slice A6aCL naCL naCL) ∧ w'.cell? ⟨w5.heap.size, 1, none⟩ = some (.slice A6aCV naCV naCV))
      (first | with_reducible exact ⟨x2_0, x2_1, x2_2, x2_3⟩ | with_reducible exact ⟨x1_0, x1_1, x1_2, x1_3⟩ | go_keep)
      (first
        | (go_at_call 18; refine (toCurve_calls _ _ _ _ _ _ _ _ _ ((raCL.below d8).below (by go_grown)) haCL ((raCV.below d8).below (by go_grown)) haCV).mono ?_; rintro e v1 ⟨B0, B1, u0, rfl, ob0, ob1, -, b1⟩; have q1 : Below w8.heap.size w8 v1 := Below.trans (by go_grown) (b1.mono (by simp)); have x1_0 := (q1.cell (p := ⟨w.heap.size, 0, none⟩) lA).trans ka0; have x1_1 := (q1.cell (p := ⟨w.heap.size, 1, none⟩) lA).trans ka1; have x1_2 := (q1.cell (p := ⟨w5.heap.size, 0, none⟩) lX).trans kx0; have x1_3 := (q1.cell (p := ⟨w5.heap.size, 1, none⟩) lX).trans kx1)
        | (go_at_call 21; refine (eqCurve_calls _ _ _ _ _ _ _ _ _ _ _ _ _ ((o6aCL.rd len_cInt64).below (Below.trans q1 (Below.mono (by go_grown) q1.size))) ((ob0.rd len_cInt64).below (by go_grown)) haCL ((o6aCV.rd len_cInt64).below (Below.trans q1 (Below.mono (by go_grown) q1.size))) ((ob1.rd len_cInt64).below (by go_grown)) haCV).mono ?_; rintro e v2 ⟨rfl, b2⟩; have q2 : Below w8.heap.size w8 v2 := Below.trans q1 (Below.trans (Below.mono (B := v1.heap.size) (by go_grown) q1.size) (b2.mono (by have := q1.size; simp; try omega))); have x2_0 := (q2.cell (p := ⟨w.heap.size, 0, none⟩) lA).trans ka0; have x2_1 := (q2.cell (p := ⟨w.heap.size, 1, none⟩) lA).trans ka1; have x2_2 := (q2.cell (p := ⟨w5.heap.size, 0, none⟩) lX).trans kx0; have x2_3 := (q2.cell (p := ⟨w5.heap.size, 1, none⟩) lX).trans kx1))
    all_goals
      go_wp2_with fail
      go_meet
      first | exact ⟨rfl, q2⟩ | exact ⟨rfl, q2.drew⟩ | exact ⟨rfl, bdrewN q2 _⟩
  case rest =>
  obtain ⟨rfl, b10⟩ := hcut
  have qx0 := QX.out
  clear ka0 ka1 kx0 kx1 lA lX GA QX
  obtain ⟨w9, hW⟩ : ∃ W, W = wc := ⟨_, rfl⟩
  subst hW
  replace qx0 := blk_below qx0 b10 (blk_lt qx0)
  have c9 := bnext c8 b10 (Nat.le_refl _)
  have d9 := bbox1 c9
  have s9 := b10.size
  replace o5w0 := o5w0.below b10
  replace o6aCL := o6aCL.below b10
  replace o6aCV := o6aCV.below b10
  replace o7 := o7.below b10
  replace o8g0 := o8g0.below b10
  clear d8
  clear c8
  clear b10
  obtain ⟨k9, f9⟩ := bcell c9
  clear k8 f8
  go_wp2_with fail
  refine (toWaterS_calls _ _ _ _ _ (raList.below d9) haList).mono ?_
  rintro e w10 ⟨A11, rfl, o11, b11⟩
  replace qx0 := blk_below qx0 b11 (blk_lt qx0)
  have c10 := bnext c9 b11 (Nat.le_refl _)
  have d10 := bbox1 c10
  have s10 := b11.size
  replace o5w0 := o5w0.below b11
  replace o6aCL := o6aCL.below b11
  replace o6aCV := o6aCV.below b11
  replace o7 := o7.below b11
  replace o8g0 := o8g0.below b11
  clear d9
  clear c9
  clear b11
  obtain ⟨k10, f10⟩ := bcell c10
  clear k9 f9
  go_wp2_with fail
  refine (eqWaterS_calls _ _ _ _ _ _ _ _ _ (o7.rd len_cWater) (o11.rd len_cWater) haList haList).mono ?_
  rintro e w11 ⟨rfl, b12⟩
  clear o11
  replace qx0 := blk_below qx0 b12 (blk_lt qx0)
  have c11 := bnext c10 b12 (Nat.le_refl _)
  have d11 := bbox1 c11
  have s11 := b12.size
  replace o5w0 := o5w0.below b12
  replace o6aCL := o6aCL.below b12
  replace o6aCV := o6aCV.below b12
  replace o7 := o7.below b12
  replace o8g0 := o8g0.below b12
  clear d10
  clear c10
  clear b12
  obtain ⟨k11, f11⟩ := bcell c11
  clear k10 f10
  have y0qx0 := blk_cell qx0 0
  have y1qx0 := blk_cell qx0 1
  go_wp2_with fail
  refine (markCurve_calls _ _ _ _ _ _ _ _ _ _ _ _ o6aCL haCL (by omega) _ _ o6aCV haCV (by omega) (by omega) (by omega) (by omega)).mono ?_
  rintro e w13 ⟨w12, rfl, p13_0, g13_0, p13_1, g13_1⟩
  clear y0qx0 y1qx0
  clear qx0
  have c12 := below_only c11 g13_0 (Nat.le_refl _) (fun g hg => by have := o6aCL.row hg; have := c11.size; omega)
  have d12 := bbox1 c12
  have s12 := g13_0.size
  replace o5w0 := o5w0.only g13_0 (fun g hg => by have := o6aCL.row hg; omega)
  replace o6aCV := o6aCV.only g13_0 (fun g hg => by have := o6aCL.row hg; omega)
  replace o7 := o7.only g13_0 (fun g hg => by have := o6aCL.row hg; omega)
  replace o8g0 := o8g0.only g13_0 (fun g hg => by have := o6aCL.row hg; omega)
  clear o6aCL
  clear d11
  clear c11
  clear g13_0
  obtain ⟨k12, f12⟩ := bcell c12
  clear k11 f11
  have c13 := below_only c12 g13_1 (Nat.le_refl _) (fun g hg => by have := o6aCV.row hg; have := c12.size; omega)
  have d13 := bbox1 c13
  have s13 := g13_1.size
  replace o5w0 := o5w0.only g13_1 (fun g hg => by have := o6aCV.row hg; omega)
  replace p13_0 := p13_0.only g13_1 (fun g hg => by have := o6aCV.row hg; omega)
  replace o7 := o7.only g13_1 (fun g hg => by have := o6aCV.row hg; omega)
  replace o8g0 := o8g0.only g13_1 (fun g hg => by have := o6aCV.row hg; omega)
  clear o6aCV
  clear d12
  clear c12
  clear g13_1
  obtain ⟨k13, f13⟩ := bcell c13
  clear k12 f12
  go_wp2_with fail
  refine (markWaterS_calls _ _ _ _ _ _ _ _ o7 haList (by omega) (by omega)).mono ?_
  rintro e w14 ⟨rfl, p14, g14⟩
  have c14 := below_only c13 g14 (Nat.le_refl _) (fun g hg => by have := o7.row hg; have := c13.size; omega)
  have d14 := bbox1 c14
  have s14 := g14.size
  replace o5w0 := o5w0.only g14 (fun g hg => by have := o7.row hg; omega)
  replace p13_0 := p13_0.only g14 (fun g hg => by have := o7.row hg; omega)
  replace p13_1 := p13_1.only g14 (fun g hg => by have := o7.row hg; omega)
  replace o8g0 := o8g0.only g14 (fun g hg => by have := o7.row hg; omega)
  clear o7
  clear d13
  clear c13
  clear g14
  obtain ⟨k14, f14⟩ := bcell c14
  clear k13 f13
  go_wp2_with fail
  refine (eqInt64S_calls _ _ _ _ _ _ _ _ _ (o8g0.rd len_cInt64) (o5w0.rd len_cInt64) h8g0 h5w0).mono ?_
  rintro e w15 ⟨rfl, b15⟩
  have c15 := bnext c14 b15 (Nat.le_refl _)
  have d15 := bbox1 c15
  have s15 := b15.size
  replace o5w0 := o5w0.below b15
  replace p13_0 := p13_0.below b15
  replace p13_1 := p13_1.below b15
  replace p14 := p14.below b15
  replace o8g0 := o8g0.below b15
  clear d14
  clear c14
  clear b15
  obtain ⟨k15, f15⟩ := bcell c15
  clear k14 f14
  go_wp2_with fail
  refine (markInt64S_calls _ _ _ _ _ _ _ _ o8g0 h8g0 (by omega) (by omega)).mono ?_
  rintro e w16 ⟨rfl, p16, g16⟩
  have c16 := below_only c15 g16 (Nat.le_refl _) (fun g hg => by have := o8g0.row hg; have := c15.size; omega)
  have d16 := bbox1 c16
  have s16 := g16.size
  replace o5w0 := o5w0.only g16 (fun g hg => by have := o8g0.row hg; omega)
  replace p13_0 := p13_0.only g16 (fun g hg => by have := o8g0.row hg; omega)
  replace p13_1 := p13_1.only g16 (fun g hg => by have := o8g0.row hg; omega)
  replace p14 := p14.only g16 (fun g hg => by have := o8g0.row hg; omega)
  clear o8g0
  clear d15
  clear c15
  clear g16
  obtain ⟨k16, f16⟩ := bcell c16
  clear k15 f15
  go_wp2_with fail
  refine (heldInt64S_calls _ _ _ _ _ (p16.rd len_cInt64) h8g0 (by omega) (by omega)).mono ?_
  rintro e w17 ⟨rfl, b17⟩
  have c17 := bnext c16 b17 (Nat.le_refl _)
  have d17 := bbox1 c17
  have s17 := b17.size
  replace o5w0 := o5w0.below b17
  replace p13_0 := p13_0.below b17
  replace p13_1 := p13_1.below b17
  replace p14 := p14.below b17
  replace p16 := p16.below b17
  clear d16
  clear c16
  clear b17
  obtain ⟨k17, f17⟩ := bcell c17
  clear k16 f16
  go_wp2_with fail
  refine (toCurve_calls _ _ _ _ _ _ _ _ _ (raCL.below d17) haCL (raCV.below d17) haCV).mono ?_
  rintro e w18 ⟨A18aCL, A18aCV, U18_0, rfl, o18aCL, o18aCV, ⟨u18_0, u18_1⟩, b18⟩
  have c18 := bnext c17 b18 (Nat.le_refl _)
  have d18 := bbox1 c18
  have s18 := b18.size
  replace o5w0 := o5w0.below b18
  replace p13_0 := p13_0.below b18
  replace p13_1 := p13_1.below b18
  replace p14 := p14.below b18
  replace p16 := p16.below b18
  clear d17
  clear c17
  clear b18
  obtain ⟨k18, f18⟩ := bcell c18
  clear k17 f17
  go_wp2_with fail
  refine (toWaterS_calls _ _ _ _ _ (raList.below d18) haList).mono ?_
  rintro e w19 ⟨A19, rfl, o19, b19⟩
  have c19 := bnext c18 b19 (Nat.le_refl _)
  have d19 := bbox1 c19
  have s19 := b19.size
  replace o5w0 := o5w0.below b19
  replace p13_0 := p13_0.below b19
  replace p13_1 := p13_1.below b19
  replace p14 := p14.below b19
  replace p16 := p16.below b19
  replace o18aCL := o18aCL.below b19
  replace o18aCV := o18aCV.below b19
  clear d18
  clear c18
  clear b19
  obtain ⟨k19, f19⟩ := bcell c19
  clear k18 f18
  go_wp2_with fail
  refine (LevelsOver_calls _ _ _ _ _ _ _ _ _ _ _ _ _ _ (o18aCL.rd len_cInt64) haCL (o18aCV.rd len_cInt64) haCV (o19.rd len_cWater) haList).mono ?_
  rintro e w20 ⟨A20h0, n20h0, q20h0, rfl, o20h0, h20h0, b20⟩
  clear o18aCL
  clear o18aCV
  clear o19
  have c20 := bnext c19 b20 (Nat.le_refl _)
  have d20 := bbox1 c20
  have s20 := b20.size
  replace o5w0 := o5w0.below b20
  replace p13_0 := p13_0.below b20
  replace p13_1 := p13_1.below b20
  replace p14 := p14.below b20
  replace p16 := p16.below b20
  clear d19
  clear c19
  clear b20
  obtain ⟨k20, f20⟩ := bcell c20
  clear k19 f19
  go_wp2_with fail
  refine (eqInt64S_calls _ _ _ _ _ _ _ _ _ (o20h0.rd len_cInt64) (o5w0.rd len_cInt64) h20h0 h5w0).mono ?_
  rintro e w21 ⟨rfl, b21⟩
  have c21 := bnext c20 b21 (Nat.le_refl _)
  have d21 := bbox1 c21
  have s21 := b21.size
  replace o5w0 := o5w0.below b21
  replace p13_0 := p13_0.below b21
  replace p13_1 := p13_1.below b21
  replace p14 := p14.below b21
  replace p16 := p16.below b21
  replace o20h0 := o20h0.below b21
  clear d20
  clear c20
  clear b21
  obtain ⟨k21, f21⟩ := bcell c21
  clear k20 f20
  go_wp2_with fail
  refine (heldInt64S_calls _ _ _ _ _ (p16.rd len_cInt64) h8g0 (by omega) (by omega)).mono ?_
  rintro e w22 ⟨rfl, b22⟩
  have c22 := bnext c21 b22 (Nat.le_refl _)
  have d22 := bbox1 c22
  have s22 := b22.size
  replace o5w0 := o5w0.below b22
  replace p13_0 := p13_0.below b22
  replace p13_1 := p13_1.below b22
  replace p14 := p14.below b22
  replace p16 := p16.below b22
  replace o20h0 := o20h0.below b22
  clear d21
  clear c21
  clear b22
  obtain ⟨k22, f22⟩ := bcell c22
  clear k21 f21
  go_wp2_with fail
  go_ret
  exact ⟨rfl, d22⟩
end Go.Proofs.Ytieomdjcnaaopaa
