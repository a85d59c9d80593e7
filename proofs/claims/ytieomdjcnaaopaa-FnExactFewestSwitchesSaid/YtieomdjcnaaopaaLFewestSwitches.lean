/- The law on FewestSwitches, walked out of the contracts of what it calls. -/
import Derived.Test.YtieomdjcnaaopaaCtl5
import Derived.Deep.RegionHeld3
import Derived.Deep.DeepCutAuto
namespace Go.Proofs.Ytieomdjcnaaopaa
open Go.RowKit
set_option linter.unusedVariables false

set_option maxRecDepth 100000 in
set_option maxHeartbeats 2000000 in
theorem FnExactFewestSwitches_calls (aaCL : Option Addr) (naCL caCL : Nat) (xaCL : List Int) (aaCV : Option Addr) (naCV caCV : Nat) (xaCV : List Int) (aaChoices : Option Addr) (naChoices caChoices : Nat) (xaChoices : List (Int × Int)) (aVolume : Int) (aRate : Int) (aaInflows : Option Addr) (naInflows caInflows : Nat) (xaInflows : List (Int)) (aLevel : Int) (w : World)
    (raCL : RdI w aaCL naCL xaCL) (_laCL : naCL ≤ caCL) (_maCL : caCL ≤ maxLen) (_oaCL : ∀ z ∈ xaCL, OkInt64 z) (raCV : RdI w aaCV naCV xaCV) (_laCV : naCV ≤ caCV) (_maCV : caCV ≤ maxLen) (_oaCV : ∀ z ∈ xaCV, OkInt64 z) (raChoices : RdSwitch w aaChoices naChoices xaChoices) (_laChoices : naChoices ≤ caChoices) (_maChoices : caChoices ≤ maxLen) (_oaChoices : ∀ z ∈ xaChoices, OkSwitch z) (_waVolume : (Lit.int .i64 aVolume).wf = true) (_waRate : (Lit.int .i64 aRate).wf = true) (raInflows : RdInt64 w aaInflows naInflows xaInflows) (_laInflows : naInflows ≤ caInflows) (_maInflows : caInflows ≤ maxLen) (_oaInflows : ∀ z ∈ xaInflows, OkInt64 z) (_waLevel : (Lit.int .i64 aLevel).wf = true) :
    Calls Try.prog 14 #[.agg #[.slice aaCL naCL caCL, .slice aaCV naCV caCV], .slice aaChoices naChoices caChoices, .int .i64 aVolume, .int .i64 aRate, .slice aaInflows naInflows caInflows, .int .i64 aLevel] w fun e w' => e = .returned (.bool true) ∧ Below w.heap.size w w' := by
  by_cases haInflows : naInflows ≤ 1048576
  case neg =>
    have haInflows' : (1048576 : Int) < naInflows := by omega
    have _zaInflows := _maInflows
    unfold maxLen at _zaInflows
    go_enter Try.func14, Try.ntmps14
    go_wp2
    go_ret
    exact ⟨rfl, ((Below.refl _ _).alloc (Nat.le_refl _) _)⟩
  go_enter Try.func14, Try.ntmps14
  go_wp2_with fail
  have _zaCL := _maCL
  unfold maxLen at _zaCL
  have _zaCV := _maCV
  unfold maxLen at _zaCV
  refine (szCurve_calls _ _ _ _ _ _ _ _ (by omega) (by omega) (by omega) (by omega)).mono ?_
  rintro e w1 ⟨l1, rfl, hs1, b1⟩
  have c1 := b1
  have d1 := bbox1 b1
  have s1 := b1.size
  clear b1
  obtain ⟨k1, f1⟩ := bcell c1
  rcases hs1 with ⟨hs1, rfl⟩ | ⟨hs1, rfl⟩
  case inl =>
    go_wp2_with fail
    go_ret
    exact ⟨rfl, d1⟩
  have haCL : naCL ≤ 1048576 := by omega
  have haCV : naCV ≤ 1048576 := by omega
  clear _zaCL _zaCV
  go_wp2_with fail
  have _zaChoices := _maChoices
  unfold maxLen at _zaChoices
  refine (szSwitchS_calls _ _ _ _ _ (by omega) (by omega) (by omega)).mono ?_
  rintro e w' ⟨l2, rfl, hs2, rfl⟩
  rcases hs2 with ⟨hs2, rfl⟩ | ⟨hs2, rfl⟩
  case inl =>
    go_wp2_with fail
    go_ret
    exact ⟨rfl, d1⟩
  have haChoices : naChoices ≤ 1048576 := by omega
  clear _zaChoices
  go_wp2_with fail
  refine (toCurve_calls _ _ _ _ _ _ _ _ _ (raCL.below d1) haCL (raCV.below d1) haCV).mono ?_
  rintro e w2 ⟨A3aCL, A3aCV, U3_0, rfl, o3aCL, o3aCV, ⟨u3_0, u3_1⟩, b3⟩
  have c2 := bnext c1 b3 (Nat.le_refl _)
  have d2 := bbox1 c2
  have s2 := b3.size
  clear d1
  clear c1
  clear b3
  obtain ⟨k2, f2⟩ := bcell c2
  clear k1 f1
  go_wp2_with fail
  refine (toSwitchS_calls _ _ _ _ _ (raChoices.below d2) haChoices).mono ?_
  rintro e w3 ⟨A4, rfl, o4, b4⟩
  have c3 := bnext c2 b4 (Nat.le_refl _)
  have d3 := bbox1 c3
  have s3 := b4.size
  replace o3aCL := o3aCL.below b4
  replace o3aCV := o3aCV.below b4
  clear d2
  clear c2
  clear b4
  obtain ⟨k3, f3⟩ := bcell c3
  clear k2 f2
  go_wp2_with fail
  refine (toInt64S_calls _ _ _ _ _ (raInflows.below d3) haInflows).mono ?_
  rintro e w4 ⟨A5, rfl, o5, b5⟩
  have c4 := bnext c3 b5 (Nat.le_refl _)
  have d4 := bbox1 c4
  have s4 := b5.size
  replace o3aCL := o3aCL.below b5
  replace o3aCV := o3aCV.below b5
  replace o4 := o4.below b5
  clear d3
  clear c3
  clear b5
  obtain ⟨k4, f4⟩ := bcell c4
  clear k3 f3
  go_wp2_with fail
  refine (specFewestSwitches_calls _ _ _ _ _ _ _ _ _ _ _ _ _ _ _ _ _ _ _ _ (o3aCL.rd len_cInt64) haCL (o3aCV.rd len_cInt64) haCV (o4.rd len_cSwitch) haChoices (o5.rd len_cInt64) haInflows).mono ?_
  rintro e w5 ⟨rfl, b6⟩
  clear o3aCL
  clear o3aCV
  clear o4
  clear o5
  have c5 := bnext c4 b6 (Nat.le_refl _)
  have d5 := bbox1 c5
  have s5 := b6.size
  clear d4
  clear c4
  clear b6
  obtain ⟨k5, f5⟩ := bcell c5
  clear k4 f4
  go_wp2_with fail
  refine (toCurve_calls _ _ _ _ _ _ _ _ _ (raCL.below d5) haCL (raCV.below d5) haCV).mono ?_
  rintro e w6 ⟨A7aCL, A7aCV, U7_0, rfl, o7aCL, o7aCV, ⟨u7_0, u7_1⟩, b7⟩
  have c6 := bnext c5 b7 (Nat.le_refl _)
  have d6 := bbox1 c6
  have s6 := b7.size
  clear d5
  clear c5
  clear b7
  obtain ⟨k6, f6⟩ := bcell c6
  clear k5 f5
  go_wp2_with fail
  refine (toSwitchS_calls _ _ _ _ _ ((raChoices.below d6).alloc _) haChoices).mono ?_
  rintro e w7 ⟨A8, rfl, o8, b8⟩
  have qx0 := box_q b8
  replace b8 := bbox1 b8
  have c7 := bnext c6 b8 (Nat.le_refl _)
  have d7 := bbox1 c7
  have s7 := b8.size
  replace o7aCL := o7aCL.below b8
  replace o7aCV := o7aCV.below b8
  clear d6
  clear c6
  clear b8
  obtain ⟨k7, f7⟩ := bcell c7
  clear k6 f6
  replace o8 := o8.mono (L' := w6.heap.size) (by simp) (Nat.le_refl _)
  go_wp2_with fail
  refine (toInt64S_calls _ _ _ _ _ (raInflows.below d7) haInflows).mono ?_
  rintro e w8 ⟨A9, rfl, o9, b9⟩
  replace qx0 := blk_below qx0 b9 (blk_lt qx0)
  have c8 := bnext c7 b9 (Nat.le_refl _)
  have d8 := bbox1 c8
  have s8 := b9.size
  replace o7aCL := o7aCL.below b9
  replace o7aCV := o7aCV.below b9
  replace o8 := o8.below b9
  clear d7
  clear c7
  clear b9
  obtain ⟨k8, f8⟩ := bcell c8
  clear k7 f7
  have y0qx0 := blk_cell qx0 0
  have y1qx0 := blk_cell qx0 1
  go_wp2_with fail
  refine (FewestSwitches_calls _ _ _ _ _ _ _ _ _ _ _ _ _ _ _ _ _ _ _ _ (o7aCL.rd len_cInt64) haCL (o7aCV.rd len_cInt64) haCV (o8.rd len_cSwitch) haChoices (o9.rd len_cInt64) haInflows).mono ?_
  rintro e w9 ⟨rfl, b10⟩
  clear y0qx0 y1qx0
  replace qx0 := blk_below qx0 b10 (blk_lt qx0)
  have c9 := bnext c8 b10 (Nat.le_refl _)
  have d9 := bbox1 c9
  have s9 := b10.size
  replace o7aCL := o7aCL.below b10
  replace o7aCV := o7aCV.below b10
  replace o8 := o8.below b10
  replace o9 := o9.below b10
  clear d8
  clear c8
  clear b10
  obtain ⟨k9, f9⟩ := bcell c9
  clear k8 f8
  go_upto_region 17 with fail
  have ga := blk_below (heap_alloc_new w (.cells #[.slice aaCL naCL caCL, .slice aaCV naCV caCV] 24)) c9 (by simp)
  have lA := blk_lt ga
  have lX := blk_lt qx0
  obtain ⟨gX, hX⟩ : ∃ G, G = w6.heap.size := ⟨_, rfl⟩
  have QX := hd qx0
  rw [← hX] at lX
  have ka0 : w9.cell? ⟨w.heap.size, 0, none⟩ = some (.slice aaCL naCL caCL) := blk_cell ga 0
  have ka1 : w9.cell? ⟨w.heap.size, 1, none⟩ = some (.slice aaCV naCV caCV) := blk_cell ga 1
  have kx0 : w9.cell? ⟨w6.heap.size, 0, none⟩ = some (.slice A7aCL naCL naCL) := blk_cell qx0 0
  have kx1 : w9.cell? ⟨w6.heap.size, 1, none⟩ = some (.slice A7aCV naCV naCV) := blk_cell qx0 1
  rw [hX] at lX
  clear hX gX
  have GA := hd ga
  clear ga qx0
  go_cut [84] (fun s wx => s = .bool false ∧ Below w9.heap.size w9 wx)
  case first =>
    have nka0 := World.new_ne w9 _ ka0
    have nka1 := World.new_ne w9 _ ka1
    have nkx0 := World.new_ne w9 _ kx0
    have nkx1 := World.new_ne w9 _ kx1
    go_region_held3 (fun w' => w'.cell? ⟨w.heap.size, 0, none⟩ = some (.slice aaCL naCL caCL) ∧ w'.cell? ⟨w.heap.size, 1, none⟩ = some (.slice aaCV naCV caCV) ∧ w'.cell? ⟨w6.heap.size, 0, none⟩ = some (.slice A7aCL naCL naCL) ∧ w'.cell? ⟨w6.heap.size, 1, none⟩ = some (.slice A7aCV naCV naCV))
      (first | with_reducible exact ⟨x2_0, x2_1, x2_2, x2_3⟩ | with_reducible exact ⟨x1_0, x1_1, x1_2, x1_3⟩ | go_keep)
      (first
        | (go_at_call 18; refine (toCurve_calls _ _ _ _ _ _ _ _ _ ((raCL.below d9).below (by go_grown)) haCL ((raCV.below d9).below (by go_grown)) haCV).mono ?_; rintro e v1 ⟨B0, B1, u0, rfl, ob0, ob1, -, b1⟩; have q1 : Below w9.heap.size w9 v1 := Below.trans (by go_grown) (b1.mono (by simp)); have x1_0 := (q1.cell (p := ⟨w.heap.size, 0, none⟩) lA).trans ka0; have x1_1 := (q1.cell (p := ⟨w.heap.size, 1, none⟩) lA).trans ka1; have x1_2 := (q1.cell (p := ⟨w6.heap.size, 0, none⟩) lX).trans kx0; have x1_3 := (q1.cell (p := ⟨w6.heap.size, 1, none⟩) lX).trans kx1)
        | (go_at_call 21; refine (eqCurve_calls _ _ _ _ _ _ _ _ _ _ _ _ _ ((o7aCL.rd len_cInt64).below (Below.trans q1 (Below.mono (by go_grown) q1.size))) ((ob0.rd len_cInt64).below (by go_grown)) haCL ((o7aCV.rd len_cInt64).below (Below.trans q1 (Below.mono (by go_grown) q1.size))) ((ob1.rd len_cInt64).below (by go_grown)) haCV).mono ?_; rintro e v2 ⟨rfl, b2⟩; have q2 : Below w9.heap.size w9 v2 := Below.trans q1 (Below.trans (Below.mono (B := v1.heap.size) (by go_grown) q1.size) (b2.mono (by have := q1.size; simp; try omega))); have x2_0 := (q2.cell (p := ⟨w.heap.size, 0, none⟩) lA).trans ka0; have x2_1 := (q2.cell (p := ⟨w.heap.size, 1, none⟩) lA).trans ka1; have x2_2 := (q2.cell (p := ⟨w6.heap.size, 0, none⟩) lX).trans kx0; have x2_3 := (q2.cell (p := ⟨w6.heap.size, 1, none⟩) lX).trans kx1))
    all_goals
      go_wp2_with fail
      go_meet
      first | exact ⟨rfl, q2⟩ | exact ⟨rfl, q2.drew⟩ | exact ⟨rfl, bdrewN q2 _⟩
  case rest =>
  obtain ⟨rfl, b11⟩ := hcut
  have qx0 := QX.out
  clear ka0 ka1 kx0 kx1 lA lX GA QX
  obtain ⟨w10, hW⟩ : ∃ W, W = wc := ⟨_, rfl⟩
  subst hW
  replace qx0 := blk_below qx0 b11 (blk_lt qx0)
  have c10 := bnext c9 b11 (Nat.le_refl _)
  have d10 := bbox1 c10
  have s10 := b11.size
  replace o7aCL := o7aCL.below b11
  replace o7aCV := o7aCV.below b11
  replace o8 := o8.below b11
  replace o9 := o9.below b11
  clear d9
  clear c9
  clear b11
  obtain ⟨k10, f10⟩ := bcell c10
  clear k9 f9
  go_wp2_with fail
  refine (toSwitchS_calls _ _ _ _ _ (raChoices.below d10) haChoices).mono ?_
  rintro e w11 ⟨A12, rfl, o12, b12⟩
  replace qx0 := blk_below qx0 b12 (blk_lt qx0)
  have c11 := bnext c10 b12 (Nat.le_refl _)
  have d11 := bbox1 c11
  have s11 := b12.size
  replace o7aCL := o7aCL.below b12
  replace o7aCV := o7aCV.below b12
  replace o8 := o8.below b12
  replace o9 := o9.below b12
  clear d10
  clear c10
  clear b12
  obtain ⟨k11, f11⟩ := bcell c11
  clear k10 f10
  go_wp2_with fail
  refine (eqSwitchS_calls _ _ _ _ _ _ _ _ _ (o8.rd len_cSwitch) (o12.rd len_cSwitch) haChoices haChoices).mono ?_
  rintro e w12 ⟨rfl, b13⟩
  clear o12
  replace qx0 := blk_below qx0 b13 (blk_lt qx0)
  have c12 := bnext c11 b13 (Nat.le_refl _)
  have d12 := bbox1 c12
  have s12 := b13.size
  replace o7aCL := o7aCL.below b13
  replace o7aCV := o7aCV.below b13
  replace o8 := o8.below b13
  replace o9 := o9.below b13
  clear d11
  clear c11
  clear b13
  obtain ⟨k12, f12⟩ := bcell c12
  clear k11 f11
  go_wp2_with fail
  refine (toInt64S_calls _ _ _ _ _ (raInflows.below d12) haInflows).mono ?_
  rintro e w13 ⟨A14, rfl, o14, b14⟩
  replace qx0 := blk_below qx0 b14 (blk_lt qx0)
  have c13 := bnext c12 b14 (Nat.le_refl _)
  have d13 := bbox1 c13
  have s13 := b14.size
  replace o7aCL := o7aCL.below b14
  replace o7aCV := o7aCV.below b14
  replace o8 := o8.below b14
  replace o9 := o9.below b14
  clear d12
  clear c12
  clear b14
  obtain ⟨k13, f13⟩ := bcell c13
  clear k12 f12
  go_wp2_with fail
  refine (eqInt64S_calls _ _ _ _ _ _ _ _ _ (o9.rd len_cInt64) (o14.rd len_cInt64) haInflows haInflows).mono ?_
  rintro e w14 ⟨rfl, b15⟩
  clear o14
  replace qx0 := blk_below qx0 b15 (blk_lt qx0)
  have c14 := bnext c13 b15 (Nat.le_refl _)
  have d14 := bbox1 c14
  have s14 := b15.size
  replace o7aCL := o7aCL.below b15
  replace o7aCV := o7aCV.below b15
  replace o8 := o8.below b15
  replace o9 := o9.below b15
  clear d13
  clear c13
  clear b15
  obtain ⟨k14, f14⟩ := bcell c14
  clear k13 f13
  go_wp2_with fail
  go_ret
  exact ⟨rfl, d14⟩
end Go.Proofs.Ytieomdjcnaaopaa
