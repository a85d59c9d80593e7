/- The law on WaterAfter, walked out of the contracts of what it calls. -/
import Derived.Test.YthabjlhfidcnoaaPump4
import Derived.Deep.RegionHeld3
import Derived.Deep.DeepCutAuto
namespace Go.Proofs.Ythabjlhfidcnoaa
open Go.RowKit
set_option linter.unusedVariables false

set_option maxRecDepth 100000 in
set_option maxHeartbeats 2000000 in
theorem FnExactWaterAfter_calls (aPS : Int) (aPL : Int) (aPH : Int) (aPC : Int) (aaPI : Option Addr) (naPI caPI : Nat) (xaPI : List Int) (aaPP : Option Addr) (naPP caPP : Nat) (xaPP : List Int) (aaPlan : Option Addr) (naPlan caPlan : Nat) (xaPlan : List (Int)) (w : World)
    (_waPS : (Lit.int .i64 aPS).wf = true) (_waPL : (Lit.int .i64 aPL).wf = true) (_waPH : (Lit.int .i64 aPH).wf = true) (_waPC : (Lit.int .i64 aPC).wf = true) (raPI : RdI w aaPI naPI xaPI) (_laPI : naPI ≤ caPI) (_maPI : caPI ≤ maxLen) (_oaPI : ∀ z ∈ xaPI, OkInt64 z) (raPP : RdI w aaPP naPP xaPP) (_laPP : naPP ≤ caPP) (_maPP : caPP ≤ maxLen) (_oaPP : ∀ z ∈ xaPP, OkInt64 z) (raPlan : RdInt64 w aaPlan naPlan xaPlan) (_laPlan : naPlan ≤ caPlan) (_maPlan : caPlan ≤ maxLen) (_oaPlan : ∀ z ∈ xaPlan, OkInt64 z) :
    Calls Try.prog 7 #[.agg #[.int .i64 aPS, .int .i64 aPL, .int .i64 aPH, .int .i64 aPC, .slice aaPI naPI caPI, .slice aaPP naPP caPP], .slice aaPlan naPlan caPlan] w fun e w' => e = .returned (.bool true) ∧ Below w.heap.size w w' := by
  by_cases haPlan : naPlan ≤ 1048576
  case neg =>
    have haPlan' : (1048576 : Int) < naPlan := by omega
    have _zaPlan := _maPlan
    unfold maxLen at _zaPlan
    go_enter Try.func7, Try.ntmps7
    go_wp2
    go_ret
    exact ⟨rfl, ((Below.refl _ _).alloc (Nat.le_refl _) _)⟩
  go_enter Try.func7, Try.ntmps7
  go_wp2_with fail
  have _zaPI := _maPI
  unfold maxLen at _zaPI
  have _zaPP := _maPP
  unfold maxLen at _zaPP
  refine (szPumping_calls _ _ _ _ _ _ _ _ _ _ _ _ (by omega) (by omega) (by omega) (by omega)).mono ?_
  rintro e w1 ⟨l1, rfl, hs1, b1⟩
  have c1 := b1
  have d1 := bbox1 b1
  have s1 := b1.size
  clear b1
  obtain ⟨k1, f1⟩ := bcell c1
  rcases hs1 with ⟨hs1, rfl⟩ | ⟨hs1, rfl⟩
  case inl =>
    go_wp2_with fail
    go_ret
    exact ⟨rfl, d1⟩
  have haPI : naPI ≤ 1048576 := by omega
  have haPP : naPP ≤ 1048576 := by omega
  clear _zaPI _zaPP
  go_wp2_with fail
  refine (toPumping_calls _ _ _ _ _ _ _ _ _ _ _ _ _ (raPI.below d1) haPI (raPP.below d1) haPP).mono ?_
  rintro e w2 ⟨A2aPI, A2aPP, U2_0, rfl, o2aPI, o2aPP, ⟨u2_0, u2_1⟩, b2⟩
  have c2 := bnext c1 b2 (Nat.le_refl _)
  have d2 := bbox1 c2
  have s2 := b2.size
  clear d1
  clear c1
  clear b2
  obtain ⟨k2, f2⟩ := bcell c2
  clear k1 f1
  go_wp2_with fail
  refine (toInt64S_calls _ _ _ _ _ (raPlan.below d2) haPlan).mono ?_
  rintro e w3 ⟨A3, rfl, o3, b3⟩
  have c3 := bnext c2 b3 (Nat.le_refl _)
  have d3 := bbox1 c3
  have s3 := b3.size
  replace o2aPI := o2aPI.below b3
  replace o2aPP := o2aPP.below b3
  clear d2
  clear c2
  clear b3
  obtain ⟨k3, f3⟩ := bcell c3
  clear k2 f2
  go_wp2_with fail
  refine (specWaterAfter_calls _ _ _ _ _ _ _ _ _ _ _ _ _ _ _ _ _ (o2aPI.rd len_cInt64) haPI (o2aPP.rd len_cInt64) haPP (o3.rd len_cInt64) haPlan).mono ?_
  rintro e w4 ⟨A4w0, n4w0, q4w0, rfl, o4w0, h4w0, b4⟩
  clear o2aPI
  clear o2aPP
  clear o3
  have c4 := bnext c3 b4 (Nat.le_refl _)
  have d4 := bbox1 c4
  have s4 := b4.size
  clear d3
  clear c3
  clear b4
  obtain ⟨k4, f4⟩ := bcell c4
  clear k3 f3
  go_wp2_with fail
  refine (toPumping_calls _ _ _ _ _ _ _ _ _ _ _ _ _ (raPI.below d4) haPI (raPP.below d4) haPP).mono ?_
  rintro e w5 ⟨A5aPI, A5aPP, U5_0, rfl, o5aPI, o5aPP, ⟨u5_0, u5_1⟩, b5⟩
  have c5 := bnext c4 b5 (Nat.le_refl _)
  have d5 := bbox1 c5
  have s5 := b5.size
  replace o4w0 := o4w0.below b5
  clear d4
  clear c4
  clear b5
  obtain ⟨k5, f5⟩ := bcell c5
  clear k4 f4
  go_wp2_with fail
  refine (toInt64S_calls _ _ _ _ _ ((raPlan.below d5).alloc _) haPlan).mono ?_
  rintro e w6 ⟨A6, rfl, o6, b6⟩
  have qx0 := box_q b6
  replace b6 := bbox1 b6
  have c6 := bnext c5 b6 (Nat.le_refl _)
  have d6 := bbox1 c6
  have s6 := b6.size
  replace o4w0 := o4w0.below b6
  replace o5aPI := o5aPI.below b6
  replace o5aPP := o5aPP.below b6
  clear d5
  clear c5
  clear b6
  obtain ⟨k6, f6⟩ := bcell c6
  clear k5 f5
  replace o6 := o6.mono (L' := w5.heap.size) (by simp) (Nat.le_refl _)
  have y0qx0 := blk_cell qx0 0
  have y1qx0 := blk_cell qx0 1
  have y2qx0 := blk_cell qx0 2
  have y3qx0 := blk_cell qx0 3
  have y4qx0 := blk_cell qx0 4
  have y5qx0 := blk_cell qx0 5
  go_wp2_with fail
  refine (WaterAfter_calls _ _ _ _ _ _ _ _ _ _ _ _ _ _ _ _ _ (o5aPI.rd len_cInt64) haPI (o5aPP.rd len_cInt64) haPP (o6.rd len_cInt64) haPlan).mono ?_
  rintro e w7 ⟨A7g0, n7g0, q7g0, rfl, o7g0, h7g0, b7⟩
  clear y0qx0 y1qx0 y2qx0 y3qx0 y4qx0 y5qx0
  replace qx0 := blk_below qx0 b7 (blk_lt qx0)
  have c7 := bnext c6 b7 (Nat.le_refl _)
  have d7 := bbox1 c7
  have s7 := b7.size
  replace o4w0 := o4w0.below b7
  replace o5aPI := o5aPI.below b7
  replace o5aPP := o5aPP.below b7
  replace o6 := o6.below b7
  clear d6
  clear c6
  clear b7
  obtain ⟨k7, f7⟩ := bcell c7
  clear k6 f6
  go_wp2_with fail
  refine (eqInt64S_calls _ _ _ _ _ _ _ _ _ (o7g0.rd len_cInt64) (o4w0.rd len_cInt64) h7g0 h4w0).mono ?_
  rintro e w8 ⟨rfl, b8⟩
  replace qx0 := blk_below qx0 b8 (blk_lt qx0)
  have c8 := bnext c7 b8 (Nat.le_refl _)
  have d8 := bbox1 c8
  have s8 := b8.size
  replace o4w0 := o4w0.below b8
  replace o5aPI := o5aPI.below b8
  replace o5aPP := o5aPP.below b8
  replace o6 := o6.below b8
  replace o7g0 := o7g0.below b8
  clear d7
  clear c7
  clear b8
  obtain ⟨k8, f8⟩ := bcell c8
  clear k7 f7
  go_upto_region 13 with fail
  have ga := blk_below (heap_alloc_new w (.cells #[.int .i64 aPS, .int .i64 aPL, .int .i64 aPH, .int .i64 aPC, .slice aaPI naPI caPI, .slice aaPP naPP caPP] 24)) c8 (by simp)
  have lA := blk_lt ga
  have lX := blk_lt qx0
  obtain ⟨gX, hX⟩ : ∃ G, G = w5.heap.size := ⟨_, rfl⟩
  have QX := hd qx0
  rw [← hX] at lX
  have ka0 : w8.cell? ⟨w.heap.size, 0, none⟩ = some (.int .i64 aPS) := blk_cell ga 0
  have ka1 : w8.cell? ⟨w.heap.size, 1, none⟩ = some (.int .i64 aPL) := blk_cell ga 1
  have ka2 : w8.cell? ⟨w.heap.size, 2, none⟩ = some (.int .i64 aPH) := blk_cell ga 2
  have ka3 : w8.cell? ⟨w.heap.size, 3, none⟩ = some (.int .i64 aPC) := blk_cell ga 3
  have ka4 : w8.cell? ⟨w.heap.size, 4, none⟩ = some (.slice aaPI naPI caPI) := blk_cell ga 4
  have ka5 : w8.cell? ⟨w.heap.size, 5, none⟩ = some (.slice aaPP naPP caPP) := blk_cell ga 5
  have kx0 : w8.cell? ⟨w5.heap.size, 0, none⟩ = some (.int .i64 aPS) := blk_cell qx0 0
  have kx1 : w8.cell? ⟨w5.heap.size, 1, none⟩ = some (.int .i64 aPL) := blk_cell qx0 1
  have kx2 : w8.cell? ⟨w5.heap.size, 2, none⟩ = some (.int .i64 aPH) := blk_cell qx0 2
  have kx3 : w8.cell? ⟨w5.heap.size, 3, none⟩ = some (.int .i64 aPC) := blk_cell qx0 3
  have kx4 : w8.cell? ⟨w5.heap.size, 4, none⟩ = some (.slice A5aPI naPI naPI) := blk_cell qx0 4
  have kx5 : w8.cell? ⟨w5.heap.size, 5, none⟩ = some (.slice A5aPP naPP naPP) := blk_cell qx0 5
  rw [hX] at lX
  clear hX gX
  have GA := hd ga
  clear ga qx0
  go_cut [56] (fun s wx => s = .bool false ∧ Below w8.heap.size w8 wx)
  case first =>
    have nka0 := World.new_ne w8 _ ka0
    have nka1 := World.new_ne w8 _ ka1
    have nka2 := World.new_ne w8 _ ka2
    have nka3 := World.new_ne w8 _ ka3
    have nka4 := World.new_ne w8 _ ka4
    have nka5 := World.new_ne w8 _ ka5
    have nkx0 := World.new_ne w8 _ kx0
    have nkx1 := World.new_ne w8 _ kx1
    have nkx2 := World.new_ne w8 _ kx2
    have nkx3 := World.new_ne w8 _ kx3
    have nkx4 := World.new_ne w8 _ kx4
    have nkx5 := World.new_ne w8 _ kx5
    go_region_held3 (fun w' => w'.cell? ⟨w.heap.size, 0, none⟩ = some (.int .i64 aPS) ∧ w'.cell? ⟨w.heap.size, 1, none⟩ = some (.int .i64 aPL) ∧ w'.cell? ⟨w.heap.size, 2, none⟩ = some (.int .i64 aPH) ∧ w'.cell? ⟨w.heap.size, 3, none⟩ = some (.int .i64 aPC) ∧ w'.cell? ⟨w.heap.size, 4, none⟩ = some (.slice aaPI naPI caPI) ∧ w'.cell? ⟨w.heap.size, 5, none⟩ = some (.slice aaPP naPP caPP) ∧ w'.cell? ⟨w5.heap.size, 0, none⟩ = some (.int .i64 aPS) ∧ w'.cell? ⟨w5.heap.size, 1, none⟩ = some (.int .i64 aPL) ∧ w'.cell? ⟨w5.heap.size, 2, none⟩ = some (.int .i64 aPH) ∧ w'.cell? ⟨w5.heap.size, 3, none⟩ = some (.int .i64 aPC) ∧ w'.cell? ⟨w5.heap.size, 4, none⟩ = some (.slice A5aPI naPI naPI) ∧ w'.cell? ⟨w5.heap.size, 5, none⟩ = some (.slice A5aPP naPP naPP))
      (first | with_reducible exact ⟨x2_0, x2_1, x2_2, x2_3, x2_4, x2_5, x2_6, x2_7, x2_8, x2_9, x2_10, x2_11⟩ | with_reducible exact ⟨x1_0, x1_1, x1_2, x1_3, x1_4, x1_5, x1_6, x1_7, x1_8, x1_9, x1_10, x1_11⟩ | go_keep)
      (first
        | (go_at_call 16; refine (toPumping_calls _ _ _ _ _ _ _ _ _ _ _ _ _ ((raPI.below d8).below (by go_grown)) haPI ((raPP.below d8).below (by go_grown)) haPP).mono ?_; rintro e v1 ⟨B0, B1, u0, rfl, ob0, ob1, -, b1⟩; have q1 : Below w8.heap.size w8 v1 := Below.trans (by go_grown) (b1.mono (by simp)); have x1_0 := (q1.cell (p := ⟨w.heap.size, 0, none⟩) lA).trans ka0; have x1_1 := (q1.cell (p := ⟨w.heap.size, 1, none⟩) lA).trans ka1; have x1_2 := (q1.cell (p := ⟨w.heap.size, 2, none⟩) lA).trans ka2; have x1_3 := (q1.cell (p := ⟨w.heap.size, 3, none⟩) lA).trans ka3; have x1_4 := (q1.cell (p := ⟨w.heap.size, 4, none⟩) lA).trans ka4; have x1_5 := (q1.cell (p := ⟨w.heap.size, 5, none⟩) lA).trans ka5; have x1_6 := (q1.cell (p := ⟨w5.heap.size, 0, none⟩) lX).trans kx0; have x1_7 := (q1.cell (p := ⟨w5.heap.size, 1, none⟩) lX).trans kx1; have x1_8 := (q1.cell (p := ⟨w5.heap.size, 2, none⟩) lX).trans kx2; have x1_9 := (q1.cell (p := ⟨w5.heap.size, 3, none⟩) lX).trans kx3; have x1_10 := (q1.cell (p := ⟨w5.heap.size, 4, none⟩) lX).trans kx4; have x1_11 := (q1.cell (p := ⟨w5.heap.size, 5, none⟩) lX).trans kx5)
        | (go_at_call 18; refine (eqPumping_calls _ _ _ _ _ _ _ _ _ _ _ _ _ _ _ _ _ ((o5aPI.rd len_cInt64).below (Below.trans q1 (Below.mono (by go_grown) q1.size))) ((ob0.rd len_cInt64).below (by go_grown)) haPI ((o5aPP.rd len_cInt64).below (Below.trans q1 (Below.mono (by go_grown) q1.size))) ((ob1.rd len_cInt64).below (by go_grown)) haPP).mono ?_; rintro e v2 ⟨rfl, b2⟩; have q2 : Below w8.heap.size w8 v2 := Below.trans q1 (Below.trans (Below.mono (B := v1.heap.size) (by go_grown) q1.size) (b2.mono (by have := q1.size; simp; try omega))); have x2_0 := (q2.cell (p := ⟨w.heap.size, 0, none⟩) lA).trans ka0; have x2_1 := (q2.cell (p := ⟨w.heap.size, 1, none⟩) lA).trans ka1; have x2_2 := (q2.cell (p := ⟨w.heap.size, 2, none⟩) lA).trans ka2; have x2_3 := (q2.cell (p := ⟨w.heap.size, 3, none⟩) lA).trans ka3; have x2_4 := (q2.cell (p := ⟨w.heap.size, 4, none⟩) lA).trans ka4; have x2_5 := (q2.cell (p := ⟨w.heap.size, 5, none⟩) lA).trans ka5; have x2_6 := (q2.cell (p := ⟨w5.heap.size, 0, none⟩) lX).trans kx0; have x2_7 := (q2.cell (p := ⟨w5.heap.size, 1, none⟩) lX).trans kx1; have x2_8 := (q2.cell (p := ⟨w5.heap.size, 2, none⟩) lX).trans kx2; have x2_9 := (q2.cell (p := ⟨w5.heap.size, 3, none⟩) lX).trans kx3; have x2_10 := (q2.cell (p := ⟨w5.heap.size, 4, none⟩) lX).trans kx4; have x2_11 := (q2.cell (p := ⟨w5.heap.size, 5, none⟩) lX).trans kx5))
    all_goals
      go_wp2_with fail
      go_meet
      first | exact ⟨rfl, q2⟩ | exact ⟨rfl, q2.drew⟩ | exact ⟨rfl, bdrewN q2 _⟩
  case rest =>
  obtain ⟨rfl, b9⟩ := hcut
  have qx0 := QX.out
  clear ka0 ka1 ka2 ka3 ka4 ka5 kx0 kx1 kx2 kx3 kx4 kx5 lA lX GA QX
  obtain ⟨w9, hW⟩ : ∃ W, W = wc := ⟨_, rfl⟩
  subst hW
  replace qx0 := blk_below qx0 b9 (blk_lt qx0)
  have c9 := bnext c8 b9 (Nat.le_refl _)
  have d9 := bbox1 c9
  have s9 := b9.size
  replace o4w0 := o4w0.below b9
  replace o5aPI := o5aPI.below b9
  replace o5aPP := o5aPP.below b9
  replace o6 := o6.below b9
  replace o7g0 := o7g0.below b9
  clear d8
  clear c8
  clear b9
  obtain ⟨k9, f9⟩ := bcell c9
  clear k8 f8
  go_wp2_with fail
  refine (toInt64S_calls _ _ _ _ _ (raPlan.below d9) haPlan).mono ?_
  rintro e w10 ⟨A10, rfl, o10, b10⟩
  replace qx0 := blk_below qx0 b10 (blk_lt qx0)
  have c10 := bnext c9 b10 (Nat.le_refl _)
  have d10 := bbox1 c10
  have s10 := b10.size
  replace o4w0 := o4w0.below b10
  replace o5aPI := o5aPI.below b10
  replace o5aPP := o5aPP.below b10
  replace o6 := o6.below b10
  replace o7g0 := o7g0.below b10
  clear d9
  clear c9
  clear b10
  obtain ⟨k10, f10⟩ := bcell c10
  clear k9 f9
  go_wp2_with fail
  refine (eqInt64S_calls _ _ _ _ _ _ _ _ _ (o6.rd len_cInt64) (o10.rd len_cInt64) haPlan haPlan).mono ?_
  rintro e w11 ⟨rfl, b11⟩
  clear o10
  replace qx0 := blk_below qx0 b11 (blk_lt qx0)
  have c11 := bnext c10 b11 (Nat.le_refl _)
  have d11 := bbox1 c11
  have s11 := b11.size
  replace o4w0 := o4w0.below b11
  replace o5aPI := o5aPI.below b11
  replace o5aPP := o5aPP.below b11
  replace o6 := o6.below b11
  replace o7g0 := o7g0.below b11
  clear d10
  clear c10
  clear b11
  obtain ⟨k11, f11⟩ := bcell c11
  clear k10 f10
  have y0qx0 := blk_cell qx0 0
  have y1qx0 := blk_cell qx0 1
  have y2qx0 := blk_cell qx0 2
  have y3qx0 := blk_cell qx0 3
  have y4qx0 := blk_cell qx0 4
  have y5qx0 := blk_cell qx0 5
  go_wp2_with fail
  refine (markPumping_calls _ _ _ _ _ _ _ _ _ _ _ _ _ _ _ _ o5aPI haPI (by omega) _ _ o5aPP haPP (by omega) (by omega) (by omega) (by omega)).mono ?_
  rintro e w13 ⟨w12, rfl, p12_0, g12_0, p12_1, g12_1⟩
  clear y0qx0 y1qx0 y2qx0 y3qx0 y4qx0 y5qx0
  clear qx0
  have c12 := below_only c11 g12_0 (Nat.le_refl _) (fun g hg => by have := o5aPI.row hg; have := c11.size; omega)
  have d12 := bbox1 c12
  have s12 := g12_0.size
  replace o4w0 := o4w0.only g12_0 (fun g hg => by have := o5aPI.row hg; omega)
  replace o5aPP := o5aPP.only g12_0 (fun g hg => by have := o5aPI.row hg; omega)
  replace o6 := o6.only g12_0 (fun g hg => by have := o5aPI.row hg; omega)
  replace o7g0 := o7g0.only g12_0 (fun g hg => by have := o5aPI.row hg; omega)
  clear o5aPI
  clear d11
  clear c11
  clear g12_0
  obtain ⟨k12, f12⟩ := bcell c12
  clear k11 f11
  have c13 := below_only c12 g12_1 (Nat.le_refl _) (fun g hg => by have := o5aPP.row hg; have := c12.size; omega)
  have d13 := bbox1 c13
  have s13 := g12_1.size
  replace o4w0 := o4w0.only g12_1 (fun g hg => by have := o5aPP.row hg; omega)
  replace p12_0 := p12_0.only g12_1 (fun g hg => by have := o5aPP.row hg; omega)
  replace o6 := o6.only g12_1 (fun g hg => by have := o5aPP.row hg; omega)
  replace o7g0 := o7g0.only g12_1 (fun g hg => by have := o5aPP.row hg; omega)
  clear o5aPP
  clear d12
  clear c12
  clear g12_1
  obtain ⟨k13, f13⟩ := bcell c13
  clear k12 f12
  go_wp2_with fail
  refine (markInt64S_calls _ _ _ _ _ _ _ _ o6 haPlan (by omega) (by omega)).mono ?_
  rintro e w14 ⟨rfl, p13, g13⟩
  have c14 := below_only c13 g13 (Nat.le_refl _) (fun g hg => by have := o6.row hg; have := c13.size; omega)
  have d14 := bbox1 c14
  have s14 := g13.size
  replace o4w0 := o4w0.only g13 (fun g hg => by have := o6.row hg; omega)
  replace p12_0 := p12_0.only g13 (fun g hg => by have := o6.row hg; omega)
  replace p12_1 := p12_1.only g13 (fun g hg => by have := o6.row hg; omega)
  replace o7g0 := o7g0.only g13 (fun g hg => by have := o6.row hg; omega)
  clear o6
  clear d13
  clear c13
  clear g13
  obtain ⟨k14, f14⟩ := bcell c14
  clear k13 f13
  go_wp2_with fail
  refine (eqInt64S_calls _ _ _ _ _ _ _ _ _ (o7g0.rd len_cInt64) (o4w0.rd len_cInt64) h7g0 h4w0).mono ?_
  rintro e w15 ⟨rfl, b14⟩
  have c15 := bnext c14 b14 (Nat.le_refl _)
  have d15 := bbox1 c15
  have s15 := b14.size
  replace o4w0 := o4w0.below b14
  replace p12_0 := p12_0.below b14
  replace p12_1 := p12_1.below b14
  replace p13 := p13.below b14
  replace o7g0 := o7g0.below b14
  clear d14
  clear c14
  clear b14
  obtain ⟨k15, f15⟩ := bcell c15
  clear k14 f14
  go_wp2_with fail
  refine (markInt64S_calls _ _ _ _ _ _ _ _ o7g0 h7g0 (by omega) (by omega)).mono ?_
  rintro e w16 ⟨rfl, p15, g15⟩
  have c16 := below_only c15 g15 (Nat.le_refl _) (fun g hg => by have := o7g0.row hg; have := c15.size; omega)
  have d16 := bbox1 c16
  have s16 := g15.size
  replace o4w0 := o4w0.only g15 (fun g hg => by have := o7g0.row hg; omega)
  replace p12_0 := p12_0.only g15 (fun g hg => by have := o7g0.row hg; omega)
  replace p12_1 := p12_1.only g15 (fun g hg => by have := o7g0.row hg; omega)
  replace p13 := p13.only g15 (fun g hg => by have := o7g0.row hg; omega)
  clear o7g0
  clear d15
  clear c15
  clear g15
  obtain ⟨k16, f16⟩ := bcell c16
  clear k15 f15
  go_wp2_with fail
  refine (heldInt64S_calls _ _ _ _ _ (p15.rd len_cInt64) h7g0 (by omega) (by omega)).mono ?_
  rintro e w17 ⟨rfl, b16⟩
  have c17 := bnext c16 b16 (Nat.le_refl _)
  have d17 := bbox1 c17
  have s17 := b16.size
  replace o4w0 := o4w0.below b16
  replace p12_0 := p12_0.below b16
  replace p12_1 := p12_1.below b16
  replace p13 := p13.below b16
  replace p15 := p15.below b16
  clear d16
  clear c16
  clear b16
  obtain ⟨k17, f17⟩ := bcell c17
  clear k16 f16
  go_wp2_with fail
  refine (toPumping_calls _ _ _ _ _ _ _ _ _ _ _ _ _ (raPI.below d17) haPI (raPP.below d17) haPP).mono ?_
  rintro e w18 ⟨A17aPI, A17aPP, U17_0, rfl, o17aPI, o17aPP, ⟨u17_0, u17_1⟩, b17⟩
  have c18 := bnext c17 b17 (Nat.le_refl _)
  have d18 := bbox1 c18
  have s18 := b17.size
  replace o4w0 := o4w0.below b17
  replace p12_0 := p12_0.below b17
  replace p12_1 := p12_1.below b17
  replace p13 := p13.below b17
  replace p15 := p15.below b17
  clear d17
  clear c17
  clear b17
  obtain ⟨k18, f18⟩ := bcell c18
  clear k17 f17
  go_wp2_with fail
  refine (toInt64S_calls _ _ _ _ _ (raPlan.below d18) haPlan).mono ?_
  rintro e w19 ⟨A18, rfl, o18, b18⟩
  have c19 := bnext c18 b18 (Nat.le_refl _)
  have d19 := bbox1 c19
  have s19 := b18.size
  replace o4w0 := o4w0.below b18
  replace p12_0 := p12_0.below b18
  replace p12_1 := p12_1.below b18
  replace p13 := p13.below b18
  replace p15 := p15.below b18
  replace o17aPI := o17aPI.below b18
  replace o17aPP := o17aPP.below b18
  clear d18
  clear c18
  clear b18
  obtain ⟨k19, f19⟩ := bcell c19
  clear k18 f18
  go_wp2_with fail
  refine (WaterAfter_calls _ _ _ _ _ _ _ _ _ _ _ _ _ _ _ _ _ (o17aPI.rd len_cInt64) haPI (o17aPP.rd len_cInt64) haPP (o18.rd len_cInt64) haPlan).mono ?_
  rintro e w20 ⟨A19h0, n19h0, q19h0, rfl, o19h0, h19h0, b19⟩
  clear o17aPI
  clear o17aPP
  clear o18
  have c20 := bnext c19 b19 (Nat.le_refl _)
  have d20 := bbox1 c20
  have s20 := b19.size
  replace o4w0 := o4w0.below b19
  replace p12_0 := p12_0.below b19
  replace p12_1 := p12_1.below b19
  replace p13 := p13.below b19
  replace p15 := p15.below b19
  clear d19
  clear c19
  clear b19
  obtain ⟨k20, f20⟩ := bcell c20
  clear k19 f19
  go_wp2_with fail
  refine (eqInt64S_calls _ _ _ _ _ _ _ _ _ (o19h0.rd len_cInt64) (o4w0.rd len_cInt64) h19h0 h4w0).mono ?_
  rintro e w21 ⟨rfl, b20⟩
  have c21 := bnext c20 b20 (Nat.le_refl _)
  have d21 := bbox1 c21
  have s21 := b20.size
  replace o4w0 := o4w0.below b20
  replace p12_0 := p12_0.below b20
  replace p12_1 := p12_1.below b20
  replace p13 := p13.below b20
  replace p15 := p15.below b20
  replace o19h0 := o19h0.below b20
  clear d20
  clear c20
  clear b20
  obtain ⟨k21, f21⟩ := bcell c21
  clear k20 f20
  go_wp2_with fail
  refine (heldInt64S_calls _ _ _ _ _ (p15.rd len_cInt64) h7g0 (by omega) (by omega)).mono ?_
  rintro e w22 ⟨rfl, b21⟩
  have c22 := bnext c21 b21 (Nat.le_refl _)
  have d22 := bbox1 c22
  have s22 := b21.size
  replace o4w0 := o4w0.below b21
  replace p12_0 := p12_0.below b21
  replace p12_1 := p12_1.below b21
  replace p13 := p13.below b21
  replace p15 := p15.below b21
  replace o19h0 := o19h0.below b21
  clear d21
  clear c21
  clear b21
  obtain ⟨k22, f22⟩ := bcell c22
  clear k21 f21
  go_wp2_with fail
  go_ret
  exact ⟨rfl, d22⟩
end Go.Proofs.Ythabjlhfidcnoaa
