/- The law on SavingOf, walked out of the contracts of what it calls. -/
import Derived.Test.YthabjlhfidcnoaaSav
import Derived.Deep.RegionHeld3
import Derived.Deep.DeepCutAuto
namespace Go.Proofs.Ythabjlhfidcnoaa
open Go.RowKit
set_option linter.unusedVariables false

set_option maxRecDepth 100000 in
set_option maxHeartbeats 2000000 in
theorem FnExactSavingOf_calls (aPS : Int) (aPL : Int) (aPH : Int) (aPC : Int) (aaPI : Option Addr) (naPI caPI : Nat) (xaPI : List Int) (aaPP : Option Addr) (naPP caPP : Nat) (xaPP : List Int) (aaPlan : Option Addr) (naPlan caPlan : Nat) (xaPlan : List (Int)) (w : World)
    (_waPS : (Lit.int .i64 aPS).wf = true) (_waPL : (Lit.int .i64 aPL).wf = true) (_waPH : (Lit.int .i64 aPH).wf = true) (_waPC : (Lit.int .i64 aPC).wf = true) (raPI : RdI w aaPI naPI xaPI) (_laPI : naPI ≤ caPI) (_maPI : caPI ≤ maxLen) (_oaPI : ∀ z ∈ xaPI, OkInt64 z) (raPP : RdI w aaPP naPP xaPP) (_laPP : naPP ≤ caPP) (_maPP : caPP ≤ maxLen) (_oaPP : ∀ z ∈ xaPP, OkInt64 z) (raPlan : RdInt64 w aaPlan naPlan xaPlan) (_laPlan : naPlan ≤ caPlan) (_maPlan : caPlan ≤ maxLen) (_oaPlan : ∀ z ∈ xaPlan, OkInt64 z) :
    Calls Try.prog 13 #[.agg #[.int .i64 aPS, .int .i64 aPL, .int .i64 aPH, .int .i64 aPC, .slice aaPI naPI caPI, .slice aaPP naPP caPP], .slice aaPlan naPlan caPlan] w fun e w' => e = .returned (.bool true) ∧ Below w.heap.size w w' := by
  by_cases haPlan : naPlan ≤ 1048576
  case neg =>
    have haPlan' : (1048576 : Int) < naPlan := by omega
    have _zaPlan := _maPlan
    unfold maxLen at _zaPlan
    go_enter Try.func13, Try.ntmps13
    go_wp2
    go_ret
    exact ⟨rfl, ((Below.refl _ _).alloc (Nat.le_refl _) _)⟩
  go_enter Try.func13, Try.ntmps13
  go_wp2_with fail
  have _zaPI := _maPI
  unfold maxLen at _zaPI
  have _zaPP := _maPP
  unfold maxLen at _zaPP
  refine (szPumping_calls _ _ _ _ _ _ _ _ _ _ _ _ (by omega) (by omega) (by omega) (by omega)).mono ?_
  rintro e w1 ⟨l1, rfl, hs1, b1⟩
  have c1 := b1
  have d1 := bbox1 b1
  have s1 := b1.size
  clear b1
  obtain ⟨k1, f1⟩ := bcell c1
  rcases hs1 with ⟨hs1, rfl⟩ | ⟨hs1, rfl⟩
  case inl =>
    go_wp2_with fail
    go_ret
    exact ⟨rfl, d1⟩
  have haPI : naPI ≤ 1048576 := by omega
  have haPP : naPP ≤ 1048576 := by omega
  clear _zaPI _zaPP
  go_wp2_with fail
  refine (toPumping_calls _ _ _ _ _ _ _ _ _ _ _ _ _ (raPI.below d1) haPI (raPP.below d1) haPP).mono ?_
  rintro e w2 ⟨A2aPI, A2aPP, U2_0, rfl, o2aPI, o2aPP, ⟨u2_0, u2_1⟩, b2⟩
  have c2 := bnext c1 b2 (Nat.le_refl _)
  have d2 := bbox1 c2
  have s2 := b2.size
  clear d1
  clear c1
  clear b2
  obtain ⟨k2, f2⟩ := bcell c2
  clear k1 f1
  go_wp2_with fail
  refine (toInt64S_calls _ _ _ _ _ (raPlan.below d2) haPlan).mono ?_
  rintro e w3 ⟨A3, rfl, o3, b3⟩
  have c3 := bnext c2 b3 (Nat.le_refl _)
  have d3 := bbox1 c3
  have s3 := b3.size
  replace o2aPI := o2aPI.below b3
  replace o2aPP := o2aPP.below b3
  clear d2
  clear c2
  clear b3
  obtain ⟨k3, f3⟩ := bcell c3
  clear k2 f2
  go_wp2_with fail
  refine (specSavingOf_calls _ _ _ _ _ _ _ _ _ _ _ _ _ _ _ _ _ (o2aPI.rd len_cInt64) haPI (o2aPP.rd len_cInt64) haPP (o3.rd len_cInt64) haPlan).mono ?_
  rintro e w4 ⟨rfl, b4⟩
  clear o2aPI
  clear o2aPP
  clear o3
  have c4 := bnext c3 b4 (Nat.le_refl _)
  have d4 := bbox1 c4
  have s4 := b4.size
  clear d3
  clear c3
  clear b4
  obtain ⟨k4, f4⟩ := bcell c4
  clear k3 f3
  go_wp2_with fail
  refine (toPumping_calls _ _ _ _ _ _ _ _ _ _ _ _ _ (raPI.below d4) haPI (raPP.below d4) haPP).mono ?_
  rintro e w5 ⟨A5aPI, A5aPP, U5_0, rfl, o5aPI, o5aPP, ⟨u5_0, u5_1⟩, b5⟩
  have c5 := bnext c4 b5 (Nat.le_refl _)
  have d5 := bbox1 c5
  have s5 := b5.size
  clear d4
  clear c4
  clear b5
  obtain ⟨k5, f5⟩ := bcell c5
  clear k4 f4
  go_wp2_with fail
  refine (toInt64S_calls _ _ _ _ _ ((raPlan.below d5).alloc _) haPlan).mono ?_
  rintro e w6 ⟨A6, rfl, o6, b6⟩
  have qx0 := box_q b6
  replace b6 := bbox1 b6
  have c6 := bnext c5 b6 (Nat.le_refl _)
  have d6 := bbox1 c6
  have s6 := b6.size
  replace o5aPI := o5aPI.below b6
  replace o5aPP := o5aPP.below b6
  clear d5
  clear c5
  clear b6
  obtain ⟨k6, f6⟩ := bcell c6
  clear k5 f5
  replace o6 := o6.mono (L' := w5.heap.size) (by simp) (Nat.le_refl _)
  have y0qx0 := blk_cell qx0 0
  have y1qx0 := blk_cell qx0 1
  have y2qx0 := blk_cell qx0 2
  have y3qx0 := blk_cell qx0 3
  have y4qx0 := blk_cell qx0 4
  have y5qx0 := blk_cell qx0 5
  go_wp2_with fail
  refine (SavingOf_calls _ _ _ _ _ _ _ _ _ _ _ _ _ _ _ _ _ (o5aPI.rd len_cInt64) haPI (o5aPP.rd len_cInt64) haPP (o6.rd len_cInt64) haPlan).mono ?_
  rintro e w7 ⟨rfl, b7⟩
  clear y0qx0 y1qx0 y2qx0 y3qx0 y4qx0 y5qx0
  replace qx0 := blk_below qx0 b7 (blk_lt qx0)
  have c7 := bnext c6 b7 (Nat.le_refl _)
  have d7 := bbox1 c7
  have s7 := b7.size
  replace o5aPI := o5aPI.below b7
  replace o5aPP := o5aPP.below b7
  replace o6 := o6.below b7
  clear d6
  clear c6
  clear b7
  obtain ⟨k7, f7⟩ := bcell c7
  clear k6 f6
  go_upto_region 13 with fail
  have ga := blk_below (heap_alloc_new w (.cells #[.int .i64 aPS, .int .i64 aPL, .int .i64 aPH, .int .i64 aPC, .slice aaPI naPI caPI, .slice aaPP naPP caPP] 24)) c7 (by simp)
  have lA := blk_lt ga
  have lX := blk_lt qx0
  obtain ⟨gX, hX⟩ : ∃ G, G = w5.heap.size := ⟨_, rfl⟩
  have QX := hd qx0
  rw [← hX] at lX
  have ka0 : w7.cell? ⟨w.heap.size, 0, none⟩ = some (.int .i64 aPS) := blk_cell ga 0
  have ka1 : w7.cell? ⟨w.heap.size, 1, none⟩ = some (.int .i64 aPL) := blk_cell ga 1
  have ka2 : w7.cell? ⟨w.heap.size, 2, none⟩ = some (.int .i64 aPH) := blk_cell ga 2
  have ka3 : w7.cell? ⟨w.heap.size, 3, none⟩ = some (.int .i64 aPC) := blk_cell ga 3
  have ka4 : w7.cell? ⟨w.heap.size, 4, none⟩ = some (.slice aaPI naPI caPI) := blk_cell ga 4
  have ka5 : w7.cell? ⟨w.heap.size, 5, none⟩ = some (.slice aaPP naPP caPP) := blk_cell ga 5
  have kx0 : w7.cell? ⟨w5.heap.size, 0, none⟩ = some (.int .i64 aPS) := blk_cell qx0 0
  have kx1 : w7.cell? ⟨w5.heap.size, 1, none⟩ = some (.int .i64 aPL) := blk_cell qx0 1
  have kx2 : w7.cell? ⟨w5.heap.size, 2, none⟩ = some (.int .i64 aPH) := blk_cell qx0 2
  have kx3 : w7.cell? ⟨w5.heap.size, 3, none⟩ = some (.int .i64 aPC) := blk_cell qx0 3
  have kx4 : w7.cell? ⟨w5.heap.size, 4, none⟩ = some (.slice A5aPI naPI naPI) := blk_cell qx0 4
  have kx5 : w7.cell? ⟨w5.heap.size, 5, none⟩ = some (.slice A5aPP naPP naPP) := blk_cell qx0 5
  rw [hX] at lX
  clear hX gX
  have GA := hd ga
  clear ga qx0
  go_cut [50] (fun s wx => s = .bool false ∧ Below w7.heap.size w7 wx)
  case first =>
    have nka0 := World.new_ne w7 _ ka0
    have nka1 := World.new_ne w7 _ ka1
    have nka2 := World.new_ne w7 _ ka2
    have nka3 := World.new_ne w7 _ ka3
    have nka4 := World.new_ne w7 _ ka4
    have nka5 := World.new_ne w7 _ ka5
    have nkx0 := World.new_ne w7 _ kx0
    have nkx1 := World.new_ne w7 _ kx1
    have nkx2 := World.new_ne w7 _ kx2
    have nkx3 := World.new_ne w7 _ kx3
    have nkx4 := World.new_ne w7 _ kx4
    have nkx5 := World.new_ne w7 _ kx5
    go_region_held3 (fun w' => w'.cell? ⟨w.heap.size, 0, none⟩ = some (.int .i64 aPS) ∧ w'.cell? ⟨w.heap.size, 1, none⟩ = some (.int .i64 aPL) ∧ w'.cell? ⟨w.heap.size, 2, none⟩ = some (.int .i64 aPH) ∧ w'.cell? ⟨w.heap.size, 3, none⟩ = some (.int .i64 aPC) ∧ w'.cell? ⟨w.heap.size, 4, none⟩ = some (.slice aaPI naPI caPI) ∧ w'.cell? ⟨w.heap.size, 5, none⟩ = some (.slice aaPP naPP caPP) ∧ w'.cell? ⟨w5.heap.size, 0, none⟩ = some (.int .i64 aPS) ∧ w'.cell? ⟨w5.heap.size, 1, none⟩ = some (.int .i64 aPL) ∧ w'.cell? ⟨w5.heap.size, 2, none⟩ = some (.int .i64 aPH) ∧ w'.cell? ⟨w5.heap.size, 3, none⟩ = some (.int .i64 aPC) ∧ w'.cell? ⟨w5.heap.size, 4, none⟩ = some (.slice A5aPI naPI naPI) ∧ w'.cell? ⟨w5.heap.size, 5, none⟩ = some (.slice A5aPP naPP naPP))
      (first | with_reducible exact ⟨x2_0, x2_1, x2_2, x2_3, x2_4, x2_5, x2_6, x2_7, x2_8, x2_9, x2_10, x2_11⟩ | with_reducible exact ⟨x1_0, x1_1, x1_2, x1_3, x1_4, x1_5, x1_6, x1_7, x1_8, x1_9, x1_10, x1_11⟩ | go_keep)
      (first
        | (go_at_call 16; refine (toPumping_calls _ _ _ _ _ _ _ _ _ _ _ _ _ ((raPI.below d7).below (by go_grown)) haPI ((raPP.below d7).below (by go_grown)) haPP).mono ?_; rintro e v1 ⟨B0, B1, u0, rfl, ob0, ob1, -, b1⟩; have q1 : Below w7.heap.size w7 v1 := Below.trans (by go_grown) (b1.mono (by simp)); have x1_0 := (q1.cell (p := ⟨w.heap.size, 0, none⟩) lA).trans ka0; have x1_1 := (q1.cell (p := ⟨w.heap.size, 1, none⟩) lA).trans ka1; have x1_2 := (q1.cell (p := ⟨w.heap.size, 2, none⟩) lA).trans ka2; have x1_3 := (q1.cell (p := ⟨w.heap.size, 3, none⟩) lA).trans ka3; have x1_4 := (q1.cell (p := ⟨w.heap.size, 4, none⟩) lA).trans ka4; have x1_5 := (q1.cell (p := ⟨w.heap.size, 5, none⟩) lA).trans ka5; have x1_6 := (q1.cell (p := ⟨w5.heap.size, 0, none⟩) lX).trans kx0; have x1_7 := (q1.cell (p := ⟨w5.heap.size, 1, none⟩) lX).trans kx1; have x1_8 := (q1.cell (p := ⟨w5.heap.size, 2, none⟩) lX).trans kx2; have x1_9 := (q1.cell (p := ⟨w5.heap.size, 3, none⟩) lX).trans kx3; have x1_10 := (q1.cell (p := ⟨w5.heap.size, 4, none⟩) lX).trans kx4; have x1_11 := (q1.cell (p := ⟨w5.heap.size, 5, none⟩) lX).trans kx5)
        | (go_at_call 18; refine (eqPumping_calls _ _ _ _ _ _ _ _ _ _ _ _ _ _ _ _ _ ((o5aPI.rd len_cInt64).below (Below.trans q1 (Below.mono (by go_grown) q1.size))) ((ob0.rd len_cInt64).below (by go_grown)) haPI ((o5aPP.rd len_cInt64).below (Below.trans q1 (Below.mono (by go_grown) q1.size))) ((ob1.rd len_cInt64).below (by go_grown)) haPP).mono ?_; rintro e v2 ⟨rfl, b2⟩; have q2 : Below w7.heap.size w7 v2 := Below.trans q1 (Below.trans (Below.mono (B := v1.heap.size) (by go_grown) q1.size) (b2.mono (by have := q1.size; simp; try omega))); have x2_0 := (q2.cell (p := ⟨w.heap.size, 0, none⟩) lA).trans ka0; have x2_1 := (q2.cell (p := ⟨w.heap.size, 1, none⟩) lA).trans ka1; have x2_2 := (q2.cell (p := ⟨w.heap.size, 2, none⟩) lA).trans ka2; have x2_3 := (q2.cell (p := ⟨w.heap.size, 3, none⟩) lA).trans ka3; have x2_4 := (q2.cell (p := ⟨w.heap.size, 4, none⟩) lA).trans ka4; have x2_5 := (q2.cell (p := ⟨w.heap.size, 5, none⟩) lA).trans ka5; have x2_6 := (q2.cell (p := ⟨w5.heap.size, 0, none⟩) lX).trans kx0; have x2_7 := (q2.cell (p := ⟨w5.heap.size, 1, none⟩) lX).trans kx1; have x2_8 := (q2.cell (p := ⟨w5.heap.size, 2, none⟩) lX).trans kx2; have x2_9 := (q2.cell (p := ⟨w5.heap.size, 3, none⟩) lX).trans kx3; have x2_10 := (q2.cell (p := ⟨w5.heap.size, 4, none⟩) lX).trans kx4; have x2_11 := (q2.cell (p := ⟨w5.heap.size, 5, none⟩) lX).trans kx5))
    all_goals
      go_wp2_with fail
      go_meet
      first | exact ⟨rfl, q2⟩ | exact ⟨rfl, q2.drew⟩ | exact ⟨rfl, bdrewN q2 _⟩
  case rest =>
  obtain ⟨rfl, b8⟩ := hcut
  have qx0 := QX.out
  clear ka0 ka1 ka2 ka3 ka4 ka5 kx0 kx1 kx2 kx3 kx4 kx5 lA lX GA QX
  obtain ⟨w8, hW⟩ : ∃ W, W = wc := ⟨_, rfl⟩
  subst hW
  replace qx0 := blk_below qx0 b8 (blk_lt qx0)
  have c8 := bnext c7 b8 (Nat.le_refl _)
  have d8 := bbox1 c8
  have s8 := b8.size
  replace o5aPI := o5aPI.below b8
  replace o5aPP := o5aPP.below b8
  replace o6 := o6.below b8
  clear d7
  clear c7
  clear b8
  obtain ⟨k8, f8⟩ := bcell c8
  clear k7 f7
  go_wp2_with fail
  refine (toInt64S_calls _ _ _ _ _ (raPlan.below d8) haPlan).mono ?_
  rintro e w9 ⟨A9, rfl, o9, b9⟩
  replace qx0 := blk_below qx0 b9 (blk_lt qx0)
  have c9 := bnext c8 b9 (Nat.le_refl _)
  have d9 := bbox1 c9
  have s9 := b9.size
  replace o5aPI := o5aPI.below b9
  replace o5aPP := o5aPP.below b9
  replace o6 := o6.below b9
  clear d8
  clear c8
  clear b9
  obtain ⟨k9, f9⟩ := bcell c9
  clear k8 f8
  go_wp2_with fail
  refine (eqInt64S_calls _ _ _ _ _ _ _ _ _ (o6.rd len_cInt64) (o9.rd len_cInt64) haPlan haPlan).mono ?_
  rintro e w10 ⟨rfl, b10⟩
  clear o9
  replace qx0 := blk_below qx0 b10 (blk_lt qx0)
  have c10 := bnext c9 b10 (Nat.le_refl _)
  have d10 := bbox1 c10
  have s10 := b10.size
  replace o5aPI := o5aPI.below b10
  replace o5aPP := o5aPP.below b10
  replace o6 := o6.below b10
  clear d9
  clear c9
  clear b10
  obtain ⟨k10, f10⟩ := bcell c10
  clear k9 f9
  go_wp2_with fail
  go_ret
  exact ⟨rfl, d10⟩
end Go.Proofs.Ythabjlhfidcnoaa
