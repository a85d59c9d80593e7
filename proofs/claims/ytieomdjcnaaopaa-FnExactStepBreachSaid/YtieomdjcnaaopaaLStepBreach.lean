/- The law on StepBreach, walked out of the contracts of what it calls. -/
import Derived.Test.YtieomdjcnaaopaaRb
import Derived.Deep.RegionHeld3
import Derived.Deep.DeepCutAuto
namespace Go.Proofs.Ytieomdjcnaaopaa
open Go.RowKit
set_option linter.unusedVariables false

set_option maxRecDepth 100000 in
set_option maxHeartbeats 2000000 in
theorem FnExactStepBreach_calls (aaCL : Option Addr) (naCL caCL : Nat) (xaCL : List Int) (aaCV : Option Addr) (naCV caCV : Nat) (xaCV : List Int) (aB0 : Int) (aB1 : Int) (aB2 : Int) (aOutside : Int) (aStones : Int) (w : World)
    (raCL : RdI w aaCL naCL xaCL) (_laCL : naCL ≤ caCL) (_maCL : caCL ≤ maxLen) (_oaCL : ∀ z ∈ xaCL, OkInt64 z) (raCV : RdI w aaCV naCV xaCV) (_laCV : naCV ≤ caCV) (_maCV : caCV ≤ maxLen) (_oaCV : ∀ z ∈ xaCV, OkInt64 z) (_waB0 : (Lit.int .i64 aB0).wf = true) (_waB1 : (Lit.int .i64 aB1).wf = true) (_waB2 : (Lit.int .i64 aB2).wf = true) (_waOutside : (Lit.int .i64 aOutside).wf = true) (_waStones : (Lit.int .i64 aStones).wf = true) :
    Calls Try.prog 7 #[.agg #[.slice aaCL naCL caCL, .slice aaCV naCV caCV], .agg #[.int .i64 aB0, .int .i64 aB1, .int .i64 aB2], .int .i64 aOutside, .int .i64 aStones] w fun e w' => e = .returned (.bool true) ∧ Below w.heap.size w w' := by
  go_enter Try.func7, Try.ntmps7
  go_wp2_with fail
  have _zaCL := _maCL
  unfold maxLen at _zaCL
  have _zaCV := _maCV
  unfold maxLen at _zaCV
  refine (szCurve_calls _ _ _ _ _ _ _ _ (by omega) (by omega) (by omega) (by omega)).mono ?_
  rintro e w1 ⟨l1, rfl, hs1, b1⟩
  have c1 := b1
  have d1 := bbox2 b1
  have s1 := b1.size
  clear b1
  obtain ⟨k1, f1⟩ := bcell c1
  rcases hs1 with ⟨hs1, rfl⟩ | ⟨hs1, rfl⟩
  case inl =>
    go_wp2_with fail
    go_ret
    exact ⟨rfl, d1⟩
  have haCL : naCL ≤ 1048576 := by omega
  have haCV : naCV ≤ 1048576 := by omega
  clear _zaCL _zaCV
  go_upto_region 5 with fail
  have gb_aC := blk_below (blk_alloc (heap_alloc_new w (.cells #[.slice aaCL naCL caCL, .slice aaCV naCV caCV] 24)) (.cells #[.int .i64 aB0, .int .i64 aB1, .int .i64 aB2] 26)) c1 (by simp <;> omega)
  have lb_aC := blk_lt gb_aC
  have kb_aC0 : w1.cell? ⟨w.heap.size, 0, none⟩ = some (.slice aaCL naCL caCL) := blk_cell gb_aC 0
  have kb_aC1 : w1.cell? ⟨w.heap.size, 1, none⟩ = some (.slice aaCV naCV caCV) := blk_cell gb_aC 1
  have GB_aC := hd gb_aC
  clear gb_aC
  have gb_aB := blk_below (two_blk' w (.cells #[.slice aaCL naCL caCL, .slice aaCV naCV caCV] 24) (.cells #[.int .i64 aB0, .int .i64 aB1, .int .i64 aB2] 26)).2.1 c1 (by simp <;> omega)
  have lb_aB := blk_lt gb_aB
  have kb_aB0 : w1.cell? ⟨w.heap.size + 1, 0, none⟩ = some (.int .i64 aB0) := blk_cell gb_aB 0
  have kb_aB1 : w1.cell? ⟨w.heap.size + 1, 1, none⟩ = some (.int .i64 aB1) := blk_cell gb_aB 1
  have kb_aB2 : w1.cell? ⟨w.heap.size + 1, 2, none⟩ = some (.int .i64 aB2) := blk_cell gb_aB 2
  have GB_aB := hd gb_aB
  clear gb_aB
  go_cut [10, 11] (fun s1 s2 wx => ∃ gg : Nat, s1 = .pointer (some ⟨gg, 0, none⟩) ∧ s2 = .int .i64 (sbZ xaCL xaCV aB0 aB1 aB2 aOutside aStones).2 ∧ wx.heap[gg]? = some (Obj.cells #[Value.int .i64 (sbZ xaCL xaCV aB0 aB1 aB2 aOutside aStones).1.1, Value.int .i64 (sbZ xaCL xaCV aB0 aB1 aB2 aOutside aStones).1.2.1, Value.int .i64 (sbZ xaCL xaCV aB0 aB1 aB2 aOutside aStones).1.2.2] 32 (0, 0)) ∧ Below w1.heap.size w1 wx ∧ w1.heap.size ≤ gg)
  case first =>
    have nnkb_aC0 := World.new_ne w1 _ kb_aC0
    have nnkb_aC1 := World.new_ne w1 _ kb_aC1
    have nnkb_aB0 := World.new_ne w1 _ kb_aB0
    have nnkb_aB1 := World.new_ne w1 _ kb_aB1
    have nnkb_aB2 := World.new_ne w1 _ kb_aB2
    go_region_held3 (fun w' => w'.cell? ⟨w.heap.size, 0, none⟩ = some (.slice aaCL naCL caCL) ∧ w'.cell? ⟨w.heap.size, 1, none⟩ = some (.slice aaCV naCV caCV) ∧ w'.cell? ⟨w.heap.size + 1, 0, none⟩ = some (.int .i64 aB0) ∧ w'.cell? ⟨w.heap.size + 1, 1, none⟩ = some (.int .i64 aB1) ∧ w'.cell? ⟨w.heap.size + 1, 2, none⟩ = some (.int .i64 aB2))
      (first | with_reducible exact ⟨x3_0, x3_1, x3_2, x3_3, x3_4⟩ | with_reducible exact ⟨x2_0, x2_1, x2_2, x2_3, x2_4⟩ | with_reducible exact ⟨x1_0, x1_1, x1_2, x1_3, x1_4⟩ | with_reducible exact ⟨((below_set3 q3 q2.size _ _ _).cell (p := ⟨w.heap.size, 0, none⟩) lb_aC).trans kb_aC0, ((below_set3 q3 q2.size _ _ _).cell (p := ⟨w.heap.size, 1, none⟩) lb_aC).trans kb_aC1, ((below_set3 q3 q2.size _ _ _).cell (p := ⟨w.heap.size + 1, 0, none⟩) lb_aB).trans kb_aB0, ((below_set3 q3 q2.size _ _ _).cell (p := ⟨w.heap.size + 1, 1, none⟩) lb_aB).trans kb_aB1, ((below_set3 q3 q2.size _ _ _).cell (p := ⟨w.heap.size + 1, 2, none⟩) lb_aB).trans kb_aB2⟩ | with_reducible exact ⟨((below_set3 q3 q1.size _ _ _).cell (p := ⟨w.heap.size, 0, none⟩) lb_aC).trans kb_aC0, ((below_set3 q3 q1.size _ _ _).cell (p := ⟨w.heap.size, 1, none⟩) lb_aC).trans kb_aC1, ((below_set3 q3 q1.size _ _ _).cell (p := ⟨w.heap.size + 1, 0, none⟩) lb_aB).trans kb_aB0, ((below_set3 q3 q1.size _ _ _).cell (p := ⟨w.heap.size + 1, 1, none⟩) lb_aB).trans kb_aB1, ((below_set3 q3 q1.size _ _ _).cell (p := ⟨w.heap.size + 1, 2, none⟩) lb_aB).trans kb_aB2⟩ | with_reducible exact ⟨((below_set3 q3 (Nat.le_refl _) _ _ _).cell (p := ⟨w.heap.size, 0, none⟩) lb_aC).trans kb_aC0, ((below_set3 q3 (Nat.le_refl _) _ _ _).cell (p := ⟨w.heap.size, 1, none⟩) lb_aC).trans kb_aC1, ((below_set3 q3 (Nat.le_refl _) _ _ _).cell (p := ⟨w.heap.size + 1, 0, none⟩) lb_aB).trans kb_aB0, ((below_set3 q3 (Nat.le_refl _) _ _ _).cell (p := ⟨w.heap.size + 1, 1, none⟩) lb_aB).trans kb_aB1, ((below_set3 q3 (Nat.le_refl _) _ _ _).cell (p := ⟨w.heap.size + 1, 2, none⟩) lb_aB).trans kb_aB2⟩ | go_keep)
      (first
        | (go_at_call 18; (with_reducible refine (toCurve_calls _ _ _ _ _ _ _ _ _ ((raCL.below d1).below (by go_grown)) haCL ((raCV.below d1).below (by go_grown)) haCV).mono ?_); rintro e v1 ⟨A2aCL, A2aCV, U2_0, rfl, o2aCL, o2aCV, -, b1⟩; have q1 : Below w1.heap.size w1 v1 := Below.trans (by go_grown) (b1.mono (by simp)); have x1_0 := (q1.cell (p := ⟨w.heap.size, 0, none⟩) lb_aC).trans kb_aC0; have x1_1 := (q1.cell (p := ⟨w.heap.size, 1, none⟩) lb_aC).trans kb_aC1; have x1_2 := (q1.cell (p := ⟨w.heap.size + 1, 0, none⟩) lb_aB).trans kb_aB0; have x1_3 := (q1.cell (p := ⟨w.heap.size + 1, 1, none⟩) lb_aB).trans kb_aB1; have x1_4 := (q1.cell (p := ⟨w.heap.size + 1, 2, none⟩) lb_aB).trans kb_aB2; (first | ((with_reducible have hv : Below (w1.alloc (Obj.cells #[.int .i64 0, .int .i64 0, .int .i64 0] 32)).drew.heap.size (w1.alloc (Obj.cells #[.int .i64 0, .int .i64 0, .int .i64 0] 32)).drew v1 := b1); have hq11 : v1.heap[w1.heap.size]? = some (Obj.cells #[.int .i64 0, .int .i64 0, .int .i64 0] 32) := (hv.block w1.heap.size (by simp)).trans (heap_alloc_new w1 (Obj.cells #[.int .i64 0, .int .i64 0, .int .i64 0] 32))) | ((with_reducible have hv : Below (w1.alloc (Obj.cells #[.int .i64 0, .int .i64 0, .int .i64 0] 32)).heap.size (w1.alloc (Obj.cells #[.int .i64 0, .int .i64 0, .int .i64 0] 32)) v1 := b1); have hq11 : v1.heap[w1.heap.size]? = some (Obj.cells #[.int .i64 0, .int .i64 0, .int .i64 0] 32) := (hv.block w1.heap.size (by simp)).trans (heap_alloc_new w1 (Obj.cells #[.int .i64 0, .int .i64 0, .int .i64 0] 32))) | skip))
        | (go_at_call 19; (with_reducible refine (toBreach_calls _ _ _ _).mono ?_); rintro e v2 ⟨rfl, b2⟩; have q2 : Below w1.heap.size w1 v2 := Below.trans q1 (Below.trans (Below.mono (B := v1.heap.size) (by go_grown) q1.size) (b2.mono (by have := q1.size; simp; try omega))); have r2 : Below v1.heap.size v1 v2 := Below.trans (by go_grown) (b2.mono (by simp)); have x2_0 := (q2.cell (p := ⟨w.heap.size, 0, none⟩) lb_aC).trans kb_aC0; have x2_1 := (q2.cell (p := ⟨w.heap.size, 1, none⟩) lb_aC).trans kb_aC1; have x2_2 := (q2.cell (p := ⟨w.heap.size + 1, 0, none⟩) lb_aB).trans kb_aB0; have x2_3 := (q2.cell (p := ⟨w.heap.size + 1, 1, none⟩) lb_aB).trans kb_aB1; have x2_4 := (q2.cell (p := ⟨w.heap.size + 1, 2, none⟩) lb_aB).trans kb_aB2; (first | (have hq21 : v2.heap[w1.heap.size]? = some (Obj.cells #[.int .i64 0, .int .i64 0, .int .i64 0] 32) := (b2.block _ (by have := blk_lt hq11; simpa using this)).trans hq11) | ((with_reducible have hv : Below (v1.alloc (Obj.cells #[.int .i64 0, .int .i64 0, .int .i64 0] 32)).drew.heap.size (v1.alloc (Obj.cells #[.int .i64 0, .int .i64 0, .int .i64 0] 32)).drew v2 := b2); have hq22 : v2.heap[v1.heap.size]? = some (Obj.cells #[.int .i64 0, .int .i64 0, .int .i64 0] 32) := (hv.block v1.heap.size (by simp)).trans (heap_alloc_new v1 (Obj.cells #[.int .i64 0, .int .i64 0, .int .i64 0] 32))) | ((with_reducible have hv : Below (v1.alloc (Obj.cells #[.int .i64 0, .int .i64 0, .int .i64 0] 32)).heap.size (v1.alloc (Obj.cells #[.int .i64 0, .int .i64 0, .int .i64 0] 32)) v2 := b2); have hq22 : v2.heap[v1.heap.size]? = some (Obj.cells #[.int .i64 0, .int .i64 0, .int .i64 0] 32) := (hv.block v1.heap.size (by simp)).trans (heap_alloc_new v1 (Obj.cells #[.int .i64 0, .int .i64 0, .int .i64 0] 32))) | skip))
        | (go_at_call 31; (with_reducible refine (specStepBreach_calls _ _ _ _ _ _ _ _ _ _ _ _ _ _ (((o2aCL.rd len_cInt64).below r2).below (by go_grown)) haCL (((o2aCV.rd len_cInt64).below r2).below (by go_grown)) haCV).mono ?_); rintro e v3 ⟨rfl, b3⟩; have q3 : Below w1.heap.size w1 v3 := Below.trans q2 (Below.trans (Below.mono (B := v2.heap.size) (by go_grown) q2.size) (b3.mono (by have := q2.size; simp; try omega))); have r3 : Below v2.heap.size v2 v3 := Below.trans (by go_grown) (b3.mono (by simp)); have x3_0 := (q3.cell (p := ⟨w.heap.size, 0, none⟩) lb_aC).trans kb_aC0; have x3_1 := (q3.cell (p := ⟨w.heap.size, 1, none⟩) lb_aC).trans kb_aC1; have x3_2 := (q3.cell (p := ⟨w.heap.size + 1, 0, none⟩) lb_aB).trans kb_aB0; have x3_3 := (q3.cell (p := ⟨w.heap.size + 1, 1, none⟩) lb_aB).trans kb_aB1; have x3_4 := (q3.cell (p := ⟨w.heap.size + 1, 2, none⟩) lb_aB).trans kb_aB2; (first | (have hq31 : v3.heap[w1.heap.size]? = some (Obj.cells #[.int .i64 0, .int .i64 0, .int .i64 0] 32) := (b3.block _ (by have := blk_lt hq21; simpa using this)).trans hq21) | (have hq32 : v3.heap[v1.heap.size]? = some (Obj.cells #[.int .i64 0, .int .i64 0, .int .i64 0] 32) := (b3.block _ (by have := blk_lt hq22; simpa using this)).trans hq22) | ((with_reducible have hv : Below (v2.alloc (Obj.cells #[.int .i64 0, .int .i64 0, .int .i64 0] 32)).drew.heap.size (v2.alloc (Obj.cells #[.int .i64 0, .int .i64 0, .int .i64 0] 32)).drew v3 := b3); have hq33 : v3.heap[v2.heap.size]? = some (Obj.cells #[.int .i64 0, .int .i64 0, .int .i64 0] 32) := (hv.block v2.heap.size (by simp)).trans (heap_alloc_new v2 (Obj.cells #[.int .i64 0, .int .i64 0, .int .i64 0] 32))) | ((with_reducible have hv : Below (v2.alloc (Obj.cells #[.int .i64 0, .int .i64 0, .int .i64 0] 32)).heap.size (v2.alloc (Obj.cells #[.int .i64 0, .int .i64 0, .int .i64 0] 32)) v3 := b3); have hq33 : v3.heap[v2.heap.size]? = some (Obj.cells #[.int .i64 0, .int .i64 0, .int .i64 0] 32) := (hv.block v2.heap.size (by simp)).trans (heap_alloc_new v2 (Obj.cells #[.int .i64 0, .int .i64 0, .int .i64 0] 32))) | skip); (first | (have t0 := blk_cell hq31 0; have u0 := blk_free hq31 0; have t1 := blk_cell hq31 1; have u1 := blk_free hq31 1; have t2 := blk_cell hq31 2; have u2 := blk_free hq31 2) | (have t0 := blk_cell hq32 0; have u0 := blk_free hq32 0; have t1 := blk_cell hq32 1; have u1 := blk_free hq32 1; have t2 := blk_cell hq32 2; have u2 := blk_free hq32 2) | (have t0 := blk_cell hq33 0; have u0 := blk_free hq33 0; have t1 := blk_cell hq33 1; have u1 := blk_free hq33 1; have t2 := blk_cell hq33 2; have u2 := blk_free hq33 2) | skip)))
    all_goals
      go_wp2_with fail
      go_meet
      refine ⟨_, rfl, rfl, ?_, ?_, ?_⟩
      · first | with_reducible exact heap_alloc_new _ _ | with_reducible exact blk_set3 hq31 _ _ _ | with_reducible exact blk_set3 hq32 _ _ _ | with_reducible exact blk_set3 hq33 _ _ _
      · first | with_reducible exact q3.alloc q3.size _ | with_reducible exact below_set3 q3 q2.size _ _ _ | with_reducible exact below_set3 q3 q1.size _ _ _ | with_reducible exact below_set3 q3 (Nat.le_refl _) _ _ _
      · first | with_reducible exact q3.size | with_reducible exact q2.size | with_reducible exact q1.size | with_reducible exact Nat.le_refl _
  case rest =>
  obtain ⟨gq3w0, rfl, rfl, q3w0, b4r, lgq3w0⟩ := hcut
  clear kb_aC0 kb_aC1 kb_aB0 kb_aB1 kb_aB2
  clear GB_aC lb_aC
  clear GB_aB lb_aB
  obtain ⟨w2, hW⟩ : ∃ W, W = wc := ⟨_, rfl⟩
  subst hW
  have c2 := bnext c1 b4r (Nat.le_refl _)
  have d2 := bbox2 c2
  have s2 := b4r.size
  clear d1
  clear c1
  clear b4r
  obtain ⟨k2, f2⟩ := bcell c2
  clear k1 f1
  go_wp2_with fail
  refine (toCurve_calls _ _ _ _ _ _ _ _ _ (raCL.below d2) haCL (raCV.below d2) haCV).mono ?_
  rintro e w3 ⟨A5aCL, A5aCV, U5_0, rfl, o5aCL, o5aCV, ⟨u5_0, u5_1⟩, b5⟩
  replace q3w0 := blk_below q3w0 b5 (blk_lt q3w0)
  have c3 := bnext c2 b5 (Nat.le_refl _)
  have d3 := bbox2 c3
  have s3 := b5.size
  clear d2
  clear c2
  clear b5
  obtain ⟨k3, f3⟩ := bcell c3
  clear k2 f2
  go_upto_region 7 with fail
  have qx0 := heap_alloc_new w3 (.cells #[.slice A5aCL naCL naCL, .slice A5aCV naCV naCV] 30)
  have b6p : Below w3.heap.size w3 (w3.alloc (.cells #[.slice A5aCL naCL naCL, .slice A5aCV naCV naCV] 30)) := (Below.refl _ _).alloc (Nat.le_refl _) _
  generalize w3.alloc (.cells #[.slice A5aCL naCL naCL, .slice A5aCV naCV naCV] 30) = w4 at qx0 b6p ⊢
  replace q3w0 := blk_below q3w0 b6p (blk_lt q3w0)
  have c4 := bnext c3 b6p (Nat.le_refl _)
  have d4 := bbox2 c4
  have s4 := b6p.size
  replace o5aCL := o5aCL.below b6p
  replace o5aCV := o5aCV.below b6p
  clear d3
  clear c3
  clear b6p
  obtain ⟨k4, f4⟩ := bcell c4
  clear k3 f3
  have lb_x0 := blk_lt qx0
  have kb_x00 : w4.cell? ⟨w3.heap.size, 0, none⟩ = some (.slice A5aCL naCL naCL) := blk_cell qx0 0
  have kb_x01 : w4.cell? ⟨w3.heap.size, 1, none⟩ = some (.slice A5aCV naCV naCV) := blk_cell qx0 1
  have GB_x0 := hd qx0
  clear qx0
  have gb_aB := blk_below (two_blk' w (.cells #[.slice aaCL naCL caCL, .slice aaCV naCV caCV] 24) (.cells #[.int .i64 aB0, .int .i64 aB1, .int .i64 aB2] 26)).2.1 c4 (by simp <;> omega)
  have lb_aB := blk_lt gb_aB
  have kb_aB0 : w4.cell? ⟨w.heap.size + 1, 0, none⟩ = some (.int .i64 aB0) := blk_cell gb_aB 0
  have kb_aB1 : w4.cell? ⟨w.heap.size + 1, 1, none⟩ = some (.int .i64 aB1) := blk_cell gb_aB 1
  have kb_aB2 : w4.cell? ⟨w.heap.size + 1, 2, none⟩ = some (.int .i64 aB2) := blk_cell gb_aB 2
  have GB_aB := hd gb_aB
  clear gb_aB
  go_cut [13, 14] (fun s1 s2 wx => ∃ gg : Nat, s1 = .pointer (some ⟨gg, 0, none⟩) ∧ s2 = .int .i64 (sbZ xaCL xaCV aB0 aB1 aB2 aOutside aStones).2 ∧ wx.heap[gg]? = some (Obj.cells #[Value.int .i64 (sbZ xaCL xaCV aB0 aB1 aB2 aOutside aStones).1.1, Value.int .i64 (sbZ xaCL xaCV aB0 aB1 aB2 aOutside aStones).1.2.1, Value.int .i64 (sbZ xaCL xaCV aB0 aB1 aB2 aOutside aStones).1.2.2] 32 (0, 0)) ∧ Below w4.heap.size w4 wx ∧ w4.heap.size ≤ gg)
  case first =>
    have nnkb_x00 := World.new_ne w4 _ kb_x00
    have nnkb_x01 := World.new_ne w4 _ kb_x01
    have nnkb_aB0 := World.new_ne w4 _ kb_aB0
    have nnkb_aB1 := World.new_ne w4 _ kb_aB1
    have nnkb_aB2 := World.new_ne w4 _ kb_aB2
    go_region_held3 (fun w' => w'.cell? ⟨w3.heap.size, 0, none⟩ = some (.slice A5aCL naCL naCL) ∧ w'.cell? ⟨w3.heap.size, 1, none⟩ = some (.slice A5aCV naCV naCV) ∧ w'.cell? ⟨w.heap.size + 1, 0, none⟩ = some (.int .i64 aB0) ∧ w'.cell? ⟨w.heap.size + 1, 1, none⟩ = some (.int .i64 aB1) ∧ w'.cell? ⟨w.heap.size + 1, 2, none⟩ = some (.int .i64 aB2))
      (first | with_reducible exact ⟨x2_0, x2_1, x2_2, x2_3, x2_4⟩ | with_reducible exact ⟨x1_0, x1_1, x1_2, x1_3, x1_4⟩ | with_reducible exact ⟨((below_set3 q2 q1.size _ _ _).cell (p := ⟨w3.heap.size, 0, none⟩) lb_x0).trans kb_x00, ((below_set3 q2 q1.size _ _ _).cell (p := ⟨w3.heap.size, 1, none⟩) lb_x0).trans kb_x01, ((below_set3 q2 q1.size _ _ _).cell (p := ⟨w.heap.size + 1, 0, none⟩) lb_aB).trans kb_aB0, ((below_set3 q2 q1.size _ _ _).cell (p := ⟨w.heap.size + 1, 1, none⟩) lb_aB).trans kb_aB1, ((below_set3 q2 q1.size _ _ _).cell (p := ⟨w.heap.size + 1, 2, none⟩) lb_aB).trans kb_aB2⟩ | with_reducible exact ⟨((below_set3 q2 (Nat.le_refl _) _ _ _).cell (p := ⟨w3.heap.size, 0, none⟩) lb_x0).trans kb_x00, ((below_set3 q2 (Nat.le_refl _) _ _ _).cell (p := ⟨w3.heap.size, 1, none⟩) lb_x0).trans kb_x01, ((below_set3 q2 (Nat.le_refl _) _ _ _).cell (p := ⟨w.heap.size + 1, 0, none⟩) lb_aB).trans kb_aB0, ((below_set3 q2 (Nat.le_refl _) _ _ _).cell (p := ⟨w.heap.size + 1, 1, none⟩) lb_aB).trans kb_aB1, ((below_set3 q2 (Nat.le_refl _) _ _ _).cell (p := ⟨w.heap.size + 1, 2, none⟩) lb_aB).trans kb_aB2⟩ | go_keep)
      (first
        | (go_at_call 19; (with_reducible refine (toBreach_calls _ _ _ _).mono ?_); rintro e v1 ⟨rfl, b1⟩; have q1 : Below w4.heap.size w4 v1 := Below.trans (by go_grown) (b1.mono (by simp)); have x1_0 := (q1.cell (p := ⟨w3.heap.size, 0, none⟩) lb_x0).trans kb_x00; have x1_1 := (q1.cell (p := ⟨w3.heap.size, 1, none⟩) lb_x0).trans kb_x01; have x1_2 := (q1.cell (p := ⟨w.heap.size + 1, 0, none⟩) lb_aB).trans kb_aB0; have x1_3 := (q1.cell (p := ⟨w.heap.size + 1, 1, none⟩) lb_aB).trans kb_aB1; have x1_4 := (q1.cell (p := ⟨w.heap.size + 1, 2, none⟩) lb_aB).trans kb_aB2; (first | ((with_reducible have hv : Below (w4.alloc (Obj.cells #[.int .i64 0, .int .i64 0, .int .i64 0] 32)).drew.heap.size (w4.alloc (Obj.cells #[.int .i64 0, .int .i64 0, .int .i64 0] 32)).drew v1 := b1); have hq11 : v1.heap[w4.heap.size]? = some (Obj.cells #[.int .i64 0, .int .i64 0, .int .i64 0] 32) := (hv.block w4.heap.size (by simp)).trans (heap_alloc_new w4 (Obj.cells #[.int .i64 0, .int .i64 0, .int .i64 0] 32))) | ((with_reducible have hv : Below (w4.alloc (Obj.cells #[.int .i64 0, .int .i64 0, .int .i64 0] 32)).heap.size (w4.alloc (Obj.cells #[.int .i64 0, .int .i64 0, .int .i64 0] 32)) v1 := b1); have hq11 : v1.heap[w4.heap.size]? = some (Obj.cells #[.int .i64 0, .int .i64 0, .int .i64 0] 32) := (hv.block w4.heap.size (by simp)).trans (heap_alloc_new w4 (Obj.cells #[.int .i64 0, .int .i64 0, .int .i64 0] 32))) | skip))
        | (go_at_call 32; (with_reducible refine (StepBreach_calls _ _ _ _ _ _ _ _ _ _ _ _ _ _ ((o5aCL.rd len_cInt64).below (Below.trans q1 (Below.mono (B := v1.heap.size) (by go_grown) q1.size))) haCL ((o5aCV.rd len_cInt64).below (Below.trans q1 (Below.mono (B := v1.heap.size) (by go_grown) q1.size))) haCV).mono ?_); rintro e v2 ⟨rfl, b2⟩; have q2 : Below w4.heap.size w4 v2 := Below.trans q1 (Below.trans (Below.mono (B := v1.heap.size) (by go_grown) q1.size) (b2.mono (by have := q1.size; simp; try omega))); have r2 : Below v1.heap.size v1 v2 := Below.trans (by go_grown) (b2.mono (by simp)); have x2_0 := (q2.cell (p := ⟨w3.heap.size, 0, none⟩) lb_x0).trans kb_x00; have x2_1 := (q2.cell (p := ⟨w3.heap.size, 1, none⟩) lb_x0).trans kb_x01; have x2_2 := (q2.cell (p := ⟨w.heap.size + 1, 0, none⟩) lb_aB).trans kb_aB0; have x2_3 := (q2.cell (p := ⟨w.heap.size + 1, 1, none⟩) lb_aB).trans kb_aB1; have x2_4 := (q2.cell (p := ⟨w.heap.size + 1, 2, none⟩) lb_aB).trans kb_aB2; (first | (have hq21 : v2.heap[w4.heap.size]? = some (Obj.cells #[.int .i64 0, .int .i64 0, .int .i64 0] 32) := (b2.block _ (by have := blk_lt hq11; simpa using this)).trans hq11) | ((with_reducible have hv : Below (v1.alloc (Obj.cells #[.int .i64 0, .int .i64 0, .int .i64 0] 32)).drew.heap.size (v1.alloc (Obj.cells #[.int .i64 0, .int .i64 0, .int .i64 0] 32)).drew v2 := b2); have hq22 : v2.heap[v1.heap.size]? = some (Obj.cells #[.int .i64 0, .int .i64 0, .int .i64 0] 32) := (hv.block v1.heap.size (by simp)).trans (heap_alloc_new v1 (Obj.cells #[.int .i64 0, .int .i64 0, .int .i64 0] 32))) | ((with_reducible have hv : Below (v1.alloc (Obj.cells #[.int .i64 0, .int .i64 0, .int .i64 0] 32)).heap.size (v1.alloc (Obj.cells #[.int .i64 0, .int .i64 0, .int .i64 0] 32)) v2 := b2); have hq22 : v2.heap[v1.heap.size]? = some (Obj.cells #[.int .i64 0, .int .i64 0, .int .i64 0] 32) := (hv.block v1.heap.size (by simp)).trans (heap_alloc_new v1 (Obj.cells #[.int .i64 0, .int .i64 0, .int .i64 0] 32))) | skip); (first | (have t0 := blk_cell hq21 0; have u0 := blk_free hq21 0; have t1 := blk_cell hq21 1; have u1 := blk_free hq21 1; have t2 := blk_cell hq21 2; have u2 := blk_free hq21 2) | (have t0 := blk_cell hq22 0; have u0 := blk_free hq22 0; have t1 := blk_cell hq22 1; have u1 := blk_free hq22 1; have t2 := blk_cell hq22 2; have u2 := blk_free hq22 2) | skip)))
    all_goals
      go_wp2_with fail
      go_meet
      refine ⟨_, rfl, rfl, ?_, ?_, ?_⟩
      · first | with_reducible exact heap_alloc_new _ _ | with_reducible exact blk_set3 hq21 _ _ _ | with_reducible exact blk_set3 hq22 _ _ _
      · first | with_reducible exact q2.alloc q2.size _ | with_reducible exact below_set3 q2 q1.size _ _ _ | with_reducible exact below_set3 q2 (Nat.le_refl _) _ _ _
      · first | with_reducible exact q2.size | with_reducible exact q1.size | with_reducible exact Nat.le_refl _
  case rest =>
  obtain ⟨gq8g0, rfl, rfl, q8g0, b9r, lgq8g0⟩ := hcut
  clear kb_x00 kb_x01 kb_aB0 kb_aB1 kb_aB2
  have qx0 := GB_x0.out
  clear GB_x0 lb_x0
  clear GB_aB lb_aB
  obtain ⟨w5, hW⟩ : ∃ W, W = wc := ⟨_, rfl⟩
  subst hW
  replace q3w0 := blk_below q3w0 b9r (blk_lt q3w0)
  replace qx0 := blk_below qx0 b9r (blk_lt qx0)
  have c5 := bnext c4 b9r (Nat.le_refl _)
  have d5 := bbox2 c5
  have s5 := b9r.size
  replace o5aCL := o5aCL.below b9r
  replace o5aCV := o5aCV.below b9r
  clear d4
  clear c4
  clear b9r
  obtain ⟨k5, f5⟩ := bcell c5
  clear k4 f4
  have lq3w0 := blk_lt q3w0
  have eq3w00 := blk_cell q3w0 0
  have eq3w01 := blk_cell q3w0 1
  have eq3w02 := blk_cell q3w0 2
  have Hq3w0 := hd q3w0
  clear q3w0
  have lq8g0 := blk_lt q8g0
  have eq8g00 := blk_cell q8g0 0
  have eq8g01 := blk_cell q8g0 1
  have eq8g02 := blk_cell q8g0 2
  have Hq8g0 := hd q8g0
  clear q8g0
  go_wp2_with fail
  refine (eqBreach_calls _ _ _ _ _ _ _).mono ?_
  rintro e w6 ⟨rfl, b10⟩
  clear lq3w0 eq3w00 eq3w01 eq3w02 lq8g0 eq8g00 eq8g01 eq8g02
  have q3w0 := Hq3w0.out
  clear Hq3w0
  have q8g0 := Hq8g0.out
  clear Hq8g0
  replace q3w0 := blk_below q3w0 b10 (blk_lt q3w0)
  replace qx0 := blk_below qx0 b10 (blk_lt qx0)
  replace q8g0 := blk_below q8g0 b10 (blk_lt q8g0)
  have c6 := bnext c5 b10 (Nat.le_refl _)
  have d6 := bbox2 c6
  have s6 := b10.size
  replace o5aCL := o5aCL.below b10
  replace o5aCV := o5aCV.below b10
  clear d5
  clear c5
  clear b10
  obtain ⟨k6, f6⟩ := bcell c6
  clear k5 f5
  go_upto_region 10 with fail
  have ga := blk_below (blk_alloc (heap_alloc_new w (.cells #[.slice aaCL naCL caCL, .slice aaCV naCV caCV] 24)) (.cells #[.int .i64 aB0, .int .i64 aB1, .int .i64 aB2] 26)) c6 (by simp <;> omega)
  have lA := blk_lt ga
  have lX := blk_lt qx0
  obtain ⟨gX, hX⟩ : ∃ G, G = w3.heap.size := ⟨_, rfl⟩
  have QX := hd qx0
  rw [← hX] at lX
  have ka0 : w6.cell? ⟨w.heap.size, 0, none⟩ = some (.slice aaCL naCL caCL) := blk_cell ga 0
  have ka1 : w6.cell? ⟨w.heap.size, 1, none⟩ = some (.slice aaCV naCV caCV) := blk_cell ga 1
  have kx0 : w6.cell? ⟨w3.heap.size, 0, none⟩ = some (.slice A5aCL naCL naCL) := blk_cell qx0 0
  have kx1 : w6.cell? ⟨w3.heap.size, 1, none⟩ = some (.slice A5aCV naCV naCV) := blk_cell qx0 1
  rw [hX] at lX
  clear hX gX
  have GA := hd ga
  clear ga qx0
  go_cut [54] (fun s wx => s = .bool false ∧ Below w6.heap.size w6 wx)
  case first =>
    have nka0 := World.new_ne w6 _ ka0
    have nka1 := World.new_ne w6 _ ka1
    have nkx0 := World.new_ne w6 _ kx0
    have nkx1 := World.new_ne w6 _ kx1
    go_region_held3 (fun w' => w'.cell? ⟨w.heap.size, 0, none⟩ = some (.slice aaCL naCL caCL) ∧ w'.cell? ⟨w.heap.size, 1, none⟩ = some (.slice aaCV naCV caCV) ∧ w'.cell? ⟨w3.heap.size, 0, none⟩ = some (.slice A5aCL naCL naCL) ∧ w'.cell? ⟨w3.heap.size, 1, none⟩ = some (.slice A5aCV naCV naCV))
      (first | with_reducible exact ⟨x2_0, x2_1, x2_2, x2_3⟩ | with_reducible exact ⟨x1_0, x1_1, x1_2, x1_3⟩ | go_keep)
      (first
        | (go_at_call 18; refine (toCurve_calls _ _ _ _ _ _ _ _ _ ((raCL.below d6).below (by go_grown)) haCL ((raCV.below d6).below (by go_grown)) haCV).mono ?_; rintro e v1 ⟨B0, B1, u0, rfl, ob0, ob1, -, b1⟩; have q1 : Below w6.heap.size w6 v1 := Below.trans (by go_grown) (b1.mono (by simp)); have x1_0 := (q1.cell (p := ⟨w.heap.size, 0, none⟩) lA).trans ka0; have x1_1 := (q1.cell (p := ⟨w.heap.size, 1, none⟩) lA).trans ka1; have x1_2 := (q1.cell (p := ⟨w3.heap.size, 0, none⟩) lX).trans kx0; have x1_3 := (q1.cell (p := ⟨w3.heap.size, 1, none⟩) lX).trans kx1)
        | (go_at_call 21; refine (eqCurve_calls _ _ _ _ _ _ _ _ _ _ _ _ _ ((o5aCL.rd len_cInt64).below (Below.trans q1 (Below.mono (by go_grown) q1.size))) ((ob0.rd len_cInt64).below (by go_grown)) haCL ((o5aCV.rd len_cInt64).below (Below.trans q1 (Below.mono (by go_grown) q1.size))) ((ob1.rd len_cInt64).below (by go_grown)) haCV).mono ?_; rintro e v2 ⟨rfl, b2⟩; have q2 : Below w6.heap.size w6 v2 := Below.trans q1 (Below.trans (Below.mono (B := v1.heap.size) (by go_grown) q1.size) (b2.mono (by have := q1.size; simp; try omega))); have x2_0 := (q2.cell (p := ⟨w.heap.size, 0, none⟩) lA).trans ka0; have x2_1 := (q2.cell (p := ⟨w.heap.size, 1, none⟩) lA).trans ka1; have x2_2 := (q2.cell (p := ⟨w3.heap.size, 0, none⟩) lX).trans kx0; have x2_3 := (q2.cell (p := ⟨w3.heap.size, 1, none⟩) lX).trans kx1))
    all_goals
      go_wp2_with fail
      go_meet
      first | exact ⟨rfl, q2⟩ | exact ⟨rfl, q2.drew⟩ | exact ⟨rfl, bdrewN q2 _⟩
  case rest =>
  obtain ⟨rfl, b11⟩ := hcut
  have qx0 := QX.out
  clear ka0 ka1 kx0 kx1 lA lX GA QX
  obtain ⟨w7, hW⟩ : ∃ W, W = wc := ⟨_, rfl⟩
  subst hW
  replace q3w0 := blk_below q3w0 b11 (blk_lt q3w0)
  replace qx0 := blk_below qx0 b11 (blk_lt qx0)
  replace q8g0 := blk_below q8g0 b11 (blk_lt q8g0)
  have c7 := bnext c6 b11 (Nat.le_refl _)
  have d7 := bbox2 c7
  have s7 := b11.size
  replace o5aCL := o5aCL.below b11
  replace o5aCV := o5aCV.below b11
  clear d6
  clear c6
  clear b11
  obtain ⟨k7, f7⟩ := bcell c7
  clear k6 f6
  go_wp2_with fail
  go_ret
  exact ⟨rfl, d7⟩
end Go.Proofs.Ytieomdjcnaaopaa
