/- Breaches: StepBreach, RunBreach. -/
import Derived.Test.YtieomdjcnaaopaaHc
import Derived.Test.YtieomdjcnaaopaaApp
import Derived.Test.YtieomdjcnaaopaaTyBreach
namespace Go.Proofs.Ytieomdjcnaaopaa
open Go.RowKit
set_option linter.unusedVariables false

/-- The breach after an hour, and the code. -/
def sbZ (ls vs : List Int) (wd sl wt o st : Int) : (Int × Int × Int) × Int :=
  if bcZ ls vs wd sl wt [o] (inB st 0 1000) = 0 then ((nwZ wd (hdZ ls vs sl wt o) st, sl, wt + infZ ls vs wd sl wt o), 0) else ((0, 0, 0), bcZ ls vs wd sl wt [o] (inB st 0 1000))
def runL (ls vs : List Int) (wd sl wt : Int) (os ss : List Int) (n : Nat) : List (Int × Int × Int) :=
  (List.range n).map fun k => ((bAt ls vs sl os (at0 ss) (wd, wt) (k + 1)).1, sl, (bAt ls vs sl os (at0 ss) (wd, wt) (k + 1)).2)
theorem runL_next (ls vs : List Int) (wd sl wt : Int) (os ss : List Int) (k : Nat) : runL ls vs wd sl wt os ss (k + 1) = runL ls vs wd sl wt os ss k ++ [((bAt ls vs sl os (at0 ss) (wd, wt) (k + 1)).1, sl, (bAt ls vs sl os (at0 ss) (wd, wt) (k + 1)).2)] := by
  unfold runL
  rw [List.range_succ, List.map_append]
  rfl
def stoB (z : Int) : Bool := inB z 0 1000
def fineB (os ss : List Int) : Bool := decide (ss.length = os.length) && ss.all stoB
def rbZ (ls vs : List Int) (wd sl wt : Int) (os ss : List Int) : List (Int × Int × Int) × Int :=
  if bcZ ls vs wd sl wt os (fineB os ss) = 0 then (runL ls vs wd sl wt os ss os.length, 0) else ([], bcZ ls vs wd sl wt os (fineB os ss))
theorem one_cBreach : ∀ y, ∀ u ∈ cBreach y, u.oneCell' = true := by intro y u hu; simp [cBreach] at hu; rcases hu with rfl | rfl | rfl <;> rfl
theorem bc1s {ls vs : List Int} {wd sl wt o st : Int} (h : bcZ ls vs wd sl wt [o] (inB st 0 1000) = 0) : brB ls vs wd sl wt = true ∧ lvB o = true ∧ 0 ≤ st ∧ st ≤ 1000 := by
  obtain ⟨a, b, -, d⟩ := bcZ_0 h
  exact ⟨a, by simpa using b, inB_iff.1 d⟩
theorem ret_sb {a b c d : Int} {x : (Int × Int × Int) × Int} (h : x = ((a, b, c), d)) : Ending.returned (.tuple #[.agg #[.int .i64 a, .int .i64 b, .int .i64 c], .int .i64 d]) = .returned (.tuple #[.agg #[.int .i64 x.1.1, .int .i64 x.1.2.1, .int .i64 x.1.2.2], .int .i64 x.2]) := by rw [h]
set_option maxRecDepth 100000 in
set_option maxHeartbeats 1000000 in
theorem StepBreach_calls (aL : Option Addr) (nL cL : Nat) (xL : List Int) (aV : Option Addr) (nV cV : Nat) (xV : List Int) (wd sl wt : Int) (outside st : Int) (w : World) (rL : RdInt64 w aL nL xL) (hL : nL ≤ 1048576) (rV : RdInt64 w aV nV xV) (hV : nV ≤ 1048576) :
    Calls Try.prog 32 #[.agg #[.slice aL nL cL, .slice aV nV cV], .agg #[.int .i64 wd, .int .i64 sl, .int .i64 wt], .int .i64 outside, .int .i64 st] w fun e w' => e = .returned (.tuple #[.agg #[.int .i64 (sbZ xL xV wd sl wt outside st).1.1, .int .i64 (sbZ xL xV wd sl wt outside st).1.2.1, .int .i64 (sbZ xL xV wd sl wt outside st).1.2.2], .int .i64 (sbZ xL xV wd sl wt outside st).2]) ∧ Below w.heap.size w w' := by
  have hoth := bcZ_other xL xV wd sl wt [outside] (inB st 0 1000)
  obtain ⟨c, hc⟩ : ∃ c, bcZ xL xV wd sl wt [outside] true = c := ⟨_, rfl⟩
  have HC := hd hc
  rw [hc] at hoth
  have HO := hd hoth
  obtain ⟨R, hR⟩ : ∃ R, sbZ xL xV wd sl wt outside st = R := ⟨_, rfl⟩
  have HR := hd hR
  rw [hR]
  clear hc hR hoth
  go_enter Try.func32, Try.ntmps32
  go_upto_region 1 with fail
  obtain ⟨ga, gb, gc, dd, hs⟩ := three_blk w (cvC aL nL cL aV nV cV) (brC wd sl wt) (brC 0 0 0)
  generalize ((w.alloc (cvC aL nL cL aV nV cV)).alloc (brC wd sl wt)).alloc (brC 0 0 0) = W1 at ga gb gc dd hs ⊢
  clear hs
  have k0 := blk_cell ga 0
  have k1 := blk_cell ga 1
  have k2 := blk_cell gb 0
  have k3 := blk_cell gb 1
  have k4 := blk_cell gb 2
  go_wp2_with fail
  have d0 := dd.alloc dd.size (.cells #[.int .i64 outside] 2)
  refine (breachCode_calls aL nL cL xL aV nV cV xV wd sl wt _ _ _ [outside] _ (rL.below d0) hL (rV.below d0) hV (rd_one (heap_alloc_new _ _)) (by decide)).mono ?_
  rintro e w1 ⟨he, b1⟩
  have d1 := bnext d0 b1 (Nat.le_refl _)
  have ga1 := blk_below (blk_alloc ga _) b1 (by have := blk_lt ga; simp; omega)
  have gb1 := blk_below (blk_alloc gb _) b1 (by have := blk_lt gb; simp; omega)
  have gc1 := blk_below (blk_alloc gc _) b1 (by have := blk_lt gc; simp; omega)
  clear k0 k1 k2 k3 k4 ga gb gc b1 dd d0
  rw [HC.out] at he
  by_cases hz : c = 0
  · subst hz
    subst he
    cases hst : inB st 0 1000
    · have FF : Hid (R = ((0, 0, 0), 2)) := hd (by have := HO.out; rw [hst] at this; rw [← HR.out]; unfold sbZ; rw [hst, this]; rfl)
      have HST := hd hst
      clear hst ga1 gb1
      have t0 := blk_cell gc1 0
      have t1 := blk_cell gc1 1
      have t2 := blk_cell gc1 2
      have f0 := blk_free gc1 0
      have f1 := blk_free gc1 1
      have f2 := blk_free gc1 2
      have GC := hd gc1
      clear gc1
      go_wp2_with (go_at_call 84; refine (areStones_calls _ _).mono ?_; rintro e w' ⟨he, rfl⟩; rw [HST.out] at he; subst he)
      refine bodyPost_ret (results_cell_tmp rfl _ _ _ _ _ _ _ rfl (blk_set3 GC.out _ _ _) Try.underlying32 rfl (by kernel_rfl)) rfl ⟨?_, below_set3 d1 (by omega) _ _ _⟩
      exact ret_sb FF.out
    · have hb0 := HO.out
      rw [hst] at hb0
      have HB := hd (bc1s (st := st) (by rw [hst]; exact hb0))
      have FF : Hid (R = ((nwZ wd (hdZ xL xV sl wt outside) st, sl, wt + infZ xL xV wd sl wt outside), 0)) := hd (by rw [← HR.out]; unfold sbZ; rw [hst, hb0]; rfl)
      have HST := hd hst
      clear hst hb0
      have k0 := blk_cell ga1 0
      have k1 := blk_cell ga1 1
      have k2 := blk_cell gb1 0
      have k3 := blk_cell gb1 1
      have k4 := blk_cell gb1 2
      clear ga1 gb1
      go_wp2_with (go_at_call 84; refine (areStones_calls _ _).mono ?_; rintro e w' ⟨he, rfl⟩; rw [HST.out] at he; subst he)
      refine (step_calls wd sl wt aL nL cL xL aV nV cV xV outside st _ (rL.below d1) hL (rV.below d1) hV HB.out.1 HB.out.2.1 HB.out.2.2.1 HB.out.2.2.2).mono ?_
      rintro e w2 ⟨rfl, b2⟩
      have d2 := bnext d1 b2 (Nat.le_refl _)
      have gc2 := blk_below gc1 b2 (blk_lt gc1)
      clear k0 k1 k2 k3 k4 gc1 b2 d1
      obtain ⟨np, hnp⟩ : ∃ x, nwZ wd (hdZ xL xV sl wt outside) st = x := ⟨_, rfl⟩
      obtain ⟨nq, hnq⟩ : ∃ x, wt + infZ xL xV wd sl wt outside = x := ⟨_, rfl⟩
      rw [hnp, hnq] at FF
      rw [hnp, hnq]
      clear hnp hnq
      have gN := heap_alloc_new w2 (brC np sl nq)
      have gc1 := blk_alloc gc2 (brC np sl nq)
      have d1 := d2.alloc d2.size (brC np sl nq)
      go_upto_region 7 with fail
      clear gc2 d2
      generalize w2.alloc (brC np sl nq) = W4 at gN gc1 d1 ⊢
      have k0 := blk_cell gN 0
      have k1 := blk_cell gN 1
      have k2 := blk_cell gN 2
      clear gN
      have t0 := blk_cell gc1 0
      have t1 := blk_cell gc1 1
      have t2 := blk_cell gc1 2
      have f0 := blk_free gc1 0
      have f1 := blk_free gc1 1
      have f2 := blk_free gc1 2
      have GC := hd gc1
      clear gc1
      go_wp2_with fail
      refine bodyPost_ret (results_cell_tmp rfl _ _ _ _ _ _ _ rfl (blk_set3 GC.out _ _ _) Try.underlying32 rfl (by kernel_rfl)) rfl ⟨?_, below_set3 d1 (by omega) _ _ _⟩
      exact ret_sb FF.out
  · subst he
    have FF : Hid (R = ((0, 0, 0), c)) := hd (by have := HO.out; rw [if_neg hz] at this; rw [← HR.out]; unfold sbZ; rw [this, if_neg hz])
    clear ga1 gb1
    have t0 := blk_cell gc1 0
    have t1 := blk_cell gc1 1
    have t2 := blk_cell gc1 2
    have f0 := blk_free gc1 0
    have f1 := blk_free gc1 1
    have f2 := blk_free gc1 2
    have GC := hd gc1
    clear gc1
    go_wp2_with fail
    refine bodyPost_ret (results_cell_tmp rfl _ _ _ _ _ _ _ rfl (blk_set3 GC.out _ _ _) Try.underlying32 rfl (by kernel_rfl)) rfl ⟨?_, below_set3 d1 (by omega) _ _ _⟩
    exact ret_sb FF.out
set_option maxRecDepth 100000 in
set_option maxHeartbeats 1000000 in
theorem specStepBreach_calls (aL : Option Addr) (nL cL : Nat) (xL : List Int) (aV : Option Addr) (nV cV : Nat) (xV : List Int) (wd sl wt : Int) (outside st : Int) (w : World) (rL : RdInt64 w aL nL xL) (hL : nL ≤ 1048576) (rV : RdInt64 w aV nV xV) (hV : nV ≤ 1048576) :
    Calls Try.prog 31 #[.agg #[.slice aL nL cL, .slice aV nV cV], .agg #[.int .i64 wd, .int .i64 sl, .int .i64 wt], .int .i64 outside, .int .i64 st] w fun e w' => e = .returned (.tuple #[.agg #[.int .i64 (sbZ xL xV wd sl wt outside st).1.1, .int .i64 (sbZ xL xV wd sl wt outside st).1.2.1, .int .i64 (sbZ xL xV wd sl wt outside st).1.2.2], .int .i64 (sbZ xL xV wd sl wt outside st).2]) ∧ Below w.heap.size w w' := by
  have hoth := bcZ_other xL xV wd sl wt [outside] (inB st 0 1000)
  obtain ⟨c, hc⟩ : ∃ c, bcZ xL xV wd sl wt [outside] true = c := ⟨_, rfl⟩
  have HC := hd hc
  rw [hc] at hoth
  have HO := hd hoth
  obtain ⟨R, hR⟩ : ∃ R, sbZ xL xV wd sl wt outside st = R := ⟨_, rfl⟩
  have HR := hd hR
  rw [hR]
  clear hc hR hoth
  go_enter Try.func31, Try.ntmps31
  go_upto_region 1 with fail
  obtain ⟨ga, gb, gc, dd, hs⟩ := three_blk w (cvC aL nL cL aV nV cV) (brC wd sl wt) (brC 0 0 0)
  generalize ((w.alloc (cvC aL nL cL aV nV cV)).alloc (brC wd sl wt)).alloc (brC 0 0 0) = W1 at ga gb gc dd hs ⊢
  clear hs
  have k2 := blk_cell gb 0
  have k3 := blk_cell gb 1
  have k4 := blk_cell gb 2
  go_wp2_with fail
  refine (l12Code_calls _ aL nL cL xL aV nV cV xV wd sl wt outside _ ga (rL.below dd) hL (rV.below dd) hV).mono ?_
  rintro e w1 ⟨he, b1⟩
  have d1 := bnext dd b1 (Nat.le_refl _)
  have ga1 := blk_below ga b1 (blk_lt ga)
  have gb1 := blk_below gb b1 (blk_lt gb)
  have gc1 := blk_below gc b1 (blk_lt gc)
  clear k2 k3 k4 ga gb gc b1 dd
  rw [HC.out] at he
  by_cases hz : c = 0
  · subst hz
    subst he
    cases hst : inB st 0 1000
    · have FF : Hid (R = ((0, 0, 0), 2)) := hd (by have := HO.out; rw [hst] at this; rw [← HR.out]; unfold sbZ; rw [hst, this]; rfl)
      have HST := hd hst
      clear hst ga1 gb1
      have t0 := blk_cell gc1 0
      have t1 := blk_cell gc1 1
      have t2 := blk_cell gc1 2
      have f0 := blk_free gc1 0
      have f1 := blk_free gc1 1
      have f2 := blk_free gc1 2
      have GC := hd gc1
      clear gc1
      go_wp2_with (go_at_call 82; refine (l12Stones_calls _ _).mono ?_; rintro e w' ⟨he, rfl⟩; rw [HST.out] at he; subst he)
      refine bodyPost_ret (results_cell_tmp rfl _ _ _ _ _ _ _ rfl (blk_set3 GC.out _ _ _) Try.underlying32 rfl (by kernel_rfl)) rfl ⟨?_, below_set3 d1 (by omega) _ _ _⟩
      exact ret_sb FF.out
    · have hb0 := HO.out
      rw [hst] at hb0
      have HB := hd (bc1s (st := st) (by rw [hst]; exact hb0))
      have FF : Hid (R = ((nwZ wd (hdZ xL xV sl wt outside) st, sl, wt + infZ xL xV wd sl wt outside), 0)) := hd (by rw [← HR.out]; unfold sbZ; rw [hst, hb0]; rfl)
      have HST := hd hst
      clear hst hb0
      have k2 := blk_cell gb1 0
      have k3 := blk_cell gb1 1
      have k4 := blk_cell gb1 2
      have GA := hd ga1
      clear ga1 gb1
      go_wp2_with (go_at_call 82; refine (l12Stones_calls _ _).mono ?_; rintro e w' ⟨he, rfl⟩; rw [HST.out] at he; subst he)
      refine (l12Step_calls _ aL nL cL xL aV nV cV xV wd sl wt outside st _ GA.out (rL.below d1) hL (rV.below d1) hV HB.out.1 HB.out.2.1 HB.out.2.2.1 HB.out.2.2.2).mono ?_
      rintro e w2 ⟨rfl, b2⟩
      have d2 := bnext d1 b2 (Nat.le_refl _)
      have gc2 := blk_below gc1 b2 (blk_lt gc1)
      clear k2 k3 k4 gc1 b2 d1
      obtain ⟨np, hnp⟩ : ∃ x, nwZ wd (hdZ xL xV sl wt outside) st = x := ⟨_, rfl⟩
      obtain ⟨nq, hnq⟩ : ∃ x, wt + infZ xL xV wd sl wt outside = x := ⟨_, rfl⟩
      rw [hnp, hnq] at FF
      rw [hnp, hnq]
      clear hnp hnq
      have gN := heap_alloc_new w2 (brC np sl nq)
      have gc1 := blk_alloc gc2 (brC np sl nq)
      have d1 := d2.alloc d2.size (brC np sl nq)
      go_upto_region 7 with fail
      clear gc2 d2
      generalize w2.alloc (brC np sl nq) = W4 at gN gc1 d1 ⊢
      have k0 := blk_cell gN 0
      have k1 := blk_cell gN 1
      have k2 := blk_cell gN 2
      clear gN
      have t0 := blk_cell gc1 0
      have t1 := blk_cell gc1 1
      have t2 := blk_cell gc1 2
      have f0 := blk_free gc1 0
      have f1 := blk_free gc1 1
      have f2 := blk_free gc1 2
      have GC := hd gc1
      clear gc1
      go_wp2_with fail
      refine bodyPost_ret (results_cell_tmp rfl _ _ _ _ _ _ _ rfl (blk_set3 GC.out _ _ _) Try.underlying32 rfl (by kernel_rfl)) rfl ⟨?_, below_set3 d1 (by omega) _ _ _⟩
      exact ret_sb FF.out
  · subst he
    have FF : Hid (R = ((0, 0, 0), c)) := hd (by have := HO.out; rw [if_neg hz] at this; rw [← HR.out]; unfold sbZ; rw [this, if_neg hz])
    clear ga1 gb1
    have t0 := blk_cell gc1 0
    have t1 := blk_cell gc1 1
    have t2 := blk_cell gc1 2
    have f0 := blk_free gc1 0
    have f1 := blk_free gc1 1
    have f2 := blk_free gc1 2
    have GC := hd gc1
    clear gc1
    go_wp2_with fail
    refine bodyPost_ret (results_cell_tmp rfl _ _ _ _ _ _ _ rfl (blk_set3 GC.out _ _ _) Try.underlying32 rfl (by kernel_rfl)) rfl ⟨?_, below_set3 d1 (by omega) _ _ _⟩
    exact ret_sb FF.out
end Go.Proofs.Ytieomdjcnaaopaa
