/- Breaches: the next hour. -/
import Derived.Test.YtieomdjcnaaopaaBr3
namespace Go.Proofs.Ytieomdjcnaaopaa
open Go.RowKit
set_option linter.unusedVariables false

theorem ret_br {a b c d a' b' c' d' : Int} (h1 : a = a') (h2 : b = b') (h3 : c = c') (h4 : d = d') :
    Ending.returned (.tuple #[.agg #[.int .i64 a, .int .i64 b, .int .i64 c], .int .i64 d]) = .returned (.tuple #[.agg #[.int .i64 a', .int .i64 b', .int .i64 c'], .int .i64 d']) := by rw [h1, h2, h3, h4]
theorem ceilDiv_calls (n d : Int) (w : World) (hd0 : 0 < d) (hd1 : d ≤ 1000000) (h0 : -1000000000 ≤ n) (h1 : n ≤ 1000000000) :
    Calls Try.prog 128 #[.int .i64 n, .int .i64 d] w fun e w' => e = .returned (.int .i64 (-((-n) / d))) ∧ w = w' := by
  have hb : -1000000000 ≤ (-n) / d ∧ (-n) / d ≤ 1000000000 := by
    have a := Int.natAbs_ediv_le_natAbs (-n) d
    omega
  obtain ⟨q, hq⟩ : ∃ q, (-n) / d = q := ⟨_, rfl⟩
  have HQ := hd hq
  rw [hq] at hb ⊢
  obtain ⟨b0, b1⟩ := hb
  clear hq
  go_enter Try.func128, Try.ntmps128
  go_wp2_with fail
  refine (floorDiv_calls _ _ _ hd0 hd1 (by omega) (by omega)).mono ?_
  rintro e w' ⟨he, rfl⟩
  rw [HQ.out] at he
  subst he
  go_wp2_with fail
  go_ret
  exact ⟨rfl, rfl⟩
theorem ceil10 {h : Int} : -((-h) / 10) = (h + 9) / 10 := by omega
set_option maxRecDepth 100000 in
set_option maxHeartbeats 1000000 in
theorem step_calls (wd sl wt : Int) (aL : Option Addr) (nL cL : Nat) (xL : List Int) (aV : Option Addr) (nV cV : Nat) (xV : List Int) (outside st : Int) (w : World) (rL : RdInt64 w aL nL xL) (hL : nL ≤ 1048576) (rV : RdInt64 w aV nV xV) (hV : nV ≤ 1048576) (hbr : brB xL xV wd sl wt = true) (hou : lvB outside = true) (hs0 : 0 ≤ st) (hs1 : st ≤ 1000) :
    Calls Try.prog 85 #[.agg #[.int .i64 wd, .int .i64 sl, .int .i64 wt], .agg #[.slice aL nL cL, .slice aV nV cV], .int .i64 outside, .int .i64 st] w fun e w' => e = .returned (.tuple #[.agg #[.int .i64 (nwZ wd (hdZ xL xV sl wt outside) st), .int .i64 sl, .int .i64 (wt + infZ xL xV wd sl wt outside)], .int .i64 (clZ wd (hdZ xL xV sl wt outside) st)]) ∧ Below w.heap.size w w' := by
  obtain ⟨hc, ⟨hw0, hw1⟩, hsl, h0, h1⟩ := br_of hbr
  have cv := cv_of hc
  obtain ⟨-, -, b2, b3⟩ := hd_bd cv sl wt outside hsl hou
  obtain ⟨i0, i1⟩ := inf_bd cv (sl := sl) (o := outside) hw0 h1
  have lv := (lastV cv).2
  obtain ⟨z, hz⟩ : ∃ z, hdZ xL xV sl wt outside = z := ⟨_, rfl⟩
  obtain ⟨q, hq⟩ : ∃ q, infZ xL xV wd sl wt outside = q := ⟨_, rfl⟩
  rw [hz] at b2 b3 ⊢
  rw [hq] at i0 i1 ⊢
  have i2 : wt + q ≤ 1000000000 := by omega
  obtain ⟨wt', hwt⟩ : ∃ x, wt + q = x := ⟨_, rfl⟩
  have HZ := hd hz
  have HQ := hd hq
  have HW := hd hwt
  have s1 : IntKind.i64.wrap (wt + q) = wt' := by rw [IntWalk.i64_in _ (by omega)]; exact hwt
  obtain ⟨CL, hCL⟩ : ∃ x, clZ wd z st = x := ⟨_, rfl⟩
  obtain ⟨NW, hNW⟩ : ∃ x, nwZ wd z st = x := ⟨_, rfl⟩
  obtain ⟨G, hG⟩ : ∃ x, gwZ wd z = x := ⟨_, rfl⟩
  have gb0 := gw_bd hw0 hw1 b2 b3
  have e1 : (if G < st then G else st) = CL := by rw [← hCL]; unfold clZ; rw [hG]; split <;> omega
  have e2 : (if G - CL < 1000 then G - CL else 1000) = NW := by rw [← hNW]; unfold nwZ; rw [hCL, hG]; split <;> omega
  have cb : 0 ≤ CL ∧ CL ≤ G ∧ CL ≤ 1000 := by rw [← hCL]; unfold clZ; rw [hG] at gb0 ⊢; omega
  rw [hG] at gb0
  obtain ⟨g0, g1⟩ := gb0
  obtain ⟨c0, c1, c2⟩ := cb
  have HG := hd hG
  have HBR := hd hbr
  have HCV := hd cv
  have HSL := hd hsl
  have HOU := hd hou
  rw [hwt, hCL, hNW]
  clear hz hq hwt hCL hNW hG hbr cv hsl hou hc lv i2
  go_enter Try.func85, Try.ntmps85
  go_upto_region 1 with fail
  obtain ⟨ga, gb, gc, dd, hs⟩ := three_blk w (brC wd sl wt) (cvC aL nL cL aV nV cV) (brC 0 0 0)
  generalize ((w.alloc (brC wd sl wt)).alloc (cvC aL nL cL aV nV cV)).alloc (brC 0 0 0) = W1 at ga gb gc dd hs ⊢
  have k0 := blw_cell (blk_cell ga 0)
  have k1 := blw_cell (blk_cell ga 1)
  have k2 := blw_cell (blk_cell ga 2)
  have k3 := blw_cell (blk_cell gb 0)
  have k4 := blw_cell (blk_cell gb 1)
  have RL := hd (rL.below dd)
  have RV := hd (rV.below dd)
  have GA := hd ga
  have GC := hd gc
  clear ga gb gc
  refine wp_region_blw (by kernel_rfl) (by kernel_rfl) ?_
  repeat (go_big_quiet_step (first | (go_at_call 70; with_reducible exact blw_of ((head_calls wd sl wt aL nL cL xL aV nV cV xV outside _ (RL.out.below (Blw.out _)) hL (RV.out.below (Blw.out _)) hV HCV.out HSL.out HOU.out).mono fun _ _ h => ⟨h.1.trans (ret_int HZ.out), h.2⟩)) | (go_at_call 72; with_reducible exact blw_of ((inflow_calls wd sl wt aL nL cL xL aV nV cV xV outside _ (RL.out.below (Blw.out _)) hL (RV.out.below (Blw.out _)) hV HBR.out HOU.out).mono fun _ _ h => ⟨h.1.trans (ret_int HQ.out), h.2⟩))))
  refine wpQuiet_nil ?_
  rintro _ ⟨D, rfl⟩
  have ga1 := blk_below GA.out D.out (blk_lt GA.out)
  have gc1 := blk_below GC.out D.out (blk_lt GC.out)
  have d1 := bnext dd D.out (Nat.le_refl _)
  clear k0 k1 k2 k3 k4 GA GC RL RV
  have k0 := blk_cell ga1 0
  have k1 := blk_cell ga1 1
  have k2 := blk_cell ga1 2
  have f2 := blk_free ga1 2
  go_upto_region 3 with fail
  have gc2 := blk_far gc1 (a := ⟨w.heap.size, 2, none⟩) (by show w.heap.size + 1 + 1 ≠ w.heap.size; omega) (.int .i64 wt')
  have ga2 : (D.val.setCell ⟨w.heap.size, 2, none⟩ (.int .i64 wt')).heap[w.heap.size]? = some (brC wd sl wt') := blk_set ga1 2 _
  have d2 := d1.setCell (show w.heap.size ≤ (⟨w.heap.size, 2, none⟩ : Addr).block from Nat.le_refl _) (.int .i64 wt')
  clear k0 k1 k2 f2 ga1 gc1 d1
  generalize D.val.setCell ⟨w.heap.size, 2, none⟩ (.int .i64 wt') = W2 at ga2 gc2 d2 ⊢
  have k0 := blk_cell ga2 0
  by_cases e0 : wd = 0
  · have eG : G = 0 := by rw [← HG.out, e0]; rfl
    subst e0
    subst eG
    obtain ⟨W3, hW3⟩ : ∃ W, W = W2 := ⟨_, rfl⟩
    subst hW3
    have ga3 := ga2
    have gc3 := gc2
    have d3 := d2
    obtain rfl : CL = 0 := by omega
    obtain rfl : NW = 0 := by rw [← e2]; rfl
    clear ga2 gc2 d2 k0 e2
    have k0 := blk_cell ga3 0
    have k1 := blk_cell ga3 1
    have k2 := blk_cell ga3 2
    have f0 := blk_free ga3 0
    go_upto_region 7 with fail
    have gc4 := blk_far gc3 (a := ⟨w.heap.size, 0, none⟩) (by show w.heap.size + 1 + 1 ≠ w.heap.size; omega) (.int .i64 0)
    have ga4 : (W3.setCell ⟨w.heap.size, 0, none⟩ (.int .i64 0)).heap[w.heap.size]? = some (brC 0 sl wt') := blk_set ga3 0 _
    have d4 := d3.setCell (show w.heap.size ≤ (⟨w.heap.size, 0, none⟩ : Addr).block from Nat.le_refl _) (.int .i64 0)
    clear k0 k1 k2 f0
    generalize W3.setCell ⟨w.heap.size, 0, none⟩ (.int .i64 0) = W4 at ga4 gc4 d4 ⊢
    have k0 := blk_cell ga4 0
    have k1 := blk_cell ga4 1
    have k2 := blk_cell ga4 2
    have t0 := blk_cell gc4 0
    have t1 := blk_cell gc4 1
    have t2 := blk_cell gc4 2
    have f0 := blk_free gc4 0
    have f1 := blk_free gc4 1
    have f2 := blk_free gc4 2
    have GC := hd gc4
    clear ga4 gc4
    go_wp2_with fail
    refine bodyPost_ret (results_cell_tmp rfl _ _ _ _ _ _ _ rfl (blk_set3 GC.out _ _ _) Try.underlying32 rfl (by kernel_rfl)) rfl ⟨?_, below_set3 d4 (by omega) _ _ _⟩
    exact ret_br rfl rfl rfl rfl
  · have eG : G = wd + -((-z) / 10) := by rw [← HG.out, ceil10]; unfold gwZ; rw [if_neg e0]
    go_upto_region 4 with fail
    clear k0
    have k0 := blw_cell (blk_cell ga2 0)
    obtain ⟨cd, hcd⟩ : ∃ x, -((-z) / 10) = x := ⟨_, rfl⟩
    have HCD := hd hcd
    rw [hcd] at eG
    have s2 : IntKind.i64.wrap (wd + cd) = G := by rw [IntWalk.i64_in _ (by omega)]; exact eG.symm
    have EG := hd eG
    clear hcd eG
    refine wp_region_blw_tail 6 (by kernel_rfl) (by kernel_rfl) ?_
    simp only [List.take_succ_cons, List.take_zero, List.drop_succ_cons, List.drop_zero]
    repeat (go_big_quiet_step ((go_at_call 128; with_reducible exact blw_same ((ceilDiv_calls z 10 _ (by decide) (by decide) (by omega) (by omega)).mono fun _ _ h => ⟨h.1.trans (ret_int HCD.out), h.2⟩))))
    refine wpQuiet_nil ?_
    rintro _ ⟨D, rfl⟩
    have ga2' := blk_below ga2 D.out (blk_lt ga2)
    have gc2' := blk_below gc2 D.out (blk_lt gc2)
    have d2' := bnext d2 D.out (Nat.le_refl _)
    have f0 := blk_free ga2' 0
    clear k0 ga2 gc2 d2
    have k0 := blk_cell ga2' 0
    go_upto_region 5 with fail
    have gc3 := blk_far gc2' (a := ⟨w.heap.size, 0, none⟩) (by show w.heap.size + 1 + 1 ≠ w.heap.size; omega) (.int .i64 G)
    have ga3 : (D.val.setCell ⟨w.heap.size, 0, none⟩ (.int .i64 G)).heap[w.heap.size]? = some (brC G sl wt') := blk_set ga2' 0 _
    have d3 := d2'.setCell (show w.heap.size ≤ (⟨w.heap.size, 0, none⟩ : Addr).block from Nat.le_refl _) (.int .i64 G)
    clear k0 f0 ga2' gc2' d2'
    generalize D.val.setCell ⟨w.heap.size, 0, none⟩ (.int .i64 G) = W3 at ga3 gc3 d3 ⊢
    have k0 := blk_cell ga3 0
    have k1 := blk_cell ga3 1
    have k2 := blk_cell ga3 2
    have f0 := blk_free ga3 0
    go_upto_region 7 with fail
    have gc4 := blk_far gc3 (a := ⟨w.heap.size, 0, none⟩) (by show w.heap.size + 1 + 1 ≠ w.heap.size; omega) (.int .i64 NW)
    have ga4 : (W3.setCell ⟨w.heap.size, 0, none⟩ (.int .i64 NW)).heap[w.heap.size]? = some (brC NW sl wt') := blk_set ga3 0 _
    have d4 := d3.setCell (show w.heap.size ≤ (⟨w.heap.size, 0, none⟩ : Addr).block from Nat.le_refl _) (.int .i64 NW)
    clear k0 k1 k2 f0
    generalize W3.setCell ⟨w.heap.size, 0, none⟩ (.int .i64 NW) = W4 at ga4 gc4 d4 ⊢
    have k0 := blk_cell ga4 0
    have k1 := blk_cell ga4 1
    have k2 := blk_cell ga4 2
    have t0 := blk_cell gc4 0
    have t1 := blk_cell gc4 1
    have t2 := blk_cell gc4 2
    have f0 := blk_free gc4 0
    have f1 := blk_free gc4 1
    have f2 := blk_free gc4 2
    have GC := hd gc4
    clear ga4 gc4
    go_wp2_with fail
    refine bodyPost_ret (results_cell_tmp rfl _ _ _ _ _ _ _ rfl (blk_set3 GC.out _ _ _) Try.underlying32 rfl (by kernel_rfl)) rfl ⟨?_, below_set3 d4 (by omega) _ _ _⟩
    exact ret_br rfl rfl rfl rfl
end Go.Proofs.Ytieomdjcnaaopaa
