/- Breaches: the next hour, as the reference reckons it. -/
import Derived.Test.YtieomdjcnaaopaaStp
import Derived.Deep.RegionHeld3
import Derived.Deep.DeepCutAuto
namespace Go.Proofs.Ytieomdjcnaaopaa
open Go.RowKit
set_option linter.unusedVariables false

set_option maxRecDepth 100000 in
set_option maxHeartbeats 1000000 in
theorem l12Step_calls (g : Nat) (aL : Option Addr) (nL cL : Nat) (xL : List Int) (aV : Option Addr) (nV cV : Nat) (xV : List Int) (wd sl wt : Int) (outside st : Int) (w : World) (hg : w.heap[g]? = some (cvC aL nL cL aV nV cV)) (rL : RdInt64 w aL nL xL) (hL : nL ≤ 1048576) (rV : RdInt64 w aV nV xV) (hV : nV ≤ 1048576) (hbr : brB xL xV wd sl wt = true) (hou : lvB outside = true) (hs0 : 0 ≤ st) (hs1 : st ≤ 1000) :
    Calls Try.prog 83 #[.pointer (some ⟨g, 0, none⟩), .agg #[.int .i64 wd, .int .i64 sl, .int .i64 wt], .int .i64 outside, .int .i64 st] w fun e w' => e = .returned (.tuple #[.agg #[.int .i64 (nwZ wd (hdZ xL xV sl wt outside) st), .int .i64 sl, .int .i64 (wt + infZ xL xV wd sl wt outside)], .int .i64 (clZ wd (hdZ xL xV sl wt outside) st)]) ∧ Below w.heap.size w w' := by
  obtain ⟨hc, ⟨hw0, hw1⟩, hsl, h0, h1⟩ := br_of hbr
  have cv := cv_of hc
  obtain ⟨-, -, b2, b3⟩ := hd_bd cv sl wt outside hsl hou
  obtain ⟨i0, i1⟩ := inf_bd cv (sl := sl) (o := outside) hw0 h1
  have lv := (lastV cv).2
  obtain ⟨z, hz⟩ : ∃ z, hdZ xL xV sl wt outside = z := ⟨_, rfl⟩
  obtain ⟨q, hq⟩ : ∃ q, infZ xL xV wd sl wt outside = q := ⟨_, rfl⟩
  rw [hz] at b2 b3 ⊢
  rw [hq] at i0 i1 ⊢
  have i2 : wt + q ≤ 1000000000 := by omega
  obtain ⟨wt', hwt⟩ : ∃ x, wt + q = x := ⟨_, rfl⟩
  have HZ := hd hz
  have HQ := hd hq
  have s1 : IntKind.i64.wrap (wt + q) = wt' := by rw [IntWalk.i64_in _ (by omega)]; exact hwt
  obtain ⟨CL, hCL⟩ : ∃ x, clZ wd z st = x := ⟨_, rfl⟩
  obtain ⟨NW, hNW⟩ : ∃ x, nwZ wd z st = x := ⟨_, rfl⟩
  obtain ⟨G, hG⟩ : ∃ x, gwZ wd z = x := ⟨_, rfl⟩
  have gb0 := gw_bd hw0 hw1 b2 b3
  have e1 : min G st = CL := by rw [← hCL]; unfold clZ; rw [hG]; omega
  have e2 : min 1000 (G - CL) = NW := by rw [← hNW]; unfold nwZ; rw [hCL, hG]
  have cb : 0 ≤ CL ∧ CL ≤ G ∧ CL ≤ 1000 := by rw [← hCL]; unfold clZ; rw [hG] at gb0 ⊢; omega
  rw [hG] at gb0
  obtain ⟨g0, g1⟩ := gb0
  obtain ⟨c0, c1, c2⟩ := cb
  have HG := hd hG
  have HBR := hd hbr
  have HC := hd hc
  have HSL := hd hsl
  have HOU := hd hou
  have H1 := hd h1
  rw [hwt, hCL, hNW]
  clear hz hq hwt hCL hNW hG hbr cv hsl hou hc lv i2 i1 h1
  go_enter Try.func83, Try.ntmps83
  go_upto_region 1 with fail
  obtain ⟨ga, gc, dd⟩ := two_blk2 w (brC wd sl wt) (brC 0 0 0)
  have gp := blk_alloc (blk_alloc hg (brC wd sl wt)) (brC 0 0 0)
  have lA : w.heap.size < ((w.alloc (brC wd sl wt)).alloc (brC 0 0 0)).heap.size := blk_lt ga
  have hgl := blk_lt hg
  generalize (w.alloc (brC wd sl wt)).alloc (brC 0 0 0) = W1 at ga gc gp dd lA ⊢
  have lP := blk_lt gp
  have GA := hd ga
  have GC := hd gc
  have GP := hd gp
  have RL := hd (rL.below dd)
  have RV := hd (rV.below dd)
  have k0 := blk_cell ga 0
  have k1 := blk_cell ga 1
  have k2 := blk_cell ga 2
  clear ga gc gp
  go_cut [10] (fun s10 wx => ∃ gg : Nat, s10 = .pointer (some ⟨gg, 0, none⟩) ∧ wx.heap[gg]? = some (brC wd sl wt') ∧ Below W1.heap.size W1 wx ∧ W1.heap.size ≤ gg)
  case first =>
    have n0 := World.new_ne W1 _ k0
    have n1 := World.new_ne W1 _ k1
    have n2 := World.new_ne W1 _ k2
    go_region_held3 (fun w' => w'.cell? ⟨w.heap.size, 0, none⟩ = some (.int .i64 wd) ∧ w'.cell? ⟨w.heap.size, 1, none⟩ = some (.int .i64 sl) ∧ w'.cell? ⟨w.heap.size, 2, none⟩ = some (.int .i64 wt)) (first | exact ⟨r0, r1, r2⟩ | go_keep)
      (first | (go_at_call 71; refine (l12Inflow_calls g aL nL cL xL aV nV cV xV wd sl wt outside _ (blk_below GP.out (by go_grown) lP) (RL.out.below (by go_grown)) hL (RV.out.below (by go_grown)) hV HBR.out HOU.out).mono ?_; rintro e w9 ⟨he, b9⟩; rw [HQ.out] at he; subst he; have b9w : Below W1.heap.size W1 w9 := Below.trans (by go_grown) (b9.mono (by simp)); have r0 := (b9w.cell (p := ⟨w.heap.size, 0, none⟩) lA).trans k0; have r1 := (b9w.cell (p := ⟨w.heap.size, 1, none⟩) lA).trans k1; have r2 := (b9w.cell (p := ⟨w.heap.size, 2, none⟩) lA).trans k2; (first | (have hq9 : w9.heap[W1.heap.size]? = some (brC 0 0 0) := (b9.block W1.heap.size (by simp)).trans (heap_alloc_new W1 _); have t0 := blk_cell hq9 0; have t1 := blk_cell hq9 1; have t2 := blk_cell hq9 2; have u0 := blk_free hq9 0; have u1 := blk_free hq9 1; have u2 := blk_free hq9 2) | skip)))
    all_goals
      go_wp2_with fail
      go_meet
      first
        | exact ⟨_, rfl, heap_alloc_new _ _, b9w.alloc b9w.size _, b9w.size⟩
        | exact ⟨_, rfl, blk_set3 hq9 _ _ _, below_set3 b9w (Nat.le_refl _) _ _ _, Nat.le_refl _⟩
  case rest =>
    obtain ⟨gg, rfl, gn, b1, lgg⟩ := hcut
    have d1 := bnext dd b1 (Nat.le_refl _)
    have ga := blk_below GA.out b1 lA
    have gc := blk_below GC.out b1 (blk_lt GC.out)
    have gp := blk_below GP.out b1 lP
    have lC := blk_lt GC.out
    have RL1 := hd (RL.out.below b1)
    have RV1 := hd (RV.out.below b1)
    clear k0 k1 k2 b1 RL RV GA GC GP
    by_cases e0 : wd = 0
    · have eG : G = 0 := by rw [← HG.out, e0]; rfl
      subst e0
      subst eG
      obtain ⟨W3, hW3⟩ : ∃ W, W = wc := ⟨_, rfl⟩
      subst hW3
      have gn3 := gn
      have gc3 := gc
      have d3 := d1
      obtain rfl : CL = 0 := by omega
      obtain rfl : NW = 0 := by rw [← e2]; rfl
      clear gn gc d1 e2 ga gp
      have k0 := blk_cell gn3 0
      have k1 := blk_cell gn3 1
      have k2 := blk_cell gn3 2
      have f0 := blk_free gn3 0
      go_upto_region 4 with fail
      go_upto_region 6 with (go_at_call 118; refine (l00Min_calls _ _ _).mono ?_; rintro e w' ⟨rfl, rfl⟩)
      have gc4 := blk_far gc3 (a := ⟨gg, 0, none⟩) (by show w.heap.size + 1 ≠ gg; omega) (.int .i64 (min 1000 0))
      have gn4 : (W3.setCell ⟨gg, 0, none⟩ (.int .i64 (min 1000 0))).heap[gg]? = some (brC (min 1000 0) sl wt') := blk_set gn3 0 _
      have d4 := d3.setCell (show w.heap.size ≤ (⟨gg, 0, none⟩ : Addr).block by show w.heap.size ≤ gg; omega) (.int .i64 (min 1000 0))
      clear k0 k1 k2 f0
      generalize W3.setCell ⟨gg, 0, none⟩ (.int .i64 (min 1000 0)) = W4 at gn4 gc4 d4 ⊢
      have k0 := blk_cell gn4 0
      have k1 := blk_cell gn4 1
      have k2 := blk_cell gn4 2
      have t0 := blk_cell gc4 0
      have t1 := blk_cell gc4 1
      have t2 := blk_cell gc4 2
      have f0 := blk_free gc4 0
      have f1 := blk_free gc4 1
      have f2 := blk_free gc4 2
      have GC := hd gc4
      clear gn4 gc4
      go_wp2_with fail
      refine bodyPost_ret (results_cell_tmp rfl _ _ _ _ _ _ _ rfl (blk_set3 GC.out _ _ _) Try.underlying32 rfl (by kernel_rfl)) rfl ⟨?_, below_set3 d4 (by omega) _ _ _⟩
      exact ret_br (by first | rfl | decide) rfl rfl rfl
    · have eG : G = wd + (z + 9).tdiv 10 := by rw [← HG.out]; unfold gwZ; rw [if_neg e0, Int.tdiv_eq_ediv_of_nonneg (by omega)]
      have e0' : 0 < wd := by omega
      obtain ⟨cd, hcd⟩ : ∃ x, (z + 9).tdiv 10 = x := ⟨_, rfl⟩
      have hcb : 0 ≤ cd ∧ cd ≤ 401 := by rw [← hcd, Int.tdiv_eq_ediv_of_nonneg (by omega)]; omega
      rw [hcd] at eG
      obtain ⟨cd0, cd1⟩ := hcb
      have s2 : IntKind.i64.wrap (wd + cd) = G := by rw [IntWalk.i64_in _ (by omega)]; exact eG.symm
      have s3 : IntKind.i64.wrap (z + 9) = z + 9 := IntWalk.i64_in _ (by omega)
      have EG := hd eG
      clear eG
      have y0 := blk_cell gn 0
      go_upto_region 3 with fail
      clear y0
      have k0 := blw_cell (blk_cell ga 0)
      have k1 := blw_cell (blk_cell ga 1)
      have k2 := blw_cell (blk_cell ga 2)
      have k3 := blw_cell (blk_cell gn 0)
      have GP1 := hd gp
      have lP1 := blk_lt gp
      refine wp_region_blw_tail 10 (by kernel_rfl) (by kernel_rfl) ?_
      simp only [List.take_succ_cons, List.take_zero, List.drop_succ_cons, List.drop_zero]
      repeat (go_big_quiet_step ((go_at_call 68; with_reducible exact blw_of ((l12Head_calls g aL nL cL xL aV nV cV xV wd sl wt outside _ (blk_below GP1.out (Blw.out _) lP1) (RL1.out.below (Blw.out _)) hL (RV1.out.below (Blw.out _)) hV HC.out h0 H1.out HSL.out HOU.out).mono fun _ _ h => ⟨h.1.trans (ret_int HZ.out), h.2⟩))))
      refine wpQuiet_nil ?_
      rintro _ ⟨D, rfl⟩
      have gn' := blk_below gn D.out (blk_lt gn)
      have gc' := blk_below gc D.out (blk_lt gc)
      have d' := bnext d1 D.out (Nat.le_refl _)
      clear k0 k1 k2 k3 gn gc d1 ga gp
      have k0 := blk_cell gn' 0
      have f0 := blk_free gn' 0
      go_upto_region 4 with fail
      have gc3 := blk_far gc' (a := ⟨gg, 0, none⟩) (by show w.heap.size + 1 ≠ gg; omega) (.int .i64 G)
      have gn3 : (D.val.setCell ⟨gg, 0, none⟩ (.int .i64 G)).heap[gg]? = some (brC G sl wt') := blk_set gn' 0 _
      have d3 := d'.setCell (show w.heap.size ≤ (⟨gg, 0, none⟩ : Addr).block by show w.heap.size ≤ gg; omega) (.int .i64 G)
      clear k0 f0 gn' gc' d'
      generalize D.val.setCell ⟨gg, 0, none⟩ (.int .i64 G) = W3 at gn3 gc3 d3 ⊢
      have k0 := blk_cell gn3 0
      have k1 := blk_cell gn3 1
      have k2 := blk_cell gn3 2
      have f0 := blk_free gn3 0
      go_upto_region 4 with fail
      go_upto_region 6 with (go_at_call 118; refine (l00Min_calls _ _ _).mono ?_; rintro e w' ⟨rfl, rfl⟩)
      have gc4 := blk_far gc3 (a := ⟨gg, 0, none⟩) (by show w.heap.size + 1 ≠ gg; omega) (.int .i64 NW)
      have gn4 : (W3.setCell ⟨gg, 0, none⟩ (.int .i64 NW)).heap[gg]? = some (brC NW sl wt') := blk_set gn3 0 _
      have d4 := d3.setCell (show w.heap.size ≤ (⟨gg, 0, none⟩ : Addr).block by show w.heap.size ≤ gg; omega) (.int .i64 NW)
      clear k0 k1 k2 f0
      generalize W3.setCell ⟨gg, 0, none⟩ (.int .i64 NW) = W4 at gn4 gc4 d4 ⊢
      have k0 := blk_cell gn4 0
      have k1 := blk_cell gn4 1
      have k2 := blk_cell gn4 2
      have t0 := blk_cell gc4 0
      have t1 := blk_cell gc4 1
      have t2 := blk_cell gc4 2
      have f0 := blk_free gc4 0
      have f1 := blk_free gc4 1
      have f2 := blk_free gc4 2
      have GC := hd gc4
      clear gn4 gc4
      go_wp2_with fail
      refine bodyPost_ret (results_cell_tmp rfl _ _ _ _ _ _ _ rfl (blk_set3 GC.out _ _ _) Try.underlying32 rfl (by kernel_rfl)) rfl ⟨?_, below_set3 d4 (by omega) _ _ _⟩
      exact ret_br (by first | rfl | decide) rfl rfl rfl
end Go.Proofs.Ytieomdjcnaaopaa
