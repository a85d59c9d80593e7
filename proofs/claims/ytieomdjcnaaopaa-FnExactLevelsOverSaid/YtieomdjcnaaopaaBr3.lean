/- Breaches: the level inside, the head, the volume at a level, the inflow. -/
import Derived.Test.YtieomdjcnaaopaaBr2
import Derived.Test.YtieomdjcnaaopaaHyd
namespace Go.Proofs.Ytieomdjcnaaopaa
open Go.RowKit
set_option linter.unusedVariables false

theorem hd_bd {ls vs : List Int} (h : CV ls vs) (sl wt outside : Int) (h1 : lvB sl = true) (h2 : lvB outside = true) : -2000 ≤ lvZ ls vs wt ∧ lvZ ls vs wt ≤ 2000 ∧ 0 ≤ hdZ ls vs sl wt outside ∧ hdZ ls vs sl wt outside ≤ 4000 := by
  have a := lv_in h wt
  have b := h.lb 0 (by have := h.n2; omega)
  have c := h.lb (ls.length - 1) (by have := h.n2; omega)
  have k := hd_bd' h sl wt outside h1 h2
  unfold lastZ at a
  omega
set_option maxRecDepth 100000 in
set_option maxHeartbeats 1000000 in
theorem head_calls (wd sl wt : Int) (aL : Option Addr) (nL cL : Nat) (xL : List Int) (aV : Option Addr) (nV cV : Nat) (xV : List Int) (outside : Int) (w : World) (rL : RdInt64 w aL nL xL) (hL : nL ≤ 1048576) (rV : RdInt64 w aV nV xV) (hV : nV ≤ 1048576) (cv : CV xL xV) (hsl : lvB sl = true) (hou : lvB outside = true) :
    Calls Try.prog 70 #[.agg #[.int .i64 wd, .int .i64 sl, .int .i64 wt], .agg #[.slice aL nL cL, .slice aV nV cV], .int .i64 outside] w fun e w' => e = .returned (.int .i64 (hdZ xL xV sl wt outside)) ∧ Below w.heap.size w w' := by
  obtain ⟨b0, b1, b2, b3⟩ := hd_bd cv sl wt outside hsl hou
  obtain ⟨s0, s1⟩ := lvB_iff.1 hsl
  obtain ⟨o0, o1⟩ := lvB_iff.1 hou
  obtain ⟨z, hz⟩ : ∃ z, lvZ xL xV wt = z := ⟨_, rfl⟩
  have FF : Hid (hdZ xL xV sl wt outside = max 0 (outside - max sl z)) := hd (by unfold hdZ; rw [hz])
  rw [hz] at b0 b1
  have HZ := hd hz
  have HCV := hd cv
  clear hz cv b2 b3 hsl hou
  go_enter Try.func70, Try.ntmps70
  go_upto_region 1 with fail
  obtain ⟨ga, gb, dd⟩ := two_blk2 w (brC wd sl wt) (cvC aL nL cL aV nV cV)
  generalize (w.alloc (brC wd sl wt)).alloc (cvC aL nL cL aV nV cV) = W1 at ga gb dd ⊢
  have k0 := blw_cell (blk_cell ga 0)
  have k1 := blw_cell (blk_cell ga 1)
  have k2 := blw_cell (blk_cell ga 2)
  have k3 := blw_cell (blk_cell gb 0)
  have k4 := blw_cell (blk_cell gb 1)
  have RL := hd (rL.below dd)
  have RV := hd (rV.below dd)
  clear ga gb
  refine wp_region_blw (by kernel_rfl) (by kernel_rfl) ?_
  repeat (go_big_quiet_step ((go_at_call 88; with_reducible exact blw_of ((level_calls aL nL cL xL aV nV cV xV wt _ (RL.out.below (Blw.out _)) hL (RV.out.below (Blw.out _)) hV HCV.out).mono fun _ _ h => ⟨h.1.trans (ret_int HZ.out), h.2⟩))))
  refine wpQuiet_nil ?_
  rintro _ ⟨D, rfl⟩
  go_wp2_with fail
  all_goals (
    go_ret
    exact ⟨ret_int (by rw [FF.out]; first | omega | (repeat' split) <;> omega), bnext dd D.out (Nat.le_refl _)⟩)
set_option maxRecDepth 100000 in
set_option maxHeartbeats 1000000 in
theorem l12Inside_calls (g : Nat) (aL : Option Addr) (nL cL : Nat) (xL : List Int) (aV : Option Addr) (nV cV : Nat) (xV : List Int) (wd sl wt : Int) (w : World) (hg : w.heap[g]? = some (cvC aL nL cL aV nV cV)) (rL : RdInt64 w aL nL xL) (hL : nL ≤ 1048576) (rV : RdInt64 w aV nV xV) (hV : nV ≤ 1048576) (hc : cvB xL xV = true) (h0 : 0 ≤ wt) (h1 : wt ≤ lastZ xV) :
    Calls Try.prog 87 #[.pointer (some ⟨g, 0, none⟩), .agg #[.int .i64 wd, .int .i64 sl, .int .i64 wt]] w fun e w' => e = .returned (.int .i64 (lvZ xL xV wt)) ∧ Below w.heap.size w w' := by
  have HC := hd hc
  have H1 := hd h1
  clear hc h1
  go_enter Try.func87, Try.ntmps87
  go_upto_region 1 with fail
  have gb := heap_alloc_new w (brC wd sl wt)
  have ga := blk_alloc hg (brC wd sl wt)
  have dd : Below w.heap.size w (w.alloc (brC wd sl wt)) := (Below.refl _ _).alloc (Nat.le_refl _) _
  generalize w.alloc (brC wd sl wt) = W1 at ga gb dd ⊢
  have k0 := blw_cell (blk_cell ga 0)
  have k1 := blw_cell (blk_cell ga 1)
  have k2 := blw_cell (blk_cell gb 0)
  have k3 := blw_cell (blk_cell gb 1)
  have k4 := blw_cell (blk_cell gb 2)
  have RL := hd (rL.below dd)
  have RV := hd (rV.below dd)
  clear ga gb
  refine wp_region_blw (by kernel_rfl) (by kernel_rfl) ?_
  repeat (go_big_quiet_step ((go_at_call 129; with_reducible exact blw_of (specLevelAt_calls aL nL cL xL aV nV cV xV wt _ (RL.out.below (Blw.out _)) hL (RV.out.below (Blw.out _)) hV HC.out h0 H1.out))))
  refine wpQuiet_nil ?_
  rintro _ ⟨D, rfl⟩
  go_wp2_with fail
  go_ret
  exact ⟨rfl, bnext dd D.out (Nat.le_refl _)⟩
set_option maxRecDepth 100000 in
set_option maxHeartbeats 1000000 in
theorem l12Head_calls (g : Nat) (aL : Option Addr) (nL cL : Nat) (xL : List Int) (aV : Option Addr) (nV cV : Nat) (xV : List Int) (wd sl wt : Int) (outside : Int) (w : World) (hg : w.heap[g]? = some (cvC aL nL cL aV nV cV)) (rL : RdInt64 w aL nL xL) (hL : nL ≤ 1048576) (rV : RdInt64 w aV nV xV) (hV : nV ≤ 1048576) (hc : cvB xL xV = true) (h0 : 0 ≤ wt) (h1 : wt ≤ lastZ xV) (hsl : lvB sl = true) (hou : lvB outside = true) :
    Calls Try.prog 68 #[.pointer (some ⟨g, 0, none⟩), .agg #[.int .i64 wd, .int .i64 sl, .int .i64 wt], .int .i64 outside] w fun e w' => e = .returned (.int .i64 (hdZ xL xV sl wt outside)) ∧ Below w.heap.size w w' := by
  obtain ⟨b0, b1, b2, b3⟩ := hd_bd (cv_of hc) sl wt outside hsl hou
  obtain ⟨s0, s1⟩ := lvB_iff.1 hsl
  obtain ⟨o0, o1⟩ := lvB_iff.1 hou
  obtain ⟨z, hz⟩ : ∃ z, lvZ xL xV wt = z := ⟨_, rfl⟩
  have FF : Hid (hdZ xL xV sl wt outside = max 0 (outside - max sl z)) := hd (by unfold hdZ; rw [hz])
  rw [hz] at b0 b1
  have HZ := hd hz
  have HC := hd hc
  have H1 := hd h1
  clear hz b2 b3 hsl hou hc h1
  have m0 : -2000 ≤ max sl z := by omega
  have m1 : max sl z ≤ 2000 := by omega
  go_enter Try.func68, Try.ntmps68
  go_upto_region 1 with fail
  have gb := heap_alloc_new w (brC wd sl wt)
  have ga := blk_alloc hg (brC wd sl wt)
  have dd : Below w.heap.size w (w.alloc (brC wd sl wt)) := (Below.refl _ _).alloc (Nat.le_refl _) _
  generalize w.alloc (brC wd sl wt) = W1 at ga gb dd ⊢
  have k0 := blw_cell (blk_cell ga 0)
  have k1 := blw_cell (blk_cell ga 1)
  have k2 := blw_cell (blk_cell gb 0)
  have k3 := blw_cell (blk_cell gb 1)
  have k4 := blw_cell (blk_cell gb 2)
  have lA := blk_lt ga
  have RL := hd (rL.below dd)
  have RV := hd (rV.below dd)
  have GA := hd ga
  clear ga gb
  refine wp_region_blw (by kernel_rfl) (by kernel_rfl) ?_
  repeat (go_big_quiet_step (first | (go_at_call 87; with_reducible exact blw_of ((l12Inside_calls g aL nL cL xL aV nV cV xV wd sl wt _ (blk_below GA.out (Blw.out _) lA) (RL.out.below (Blw.out _)) hL (RV.out.below (Blw.out _)) hV HC.out h0 H1.out).mono fun _ _ h => ⟨h.1.trans (ret_int HZ.out), h.2⟩)) | (go_at_call 115; with_reducible exact blw_same (l00Max_calls _ _ _))))
  refine wpQuiet_nil ?_
  rintro _ ⟨D, rfl⟩
  go_wp2_with fail
  go_ret
  exact ⟨ret_int (by rw [FF.out]), bnext dd D.out (Nat.le_refl _)⟩
set_option maxRecDepth 100000 in
set_option maxHeartbeats 1000000 in
theorem l05In_calls (g : Nat) (aL : Option Addr) (nL cL : Nat) (xL : List Int) (aV : Option Addr) (nV cV : Nat) (xV : List Int) (level : Int) (w : World) (hg : w.heap[g]? = some (cvC aL nL cL aV nV cV)) (rL : RdInt64 w aL nL xL) (hL : nL ≤ 1048576) (rV : RdInt64 w aV nV xV) (hV : nV ≤ 1048576) (hc : cvB xL xV = true) :
    Calls Try.prog 131 #[.pointer (some ⟨g, 0, none⟩), .int .i64 level] w fun e w' => e = .returned (.bool (inB level (at0 xL 0) (lastZ xL))) ∧ Below w.heap.size w w' := by
  have cv := cv_of hc
  have LL := rL.len
  have HLN := hd (lastZ_n LL)
  have n2 := cv.n2
  have hpos : 0 < nL := by omega
  obtain ⟨bL, oL, hbL, hl2, hcL⟩ := rdBase rL hpos
  have c0 := blw_cell (hcL 0 hpos)
  have c1 := blw_cell (hcL (nL - 1) (by omega))
  rw [← HLN.out] at c1
  obtain ⟨nn, rfl⟩ : ∃ nn, nL = nn + 1 := ⟨nL - 1, by omega⟩
  rw [Nat.add_sub_cancel] at c1
  simp only [Nat.add_zero] at c0
  have k0 := blw_cell (blk_cell hg 0)
  have k1 := blw_cell (blk_cell hg 1)
  clear cv LL n2 hcL hc hpos
  subst hbL
  have q0 : (0 : Int) ≤ (nn : Int) := by omega
  have q1 : (nn : Int) < (nn : Int) + 1 := by omega
  have q2 : (0 : Int) < (nn : Int) + 1 := by omega
  go_enter Try.func131, Try.ntmps131
  go_upto_region 1 with fail
  refine wp_region_blw (by kernel_rfl) (by kernel_rfl) ?_
  repeat (go_big_quiet_step ((go_at_call 121; with_reducible exact blw_same (l00In_calls _ _ _ _))))
  refine wpQuiet_nil ?_
  rintro _ ⟨D, rfl⟩
  go_wp2_with fail
  go_ret
  exact ⟨rfl, D.out⟩
set_option maxRecDepth 100000 in
set_option maxHeartbeats 1000000 in
theorem l05Code_calls (g : Nat) (aL : Option Addr) (nL cL : Nat) (xL : List Int) (aV : Option Addr) (nV cV : Nat) (xV : List Int) (level : Int) (w : World) (hg : w.heap[g]? = some (cvC aL nL cL aV nV cV)) (rL : RdInt64 w aL nL xL) (hL : nL ≤ 1048576) (rV : RdInt64 w aV nV xV) (hV : nV ≤ 1048576) (hc : cvB xL xV = true) (hlo : at0 xL 0 ≤ level) (hhi : level ≤ lastZ xL) :
    Calls Try.prog 90 #[.pointer (some ⟨g, 0, none⟩), .int .i64 level] w fun e w' => e = .returned (.int .i64 0) ∧ Below w.heap.size w w' := by
  have hin := hd (inB_iff.2 ⟨hlo, hhi⟩ : inB level (at0 xL 0) (lastZ xL) = true)
  have HC := hd hc
  clear hc
  go_enter Try.func90, Try.ntmps90
  go_wp2_with fail
  refine (l05Ok_calls g aL nL cL xL aV nV cV xV _ hg rL hL rV hV).mono ?_
  rintro e w1 ⟨he, b1⟩
  rw [HC.out] at he
  subst he
  go_wp2_with fail
  refine (l05In_calls g aL nL cL xL aV nV cV xV level _ (blk_below hg b1 (blk_lt hg)) (rL.below b1) hL (rV.below b1) hV HC.out).mono ?_
  rintro e w2 ⟨he, b2⟩
  rw [hin.out] at he
  subst he
  go_wp2_with fail
  go_ret
  exact ⟨rfl, bnext b1 b2 (Nat.le_refl _)⟩
set_option maxRecDepth 100000 in
set_option maxHeartbeats 1000000 in
theorem specVolumeAt_calls (aL : Option Addr) (nL cL : Nat) (xL : List Int) (aV : Option Addr) (nV cV : Nat) (xV : List Int) (level : Int) (w : World) (rL : RdInt64 w aL nL xL) (hL : nL ≤ 1048576) (rV : RdInt64 w aV nV xV) (hV : nV ≤ 1048576) (hc : cvB xL xV = true) (hlo : at0 xL 0 ≤ level) (hhi : level ≤ lastZ xL) :
    Calls Try.prog 119 #[.agg #[.slice aL nL cL, .slice aV nV cV], .int .i64 level] w fun e w' => e = .returned (.tuple #[.int .i64 (volZ xL xV level), .int .i64 0]) ∧ Below w.heap.size w w' := by
  have HC := hd hc
  have HLO := hd hlo
  have HHI := hd hhi
  clear hc hlo hhi
  go_enter Try.func119, Try.ntmps119
  go_wp2_with fail
  refine (l05Code_calls _ aL nL cL xL aV nV cV xV level _ (heap_alloc_new w _) (rL.alloc _) hL (rV.alloc _) hV HC.out HLO.out HHI.out).mono ?_
  rintro e w1 ⟨rfl, b1⟩
  have hg1 := box_q b1
  have d1 := bbox1 b1
  clear b1
  go_wp2_with fail
  refine (l05Volume_calls _ aL nL cL xL aV nV cV xV level _ hg1 (rL.below d1) hL (rV.below d1) hV (cv_of HC.out) HLO.out HHI.out).mono ?_
  rintro e w2 ⟨rfl, b2⟩
  go_wp2_with fail
  go_ret2
  exact ⟨rfl, bnext d1 b2 (Nat.le_refl _)⟩
theorem prod_bd {wd z : Int} (h0 : 0 ≤ wd) (h1 : wd ≤ 1000) (h2 : 0 ≤ z) (h3 : z ≤ 4000) : 0 ≤ 10 * wd * z ∧ 10 * wd * z ≤ 40000000 := by
  refine ⟨Int.mul_nonneg (by omega) h2, ?_⟩
  have := Int.mul_le_mul (show 10 * wd ≤ 10000 by omega) h3 h2 (by omega)
  omega
set_option maxRecDepth 100000 in
set_option maxHeartbeats 1000000 in
theorem inflow_calls (wd sl wt : Int) (aL : Option Addr) (nL cL : Nat) (xL : List Int) (aV : Option Addr) (nV cV : Nat) (xV : List Int) (outside : Int) (w : World) (rL : RdInt64 w aL nL xL) (hL : nL ≤ 1048576) (rV : RdInt64 w aV nV xV) (hV : nV ≤ 1048576) (hbr : brB xL xV wd sl wt = true) (hou : lvB outside = true) :
    Calls Try.prog 72 #[.agg #[.int .i64 wd, .int .i64 sl, .int .i64 wt], .agg #[.slice aL nL cL, .slice aV nV cV], .int .i64 outside] w fun e w' => e = .returned (.int .i64 (infZ xL xV wd sl wt outside)) ∧ Below w.heap.size w w' := by
  obtain ⟨hc, ⟨hw0, hw1⟩, hsl, h0, h1⟩ := br_of hbr
  have cv := cv_of hc
  obtain ⟨-, -, b2, b3⟩ := hd_bd cv sl wt outside hsl hou
  have lv := lastV cv
  obtain ⟨z, hz⟩ : ∃ z, hdZ xL xV sl wt outside = z := ⟨_, rfl⟩
  have HZ := hd hz
  have HM := hd (fun h => missing_bd cv (sl := sl) (wt := wt) (o := outside) h1 h)
  rw [hz] at b2 b3
  obtain ⟨p0, p1⟩ := prod_bd hw0 hw1 b2 b3
  have HPOS : Hid (0 < nL) := hd (by have := cv.n2; have := rL.len; omega)
  have HCV := hd cv
  have HSL := hd hsl
  have HOU := hd hou
  clear hz cv hbr hc hsl hou
  by_cases e0 : z = 0
  · have FF : Hid (infZ xL xV wd sl wt outside = 0) := hd (by unfold infZ; rw [HZ.out, if_pos e0])
    subst e0
    go_enter Try.func72, Try.ntmps72
    go_wp2_with fail
    refine (head_calls wd sl wt aL nL cL xL aV nV cV xV outside _ ((rL.alloc _).alloc _) hL ((rV.alloc _).alloc _) hV HCV.out HSL.out HOU.out).mono ?_
    rintro e w1 ⟨he, b1⟩
    rw [HZ.out] at he
    subst he
    go_wp2_with fail
    go_ret
    exact ⟨ret_int (by rw [FF.out]), bbox2 b1⟩
  · have m := HM.out (by rw [HZ.out]; exact e0)
    obtain ⟨V, hV'⟩ : ∃ V, volZ xL xV (min outside (lastZ xL)) = V := ⟨_, rfl⟩
    rw [hV'] at m
    obtain ⟨⟨m0, m1⟩, m2, m3⟩ := m
    obtain ⟨v0, v1⟩ := lv
    obtain ⟨lz, hlz⟩ : ∃ lz, lastZ xV = lz := ⟨_, rfl⟩
    rw [hlz] at m3 v0 v1
    have FF : Hid (infZ xL xV wd sl wt outside = min (10 * wd * z) (V - wt)) := hd (by unfold infZ; rw [HZ.out, if_neg e0, hV'])
    have HV' := hd hV'
    have M0 := hd m0
    have M1 := hd m1
    obtain ⟨ll, hll⟩ : ∃ ll, lastZ xL = ll := ⟨_, rfl⟩
    have HLL := hd hll
    rw [hll] at M0 M1 HV'
    have EE := hd (show (if ll < outside then ll else outside) = min outside ll by split <;> omega)
    clear hV' m0 m1 hlz hll h1 HM
    go_enter Try.func72, Try.ntmps72
    go_upto_region 1 with fail
    obtain ⟨ga, gb, dd⟩ := two_blk2 w (brC wd sl wt) (cvC aL nL cL aV nV cV)
    generalize (w.alloc (brC wd sl wt)).alloc (cvC aL nL cL aV nV cV) = W1 at ga gb dd ⊢
    have lA := blk_lt ga
    have lB := blk_lt gb
    have k0 := blk_cell ga 0
    have k1 := blk_cell ga 1
    have k2 := blk_cell ga 2
    have k3 := blk_cell gb 0
    have k4 := blk_cell gb 1
    go_wp2_with fail
    refine (head_calls wd sl wt aL nL cL xL aV nV cV xV outside _ (rL.below dd) hL (rV.below dd) hV HCV.out HSL.out HOU.out).mono ?_
    rintro e w1 ⟨he, b1⟩
    rw [HZ.out] at he
    subst he
    have d1 := bnext dd b1 (Nat.le_refl _)
    have ga1 := blk_below ga b1 lA
    have gb1 := blk_below gb b1 lB
    clear k0 k1 k2 k3 k4 ga gb
    have k0 := blw_cell (blk_cell ga1 0)
    have k1 := blw_cell (blk_cell ga1 1)
    have k2 := blw_cell (blk_cell ga1 2)
    have k3 := blw_cell (blk_cell gb1 0)
    have k4 := blw_cell (blk_cell gb1 1)
    have RL := hd (rL.below d1)
    have RV := hd (rV.below d1)
    clear ga1 gb1 dd b1
    go_upto_region 4 with fail
    refine wp_region_blw (by kernel_rfl) (by kernel_rfl) ?_
    repeat (go_big_quiet_step (first | (go_at_call 102; with_reducible exact blw_same ((last_calls _ _ _ xL _ (RL.out.below (Blw.out _)) hL HPOS.out).mono fun _ _ h => ⟨h.1.trans (ret_int HLL.out), h.2⟩)) | (go_at_call 101; exact blw_of ((volume_calls aL nL cL xL aV nV cV xV _ _ (RL.out.below (Blw.out _)) hL (RV.out.below (Blw.out _)) hV HCV.out (by rw [EE.out]; exact M0.out) (by rw [EE.out, HLL.out]; exact M1.out)).mono fun _ _ h => ⟨h.1.trans (ret_int (b := V) (by rw [EE.out]; exact HV'.out)), h.2⟩))))
    refine wpQuiet_nil ?_
    rintro _ ⟨D, rfl⟩
    go_wp2_with fail
    all_goals (
      go_ret
      exact ⟨ret_int (by rw [FF.out]; first | omega | (repeat' split) <;> omega), bnext d1 D.out (Nat.le_refl _)⟩)
set_option maxRecDepth 100000 in
set_option maxHeartbeats 1000000 in
theorem l12Inflow_calls (g : Nat) (aL : Option Addr) (nL cL : Nat) (xL : List Int) (aV : Option Addr) (nV cV : Nat) (xV : List Int) (wd sl wt : Int) (outside : Int) (w : World) (hg : w.heap[g]? = some (cvC aL nL cL aV nV cV)) (rL : RdInt64 w aL nL xL) (hL : nL ≤ 1048576) (rV : RdInt64 w aV nV xV) (hV : nV ≤ 1048576) (hbr : brB xL xV wd sl wt = true) (hou : lvB outside = true) :
    Calls Try.prog 71 #[.pointer (some ⟨g, 0, none⟩), .agg #[.int .i64 wd, .int .i64 sl, .int .i64 wt], .int .i64 outside] w fun e w' => e = .returned (.int .i64 (infZ xL xV wd sl wt outside)) ∧ Below w.heap.size w w' := by
  obtain ⟨hc, ⟨hw0, hw1⟩, hsl, h0, h1⟩ := br_of hbr
  have cv := cv_of hc
  obtain ⟨-, -, b2, b3⟩ := hd_bd cv sl wt outside hsl hou
  have lv := lastV cv
  obtain ⟨z, hz⟩ : ∃ z, hdZ xL xV sl wt outside = z := ⟨_, rfl⟩
  have HZ := hd hz
  have HM := hd (fun h => missing_bd cv (sl := sl) (wt := wt) (o := outside) h1 h)
  rw [hz] at b2 b3
  obtain ⟨p0, p1⟩ := prod_bd hw0 hw1 b2 b3
  have LL := rL.len
  have HLN := hd (lastZ_n LL)
  have n2 := cv.n2
  have HC := hd hc
  have HSL := hd hsl
  have HOU := hd hou
  have H1 := hd h1
  clear hz hbr hc hsl hou h1
  by_cases e0 : z = 0
  · have FF : Hid (infZ xL xV wd sl wt outside = 0) := hd (by unfold infZ; rw [HZ.out, if_pos e0])
    subst e0
    clear LL n2
    go_enter Try.func71, Try.ntmps71
    go_wp2_with fail
    refine (l12Head_calls g aL nL cL xL aV nV cV xV wd sl wt outside _ (blk_alloc hg _) (rL.alloc _) hL (rV.alloc _) hV HC.out h0 H1.out HSL.out HOU.out).mono ?_
    rintro e w1 ⟨he, b1⟩
    rw [HZ.out] at he
    subst he
    go_wp2_with fail
    go_ret
    exact ⟨ret_int (by rw [FF.out]), bbox1 b1⟩
  · have m := HM.out (by rw [HZ.out]; exact e0)
    obtain ⟨V, hV'⟩ : ∃ V, volZ xL xV (min outside (lastZ xL)) = V := ⟨_, rfl⟩
    rw [hV'] at m
    obtain ⟨⟨m0, m1⟩, m2, m3⟩ := m
    obtain ⟨v0, v1⟩ := lv
    obtain ⟨lz, hlz⟩ : ∃ lz, lastZ xV = lz := ⟨_, rfl⟩
    rw [hlz] at m3 v0 v1
    have FF : Hid (infZ xL xV wd sl wt outside = min (10 * wd * z) (V - wt)) := hd (by unfold infZ; rw [HZ.out, if_neg e0, hV'])
    have HV' := hd hV'
    have M0 := hd m0
    have M1 := hd m1
    have hpos : 0 < nL := by omega
    obtain ⟨bL, oL, hbL, hl2, hcL⟩ := rdBase rL hpos
    have c1 := hcL (nL - 1) (by omega)
    rw [← HLN.out] at c1
    obtain ⟨nn, rfl⟩ : ∃ nn, nL = nn + 1 := ⟨nL - 1, by omega⟩
    rw [Nat.add_sub_cancel] at c1
    subst hbL
    obtain ⟨ll, hll⟩ : ∃ ll, lastZ xL = ll := ⟨_, rfl⟩
    have HLL := hd hll
    rw [hll] at M0 M1 HV' c1
    have q0 : (0 : Int) ≤ (nn : Int) := by omega
    have q1 : (nn : Int) < (nn : Int) + 1 := by omega
    clear hV' m0 m1 hlz hll HM LL n2 hcL hpos cv
    go_enter Try.func71, Try.ntmps71
    go_upto_region 1 with fail
    have gb := heap_alloc_new w (brC wd sl wt)
    have ga := blk_alloc hg (brC wd sl wt)
    have dd : Below w.heap.size w (w.alloc (brC wd sl wt)) := (Below.refl _ _).alloc (Nat.le_refl _) _
    generalize w.alloc (brC wd sl wt) = W1 at ga gb dd ⊢
    have lA := blk_lt ga
    have lB := blk_lt gb
    have k0 := blk_cell ga 0
    have k1 := blk_cell ga 1
    have k2 := blk_cell gb 0
    have k3 := blk_cell gb 1
    have k4 := blk_cell gb 2
    go_wp2_with fail
    refine (l12Head_calls g _ (nn + 1) cL xL aV nV cV xV wd sl wt outside _ ga (rL.below dd) hL (rV.below dd) hV HC.out h0 H1.out HSL.out HOU.out).mono ?_
    rintro e w1 ⟨he, b1⟩
    rw [HZ.out] at he
    subst he
    have d1 := bnext dd b1 (Nat.le_refl _)
    have ga1 := blk_below ga b1 lA
    have gb1 := blk_below gb b1 lB
    have lA1 := blk_lt ga1
    have lB1 := blk_lt gb1
    clear k0 k1 k2 k3 k4 ga gb lA lB
    have k0 := blw_cell (blk_cell ga1 0)
    have k1 := blw_cell (blk_cell ga1 1)
    have k2 := blw_cell (blk_cell gb1 0)
    have k3 := blw_cell (blk_cell gb1 1)
    have k4 := blw_cell (blk_cell gb1 2)
    have c1' := blw_cell ((d1.cell (p := ⟨bL, oL + nn, none⟩) hl2).trans c1)
    have RL := hd (rL.below d1)
    have RV := hd (rV.below d1)
    clear dd b1 c1
    go_upto_region 4 with fail
    refine wp_region_blw (by kernel_rfl) (by kernel_rfl) ?_
    repeat (go_big_quiet_step ((go_at_call 118; with_reducible exact blw_same (l00Min_calls _ _ _))))
    refine wpQuiet_nil ?_
    rintro _ ⟨D, rfl⟩
    go_wp2_with fail
    refine (specVolumeAt_calls _ (nn + 1) cL xL aV nV cV xV _ _ (RL.out.below D.out) hL (RV.out.below D.out) hV HC.out M0.out (by rw [HLL.out]; exact M1.out)).mono ?_
    rintro e w2 ⟨he, b2'⟩
    rw [HV'.out] at he
    subst he
    have d2 := bnext D.out b2' (Nat.le_refl _)
    have gb2 := blk_below gb1 d2 lB1
    clear k0 k1 k2 k3 k4 c1' ga1 gb1
    have k2 := blk_cell gb2 0
    have k3 := blk_cell gb2 1
    have k4 := blk_cell gb2 2
    go_wp2_with (first | (go_at_call 118; refine (l00Min_calls _ _ _).mono ?_; rintro e w' ⟨rfl, rfl⟩) | (go_at_call 115; refine (l00Max_calls _ _ _).mono ?_; rintro e w' ⟨rfl, rfl⟩))
    go_ret
    exact ⟨ret_int (by rw [FF.out]; omega), bnext d1 d2 (Nat.le_refl _)⟩
end Go.Proofs.Ytieomdjcnaaopaa
