/- Breaches: HoursToClose, StonesNeeded. -/
import Derived.Test.YtieomdjcnaaopaaCls
namespace Go.Proofs.Ytieomdjcnaaopaa
open Go.RowKit
set_option linter.unusedVariables false

theorem ccZ_bad {ls vs : List Int} {wd sl wt : Int} {os : List Int} {st c : Int} (h : bcZ ls vs wd sl wt os true = c) (hc : ¬ c = 0) : ccZ ls vs wd sl wt os st = c := by
  have e := bcZ_other ls vs wd sl wt os (inB st 0 1000)
  rw [h, if_neg hc] at e
  unfold ccZ
  rw [e, if_neg hc]
theorem ccZ_st {ls vs : List Int} {wd sl wt : Int} {os : List Int} {st : Int} (h : bcZ ls vs wd sl wt os true = 0) (hc : inB st 0 1000 = false) : ccZ ls vs wd sl wt os st = 2 := by
  have e := bcZ_other ls vs wd sl wt os (inB st 0 1000)
  rw [h, if_pos rfl, hc] at e
  unfold ccZ
  rw [hc, e]
  rfl
theorem ccZ_ok {ls vs : List Int} {wd sl wt : Int} {os : List Int} {st : Int} (h : bcZ ls vs wd sl wt os true = 0) (hc : inB st 0 1000 = true) : ccZ ls vs wd sl wt os st = if (tcZ ls vs wd sl wt os st).1 < 0 then 3 else 0 := by
  unfold ccZ
  rw [hc, h]
  rfl
theorem ccZ_spec {ls vs : List Int} {wd sl wt : Int} {os : List Int} {st c : Int} (h : bcZ ls vs wd sl wt os (inB st 0 1000) = c) : ccZ ls vs wd sl wt os st = if c = 0 then (if (tcZ ls vs wd sl wt os st).1 < 0 then 3 else 0) else c := by
  unfold ccZ
  rw [h]
theorem ccZ_0 {ls vs : List Int} {wd sl wt : Int} {os : List Int} {st : Int} (h : ccZ ls vs wd sl wt os st = 0) : (brB ls vs wd sl wt = true ∧ os.all lvB = true) ∧ os.length ≤ 100 ∧ 0 ≤ st ∧ st ≤ 1000 := by
  unfold ccZ at h
  split at h
  · rename_i h1
    obtain ⟨a, b, c, d⟩ := bcZ_0 h1
    exact ⟨⟨a, b⟩, c, inB_iff.1 d⟩
  · contradiction
set_option maxRecDepth 100000 in
set_option maxHeartbeats 1000000 in
theorem closeCode_calls (aL : Option Addr) (nL cL : Nat) (xL : List Int) (aV : Option Addr) (nV cV : Nat) (xV : List Int) (wd sl wt : Int) (ao : Option Addr) (no co : Nat) (xo : List Int) (st : Int) (w : World) (rL : RdInt64 w aL nL xL) (hL : nL ≤ 1048576) (rV : RdInt64 w aV nV xV) (hV : nV ≤ 1048576) (ro : RdInt64 w ao no xo) (ho : no ≤ 1048576) :
    Calls Try.prog 108 #[.agg #[.slice aL nL cL, .slice aV nV cV], .agg #[.int .i64 wd, .int .i64 sl, .int .i64 wt], .slice ao no co, .int .i64 st] w fun e w' => e = .returned (.int .i64 (ccZ xL xV wd sl wt xo st)) ∧ Below w.heap.size w w' := by
  have lo := ro.len
  have LO := hd lo
  clear lo
  obtain ⟨c, hc⟩ : ∃ c, bcZ xL xV wd sl wt xo true = c := ⟨_, rfl⟩
  have HC := hd hc
  obtain ⟨R, hR⟩ : ∃ R, ccZ xL xV wd sl wt xo st = R := ⟨_, rfl⟩
  have HR := hd hR
  rw [hR]
  clear hc hR
  go_enter Try.func108, Try.ntmps108
  go_upto_region 1 with fail
  obtain ⟨ga, gb, dd⟩ := two_blk2 w (cvC aL nL cL aV nV cV) (brC wd sl wt)
  generalize (w.alloc (cvC aL nL cL aV nV cV)).alloc (brC wd sl wt) = W1 at ga gb dd ⊢
  have k0 := blk_cell ga 0
  have k1 := blk_cell ga 1
  have k2 := blk_cell gb 0
  have k3 := blk_cell gb 1
  have k4 := blk_cell gb 2
  go_wp2_with fail
  refine (breachCode_calls aL nL cL xL aV nV cV xV wd sl wt _ _ _ xo _ (rL.below dd) hL (rV.below dd) hV (ro.below dd) ho).mono ?_
  rintro e w1 ⟨he, b1⟩
  have d1 := bnext dd b1 (Nat.le_refl _)
  have ga1 := blk_below ga b1 (blk_lt ga)
  have gb1 := blk_below gb b1 (blk_lt gb)
  clear k0 k1 k2 k3 k4 ga gb b1 dd
  rw [HC.out] at he
  by_cases hz : c = 0
  · subst hz
    subst he
    cases hst : inB st 0 1000
    · have FF : Hid (R = 2) := hd (HR.out.symm.trans (ccZ_st HC.out hst))
      have HST := hd hst
      clear hst ga1 gb1
      go_wp2_with (go_at_call 84; refine (areStones_calls _ _).mono ?_; rintro e w' ⟨he, rfl⟩; rw [HST.out] at he; subst he)
      go_ret
      exact ⟨ret_int (by rw [FF.out]), d1⟩
    · have FF : Hid (R = if (tcZ xL xV wd sl wt xo st).1 < 0 then 3 else 0) := hd (HR.out.symm.trans (ccZ_ok HC.out hst))
      have HST := hd hst
      have OK := hd (bcZ_0 HC.out)
      obtain ⟨T, hT⟩ : ∃ T, tcZ xL xV wd sl wt xo st = T := ⟨_, rfl⟩
      have HT := hd hT
      rw [hT] at FF
      clear hst hT
      have k0 := blk_cell ga1 0
      have k1 := blk_cell ga1 1
      have k2 := blk_cell gb1 0
      have k3 := blk_cell gb1 1
      have k4 := blk_cell gb1 2
      go_wp2_with (first | (go_at_call 84; refine (areStones_calls _ _).mono ?_; rintro e w' ⟨he, rfl⟩; rw [HST.out] at he; subst he))
      refine (toClose_calls wd sl wt aL nL cL xL aV nV cV xV _ _ _ xo st _ (rL.below d1) hL (rV.below d1) hV (ro.below d1) (by have := OK.out.2.2.1; rw [LO.out] at this; exact this) OK.out.1 OK.out.2.1 (inB_iff.1 HST.out).1 (inB_iff.1 HST.out).2).mono ?_
      rintro e w2 ⟨he, b2⟩
      rw [HT.out] at he
      subst he
      have d2 := bnext d1 b2 (Nat.le_refl _)
      clear k0 k1 k2 k3 k4 ga1 gb1 b2
      by_cases hneg : T.1 < 0
      · have F2 : Hid (R = 3) := hd (by rw [FF.out, if_pos hneg])
        go_wp2_with fail
        go_ret
        exact ⟨ret_int (by rw [F2.out]), d2⟩
      · have F2 : Hid (R = 0) := hd (by rw [FF.out, if_neg hneg])
        have hneg' : 0 ≤ T.1 := by omega
        go_wp2_with fail
        go_ret
        exact ⟨ret_int (by rw [F2.out]), d2⟩
  · subst he
    have FF : Hid (R = c) := hd (HR.out.symm.trans (ccZ_bad HC.out hz))
    clear ga1 gb1 HR
    go_wp2_with fail
    go_ret
    exact ⟨ret_int (by rw [FF.out]), d1⟩
set_option maxRecDepth 100000 in
set_option maxHeartbeats 1000000 in
theorem HoursToClose_calls (aL : Option Addr) (nL cL : Nat) (xL : List Int) (aV : Option Addr) (nV cV : Nat) (xV : List Int) (wd sl wt : Int) (ao : Option Addr) (no co : Nat) (xo : List Int) (st : Int) (w : World) (rL : RdInt64 w aL nL xL) (hL : nL ≤ 1048576) (rV : RdInt64 w aV nV xV) (hV : nV ≤ 1048576) (ro : RdInt64 w ao no xo) (ho : no ≤ 1048576) :
    Calls Try.prog 53 #[.agg #[.slice aL nL cL, .slice aV nV cV], .agg #[.int .i64 wd, .int .i64 sl, .int .i64 wt], .slice ao no co, .int .i64 st] w fun e w' => e = .returned (.tuple #[.int .i64 (hcZ xL xV wd sl wt xo st).1, .int .i64 (hcZ xL xV wd sl wt xo st).2]) ∧ Below w.heap.size w w' := by
  have lo := ro.len
  have LO := hd lo
  clear lo
  obtain ⟨c, hc⟩ : ∃ c, ccZ xL xV wd sl wt xo st = c := ⟨_, rfl⟩
  have HC := hd hc
  obtain ⟨T, hT⟩ : ∃ T, tcZ xL xV wd sl wt xo st = T := ⟨_, rfl⟩
  have HT := hd hT
  unfold hcZ
  rw [hc, hT]
  clear hc hT
  go_enter Try.func53, Try.ntmps53
  go_upto_region 1 with fail
  obtain ⟨ga, gb, dd⟩ := two_blk2 w (cvC aL nL cL aV nV cV) (brC wd sl wt)
  generalize (w.alloc (cvC aL nL cL aV nV cV)).alloc (brC wd sl wt) = W1 at ga gb dd ⊢
  have k0 := blk_cell ga 0
  have k1 := blk_cell ga 1
  have k2 := blk_cell gb 0
  have k3 := blk_cell gb 1
  have k4 := blk_cell gb 2
  go_wp2_with fail
  refine (closeCode_calls aL nL cL xL aV nV cV xV wd sl wt _ _ _ xo st _ (rL.below dd) hL (rV.below dd) hV (ro.below dd) ho).mono ?_
  rintro e w1 ⟨he, b1⟩
  have d1 := bnext dd b1 (Nat.le_refl _)
  have ga1 := blk_below ga b1 (blk_lt ga)
  have gb1 := blk_below gb b1 (blk_lt gb)
  clear k0 k1 k2 k3 k4 ga gb b1 dd
  rw [HC.out] at he
  by_cases hz : c = 0
  · subst hz
    subst he
    have OK := hd (ccZ_0 HC.out)
    have k0 := blk_cell ga1 0
    have k1 := blk_cell ga1 1
    have k2 := blk_cell gb1 0
    have k3 := blk_cell gb1 1
    have k4 := blk_cell gb1 2
    go_wp2_with fail
    refine (toClose_calls wd sl wt aL nL cL xL aV nV cV xV _ _ _ xo st _ (rL.below d1) hL (rV.below d1) hV (ro.below d1) (by have := OK.out.2.1; rw [LO.out] at this; exact this) OK.out.1.1 OK.out.1.2 OK.out.2.2.1 OK.out.2.2.2).mono ?_
    rintro e w2 ⟨he, b2⟩
    rw [HT.out] at he
    subst he
    clear k0 k1 k2 k3 k4 ga1 gb1
    go_wp2_with fail
    go_ret2
    exact ⟨rfl, bnext d1 b2 (Nat.le_refl _)⟩
  · subst he
    clear ga1 gb1
    go_wp2_with fail
    go_ret2
    exact ⟨ret_ints (by unfold okZ; rw [if_neg hz]) (by unfold okZ; rw [if_neg hz]), d1⟩
set_option maxRecDepth 100000 in
set_option maxHeartbeats 1000000 in
theorem specHoursToClose_calls (aL : Option Addr) (nL cL : Nat) (xL : List Int) (aV : Option Addr) (nV cV : Nat) (xV : List Int) (wd sl wt : Int) (ao : Option Addr) (no co : Nat) (xo : List Int) (st : Int) (w : World) (rL : RdInt64 w aL nL xL) (hL : nL ≤ 1048576) (rV : RdInt64 w aV nV xV) (hV : nV ≤ 1048576) (ro : RdInt64 w ao no xo) (ho : no ≤ 1048576) :
    Calls Try.prog 52 #[.agg #[.slice aL nL cL, .slice aV nV cV], .agg #[.int .i64 wd, .int .i64 sl, .int .i64 wt], .slice ao no co, .int .i64 st] w fun e w' => e = .returned (.tuple #[.int .i64 (hcZ xL xV wd sl wt xo st).1, .int .i64 (hcZ xL xV wd sl wt xo st).2]) ∧ Below w.heap.size w w' := by
  have lo := ro.len
  have LO := hd lo
  clear lo
  obtain ⟨c, hc⟩ : ∃ c, bcZ xL xV wd sl wt xo (inB st 0 1000) = c := ⟨_, rfl⟩
  have HC := hd hc
  obtain ⟨T, hT⟩ : ∃ T, tcZ xL xV wd sl wt xo st = T := ⟨_, rfl⟩
  have HT := hd hT
  have hcc := ccZ_spec hc
  rw [hT] at hcc
  unfold hcZ
  rw [hcc, hT]
  clear hc hT hcc
  go_enter Try.func52, Try.ntmps52
  go_upto_region 1 with fail
  obtain ⟨ga, gb, dd⟩ := two_blk2 w (cvC aL nL cL aV nV cV) (brC wd sl wt)
  generalize (w.alloc (cvC aL nL cL aV nV cV)).alloc (brC wd sl wt) = W1 at ga gb dd ⊢
  have k2 := blw_cell (blk_cell gb 0)
  have k3 := blw_cell (blk_cell gb 1)
  have k4 := blw_cell (blk_cell gb 2)
  have RL := hd (rL.below dd)
  have RV := hd (rV.below dd)
  have RO := hd (ro.below dd)
  have GA := hd ga
  have GB := hd gb
  have lA := blk_lt ga
  clear ga gb
  refine wp_region_blw (by kernel_rfl) (by kernel_rfl) ?_
  repeat (go_big_quiet_step (first | (go_at_call 82; with_reducible exact blw_same (l12Stones_calls _ _)) | (go_at_call 86; with_reducible exact blw_of ((l12List_calls _ aL nL cL xL aV nV cV xV wd sl wt _ _ _ xo _ _ (blk_below GA.out (Blw.out _) lA) (RL.out.below (Blw.out _)) hL (RV.out.below (Blw.out _)) hV (RO.out.below (Blw.out _)) ho).mono fun _ _ h => ⟨h.1.trans (ret_int HC.out), h.2⟩))))
  refine wpQuiet_nil ?_
  rintro _ ⟨D, rfl⟩
  have d1 := bnext dd D.out (Nat.le_refl _)
  have ga1 := blk_below GA.out D.out lA
  have gb1 := blk_below GB.out D.out (blk_lt GB.out)
  clear k2 k3 k4 GA GB dd RL RV RO lA
  by_cases hz : c = 0
  · subst hz
    have OK := hd (bcZ_0 HC.out)
    have k2 := blk_cell gb1 0
    have k3 := blk_cell gb1 1
    have k4 := blk_cell gb1 2
    have GA1 := hd ga1
    clear ga1 gb1
    go_wp2_with fail
    refine (l12Close_calls _ aL nL cL xL aV nV cV xV wd sl wt _ _ _ xo st _ GA1.out (rL.below d1) hL (rV.below d1) hV (ro.below d1) (by have := OK.out.2.2.1; rw [LO.out] at this; exact this) OK.out.1 OK.out.2.1 (inB_iff.1 OK.out.2.2.2).1 (inB_iff.1 OK.out.2.2.2).2).mono ?_
    rintro e w2 ⟨he, b2⟩
    rw [HT.out] at he
    subst he
    have d2 := bnext d1 b2 (Nat.le_refl _)
    clear k2 k3 k4 b2
    by_cases hneg : T.1 < 0
    · have F2 : Hid ((if (0 : Int) = 0 then (if T.1 < 0 then (3 : Int) else 0) else 0) = 3) := hd (by rw [if_pos rfl, if_pos hneg])
      go_wp2_with fail
      go_ret2
      exact ⟨ret_ints (by first | (rw [F2.out]; rfl) | rfl) (by first | (rw [F2.out]; rfl) | rfl), d2⟩
    · have F2 : Hid ((if (0 : Int) = 0 then (if T.1 < 0 then (3 : Int) else 0) else 0) = 0) := hd (by rw [if_pos rfl, if_neg hneg])
      have hneg' : 0 ≤ T.1 := by omega
      go_wp2_with fail
      go_ret2
      exact ⟨ret_ints (by first | (rw [F2.out]; rfl) | rfl) (by first | (rw [F2.out]; rfl) | rfl), d2⟩
  · clear ga1 gb1
    have F2 : Hid ((if c = 0 then (if T.1 < 0 then (3 : Int) else 0) else c) = c) := hd (by rw [if_neg hz])
    go_wp2_with fail
    go_ret2
    exact ⟨ret_ints (by unfold okZ; simp [hz]) (by unfold okZ; simp [hz]), d1⟩
set_option maxRecDepth 100000 in
set_option maxHeartbeats 1000000 in
theorem StonesNeeded_calls (aL : Option Addr) (nL cL : Nat) (xL : List Int) (aV : Option Addr) (nV cV : Nat) (xV : List Int) (wd sl wt : Int) (ao : Option Addr) (no co : Nat) (xo : List Int) (st : Int) (w : World) (rL : RdInt64 w aL nL xL) (hL : nL ≤ 1048576) (rV : RdInt64 w aV nV xV) (hV : nV ≤ 1048576) (ro : RdInt64 w ao no xo) (ho : no ≤ 1048576) :
    Calls Try.prog 55 #[.agg #[.slice aL nL cL, .slice aV nV cV], .agg #[.int .i64 wd, .int .i64 sl, .int .i64 wt], .slice ao no co, .int .i64 st] w fun e w' => e = .returned (.tuple #[.int .i64 (snZ xL xV wd sl wt xo st).1, .int .i64 (snZ xL xV wd sl wt xo st).2]) ∧ Below w.heap.size w w' := by
  have lo := ro.len
  have LO := hd lo
  clear lo
  obtain ⟨c, hc⟩ : ∃ c, ccZ xL xV wd sl wt xo st = c := ⟨_, rfl⟩
  have HC := hd hc
  obtain ⟨T, hT⟩ : ∃ T, tcZ xL xV wd sl wt xo st = T := ⟨_, rfl⟩
  have HT := hd hT
  unfold snZ
  rw [hc, hT]
  clear hc hT
  go_enter Try.func55, Try.ntmps55
  go_upto_region 1 with fail
  obtain ⟨ga, gb, dd⟩ := two_blk2 w (cvC aL nL cL aV nV cV) (brC wd sl wt)
  generalize (w.alloc (cvC aL nL cL aV nV cV)).alloc (brC wd sl wt) = W1 at ga gb dd ⊢
  have k0 := blk_cell ga 0
  have k1 := blk_cell ga 1
  have k2 := blk_cell gb 0
  have k3 := blk_cell gb 1
  have k4 := blk_cell gb 2
  go_wp2_with fail
  refine (closeCode_calls aL nL cL xL aV nV cV xV wd sl wt _ _ _ xo st _ (rL.below dd) hL (rV.below dd) hV (ro.below dd) ho).mono ?_
  rintro e w1 ⟨he, b1⟩
  have d1 := bnext dd b1 (Nat.le_refl _)
  have ga1 := blk_below ga b1 (blk_lt ga)
  have gb1 := blk_below gb b1 (blk_lt gb)
  clear k0 k1 k2 k3 k4 ga gb b1 dd
  rw [HC.out] at he
  by_cases hz : c = 0
  · subst hz
    subst he
    have OK := hd (ccZ_0 HC.out)
    have k0 := blk_cell ga1 0
    have k1 := blk_cell ga1 1
    have k2 := blk_cell gb1 0
    have k3 := blk_cell gb1 1
    have k4 := blk_cell gb1 2
    go_wp2_with fail
    refine (toClose_calls wd sl wt aL nL cL xL aV nV cV xV _ _ _ xo st _ (rL.below d1) hL (rV.below d1) hV (ro.below d1) (by have := OK.out.2.1; rw [LO.out] at this; exact this) OK.out.1.1 OK.out.1.2 OK.out.2.2.1 OK.out.2.2.2).mono ?_
    rintro e w2 ⟨he, b2⟩
    rw [HT.out] at he
    subst he
    clear k0 k1 k2 k3 k4 ga1 gb1
    go_wp2_with fail
    go_ret2
    exact ⟨rfl, bnext d1 b2 (Nat.le_refl _)⟩
  · subst he
    clear ga1 gb1
    go_wp2_with fail
    go_ret2
    exact ⟨ret_ints (by unfold okZ; rw [if_neg hz]) (by unfold okZ; rw [if_neg hz]), d1⟩
set_option maxRecDepth 100000 in
set_option maxHeartbeats 1000000 in
theorem specStonesNeeded_calls (aL : Option Addr) (nL cL : Nat) (xL : List Int) (aV : Option Addr) (nV cV : Nat) (xV : List Int) (wd sl wt : Int) (ao : Option Addr) (no co : Nat) (xo : List Int) (st : Int) (w : World) (rL : RdInt64 w aL nL xL) (hL : nL ≤ 1048576) (rV : RdInt64 w aV nV xV) (hV : nV ≤ 1048576) (ro : RdInt64 w ao no xo) (ho : no ≤ 1048576) :
    Calls Try.prog 54 #[.agg #[.slice aL nL cL, .slice aV nV cV], .agg #[.int .i64 wd, .int .i64 sl, .int .i64 wt], .slice ao no co, .int .i64 st] w fun e w' => e = .returned (.tuple #[.int .i64 (snZ xL xV wd sl wt xo st).1, .int .i64 (snZ xL xV wd sl wt xo st).2]) ∧ Below w.heap.size w w' := by
  have lo := ro.len
  have LO := hd lo
  clear lo
  obtain ⟨c, hc⟩ : ∃ c, bcZ xL xV wd sl wt xo (inB st 0 1000) = c := ⟨_, rfl⟩
  have HC := hd hc
  obtain ⟨T, hT⟩ : ∃ T, tcZ xL xV wd sl wt xo st = T := ⟨_, rfl⟩
  have HT := hd hT
  have hcc := ccZ_spec hc
  rw [hT] at hcc
  unfold snZ
  rw [hcc, hT]
  clear hc hT hcc
  go_enter Try.func54, Try.ntmps54
  go_upto_region 1 with fail
  obtain ⟨ga, gb, dd⟩ := two_blk2 w (cvC aL nL cL aV nV cV) (brC wd sl wt)
  generalize (w.alloc (cvC aL nL cL aV nV cV)).alloc (brC wd sl wt) = W1 at ga gb dd ⊢
  have k2 := blw_cell (blk_cell gb 0)
  have k3 := blw_cell (blk_cell gb 1)
  have k4 := blw_cell (blk_cell gb 2)
  have RL := hd (rL.below dd)
  have RV := hd (rV.below dd)
  have RO := hd (ro.below dd)
  have GA := hd ga
  have GB := hd gb
  have lA := blk_lt ga
  clear ga gb
  refine wp_region_blw (by kernel_rfl) (by kernel_rfl) ?_
  repeat (go_big_quiet_step (first | (go_at_call 82; with_reducible exact blw_same (l12Stones_calls _ _)) | (go_at_call 86; with_reducible exact blw_of ((l12List_calls _ aL nL cL xL aV nV cV xV wd sl wt _ _ _ xo _ _ (blk_below GA.out (Blw.out _) lA) (RL.out.below (Blw.out _)) hL (RV.out.below (Blw.out _)) hV (RO.out.below (Blw.out _)) ho).mono fun _ _ h => ⟨h.1.trans (ret_int HC.out), h.2⟩))))
  refine wpQuiet_nil ?_
  rintro _ ⟨D, rfl⟩
  have d1 := bnext dd D.out (Nat.le_refl _)
  have ga1 := blk_below GA.out D.out lA
  have gb1 := blk_below GB.out D.out (blk_lt GB.out)
  clear k2 k3 k4 GA GB dd RL RV RO lA
  by_cases hz : c = 0
  · subst hz
    have OK := hd (bcZ_0 HC.out)
    have k2 := blk_cell gb1 0
    have k3 := blk_cell gb1 1
    have k4 := blk_cell gb1 2
    have GA1 := hd ga1
    clear ga1 gb1
    go_wp2_with fail
    refine (l12Close_calls _ aL nL cL xL aV nV cV xV wd sl wt _ _ _ xo st _ GA1.out (rL.below d1) hL (rV.below d1) hV (ro.below d1) (by have := OK.out.2.2.1; rw [LO.out] at this; exact this) OK.out.1 OK.out.2.1 (inB_iff.1 OK.out.2.2.2).1 (inB_iff.1 OK.out.2.2.2).2).mono ?_
    rintro e w2 ⟨he, b2⟩
    rw [HT.out] at he
    subst he
    have d2 := bnext d1 b2 (Nat.le_refl _)
    clear k2 k3 k4 b2
    by_cases hneg : T.1 < 0
    · have F2 : Hid ((if (0 : Int) = 0 then (if T.1 < 0 then (3 : Int) else 0) else 0) = 3) := hd (by rw [if_pos rfl, if_pos hneg])
      go_wp2_with fail
      go_ret2
      exact ⟨ret_ints (by first | (rw [F2.out]; rfl) | rfl) (by first | (rw [F2.out]; rfl) | rfl), d2⟩
    · have F2 : Hid ((if (0 : Int) = 0 then (if T.1 < 0 then (3 : Int) else 0) else 0) = 0) := hd (by rw [if_pos rfl, if_neg hneg])
      have hneg' : 0 ≤ T.1 := by omega
      go_wp2_with fail
      go_ret2
      exact ⟨ret_ints (by first | (rw [F2.out]; rfl) | rfl) (by first | (rw [F2.out]; rfl) | rfl), d2⟩
  · clear ga1 gb1
    have F2 : Hid ((if c = 0 then (if T.1 < 0 then (3 : Int) else 0) else c) = c) := hd (by rw [if_neg hz])
    go_wp2_with fail
    go_ret2
    exact ⟨ret_ints (by unfold okZ; simp [hz]) (by unfold okZ; simp [hz]), d1⟩
end Go.Proofs.Ytieomdjcnaaopaa
