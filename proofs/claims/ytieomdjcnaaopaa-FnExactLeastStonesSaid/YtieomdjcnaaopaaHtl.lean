/- Breaches: HoursToLevel. -/
import Derived.Test.YtieomdjcnaaopaaCod
import Derived.Test.YtieomdjcnaaopaaBl
namespace Go.Proofs.Ytieomdjcnaaopaa
open Go.RowKit
set_option linter.unusedVariables false

theorem bcZ_other (ls vs : List Int) (wd sl wt : Int) (os : List Int) (other : Bool) : bcZ ls vs wd sl wt os other = if bcZ ls vs wd sl wt os true = 0 then (if other then 0 else 2) else bcZ ls vs wd sl wt os true := by
  unfold bcZ
  by_cases h1 : brB ls vs wd sl wt = true
  · rw [if_pos h1, if_pos h1]
    cases hx : (os.all lvB && decide (os.length ≤ 100)) <;> cases other <;> simp
  · rw [if_neg h1, if_neg h1]
    simp
def optZ (o : Option Nat) (c : Int) : Int × Int := match o with | some i => ((i : Int), 0) | none => (0, c)
def zeroS : Nat → Int := fun _ => 0
def hlZ (ls vs : List Int) (wd sl wt : Int) (os : List Int) (level : Int) : Int × Int :=
  if bcZ ls vs wd sl wt os (lvB level) = 0 then optZ (findK (fun i => decide (level ≤ lvZ ls vs (bAt ls vs sl os zeroS (wd, wt) i).2)) (os.length + 1)) 3 else (0, bcZ ls vs wd sl wt os (lvB level))
theorem bAt_next {ls vs : List Int} {sl : Int} {os : List Int} {s : Nat → Int} {b : Int × Int} {k : Nat} {p q o st : Int} (h : bAt ls vs sl os s b k = (p, q)) (ho : os[k]? = some o) (hs : s k = st) :
    bAt ls vs sl os s b (k + 1) = (nwZ p (hdZ ls vs sl q o) st, q + infZ ls vs p sl q o) := by
  simp only [bAt, h, at0_get ho, hs]
  rfl
set_option maxRecDepth 100000 in
set_option maxHeartbeats 1000000 in
theorem HoursToLevel_calls (aL : Option Addr) (nL cL : Nat) (xL : List Int) (aV : Option Addr) (nV cV : Nat) (xV : List Int) (wd sl wt : Int) (ao : Option Addr) (no co : Nat) (xo : List Int) (level : Int) (w : World) (rL : RdInt64 w aL nL xL) (hL : nL ≤ 1048576) (rV : RdInt64 w aV nV xV) (hV : nV ≤ 1048576) (ro : RdInt64 w ao no xo) (ho : no ≤ 1048576) :
    Calls Try.prog 35 #[.agg #[.slice aL nL cL, .slice aV nV cV], .agg #[.int .i64 wd, .int .i64 sl, .int .i64 wt], .slice ao no co, .int .i64 level] w fun e w' => e = .returned (.tuple #[.int .i64 (hlZ xL xV wd sl wt xo level).1, .int .i64 (hlZ xL xV wd sl wt xo level).2]) ∧ Below w.heap.size w w' := by
  have lo := ro.len
  have LO := hd lo
  clear lo
  have hoth := bcZ_other xL xV wd sl wt xo (lvB level)
  obtain ⟨R, hR⟩ : ∃ R, hlZ xL xV wd sl wt xo level = R := ⟨_, rfl⟩
  have hR' := hR
  unfold hlZ at hR'
  rw [hoth] at hR'
  obtain ⟨c, hc⟩ : ∃ c, bcZ xL xV wd sl wt xo true = c := ⟨_, rfl⟩
  have HC := hd hc
  rw [hc] at hR'
  rw [hR]
  have HR := hd hR'
  clear hR hc hR' hoth
  go_enter Try.func35, Try.ntmps35
  go_upto_region 1 with fail
  obtain ⟨ga, gb, dd⟩ := two_blk2 w (cvC aL nL cL aV nV cV) (brC wd sl wt)
  generalize (w.alloc (cvC aL nL cL aV nV cV)).alloc (brC wd sl wt) = W1 at ga gb dd ⊢
  have k0 := blk_cell ga 0
  have k1 := blk_cell ga 1
  have k2 := blk_cell gb 0
  have k3 := blk_cell gb 1
  have k4 := blk_cell gb 2
  go_wp2_with fail
  refine (breachCode_calls aL nL cL xL aV nV cV xV wd sl wt _ _ _ xo _ (rL.below dd) hL (rV.below dd) hV (ro.below dd) ho).mono ?_
  rintro e w1 ⟨he, b1⟩
  have d1 := bnext dd b1 (Nat.le_refl _)
  have ga1 := blk_below ga b1 (blk_lt ga)
  have gb1 := blk_below gb b1 (blk_lt gb)
  clear k0 k1 k2 k3 k4 ga gb b1 dd
  rw [HC.out] at he
  by_cases hz : c = 0
  · subst hz
    subst he
    obtain ⟨o1, o2, -, -⟩ := bcZ_0 HC.out
    have OK := hd (And.intro o1 o2)
    clear o1 o2 HC
    cases hlv : lvB level
    · have HV := hd hlv
      have FF : Hid (R = (0, 2)) := hd (by have := HR.out; rw [hlv] at this; exact this.symm)
      clear hlv ga1 gb1 HR
      go_wp2_with (go_at_call 80; refine (ValidLevel_callsB HV.out _).mono ?_; rintro e w' ⟨rfl, rfl⟩)
      go_ret2
      exact ⟨ret_ints (by rw [FF.out]) (by rw [FF.out]), d1⟩
    · have HV := hd hlv
      have HRZ : Hid (∀ {o}, findK (fun i => decide (level ≤ lvZ xL xV (bAt xL xV sl xo zeroS (wd, wt) i).2)) (xo.length + 1) = o → R = optZ o 3) := hd (fun h => by have := HR.out; rw [hlv, h] at this; exact this.symm)
      clear hlv HR
      have GA := hd ga1
      have GB := hd gb1
      clear ga1 gb1
      go_wp2_with (go_at_call 80; refine (ValidLevel_callsB HV.out _).mono ?_; rintro e w' ⟨rfl, rfl⟩)
      go_loopw [11] (fun i wr => ∃ k : Nat, ∃ p q : Int, k ≤ no ∧ i = .int .i64 k ∧ bAt xL xV sl xo zeroS (wd, wt) k = (p, q) ∧ (∀ j, j < k → decide (level ≤ lvZ xL xV (bAt xL xV sl xo zeroS (wd, wt) j).2) = false) ∧ wr.heap[w.heap.size]? = some (cvC aL nL cL aV nV cV) ∧ wr.heap[w.heap.size + 1]? = some (brC p sl q) ∧ Below w.heap.size w wr) (fun i _ => no + 1 - (intOf i).toNat)
      case atStart => exact ⟨0, wd, wt, Nat.zero_le _, rfl, rfl, fun j hj => absurd hj (Nat.not_lt_zero _), GA.out, GB.out, d1⟩
      case round =>
      clear d1 GA GB
      obtain ⟨k, p, q, hk, rfl, hpq, hle, hgA, hgB, hb⟩ := hrel
      have hbr := bAt_ok (b := (wd, wt)) (s := zeroS) OK.out.1 (all_at0 OK.out.2) (fun i hi => Int.le_refl _) k (by rw [LO.out]; exact hk)
      rw [hpq] at hbr
      have HBR := hd hbr
      obtain ⟨hc, ⟨hw0, hw1⟩, hsl, h0, h1⟩ := br_of hbr
      have HCB := hd hc
      have HCV := hd (cv_of hc)
      have H1 := hd h1
      have HPQ := hd hpq
      have HLE := hd hle
      obtain ⟨z, hz⟩ : ∃ z, lvZ xL xV q = z := ⟨_, rfl⟩
      have HZ := hd hz
      clear hbr hc hsl h1 hpq hle hz
      have HGA := hd hgA
      have HGB := hd hgB
      have k0 := blk_cell hgA 0
      have k1 := blk_cell hgA 1
      have k2 := blk_cell hgB 0
      have k3 := blk_cell hgB 1
      have k4 := blk_cell hgB 2
      clear hgA hgB
      go_wp2_with fail
      refine (level_calls aL nL cL xL aV nV cV xV q _ (rL.below hb) hL (rV.below hb) hV HCV.out).mono ?_
      rintro e w2 ⟨he, b2⟩
      rw [HZ.out] at he
      subst he
      have hb2 := bnext hb b2 (Nat.le_refl _)
      have hgA := blk_below HGA.out b2 (blk_lt HGA.out)
      have hgB := blk_below HGB.out b2 (blk_lt HGB.out)
      clear k0 k1 k2 k3 k4 HGA HGB b2 hb
      by_cases ht : level ≤ z
      · have FF := hd (HRZ.out (findK_some (by rw [LO.out]; omega) (by rw [HPQ.out]; simp [HZ.out, ht]) (fun j hj => HLE.out j hj)))
        go_wp2_with fail
        go_ret2
        exact ⟨ret_ints (by rw [FF.out]; rfl) (by rw [FF.out]; rfl), hb2⟩
      · have HLE' : Hid (∀ j, j < k + 1 → decide (level ≤ lvZ xL xV (bAt xL xV sl xo zeroS (wd, wt) j).2) = false) := hd (fun j hj => by
          rcases Nat.lt_or_eq_of_le (Nat.le_of_lt_succ hj) with hl | rfl
          · exact HLE.out j hl
          · rw [HPQ.out]; simp only [HZ.out]; exact decide_eq_false ht)
        have ht' : z < level := by omega
        clear HLE ht
        by_cases hlt : k < no
        · obtain ⟨bo, oo, f0, rfl, hbl, hx, hc0⟩ := getInt64 (ro.below hb2) hlt
          have HF := hd (all_at OK.out.2 hx)
          have HN := hd (bAt_next HPQ.out hx (show zeroS k = 0 from rfl))
          clear hx
          have i1 : (0 : Int) ≤ (k : Int) := by omega
          have i2 : (k : Int) < (no : Int) := by omega
          have hne : ¬ (k : Int) = (no : Int) := by omega
          have k0 := blw_cell (blk_cell hgA 0)
          have k1 := blw_cell (blk_cell hgA 1)
          have k2 := blw_cell (blk_cell hgB 0)
          have k3 := blw_cell (blk_cell hgB 1)
          have k4 := blw_cell (blk_cell hgB 2)
          have c0 := blw_cell hc0
          have RL1 := hd (rL.below hb2)
          have RV1 := hd (rV.below hb2)
          have HGA := hd hgA
          have HGB := hd hgB
          have lA := blk_lt hgA
          clear hgA hgB
          go_upto_region 12 with fail
          refine wp_region_loose 10 [9] (by kernel_rfl) (by kernel_rfl) (fun _ _ d _ _ h => by cases d <;> exact h) ?_
          simp only [List.take_succ_cons, List.take_zero, List.drop_succ_cons, List.drop_zero]
          repeat (go_big_quiet_step ((go_at_call 85; with_reducible exact blw_of (step_calls p sl q aL nL cL xL aV nV cV xV f0 0 _ (RL1.out.below (Blw.out _)) hL (RV1.out.below (Blw.out _)) hV HBR.out HF.out (by decide) (by decide)))))
          refine wpQuiet_nil ?_
          rintro _ ⟨D, rfl⟩
          have hgA := blk_below HGA.out D.out (blk_lt HGA.out)
          have hgB := blk_below HGB.out D.out (blk_lt HGB.out)
          have hb3 := bnext hb2 D.out (Nat.le_refl _)
          clear k0 k1 k2 k3 k4 c0 RL1 RV1 HGA HGB lA hc0
          have k2 := blk_cell hgB 0
          have k3 := blk_cell hgB 1
          have k4 := blk_cell hgB 2
          have f2 := blk_free hgB 0
          have f3 := blk_free hgB 1
          have f4 := blk_free hgB 2
          have HGA := hd hgA
          have HGB := hd hgB
          clear hgA hgB
          go_wp2_with fail
          go_roundw
          case rel => exact ⟨k + 1, _, _, by omega, by go_num, HN.out, HLE'.out, blk_far3 HGA.out (by omega) _ _ _, blk_set3 HGB.out _ _ _, below_set3 hb3 (by omega) _ _ _⟩
          case measure => simp [intOf]; omega
        · obtain rfl : k = no := by omega
          have FF := hd (HRZ.out (findK_none (fun j hj => HLE'.out j (by rw [LO.out] at hj; exact hj))))
          go_wp2_with fail
          go_ret2
          exact ⟨ret_ints (by rw [FF.out]; rfl) (by rw [FF.out]; rfl), hb2⟩
  · subst he
    have FF : Hid (R = (0, c)) := hd (by have := HR.out; rw [if_neg hz, if_neg hz] at this; exact this.symm)
    clear ga1 gb1 HR
    go_wp2_with fail
    go_ret2
    exact ⟨ret_ints (by rw [FF.out]) (by rw [FF.out]), d1⟩
set_option maxRecDepth 100000 in
set_option maxHeartbeats 1000000 in
theorem specHoursToLevel_calls (aL : Option Addr) (nL cL : Nat) (xL : List Int) (aV : Option Addr) (nV cV : Nat) (xV : List Int) (wd sl wt : Int) (ao : Option Addr) (no co : Nat) (xo : List Int) (level : Int) (w : World) (rL : RdInt64 w aL nL xL) (hL : nL ≤ 1048576) (rV : RdInt64 w aV nV xV) (hV : nV ≤ 1048576) (ro : RdInt64 w ao no xo) (ho : no ≤ 1048576) :
    Calls Try.prog 34 #[.agg #[.slice aL nL cL, .slice aV nV cV], .agg #[.int .i64 wd, .int .i64 sl, .int .i64 wt], .slice ao no co, .int .i64 level] w fun e w' => e = .returned (.tuple #[.int .i64 (hlZ xL xV wd sl wt xo level).1, .int .i64 (hlZ xL xV wd sl wt xo level).2]) ∧ Below w.heap.size w w' := by
  have lo := ro.len
  have LO := hd lo
  clear lo
  obtain ⟨R, hR⟩ : ∃ R, hlZ xL xV wd sl wt xo level = R := ⟨_, rfl⟩
  have hR' := hR
  unfold hlZ at hR'
  obtain ⟨c, hc⟩ : ∃ c, bcZ xL xV wd sl wt xo (lvB level) = c := ⟨_, rfl⟩
  have HC := hd hc
  rw [hc] at hR'
  rw [hR]
  have HR := hd hR'
  clear hR hc hR'
  go_enter Try.func34, Try.ntmps34
  go_upto_region 1 with fail
  obtain ⟨ga, gb, dd⟩ := two_blk2 w (cvC aL nL cL aV nV cV) (brC wd sl wt)
  generalize (w.alloc (cvC aL nL cL aV nV cV)).alloc (brC wd sl wt) = W1 at ga gb dd ⊢
  have k2 := blw_cell (blk_cell gb 0)
  have k3 := blw_cell (blk_cell gb 1)
  have k4 := blw_cell (blk_cell gb 2)
  have RL := hd (rL.below dd)
  have RV := hd (rV.below dd)
  have RO := hd (ro.below dd)
  have GA := hd ga
  have GB := hd gb
  have lA := blk_lt ga
  clear ga gb
  refine wp_region_blw (by kernel_rfl) (by kernel_rfl) ?_
  repeat (go_big_quiet_step (first | (go_at_call 77; with_reducible exact blw_same (l02Level_calls _ _)) | (go_at_call 86; with_reducible exact blw_of ((l12List_calls _ aL nL cL xL aV nV cV xV wd sl wt _ _ _ xo _ _ (blk_below GA.out (Blw.out _) lA) (RL.out.below (Blw.out _)) hL (RV.out.below (Blw.out _)) hV (RO.out.below (Blw.out _)) ho).mono fun _ _ h => ⟨h.1.trans (ret_int HC.out), h.2⟩))))
  refine wpQuiet_nil ?_
  rintro _ ⟨D, rfl⟩
  have d1 := bnext dd D.out (Nat.le_refl _)
  have ga1 := blk_below GA.out D.out lA
  have gb1 := blk_below GB.out D.out (blk_lt GB.out)
  clear k2 k3 k4 GA GB dd RL RV RO lA
  by_cases hz : c = 0
  · subst hz
    obtain ⟨o1, o2, -, o3⟩ := bcZ_0 HC.out
    have OK := hd (And.intro o1 o2)
    have HV := hd o3
    clear o1 o2 o3 HC
    have HRZ : Hid (∀ {o}, findK (fun i => decide (level ≤ lvZ xL xV (bAt xL xV sl xo zeroS (wd, wt) i).2)) (xo.length + 1) = o → R = optZ o 3) := hd (fun h => by have := HR.out; rw [h] at this; exact this.symm)
    clear HR
    have GA := hd ga1
    have GB := hd gb1
    clear ga1 gb1
    go_wp2_with fail
    go_loopw [11] (fun i wr => ∃ k : Nat, ∃ p q : Int, k ≤ no ∧ i = .int .i64 k ∧ bAt xL xV sl xo zeroS (wd, wt) k = (p, q) ∧ (∀ j, j < k → decide (level ≤ lvZ xL xV (bAt xL xV sl xo zeroS (wd, wt) j).2) = false) ∧ wr.heap[w.heap.size]? = some (cvC aL nL cL aV nV cV) ∧ wr.heap[w.heap.size + 1]? = some (brC p sl q) ∧ Below w.heap.size w wr) (fun i _ => no + 1 - (intOf i).toNat)
    case atStart => exact ⟨0, wd, wt, Nat.zero_le _, rfl, rfl, fun j hj => absurd hj (Nat.not_lt_zero _), GA.out, GB.out, d1⟩
    case round =>
      clear d1 GA GB
      obtain ⟨k, p, q, hk, rfl, hpq, hle, hgA, hgB, hb⟩ := hrel
      have hbr := bAt_ok (b := (wd, wt)) (s := zeroS) OK.out.1 (all_at0 OK.out.2) (fun i hi => Int.le_refl _) k (by rw [LO.out]; exact hk)
      rw [hpq] at hbr
      have HBR := hd hbr
      obtain ⟨hc, ⟨hw0, hw1⟩, hsl, h0, h1⟩ := br_of hbr
      have HCB := hd hc
      have HCV := hd (cv_of hc)
      have H1 := hd h1
      have HPQ := hd hpq
      have HLE := hd hle
      obtain ⟨z, hz⟩ : ∃ z, lvZ xL xV q = z := ⟨_, rfl⟩
      have HZ := hd hz
      clear hbr hc hsl h1 hpq hle hz
      have HGA := hd hgA
      have HGB := hd hgB
      have k0 := blk_cell hgA 0
      have k1 := blk_cell hgA 1
      have k2 := blk_cell hgB 0
      have k3 := blk_cell hgB 1
      have k4 := blk_cell hgB 2
      clear hgA hgB
      go_wp2_with fail
      refine (l12Inside_calls _ aL nL cL xL aV nV cV xV p sl q _ HGA.out (rL.below hb) hL (rV.below hb) hV HCB.out h0 H1.out).mono ?_
      rintro e w2 ⟨he, b2⟩
      rw [HZ.out] at he
      subst he
      have hb2 := bnext hb b2 (Nat.le_refl _)
      have hgA := blk_below HGA.out b2 (blk_lt HGA.out)
      have hgB := blk_below HGB.out b2 (blk_lt HGB.out)
      clear k0 k1 k2 k3 k4 HGA HGB b2 hb
      by_cases ht : level ≤ z
      · have FF := hd (HRZ.out (findK_some (by rw [LO.out]; omega) (by rw [HPQ.out]; simp [HZ.out, ht]) (fun j hj => HLE.out j hj)))
        go_wp2_with fail
        go_ret2
        exact ⟨ret_ints (by rw [FF.out]; rfl) (by rw [FF.out]; rfl), hb2⟩
      · have HLE' : Hid (∀ j, j < k + 1 → decide (level ≤ lvZ xL xV (bAt xL xV sl xo zeroS (wd, wt) j).2) = false) := hd (fun j hj => by
          rcases Nat.lt_or_eq_of_le (Nat.le_of_lt_succ hj) with hl | rfl
          · exact HLE.out j hl
          · rw [HPQ.out]; simp only [HZ.out]; exact decide_eq_false ht)
        have ht' : z < level := by omega
        clear HLE ht
        by_cases hlt : k < no
        · obtain ⟨bo, oo, f0, rfl, hbl, hx, hc0⟩ := getInt64 (ro.below hb2) hlt
          have HF := hd (all_at OK.out.2 hx)
          have HN := hd (bAt_next HPQ.out hx (show zeroS k = 0 from rfl))
          clear hx
          have i1 : (0 : Int) ≤ (k : Int) := by omega
          have i2 : (k : Int) < (no : Int) := by omega
          have hne : ¬ (k : Int) = (no : Int) := by omega
          have k0 := blw_cell (blk_cell hgA 0)
          have k1 := blw_cell (blk_cell hgA 1)
          have k2 := blw_cell (blk_cell hgB 0)
          have k3 := blw_cell (blk_cell hgB 1)
          have k4 := blw_cell (blk_cell hgB 2)
          have c0 := blw_cell hc0
          have RL1 := hd (rL.below hb2)
          have RV1 := hd (rV.below hb2)
          have HGA := hd hgA
          have HGB := hd hgB
          have lA := blk_lt hgA
          clear hgA hgB
          go_upto_region 10 with fail
          refine wp_region_loose 9 [8] (by kernel_rfl) (by kernel_rfl) (fun _ _ d _ _ h => by cases d <;> exact h) ?_
          simp only [List.take_succ_cons, List.take_zero, List.drop_succ_cons, List.drop_zero]
          repeat (go_big_quiet_step ((go_at_call 83; with_reducible exact blw_of (l12Step_calls _ aL nL cL xL aV nV cV xV p sl q f0 0 _ (blk_below HGA.out (Blw.out _) lA) (RL1.out.below (Blw.out _)) hL (RV1.out.below (Blw.out _)) hV HBR.out HF.out (by decide) (by decide)))))
          refine wpQuiet_nil ?_
          rintro _ ⟨D, rfl⟩
          have hgA := blk_below HGA.out D.out (blk_lt HGA.out)
          have hgB := blk_below HGB.out D.out (blk_lt HGB.out)
          have hb3 := bnext hb2 D.out (Nat.le_refl _)
          clear k0 k1 k2 k3 k4 c0 RL1 RV1 HGA HGB lA hc0
          have k2 := blk_cell hgB 0
          have k3 := blk_cell hgB 1
          have k4 := blk_cell hgB 2
          have f2 := blk_free hgB 0
          have f3 := blk_free hgB 1
          have f4 := blk_free hgB 2
          have HGA := hd hgA
          have HGB := hd hgB
          clear hgA hgB
          go_wp2_with fail
          go_roundw
          case rel => exact ⟨k + 1, _, _, by omega, by go_num, HN.out, HLE'.out, blk_far3 HGA.out (by omega) _ _ _, blk_set3 HGB.out _ _ _, below_set3 hb3 (by omega) _ _ _⟩
          case measure => simp [intOf]; omega
        · obtain rfl : k = no := by omega
          have FF := hd (HRZ.out (findK_none (fun j hj => HLE'.out j (by rw [LO.out] at hj; exact hj))))
          go_wp2_with fail
          go_ret2
          exact ⟨ret_ints (by rw [FF.out]; rfl) (by rw [FF.out]; rfl), hb2⟩
  · have FF : Hid (R = (0, c)) := hd (by have := HR.out; rw [if_neg hz] at this; exact this.symm)
    clear ga1 gb1 HR
    go_wp2_with fail
    go_ret2
    exact ⟨ret_ints (by rw [FF.out]) (by rw [FF.out]), d1⟩
end Go.Proofs.Ytieomdjcnaaopaa
