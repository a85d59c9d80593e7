/- Breaches: RunBreach. -/
import Derived.Test.YtieomdjcnaaopaaRb
namespace Go.Proofs.Ytieomdjcnaaopaa
open Go.RowKit
set_option linter.unusedVariables false

theorem at0_sto {ss : List Int} (h : ss.all stoB = true) (i : Nat) : 0 ≤ at0 ss i := by
  by_cases hi : i < ss.length
  · exact (inB_iff.1 (all_at0 h i hi)).1
  · simp [at0, List.getD, List.getElem?_eq_none (Nat.le_of_not_lt hi)]
theorem fineB_of {os ss : List Int} (h : fineB os ss = true) : ss.length = os.length ∧ ss.all stoB = true := by
  simpa [fineB] using h
theorem rbZ_ok {ls vs : List Int} {wd sl wt : Int} {os ss : List Int} (h : bcZ ls vs wd sl wt os (fineB os ss) = 0) : rbZ ls vs wd sl wt os ss = (runL ls vs wd sl wt os ss os.length, 0) := by unfold rbZ; rw [if_pos h]
theorem rbZ_no {ls vs : List Int} {wd sl wt : Int} {os ss : List Int} {c : Int} (h : bcZ ls vs wd sl wt os (fineB os ss) = c) (hc : ¬ c = 0) : rbZ ls vs wd sl wt os ss = ([], c) := by unfold rbZ; rw [h, if_neg hc]
set_option maxRecDepth 100000 in
set_option maxHeartbeats 1000000 in
theorem RunBreach_calls (aL : Option Addr) (nL cL : Nat) (xL : List Int) (aV : Option Addr) (nV cV : Nat) (xV : List Int) (wd sl wt : Int) (ao : Option Addr) (no co : Nat) (xo : List Int) (az : Option Addr) (ns cs : Nat) (xs : List Int) (w : World) (rL : RdInt64 w aL nL xL) (hL : nL ≤ 1048576) (rV : RdInt64 w aV nV xV) (hV : nV ≤ 1048576) (ro : RdInt64 w ao no xo) (ho : no ≤ 1048576) (rs : RdInt64 w az ns xs) (hs : ns ≤ 1048576) :
    Calls Try.prog 62 #[.agg #[.slice aL nL cL, .slice aV nV cV], .agg #[.int .i64 wd, .int .i64 sl, .int .i64 wt], .slice ao no co, .slice az ns cs] w fun e w' => ∃ A m c, e = .returned (.tuple #[.slice A m c, .int .i64 (rbZ xL xV wd sl wt xo xs).2]) ∧ Own 3 cBreach 32 w' w.heap.size w'.heap.size A m c (rbZ xL xV wd sl wt xo xs).1 ∧ m ≤ 1048576 ∧ Below w.heap.size w w' := by
  have lo := ro.len
  have LO := hd lo
  have ls' := rs.len
  have LS := hd ls'
  clear lo ls'
  have hoth := bcZ_other xL xV wd sl wt xo (fineB xo xs)
  obtain ⟨c, hc⟩ : ∃ c, bcZ xL xV wd sl wt xo true = c := ⟨_, rfl⟩
  have HC := hd hc
  rw [hc] at hoth
  have HO := hd hoth
  obtain ⟨R, hR⟩ : ∃ R, rbZ xL xV wd sl wt xo xs = R := ⟨_, rfl⟩
  have HR := hd hR
  rw [hR]
  clear hc hR hoth
  have he1 := ent Try.func84 (by kernel_rfl) rfl
  obtain ⟨i0, hi, hz0, hz1, hz2⟩ := info_parts infoBreach
  go_enter Try.func62, Try.ntmps62
  go_upto_region 1 with fail
  obtain ⟨ga, gb, dd⟩ := two_blk2 w (cvC aL nL cL aV nV cV) (brC wd sl wt)
  generalize (w.alloc (cvC aL nL cL aV nV cV)).alloc (brC wd sl wt) = W1 at ga gb dd ⊢
  have k0 := blk_cell ga 0
  have k1 := blk_cell ga 1
  have k2 := blk_cell gb 0
  have k3 := blk_cell gb 1
  have k4 := blk_cell gb 2
  go_wp2_with fail
  refine (breachCode_calls aL nL cL xL aV nV cV xV wd sl wt _ _ _ xo _ (rL.below dd) hL (rV.below dd) hV (ro.below dd) ho).mono ?_
  rintro e w1 ⟨he, b1⟩
  have d1 := bnext dd b1 (Nat.le_refl _)
  have ga1 := blk_below ga b1 (blk_lt ga)
  have gb1 := blk_below gb b1 (blk_lt gb)
  clear k0 k1 k2 k3 k4 ga gb b1 dd
  rw [HC.out] at he
  by_cases hz : c = 0
  · subst hz
    subst he
    obtain ⟨o1, o2, o3, -⟩ := bcZ_0 HC.out
    have OK := hd (And.intro o1 o2)
    have NO : Hid (no ≤ 100) := hd (by rw [LO.out] at o3; exact o3)
    have GA := hd ga1
    have GB := hd gb1
    clear o1 o2 o3 ga1 gb1
    by_cases hne : no = ns
    · subst hne
      go_wp2_with fail
      refine (allInt64_calls 84 #[] stoB _ _ _ xs _ (rs.below d1) (by omega) he1 (fun z W _ => by rw [Array.append_empty]; exact (areStones_calls z W).mono fun e w' ⟨h1, h2⟩ => ⟨h1, h2 ▸ Below.refl _ _⟩)).mono ?_
      rintro e w2 ⟨he, b2⟩
      have d2 := bnext d1 b2 (Nat.le_refl _)
      have ga2 := blk_below GA.out b2 (blk_lt GA.out)
      have gb2 := blk_below GB.out b2 (blk_lt GB.out)
      have GA2 := hd ga2
      have GB2 := hd gb2
      clear GA GB ga2 gb2 b2 d1
      cases hall : xs.all stoB
      · rw [hall] at he
        subst he
        have FF : Hid (R = ([], 2)) := hd (by
          have hf : fineB xo xs = false := by unfold fineB; rw [hall, Bool.and_false]
          have := HO.out
          rw [hf] at this
          rw [← HR.out]
          exact rbZ_no (by rw [hf]; exact this) (by decide))
        clear hall GA2 GB2
        go_wp2_with fail
        go_ret2
        exact ⟨_, 0, 0, ret_sli (by rw [FF.out]), by rw [FF.out]; exact Own.empty w2 _ rfl d2.size (by simp), by omega, d2.alloc d2.size _⟩
      · rw [hall] at he
        subst he
        have FS := hd hall
        have FF : Hid (R = (runL xL xV wd sl wt xo xs xo.length, 0)) := hd (by
          have hf : fineB xo xs = true := by unfold fineB; rw [hall, Bool.and_true, LO.out, LS.out]; simp
          have := HO.out
          rw [hf] at this
          rw [← HR.out]
          exact rbZ_ok (by rw [hf]; exact this))
        clear hall
        have l2 := d2.size
        have lgB := blk_lt GB2.out
        go_wp2_with fail
        go_loopw [11, 36] (fun v i wr => ∃ k : Nat, ∃ p q : Int, k ≤ no ∧ i = .int .i64 k ∧ ∃ A c, v = .slice A k c ∧ bAt xL xV sl xo (at0 xs) (wd, wt) k = (p, q) ∧ Own 3 cBreach 32 wr w.heap.size wr.heap.size A k c (runL xL xV wd sl wt xo xs k) ∧ Off A w.heap.size ∧ Off A (w.heap.size + 1) ∧ wr.heap[w.heap.size]? = some (cvC aL nL cL aV nV cV) ∧ wr.heap[w.heap.size + 1]? = some (brC p sl q) ∧ Below w.heap.size w wr) (fun _ i _ => no - (intOf i).toNat)
        case atStart =>
          refine ⟨0, wd, wt, Nat.zero_le _, rfl, _, 0, rfl, rfl, Own.empty w2 _ rfl l2 (by simp), ?_, ?_, blk_alloc GA2.out _, blk_alloc GB2.out _, d2.alloc l2 _⟩
          · intro a ha; obtain rfl := Option.some.inj ha; show w2.heap.size ≠ w.heap.size; omega
          · intro a ha; obtain rfl := Option.some.inj ha; show w2.heap.size ≠ w.heap.size + 1; omega
        case round =>
        clear d2 GA2 GB2 l2 lgB
        obtain ⟨k, p, q, hk, rfl, A, c0, rfl, hpq, hown, hfA, hfB, hgA, hgB, hb⟩ := hrel
        have hbr := bAt_ok (b := (wd, wt)) (s := at0 xs) OK.out.1 (all_at0 OK.out.2) (fun i hi => at0_sto FS.out i) k (by rw [LO.out]; exact hk)
        rw [hpq] at hbr
        have HBR := hd hbr
        have HPQ := hd hpq
        have Hown := hd hown
        have HfA := hd hfA
        have HfB := hd hfB
        have HGA := hd hgA
        have HGB := hd hgB
        clear hbr hpq hown hfA hfB hgA hgB
        by_cases hlt : k < no
        · obtain ⟨bo, oo, f0, rfl, hbl, hx, hc0⟩ := getInt64 (ro.below hb) hlt
          obtain ⟨bs, os', f1, rfl, hbl1, hy, hc1⟩ := getInt64 (rs.below hb) hlt
          have HF := hd (all_at OK.out.2 hx)
          have hst := all_at FS.out hy
          have HST := hd (inB_iff.1 hst)
          have HN := hd (bAt_next HPQ.out hx (at0_get hy))
          clear hx hy hst
          have i1 : (0 : Int) ≤ (k : Int) := by omega
          have i2 : (k : Int) < (no : Int) := by omega
          have lA := blk_lt HGA.out
          have k0 := blw_cell (blk_cell HGA.out 0)
          have k1 := blw_cell (blk_cell HGA.out 1)
          have k2 := blw_cell (blk_cell HGB.out 0)
          have k3 := blw_cell (blk_cell HGB.out 1)
          have k4 := blw_cell (blk_cell HGB.out 2)
          have hd0 := hc0
          have hd1 := hc1
          have c0' := blw_cell hc0
          have c1' := blw_cell hc1
          have RL1 := hd (rL.below hb)
          have RV1 := hd (rV.below hb)
          go_upto_region 10 with fail
          refine wp_region_loose 11 [10] (by kernel_rfl) (by kernel_rfl) (fun _ _ d _ _ h => by cases d <;> exact h) ?_
          simp only [List.take_succ_cons, List.take_zero, List.drop_succ_cons, List.drop_zero]
          repeat (go_big_quiet_step ((go_at_call 85; with_reducible exact blw_of (step_calls p sl q aL nL cL xL aV nV cV xV f0 f1 _ (RL1.out.below (Blw.out _)) hL (RV1.out.below (Blw.out _)) hV HBR.out HF.out HST.out.1 HST.out.2))))
          refine wpQuiet_nil ?_
          rintro _ ⟨D, rfl⟩
          have hgA := blk_below HGA.out D.out (blk_lt HGA.out)
          have hgB := blk_below HGB.out D.out (blk_lt HGB.out)
          have own1 := (Hown.out.below D.out).mono (Nat.le_refl _) D.out.size
          have hb3 := bnext hb D.out (Nat.le_refl _)
          clear k0 k1 k2 k3 k4 c0' c1' RL1 RV1 HGA HGB lA hc0 hc1 hd0 hd1 Hown
          obtain ⟨np, hnp⟩ : ∃ x, nwZ p (hdZ xL xV sl q f0) f1 = x := ⟨_, rfl⟩
          obtain ⟨nq, hnq⟩ : ∃ x, q + infZ xL xV p sl q f0 = x := ⟨_, rfl⟩
          rw [hnp, hnq] at HN
          rw [hnp, hnq]
          clear hnp hnq
          have k2 := blk_cell hgB 0
          have k3 := blk_cell hgB 1
          have k4 := blk_cell hgB 2
          have f2 := blk_free hgB 0
          have f3 := blk_free hgB 1
          have f4 := blk_free hgB 2
          go_upto_region 11 with fail
          have own2 := own1.far (only_set (only_set (only_set (only_refl D.val (some (w.heap.size + 1))) 0 (.int .i64 np)) 1 (.int .i64 sl)) 2 (.int .i64 nq)) HfB.out
          have gA2 := blk_far3 hgA (g' := w.heap.size + 1) (by omega) (.int .i64 np) (.int .i64 sl) (.int .i64 nq)
          have gB2 := blk_set3 hgB (.int .i64 np) (.int .i64 sl) (.int .i64 nq)
          have dd := below_set3 hb3 (g := w.heap.size + 1) (by omega) (.int .i64 np) (.int .i64 sl) (.int .i64 nq)
          have es : (((D.val.setCell ⟨w.heap.size + 1, 0, none⟩ (.int .i64 np)).setCell ⟨w.heap.size + 1, 1, none⟩ (.int .i64 sl)).setCell ⟨w.heap.size + 1, 2, none⟩ (.int .i64 nq)).heap.size = D.val.heap.size := by simp
          rw [← es] at own2
          clear k2 k3 k4 f2 f3 f4 es own1 hgA hgB hb3
          generalize (((D.val.setCell ⟨w.heap.size + 1, 0, none⟩ (.int .i64 np)).setCell ⟨w.heap.size + 1, 1, none⟩ (.int .i64 sl)).setCell ⟨w.heap.size + 1, 2, none⟩ (.int .i64 nq)) = W5 at own2 gA2 gB2 dd ⊢
          have k2 := blk_cell gB2 0
          have k3 := blk_cell gB2 1
          have k4 := blk_cell gB2 2
          have l8 := blk_lt gA2
          have l9 := blk_lt gB2
          have GA2 := hd gA2
          have GB2 := hd gB2
          have O2 := hd own2
          clear gA2 gB2 own2
          have hk1 : k ≤ 100 := by have := NO.out; omega
          go_wp2_with (at_builtin; refine wpList_app_at _ rfl _ _ 78 rfl 32 i0 _ 3 24 Try.underlying78 hi hz0 hz1 hz2 rfl (by decide) len_cBreach one_cBreach w.heap.size W5.heap.size A k c0 (runL xL xV wd sl wt xo xs k) rfl (O2.out.alloc _) W5.heap.size (np, sl, nq) rfl (app_new _ _ _) (by omega) (by unfold maxLen; omega) (by have := dd.size; simp; omega) ?_)
          intro A' c'' w6 ho2 hg2 hoff
          have rA := blk_grown (blk_alloc GA2.out _) hg2 HfA.out
          have rB := blk_grown (blk_alloc GB2.out _) hg2 HfB.out
          have hd2 := below_app (dd.alloc dd.size _) (O2.out.alloc _) hg2 (Nat.le_refl _) (Nat.le_refl _)
          have fA' := hoff _ HfA.out (by first | omega | (simp; omega))
          have fB' := hoff _ HfB.out (by first | omega | (simp; omega))
          have Ho2 := hd ho2
          have RA := hd rA
          have RB := hd rB
          have FA := hd fA'
          have FB := hd fB'
          clear ho2 hg2 hoff rA rB fA' fB' k2 k3 k4
          go_wp2_with fail
          go_roundw
          case rel => exact ⟨k + 1, np, nq, by omega, by go_num, A', c'', rfl, HN.out, by rw [runL_next, HN.out]; exact Ho2.out, FA.out, FB.out, RA.out, RB.out, hd2⟩
          case measure => simp [intOf]; omega
        · obtain rfl : k = no := by omega
          have hk1 : k ≤ 1048576 := by have := NO.out; omega
          clear HGA HGB
          go_wp2_with fail
          go_ret2
          exact ⟨A, k, c0, ret_sli (by rw [FF.out]), by rw [FF.out]; simp only [LO.out]; exact Hown.out, hk1, hb⟩
    · have FF : Hid (R = ([], 2)) := hd (by
        have hf : fineB xo xs = false := by unfold fineB; rw [LO.out, LS.out, decide_eq_false (fun e => hne e.symm), Bool.false_and]
        have := HO.out
        rw [hf] at this
        rw [← HR.out]
        exact rbZ_no (by rw [hf]; exact this) (by decide))
      have hne' : ¬ (ns : Int) = (no : Int) := by omega
      clear GA GB
      go_wp2_with fail
      go_ret2
      exact ⟨_, 0, 0, ret_sli (by rw [FF.out]), by rw [FF.out]; exact Own.empty w1 _ rfl d1.size (by simp), by omega, d1.alloc d1.size _⟩
  · subst he
    have FF : Hid (R = ([], c)) := hd (by have := HO.out; rw [if_neg hz] at this; rw [← HR.out]; exact rbZ_no this hz)
    clear ga1 gb1
    go_wp2_with fail
    go_ret2
    exact ⟨_, 0, 0, ret_sli (by rw [FF.out]), by rw [FF.out]; exact Own.empty w1 _ rfl d1.size (by simp), by omega, d1.alloc d1.size _⟩
set_option maxRecDepth 100000 in
set_option maxHeartbeats 1000000 in
theorem specRunBreach_calls (aL : Option Addr) (nL cL : Nat) (xL : List Int) (aV : Option Addr) (nV cV : Nat) (xV : List Int) (wd sl wt : Int) (ao : Option Addr) (no co : Nat) (xo : List Int) (az : Option Addr) (ns cs : Nat) (xs : List Int) (w : World) (rL : RdInt64 w aL nL xL) (hL : nL ≤ 1048576) (rV : RdInt64 w aV nV xV) (hV : nV ≤ 1048576) (ro : RdInt64 w ao no xo) (ho : no ≤ 1048576) (rs : RdInt64 w az ns xs) (hs : ns ≤ 1048576) :
    Calls Try.prog 61 #[.agg #[.slice aL nL cL, .slice aV nV cV], .agg #[.int .i64 wd, .int .i64 sl, .int .i64 wt], .slice ao no co, .slice az ns cs] w fun e w' => ∃ A m c, e = .returned (.tuple #[.slice A m c, .int .i64 (rbZ xL xV wd sl wt xo xs).2]) ∧ Own 3 cBreach 32 w' w.heap.size w'.heap.size A m c (rbZ xL xV wd sl wt xo xs).1 ∧ m ≤ 1048576 ∧ Below w.heap.size w w' := by
  have lo := ro.len
  have LO := hd lo
  have ls' := rs.len
  have LS := hd ls'
  clear lo ls'
  obtain ⟨c, hc⟩ : ∃ c, bcZ xL xV wd sl wt xo (fineB xo xs) = c := ⟨_, rfl⟩
  have HC := hd hc
  obtain ⟨R, hR⟩ : ∃ R, rbZ xL xV wd sl wt xo xs = R := ⟨_, rfl⟩
  have HR := hd hR
  rw [hR]
  clear hc hR
  obtain ⟨e0, he0⟩ : ∃ b : Bool, ((ns : Int) == (no : Int)) = b := ⟨_, rfl⟩
  have HE0 := hd he0
  have HFE : Hid (fineB xo xs = (e0 && xs.all stoB)) := hd (by
    unfold fineB
    rw [LO.out, LS.out, ← he0]
    congr 1
    by_cases h : ns = no
    · simp [h]
    · simp [h]; omega)
  obtain ⟨i0, hi, hz0, hz1, hz2⟩ := info_parts infoBreach
  go_enter Try.func61, Try.ntmps61
  go_upto_region 1 with fail
  obtain ⟨ga, gb, dd⟩ := two_blk2 w (cvC aL nL cL aV nV cV) (brC wd sl wt)
  generalize (w.alloc (cvC aL nL cL aV nV cV)).alloc (brC wd sl wt) = W1 at ga gb dd ⊢
  have GA := hd ga
  have GB := hd gb
  clear ga gb
  go_wp2_with fail
  clear he0
  go_loopw [10, 11] (fun f i wr => ∃ k : Nat, k ≤ ns ∧ i = .int .i64 k ∧ f = .bool (e0 && (xs.take k).all stoB) ∧ wr.heap[w.heap.size]? = some (cvC aL nL cL aV nV cV) ∧ wr.heap[w.heap.size + 1]? = some (brC wd sl wt) ∧ Below w.heap.size w wr) (fun _ i _ => ns - (intOf i).toNat)
  case atStart => exact ⟨0, Nat.zero_le _, rfl, by simp, GA.out, GB.out, dd⟩
  case round =>
    clear GA GB dd
    obtain ⟨k, hk, rfl, rfl, hgA, hgB, hb⟩ := hrel
    have HGA := hd hgA
    have HGB := hd hgB
    clear hgA hgB
    obtain ⟨f, hf⟩ : ∃ f : Bool, (e0 && (xs.take k).all stoB) = f := ⟨_, rfl⟩
    have HF := hd hf
    rw [hf]
    clear hf
    by_cases hlt : k < ns
    · obtain ⟨bo, oo, f0, rfl, hbl, hx, hc0⟩ := getInt64 (rs.below hb) hlt
      have HN : Hid ((e0 && (xs.take (k + 1)).all stoB) = (f && stoB f0)) := hd (by rw [take_next hx, List.all_append, ← HF.out]; simp [Bool.and_assoc])
      clear hx
      cases f
      · have HN' : Hid ((e0 && (xs.take (k + 1)).all stoB) = false) := hd (by rw [HN.out, Bool.false_and])
        go_wp2_with fail
        go_roundw
        case rel => exact ⟨k + 1, by omega, by go_num, by rw [HN'.out], HGA.out, HGB.out, hb⟩
        case measure => simp [intOf]; omega
      · have HN' : Hid ((e0 && (xs.take (k + 1)).all stoB) = inB f0 0 1000) := hd (by rw [HN.out, Bool.true_and]; rfl)
        go_wp2_with (go_at_call 82; refine (l12Stones_calls _ _).mono ?_; rintro e w' ⟨rfl, rfl⟩)
        go_roundw
        case rel => exact ⟨k + 1, by omega, by go_num, by rw [HN'.out], HGA.out, HGB.out, hb⟩
        case measure => simp [intOf]; omega
    · obtain rfl : k = ns := by omega
      have HFF : Hid (f = fineB xo xs) := hd (by rw [← HF.out, HFE.out, List.take_of_length_le (by rw [LS.out]; exact Nat.le_refl _)])
      obtain ⟨w3, hw3⟩ : ∃ W, W = wr := ⟨_, rfl⟩
      subst hw3
      have k2 := blk_cell HGB.out 0
      have k3 := blk_cell HGB.out 1
      have k4 := blk_cell HGB.out 2
      go_wp2_with fail
      refine (l12List_calls _ aL nL cL xL aV nV cV xV wd sl wt _ _ _ xo f _ HGA.out (rL.below hb) hL (rV.below hb) hV (ro.below hb) ho).mono ?_
      rintro e w4 ⟨he, b4⟩
      rw [HFF.out, HC.out] at he
      subst he
      have hb4 := bnext hb b4 (Nat.le_refl _)
      have ga2 := blk_below HGA.out b4 (blk_lt HGA.out)
      have gb2 := blk_below HGB.out b4 (blk_lt HGB.out)
      have GA2 := hd ga2
      have GB2 := hd gb2
      clear k2 k3 k4 HGA HGB ga2 gb2 b4 hb
      by_cases hz : c = 0
      · subst hz
        obtain ⟨o1, o2, o3, o4⟩ := bcZ_0 HC.out
        have OK := hd (And.intro o1 o2)
        have NO : Hid (no ≤ 100) := hd (by rw [LO.out] at o3; exact o3)
        obtain ⟨f1, f2⟩ := fineB_of o4
        have FS := hd f2
        have FF : Hid (R = (runL xL xV wd sl wt xo xs xo.length, 0)) := hd (HR.out.symm.trans (rbZ_ok HC.out))
        rw [LS.out, LO.out] at f1
        clear o1 o2 o3 o4 f2 HFF HF
        subst f1
        have l2 := hb4.size
        have lgB := blk_lt GB2.out
        go_wp2_with fail
        go_loopw [13, 14] (fun v i wr => ∃ j : Nat, ∃ p q : Int, j ≤ k ∧ i = .int .i64 j ∧ ∃ A c, v = .slice A j c ∧ bAt xL xV sl xo (at0 xs) (wd, wt) j = (p, q) ∧ Own 3 cBreach 32 wr w.heap.size wr.heap.size A j c (runL xL xV wd sl wt xo xs j) ∧ Off A w.heap.size ∧ Off A (w.heap.size + 1) ∧ wr.heap[w.heap.size]? = some (cvC aL nL cL aV nV cV) ∧ wr.heap[w.heap.size + 1]? = some (brC p sl q) ∧ Below w.heap.size w wr) (fun _ i _ => k - (intOf i).toNat)
        case atStart =>
          refine ⟨0, wd, wt, Nat.zero_le _, rfl, _, 0, rfl, rfl, Own.empty w4 _ rfl l2 (by simp), ?_, ?_, blk_alloc GA2.out _, blk_alloc GB2.out _, hb4.alloc l2 _⟩
          · intro a ha; obtain rfl := Option.some.inj ha; show w4.heap.size ≠ w.heap.size; omega
          · intro a ha; obtain rfl := Option.some.inj ha; show w4.heap.size ≠ w.heap.size + 1; omega
        case round =>
        clear hb4 GA2 GB2 l2 lgB hk hlt
        obtain ⟨no, hno⟩ : ∃ x, x = k := ⟨_, rfl⟩
        subst hno
        obtain ⟨k, p, q, hk, rfl, A, c0, rfl, hpq, hown, hfA, hfB, hgA, hgB, hb⟩ := hrel
        have hbr := bAt_ok (b := (wd, wt)) (s := at0 xs) OK.out.1 (all_at0 OK.out.2) (fun i hi => at0_sto FS.out i) k (by rw [LO.out]; exact hk)
        rw [hpq] at hbr
        have HBR := hd hbr
        have HPQ := hd hpq
        have Hown := hd hown
        have HfA := hd hfA
        have HfB := hd hfB
        have HGA := hd hgA
        have HGB := hd hgB
        clear hbr hpq hown hfA hfB hgA hgB
        by_cases hlt : k < no
        · obtain ⟨bo, oo, f0, rfl, hbl, hx, hc0⟩ := getInt64 (ro.below hb) hlt
          obtain ⟨bs, os', f1, rfl, hbl1, hy, hc1⟩ := getInt64 (rs.below hb) hlt
          have HF := hd (all_at OK.out.2 hx)
          have hst := all_at FS.out hy
          have HST := hd (inB_iff.1 hst)
          have HN := hd (bAt_next HPQ.out hx (at0_get hy))
          clear hx hy hst
          have i1 : (0 : Int) ≤ (k : Int) := by omega
          have i2 : (k : Int) < (no : Int) := by omega
          have lA := blk_lt HGA.out
          have k0 := blw_cell (blk_cell HGA.out 0)
          have k1 := blw_cell (blk_cell HGA.out 1)
          have k2 := blw_cell (blk_cell HGB.out 0)
          have k3 := blw_cell (blk_cell HGB.out 1)
          have k4 := blw_cell (blk_cell HGB.out 2)
          have hd0 := hc0
          have hd1 := hc1
          have c0' := blw_cell hc0
          have c1' := blw_cell hc1
          have RL1 := hd (rL.below hb)
          have RV1 := hd (rV.below hb)
          go_upto_region 13 with fail
          refine wp_region_loose 13 [12] (by kernel_rfl) (by kernel_rfl) (fun _ _ d _ _ h => by cases d <;> exact h) ?_
          simp only [List.take_succ_cons, List.take_zero, List.drop_succ_cons, List.drop_zero]
          repeat (go_big_quiet_step ((go_at_call 83; with_reducible exact blw_of (l12Step_calls _ aL nL cL xL aV nV cV xV p sl q f0 f1 _ (blk_below HGA.out (Blw.out _) lA) (RL1.out.below (Blw.out _)) hL (RV1.out.below (Blw.out _)) hV HBR.out HF.out HST.out.1 HST.out.2))))
          refine wpQuiet_nil ?_
          rintro _ ⟨D, rfl⟩
          have hgA := blk_below HGA.out D.out (blk_lt HGA.out)
          have hgB := blk_below HGB.out D.out (blk_lt HGB.out)
          have own1 := (Hown.out.below D.out).mono (Nat.le_refl _) D.out.size
          have hb3 := bnext hb D.out (Nat.le_refl _)
          clear k0 k1 k2 k3 k4 c0' c1' RL1 RV1 HGA HGB lA hc0 hc1 hd0 hd1 Hown
          obtain ⟨np, hnp⟩ : ∃ x, nwZ p (hdZ xL xV sl q f0) f1 = x := ⟨_, rfl⟩
          obtain ⟨nq, hnq⟩ : ∃ x, q + infZ xL xV p sl q f0 = x := ⟨_, rfl⟩
          rw [hnp, hnq] at HN
          rw [hnp, hnq]
          clear hnp hnq
          have k2 := blk_cell hgB 0
          have k3 := blk_cell hgB 1
          have k4 := blk_cell hgB 2
          have f2 := blk_free hgB 0
          have f3 := blk_free hgB 1
          have f4 := blk_free hgB 2
          go_upto_region 14 with fail
          have own2 := own1.far (only_set (only_set (only_set (only_refl D.val (some (w.heap.size + 1))) 0 (.int .i64 np)) 1 (.int .i64 sl)) 2 (.int .i64 nq)) HfB.out
          have gA2 := blk_far3 hgA (g' := w.heap.size + 1) (by omega) (.int .i64 np) (.int .i64 sl) (.int .i64 nq)
          have gB2 := blk_set3 hgB (.int .i64 np) (.int .i64 sl) (.int .i64 nq)
          have dd := below_set3 hb3 (g := w.heap.size + 1) (by omega) (.int .i64 np) (.int .i64 sl) (.int .i64 nq)
          have es : (((D.val.setCell ⟨w.heap.size + 1, 0, none⟩ (.int .i64 np)).setCell ⟨w.heap.size + 1, 1, none⟩ (.int .i64 sl)).setCell ⟨w.heap.size + 1, 2, none⟩ (.int .i64 nq)).heap.size = D.val.heap.size := by simp
          rw [← es] at own2
          clear k2 k3 k4 f2 f3 f4 es own1 hgA hgB hb3
          generalize (((D.val.setCell ⟨w.heap.size + 1, 0, none⟩ (.int .i64 np)).setCell ⟨w.heap.size + 1, 1, none⟩ (.int .i64 sl)).setCell ⟨w.heap.size + 1, 2, none⟩ (.int .i64 nq)) = W5 at own2 gA2 gB2 dd ⊢
          have k2 := blk_cell gB2 0
          have k3 := blk_cell gB2 1
          have k4 := blk_cell gB2 2
          have l8 := blk_lt gA2
          have l9 := blk_lt gB2
          have GA2 := hd gA2
          have GB2 := hd gB2
          have O2 := hd own2
          clear gA2 gB2 own2
          have hk1 : k ≤ 100 := by have := NO.out; omega
          go_wp2_with (at_builtin; refine wpList_app_at _ rfl _ _ 78 rfl 32 i0 _ 3 24 Try.underlying78 hi hz0 hz1 hz2 rfl (by decide) len_cBreach one_cBreach w.heap.size W5.heap.size A k c0 (runL xL xV wd sl wt xo xs k) rfl (O2.out.alloc _) W5.heap.size (np, sl, nq) rfl (app_new _ _ _) (by omega) (by unfold maxLen; omega) (by have := dd.size; simp; omega) ?_)
          intro A' c'' w6 ho2 hg2 hoff
          have rA := blk_grown (blk_alloc GA2.out _) hg2 HfA.out
          have rB := blk_grown (blk_alloc GB2.out _) hg2 HfB.out
          have hd2 := below_app (dd.alloc dd.size _) (O2.out.alloc _) hg2 (Nat.le_refl _) (Nat.le_refl _)
          have fA' := hoff _ HfA.out (by first | omega | (simp; omega))
          have fB' := hoff _ HfB.out (by first | omega | (simp; omega))
          have Ho2 := hd ho2
          have RA := hd rA
          have RB := hd rB
          have FA := hd fA'
          have FB := hd fB'
          clear ho2 hg2 hoff rA rB fA' fB' k2 k3 k4
          go_wp2_with fail
          go_roundw
          case rel => exact ⟨k + 1, np, nq, by omega, by go_num, A', c'', rfl, HN.out, by rw [runL_next, HN.out]; exact Ho2.out, FA.out, FB.out, RA.out, RB.out, hd2⟩
          case measure => simp [intOf]; omega
        · obtain rfl : k = no := by omega
          have hk1 : k ≤ 1048576 := by have := NO.out; omega
          clear HGA HGB
          go_wp2_with fail
          go_ret2
          exact ⟨A, k, c0, ret_sli (by rw [FF.out]), by rw [FF.out]; simp only [LO.out]; exact Hown.out, hk1, hb⟩
      · have FF : Hid (R = ([], c)) := hd (HR.out.symm.trans (rbZ_no HC.out hz))
        clear GA2 GB2
        go_wp2_with fail
        go_ret2
        exact ⟨none, 0, 0, ret_sli (by rw [FF.out]), by rw [FF.out]; exact Own.nil_, by omega, hb4⟩
end Go.Proofs.Ytieomdjcnaaopaa
