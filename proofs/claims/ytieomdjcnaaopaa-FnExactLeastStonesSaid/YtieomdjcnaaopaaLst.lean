/- Breaches: LeastStones. -/
import Derived.Test.YtieomdjcnaaopaaHtl
namespace Go.Proofs.Ytieomdjcnaaopaa
open Go.RowKit
set_option linter.unusedVariables false

def cstS (st : Int) : Nat → Int := fun _ => st
def lsZ (ls vs : List Int) (wd sl wt : Int) (os : List Int) (level : Int) : Int × Int :=
  if bcZ ls vs wd sl wt os (lvB level) = 0 then optZ (findK (fun m => decide (lvZ ls vs (bAt ls vs sl os (cstS (m : Int)) (wd, wt) os.length).2 ≤ level)) 1001) 10 else (0, bcZ ls vs wd sl wt os (lvB level))
set_option maxRecDepth 100000 in
set_option maxHeartbeats 1000000 in
theorem LeastStones_calls (aL : Option Addr) (nL cL : Nat) (xL : List Int) (aV : Option Addr) (nV cV : Nat) (xV : List Int) (wd sl wt : Int) (ao : Option Addr) (no co : Nat) (xo : List Int) (level : Int) (w : World) (rL : RdInt64 w aL nL xL) (hL : nL ≤ 1048576) (rV : RdInt64 w aV nV xV) (hV : nV ≤ 1048576) (ro : RdInt64 w ao no xo) (ho : no ≤ 1048576) :
    Calls Try.prog 37 #[.agg #[.slice aL nL cL, .slice aV nV cV], .agg #[.int .i64 wd, .int .i64 sl, .int .i64 wt], .slice ao no co, .int .i64 level] w fun e w' => e = .returned (.tuple #[.int .i64 (lsZ xL xV wd sl wt xo level).1, .int .i64 (lsZ xL xV wd sl wt xo level).2]) ∧ Below w.heap.size w w' := by
  have lo := ro.len
  have LO := hd lo
  clear lo
  have hoth := bcZ_other xL xV wd sl wt xo (lvB level)
  obtain ⟨R, hR⟩ : ∃ R, lsZ xL xV wd sl wt xo level = R := ⟨_, rfl⟩
  have hR' := hR
  unfold lsZ at hR'
  rw [hoth] at hR'
  obtain ⟨c, hc⟩ : ∃ c, bcZ xL xV wd sl wt xo true = c := ⟨_, rfl⟩
  have HC := hd hc
  rw [hc] at hR'
  rw [hR]
  have HR := hd hR'
  clear hR hc hR' hoth
  go_enter Try.func37, Try.ntmps37
  go_upto_region 1 with fail
  obtain ⟨ga, gb, dd⟩ := two_blk2 w (cvC aL nL cL aV nV cV) (brC wd sl wt)
  generalize (w.alloc (cvC aL nL cL aV nV cV)).alloc (brC wd sl wt) = W1 at ga gb dd ⊢
  have k0 := blk_cell ga 0
  have k1 := blk_cell ga 1
  have k2 := blk_cell gb 0
  have k3 := blk_cell gb 1
  have k4 := blk_cell gb 2
  go_wp2_with fail
  refine (breachCode_calls aL nL cL xL aV nV cV xV wd sl wt _ _ _ xo _ (rL.below dd) hL (rV.below dd) hV (ro.below dd) ho).mono ?_
  rintro e w1 ⟨he, b1⟩
  have d1 := bnext dd b1 (Nat.le_refl _)
  have ga1 := blk_below ga b1 (blk_lt ga)
  have gb1 := blk_below gb b1 (blk_lt gb)
  clear k0 k1 k2 k3 k4 ga gb b1 dd
  rw [HC.out] at he
  by_cases hz : c = 0
  · subst hz
    subst he
    obtain ⟨o1, o2, -, -⟩ := bcZ_0 HC.out
    have OK := hd (And.intro o1 o2)
    clear o1 o2 HC
    cases hlv : lvB level
    · have HV := hd hlv
      have FF : Hid (R = (0, 2)) := hd (by have := HR.out; rw [hlv] at this; exact this.symm)
      clear hlv ga1 gb1 HR
      go_wp2_with (go_at_call 80; refine (ValidLevel_callsB HV.out _).mono ?_; rintro e w' ⟨rfl, rfl⟩)
      go_ret2
      exact ⟨ret_ints (by rw [FF.out]) (by rw [FF.out]), d1⟩
    · have HV := hd hlv
      have HRZ : Hid (∀ {o}, findK (fun m => decide (lvZ xL xV (bAt xL xV sl xo (cstS (m : Int)) (wd, wt) xo.length).2 ≤ level)) 1001 = o → R = optZ o 10) := hd (fun h => by have := HR.out; rw [hlv, h] at this; exact this.symm)
      clear hlv HR
      have GA := hd ga1
      have GB := hd gb1
      clear ga1 gb1
      go_wp2_with (go_at_call 80; refine (ValidLevel_callsB HV.out _).mono ?_; rintro e w' ⟨rfl, rfl⟩)
      go_loopw [11] (fun i wr => ∃ m : Nat, m ≤ 1001 ∧ i = .int .i64 m ∧ (∀ j, j < m → decide (lvZ xL xV (bAt xL xV sl xo (cstS (j : Int)) (wd, wt) xo.length).2 ≤ level) = false) ∧ wr.heap[w.heap.size]? = some (cvC aL nL cL aV nV cV) ∧ wr.heap[w.heap.size + 1]? = some (brC wd sl wt) ∧ Below w.heap.size w wr) (fun i _ => 1001 - (intOf i).toNat)
      case atStart => exact ⟨0, by omega, rfl, fun j hj => absurd hj (Nat.not_lt_zero _), GA.out, GB.out, d1⟩
      case round =>
      clear d1 GA GB
      obtain ⟨m, hm, rfl, hle, hgA, hgB, hb⟩ := hrel
      have HLE := hd hle
      clear hle
      by_cases hm1 : m ≤ 1000
      · obtain ⟨w3, hw3⟩ : ∃ W, W = wr := ⟨_, rfl⟩
        subst hw3
        have hgN := heap_alloc_new w3 (brC wd sl wt)
        have hgA' := blk_alloc hgA (brC wd sl wt)
        have hgB' := blk_alloc hgB (brC wd sl wt)
        have hb' := hb.alloc hb.size (brC wd sl wt)
        have lN : w.heap.size + 1 < w3.heap.size := blk_lt hgB
        have k2 := blk_cell hgB 0
        have k3 := blk_cell hgB 1
        have k4 := blk_cell hgB 2
        have n2 := World.new_ne w3 _ k2
        have n3 := World.new_ne w3 _ k3
        have n4 := World.new_ne w3 _ k4
        clear hgA hgB
        have HGA := hd hgA'
        have HGB := hd hgB'
        have HGN := hd hgN
        clear hgA' hgB' hgN
        have hs0 : (0 : Int) ≤ (m : Int) := by omega
        have hs1 : (m : Int) ≤ 1000 := by omega
        go_wp2_with fail
        clear k2 k3 k4 n2 n3 n4
        go_loopw [32] (fun i wr => ∃ k : Nat, ∃ p q : Int, k ≤ no ∧ i = .int .i64 k ∧ bAt xL xV sl xo (cstS (m : Int)) (wd, wt) k = (p, q) ∧ wr.heap[w.heap.size]? = some (cvC aL nL cL aV nV cV) ∧ wr.heap[w.heap.size + 1]? = some (brC wd sl wt) ∧ wr.heap[w3.heap.size]? = some (brC p sl q) ∧ Below w.heap.size w wr) (fun i _ => no - (intOf i).toNat)
        case atStart => exact ⟨0, wd, wt, Nat.zero_le _, rfl, rfl, HGA.out, HGB.out, HGN.out, hb'⟩
        case round =>
        clear hb hb' HGA HGB HGN
        obtain ⟨k, p, q, hk, rfl, hpq, hgA, hgB, hgN, hb⟩ := hrel
        have hbr := bAt_ok (b := (wd, wt)) (s := cstS (m : Int)) OK.out.1 (all_at0 OK.out.2) (fun i hi => hs0) k (by rw [LO.out]; exact hk)
        rw [hpq] at hbr
        have HBR := hd hbr
        have HCV := hd (cv_of (br_of hbr).1)
        have HPQ := hd hpq
        clear hbr hpq
        have HGA := hd hgA
        have HGB := hd hgB
        have HGN := hd hgN
        have k0 := blk_cell hgA 0
        have k1 := blk_cell hgA 1
        have k2 := blk_cell hgN 0
        have k3 := blk_cell hgN 1
        have k4 := blk_cell hgN 2
        clear hgA hgB hgN
        by_cases hlt : k < no
        · obtain ⟨bo, oo, f0, rfl, hbl, hx, hc0⟩ := getInt64 (ro.below hb) hlt
          have HF := hd (all_at OK.out.2 hx)
          have HN := hd (bAt_next HPQ.out hx (show cstS (m : Int) k = m from rfl))
          clear hx
          go_wp2_with fail
          refine (step_calls p sl q aL nL cL xL aV nV cV xV f0 m _ (rL.below hb) hL (rV.below hb) hV HBR.out HF.out hs0 hs1).mono ?_
          rintro e w4 ⟨rfl, b4⟩
          have hgA := blk_below HGA.out b4 (blk_lt HGA.out)
          have hgB := blk_below HGB.out b4 (blk_lt HGB.out)
          have hgN := blk_below HGN.out b4 (blk_lt HGN.out)
          have hb4 := bnext hb b4 (Nat.le_refl _)
          clear k0 k1 k2 k3 k4 hc0 HGA HGB HGN b4 hb
          have k2 := blk_cell hgN 0
          have k3 := blk_cell hgN 1
          have k4 := blk_cell hgN 2
          have f2 := blk_free hgN 0
          have f3 := blk_free hgN 1
          have f4 := blk_free hgN 2
          have HGA := hd hgA
          have HGB := hd hgB
          have HGN := hd hgN
          clear hgA hgB hgN
          go_wp2_with fail
          go_roundw
          case rel => exact ⟨k + 1, _, _, by omega, by go_num, HN.out, blk_far3 HGA.out (by omega) _ _ _, blk_far3 HGB.out (by omega) _ _ _, blk_set3 HGN.out _ _ _, below_set3 hb4 (by omega) _ _ _⟩
          case measure => simp [intOf]; omega
        · obtain rfl : k = no := by omega
          obtain ⟨z, hz⟩ : ∃ z, lvZ xL xV q = z := ⟨_, rfl⟩
          have HZ := hd hz
          clear hz
          go_wp2_with fail
          refine (level_calls aL nL cL xL aV nV cV xV q _ (rL.below hb) hL (rV.below hb) hV HCV.out).mono ?_
          rintro e w4 ⟨he, b4⟩
          rw [HZ.out] at he
          subst he
          have hgA := blk_below HGA.out b4 (blk_lt HGA.out)
          have hgB := blk_below HGB.out b4 (blk_lt HGB.out)
          have hb4 := bnext hb b4 (Nat.le_refl _)
          have HGA' := hd hgA
          have HGB' := hd hgB
          clear k0 k1 k2 k3 k4 HGA HGB HGN b4 hb hgA hgB
          by_cases ht : z ≤ level
          · have FF := hd (HRZ.out (findK_some (i := m) (by omega) (by simp only [LO.out, HPQ.out, HZ.out]; exact decide_eq_true ht) (fun j hj => HLE.out j hj)))
            go_wp2_with fail
            go_ret2
            exact ⟨ret_ints (by rw [FF.out]; rfl) (by rw [FF.out]; rfl), hb4⟩
          · have ht' : level < z := by omega
            have HLE' : Hid (∀ j, j < m + 1 → decide (lvZ xL xV (bAt xL xV sl xo (cstS (j : Int)) (wd, wt) xo.length).2 ≤ level) = false) := hd (fun j hj => by
              rcases Nat.lt_or_eq_of_le (Nat.le_of_lt_succ hj) with hl | rfl
              · exact HLE.out j hl
              · simp only [LO.out, HPQ.out, HZ.out]; exact decide_eq_false ht)
            go_wp2_with fail
            go_roundw
            case rel => exact ⟨m + 1, by omega, by go_num, HLE'.out, HGA'.out, HGB'.out, hb4⟩
            case measure => simp [intOf]; omega
      · obtain rfl : m = 1001 := by omega
        have FF := hd (HRZ.out (findK_none HLE.out))
        clear hgA hgB
        go_wp2_with fail
        go_ret2
        exact ⟨ret_ints (by rw [FF.out]; rfl) (by rw [FF.out]; rfl), hb⟩
  · subst he
    have FF : Hid (R = (0, c)) := hd (by have := HR.out; rw [if_neg hz, if_neg hz] at this; exact this.symm)
    clear ga1 gb1 HR
    go_wp2_with fail
    go_ret2
    exact ⟨ret_ints (by rw [FF.out]) (by rw [FF.out]), d1⟩
set_option maxRecDepth 100000 in
set_option maxHeartbeats 1000000 in
theorem l12Dry_calls (g : Nat) (aL : Option Addr) (nL cL : Nat) (xL : List Int) (aV : Option Addr) (nV cV : Nat) (xV : List Int) (wd sl wt : Int) (ao : Option Addr) (no co : Nat) (xo : List Int) (level st : Int) (w : World) (hg : w.heap[g]? = some (cvC aL nL cL aV nV cV)) (rL : RdInt64 w aL nL xL) (hL : nL ≤ 1048576) (rV : RdInt64 w aV nV xV) (hV : nV ≤ 1048576) (ro : RdInt64 w ao no xo) (ho : no ≤ 1048576) (hbr : brB xL xV wd sl wt = true) (hall : xo.all lvB = true) (hs0 : 0 ≤ st) (hs1 : st ≤ 1000) :
    Calls Try.prog 89 #[.pointer (some ⟨g, 0, none⟩), .agg #[.int .i64 wd, .int .i64 sl, .int .i64 wt], .slice ao no co, .int .i64 level, .int .i64 st] w fun e w' => e = .returned (.bool (decide (lvZ xL xV (bAt xL xV sl xo (cstS st) (wd, wt) xo.length).2 ≤ level))) ∧ Below w.heap.size w w' := by
  have lo := ro.len
  have LO := hd lo
  have OK := hd (And.intro hbr hall)
  have hgl := blk_lt hg
  obtain ⟨R, hR⟩ : ∃ R, decide (lvZ xL xV (bAt xL xV sl xo (cstS st) (wd, wt) xo.length).2 ≤ level) = R := ⟨_, rfl⟩
  have HR := hd hR
  rw [hR]
  clear lo hbr hall hR
  have GP := hd (blk_alloc hg (brC wd sl wt))
  have GB := hd (heap_alloc_new w (brC wd sl wt))
  go_enter Try.func89, Try.ntmps89
  go_wp2_with fail
  go_loopw [11] (fun i wr => ∃ k : Nat, ∃ p q : Int, k ≤ no ∧ i = .int .i64 k ∧ bAt xL xV sl xo (cstS st) (wd, wt) k = (p, q) ∧ wr.heap[g]? = some (cvC aL nL cL aV nV cV) ∧ wr.heap[w.heap.size]? = some (brC p sl q) ∧ Below w.heap.size w wr) (fun i _ => no - (intOf i).toNat)
  case atStart => exact ⟨0, wd, wt, Nat.zero_le _, rfl, rfl, GP.out, GB.out, (Below.refl _ _).alloc (Nat.le_refl _) _⟩
  case round =>
    clear GP GB
    obtain ⟨k, p, q, hk, rfl, hpq, hgA, hgB, hb⟩ := hrel
    have hbr := bAt_ok (b := (wd, wt)) (s := cstS st) OK.out.1 (all_at0 OK.out.2) (fun i hi => hs0) k (by rw [LO.out]; exact hk)
    rw [hpq] at hbr
    have HBR := hd hbr
    obtain ⟨hc, ⟨hw0, hw1⟩, hsl, h0, h1⟩ := br_of hbr
    have HCB := hd hc
    have H1 := hd h1
    have HPQ := hd hpq
    obtain ⟨z, hz⟩ : ∃ z, lvZ xL xV q = z := ⟨_, rfl⟩
    have HZ := hd hz
    clear hbr hc hsl h1 hpq hz
    have HGA := hd hgA
    have HGB := hd hgB
    have k2 := blk_cell hgB 0
    have k3 := blk_cell hgB 1
    have k4 := blk_cell hgB 2
    clear hgA hgB
    by_cases hlt : k < no
    · obtain ⟨bo, oo, f0, rfl, hbl, hx, hc0⟩ := getInt64 (ro.below hb) hlt
      have HF := hd (all_at OK.out.2 hx)
      have HN := hd (bAt_next HPQ.out hx (show cstS st k = st from rfl))
      have i1 : (0 : Int) ≤ (k : Int) := by omega
      have i2 : (k : Int) < (no : Int) := by omega
      clear hx
      go_wp2_with fail
      refine (l12Inside_calls g aL nL cL xL aV nV cV xV p sl q _ HGA.out (rL.below hb) hL (rV.below hb) hV HCB.out h0 H1.out).mono ?_
      rintro e w2 ⟨he, b2⟩
      rw [HZ.out] at he
      subst he
      have hgA := blk_below HGA.out b2 (blk_lt HGA.out)
      have hgB := blk_below HGB.out b2 (blk_lt HGB.out)
      have hb2 := bnext hb b2 (Nat.le_refl _)
      have hc2 := (b2.cell (p := ⟨bo, oo + k, none⟩) hbl).trans hc0
      clear k2 k3 k4 HGA HGB b2 hc0 hb
      by_cases ht : level < z
      · have FF : Hid (R = false) := hd (by rw [← HR.out]; refine decide_eq_false ?_; have := bAt_lv (b := (wd, wt)) (s := cstS st) OK.out.1 (all_at0 OK.out.2) (fun i hi => hs0) (i := k) (k := xo.length) (by rw [LO.out]; omega) (Nat.le_refl _); rw [HPQ.out] at this; simp only [HZ.out] at this; omega)
        go_wp2_with fail
        go_ret
        exact ⟨ret_bool (by rw [FF.out]), hb2⟩
      · have ht' : z ≤ level := by omega
        have k0 := blw_cell (blk_cell hgA 0)
        have k1 := blw_cell (blk_cell hgA 1)
        have k2 := blw_cell (blk_cell hgB 0)
        have k3 := blw_cell (blk_cell hgB 1)
        have k4 := blw_cell (blk_cell hgB 2)
        have c0 := blw_cell hc2
        have RL1 := hd (rL.below hb2)
        have RV1 := hd (rV.below hb2)
        have HGA := hd hgA
        have HGB := hd hgB
        have lA := blk_lt hgA
        clear hgA hgB
        go_upto_region 6 with fail
        refine wp_region_loose 11 [10] (by kernel_rfl) (by kernel_rfl) (fun _ _ d _ _ h => by cases d <;> exact h) ?_
        simp only [List.take_succ_cons, List.take_zero, List.drop_succ_cons, List.drop_zero]
        repeat (go_big_quiet_step ((go_at_call 83; with_reducible exact blw_of (l12Step_calls g aL nL cL xL aV nV cV xV p sl q f0 st _ (blk_below HGA.out (Blw.out _) lA) (RL1.out.below (Blw.out _)) hL (RV1.out.below (Blw.out _)) hV HBR.out HF.out hs0 hs1))))
        refine wpQuiet_nil ?_
        rintro _ ⟨D, rfl⟩
        have hgA := blk_below HGA.out D.out (blk_lt HGA.out)
        have hgB := blk_below HGB.out D.out (blk_lt HGB.out)
        have hb3 := bnext hb2 D.out (Nat.le_refl _)
        clear k0 k1 k2 k3 k4 c0 RL1 RV1 HGA HGB lA hc2
        have k2 := blk_cell hgB 0
        have k3 := blk_cell hgB 1
        have k4 := blk_cell hgB 2
        have f2 := blk_free hgB 0
        have f3 := blk_free hgB 1
        have f4 := blk_free hgB 2
        have HGA := hd hgA
        have HGB := hd hgB
        clear hgA hgB
        go_wp2_with fail
        go_roundw
        case rel => exact ⟨k + 1, _, _, by omega, by go_num, HN.out, blk_far3 HGA.out (by omega) _ _ _, blk_set3 HGB.out _ _ _, below_set3 hb3 (by omega) _ _ _⟩
        case measure => simp [intOf]; omega
    · obtain rfl : k = no := by omega
      have FF : Hid (R = decide (z ≤ level)) := hd (by rw [← HR.out, LO.out, HPQ.out, HZ.out])
      go_wp2_with fail
      refine (l12Inside_calls g aL nL cL xL aV nV cV xV p sl q _ HGA.out (rL.below hb) hL (rV.below hb) hV HCB.out h0 H1.out).mono ?_
      rintro e w2 ⟨he, b2⟩
      rw [HZ.out] at he
      subst he
      clear k2 k3 k4
      go_wp2_with fail
      go_ret
      exact ⟨ret_bool (by rw [FF.out]), bnext hb b2 (Nat.le_refl _)⟩
set_option maxRecDepth 100000 in
set_option maxHeartbeats 1000000 in
theorem specLeastStones_calls (aL : Option Addr) (nL cL : Nat) (xL : List Int) (aV : Option Addr) (nV cV : Nat) (xV : List Int) (wd sl wt : Int) (ao : Option Addr) (no co : Nat) (xo : List Int) (level : Int) (w : World) (rL : RdInt64 w aL nL xL) (hL : nL ≤ 1048576) (rV : RdInt64 w aV nV xV) (hV : nV ≤ 1048576) (ro : RdInt64 w ao no xo) (ho : no ≤ 1048576) :
    Calls Try.prog 36 #[.agg #[.slice aL nL cL, .slice aV nV cV], .agg #[.int .i64 wd, .int .i64 sl, .int .i64 wt], .slice ao no co, .int .i64 level] w fun e w' => e = .returned (.tuple #[.int .i64 (lsZ xL xV wd sl wt xo level).1, .int .i64 (lsZ xL xV wd sl wt xo level).2]) ∧ Below w.heap.size w w' := by
  have lo := ro.len
  have LO := hd lo
  clear lo
  obtain ⟨R, hR⟩ : ∃ R, lsZ xL xV wd sl wt xo level = R := ⟨_, rfl⟩
  have hR' := hR
  unfold lsZ at hR'
  obtain ⟨c, hc⟩ : ∃ c, bcZ xL xV wd sl wt xo (lvB level) = c := ⟨_, rfl⟩
  have HC := hd hc
  rw [hc] at hR'
  rw [hR]
  have HR := hd hR'
  clear hR hc hR'
  go_enter Try.func36, Try.ntmps36
  go_upto_region 1 with fail
  obtain ⟨ga, gb, dd⟩ := two_blk2 w (cvC aL nL cL aV nV cV) (brC wd sl wt)
  generalize (w.alloc (cvC aL nL cL aV nV cV)).alloc (brC wd sl wt) = W1 at ga gb dd ⊢
  have k2 := blw_cell (blk_cell gb 0)
  have k3 := blw_cell (blk_cell gb 1)
  have k4 := blw_cell (blk_cell gb 2)
  have RL := hd (rL.below dd)
  have RV := hd (rV.below dd)
  have RO := hd (ro.below dd)
  have GA := hd ga
  have GB := hd gb
  have lA := blk_lt ga
  clear ga gb
  refine wp_region_blw (by kernel_rfl) (by kernel_rfl) ?_
  repeat (go_big_quiet_step (first | (go_at_call 77; with_reducible exact blw_same (l02Level_calls _ _)) | (go_at_call 86; with_reducible exact blw_of ((l12List_calls _ aL nL cL xL aV nV cV xV wd sl wt _ _ _ xo _ _ (blk_below GA.out (Blw.out _) lA) (RL.out.below (Blw.out _)) hL (RV.out.below (Blw.out _)) hV (RO.out.below (Blw.out _)) ho).mono fun _ _ h => ⟨h.1.trans (ret_int HC.out), h.2⟩))))
  refine wpQuiet_nil ?_
  rintro _ ⟨D, rfl⟩
  have d1 := bnext dd D.out (Nat.le_refl _)
  have ga1 := blk_below GA.out D.out lA
  have gb1 := blk_below GB.out D.out (blk_lt GB.out)
  clear k2 k3 k4 GA GB dd RL RV RO lA
  by_cases hz : c = 0
  · subst hz
    obtain ⟨o1, o2, -, o3⟩ := bcZ_0 HC.out
    have OK := hd (And.intro o1 o2)
    have HV := hd o3
    clear o1 o2 o3 HC
    have HRZ : Hid (∀ {o}, findK (fun m => decide (lvZ xL xV (bAt xL xV sl xo (cstS (m : Int)) (wd, wt) xo.length).2 ≤ level)) 1001 = o → R = optZ o 10) := hd (fun h => by have := HR.out; rw [h] at this; exact this.symm)
    clear HR
    have GA := hd ga1
    have GB := hd gb1
    clear ga1 gb1
    go_wp2_with fail
    go_loopw [11] (fun i wr => ∃ m : Nat, m ≤ 1001 ∧ i = .int .i64 m ∧ (∀ j, j < m → decide (lvZ xL xV (bAt xL xV sl xo (cstS (j : Int)) (wd, wt) xo.length).2 ≤ level) = false) ∧ wr.heap[w.heap.size]? = some (cvC aL nL cL aV nV cV) ∧ wr.heap[w.heap.size + 1]? = some (brC wd sl wt) ∧ Below w.heap.size w wr) (fun i _ => 1001 - (intOf i).toNat)
    case atStart => exact ⟨0, by omega, rfl, fun j hj => absurd hj (Nat.not_lt_zero _), GA.out, GB.out, d1⟩
    case round =>
      clear d1 GA GB
      obtain ⟨m, hm, rfl, hle, hgA, hgB, hb⟩ := hrel
      have HLE := hd hle
      clear hle
      by_cases hm1 : m ≤ 1000
      · have hs0 : (0 : Int) ≤ (m : Int) := by omega
        have hs1 : (m : Int) ≤ 1000 := by omega
        have k2 := blk_cell hgB 0
        have k3 := blk_cell hgB 1
        have k4 := blk_cell hgB 2
        have HGA := hd hgA
        have HGB := hd hgB
        clear hgA hgB
        go_wp2_with fail
        refine (l12Dry_calls _ aL nL cL xL aV nV cV xV wd sl wt _ _ _ xo level m _ HGA.out (rL.below hb) hL (rV.below hb) hV (ro.below hb) ho OK.out.1 OK.out.2 hs0 hs1).mono ?_
        rintro e w4 ⟨he, b4⟩
        have hgA := blk_below HGA.out b4 (blk_lt HGA.out)
        have hgB := blk_below HGB.out b4 (blk_lt HGB.out)
        have hb4 := bnext hb b4 (Nat.le_refl _)
        have HGA' := hd hgA
        have HGB' := hd hgB
        clear k2 k3 k4 HGA HGB b4 hb hgA hgB
        cases ht : decide (lvZ xL xV (bAt xL xV sl xo (cstS (m : Int)) (wd, wt) xo.length).2 ≤ level)
        · rw [ht] at he
          subst he
          have HLE' : Hid (∀ j, j < m + 1 → decide (lvZ xL xV (bAt xL xV sl xo (cstS (j : Int)) (wd, wt) xo.length).2 ≤ level) = false) := hd (fun j hj => by
            rcases Nat.lt_or_eq_of_le (Nat.le_of_lt_succ hj) with hl | rfl
            · exact HLE.out j hl
            · exact ht)
          clear ht
          go_wp2_with fail
          go_roundw
          case rel => exact ⟨m + 1, by omega, by go_num, HLE'.out, HGA'.out, HGB'.out, hb4⟩
          case measure => simp [intOf]; omega
        · rw [ht] at he
          subst he
          have FF := hd (HRZ.out (findK_some (i := m) (by omega) ht (fun j hj => HLE.out j hj)))
          clear ht
          go_wp2_with fail
          go_ret2
          exact ⟨ret_ints (by rw [FF.out]; rfl) (by rw [FF.out]; rfl), hb4⟩
      · obtain rfl : m = 1001 := by omega
        have FF := hd (HRZ.out (findK_none HLE.out))
        clear hgA hgB
        go_wp2_with fail
        go_ret2
        exact ⟨ret_ints (by rw [FF.out]; rfl) (by rw [FF.out]; rfl), hb⟩
  · have FF : Hid (R = (0, c)) := hd (by have := HR.out; rw [if_neg hz] at this; exact this.symm)
    clear ga1 gb1 HR
    go_wp2_with fail
    go_ret2
    exact ⟨ret_ints (by rw [FF.out]) (by rw [FF.out]), d1⟩
end Go.Proofs.Ytieomdjcnaaopaa
