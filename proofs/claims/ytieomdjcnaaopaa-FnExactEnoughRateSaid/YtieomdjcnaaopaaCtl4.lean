/- Control: EnoughRate. -/
import Derived.Test.YtieomdjcnaaopaaCtl3
import Derived.Test.YtieomdjcnaaopaaHtl
import Derived.Deep.RegionHeld3
import Derived.Deep.DeepCutAuto
namespace Go.Proofs.Ytieomdjcnaaopaa
open Go.RowKit
set_option linter.unusedVariables false

def erZ (ls vs : List Int) (on off v : Int) (rs xs : List Int) (level : Int) : Int × Int :=
  if ctZ ls vs (swB on off) v xs (rs.all rtB && (lvB level && decide (rs.length ≤ 12))) = 0 then optZ (findK (fun i => kpB ls vs on off v (at0 rs i) xs level) rs.length) 3 else (0, ctZ ls vs (swB on off) v xs (rs.all rtB && (lvB level && decide (rs.length ≤ 12))))
set_option maxRecDepth 100000 in
set_option maxHeartbeats 1000000 in
theorem EnoughRate_calls (aL : Option Addr) (nL cL : Nat) (xL : List Int) (aV : Option Addr) (nV cV : Nat) (xV : List Int) (on off v : Int) (ar : Option Addr) (nr cr : Nat) (xr : List Int) (ax : Option Addr) (nx cx : Nat) (xs : List Int) (level : Int) (w : World) (rL : RdInt64 w aL nL xL) (hL : nL ≤ 1048576) (rV : RdInt64 w aV nV xV) (hV : nV ≤ 1048576) (rr : RdInt64 w ar nr xr) (hr : nr ≤ 1048576) (rx : RdInt64 w ax nx xs) (hx : nx ≤ 1048576) :
    Calls Try.prog 30 #[.agg #[.slice aL nL cL, .slice aV nV cV], .agg #[.int .i64 on, .int .i64 off], .int .i64 v, .slice ar nr cr, .slice ax nx cx, .int .i64 level] w fun e w' => e = .returned (.tuple #[.int .i64 (erZ xL xV on off v xr xs level).1, .int .i64 (erZ xL xV on off v xr xs level).2]) ∧ Below w.heap.size w w' := by
  have LR := hd rr.len
  have hoth := ctZ_other xL xV (swB on off) v xs (xr.all rtB) (lvB level && decide (xr.length ≤ 12))
  obtain ⟨c, hc⟩ : ∃ c, ctZ xL xV (swB on off) v xs (xr.all rtB) = c := ⟨_, rfl⟩
  have HC := hd hc
  obtain ⟨R, hR⟩ : ∃ R, erZ xL xV on off v xr xs level = R := ⟨_, rfl⟩
  have hR' := hR
  unfold erZ at hR'
  rw [hc] at hoth
  rw [hoth] at hR'
  have HR := hd hR'
  rw [hR]
  clear hc hR hR' hoth
  go_enter Try.func30, Try.ntmps30
  go_upto_region 1 with fail
  obtain ⟨ga, gb, dd⟩ := two_blk2 w (cvC aL nL cL aV nV cV) (swC on off)
  generalize (w.alloc (cvC aL nL cL aV nV cV)).alloc (swC on off) = W1 at ga gb dd ⊢
  have k0 := blk_cell ga 0
  have k1 := blk_cell ga 1
  have k2 := blk_cell gb 0
  have k3 := blk_cell gb 1
  go_wp2_with fail
  have q1 := heap_alloc_new W1 (swC on off)
  have d0 := dd.alloc dd.size (swC on off)
  have ga0 := blk_alloc ga (swC on off)
  have gb0 := blk_alloc gb (swC on off)
  refine (controlCode_calls aL nL cL xL aV nV cV xV _ _ _ [(on, off)] v _ _ _ xr _ _ _ xs _ (rL.below d0) hL (rV.below d0) hV (rd_oneSw q1) (by decide) (rr.below d0) hr (rx.below d0) hx).mono ?_
  rintro e w1 ⟨he, b1⟩
  have d1 := bnext d0 b1 (Nat.le_refl _)
  have ga1 := blk_below ga0 b1 (blk_lt ga0)
  have gb1 := blk_below gb0 b1 (blk_lt gb0)
  clear k0 k1 k2 k3 ga gb ga0 gb0 q1 b1 dd d0
  rw [one_all, show swP (on, off) = swB on off from rfl, HC.out] at he
  by_cases hz : c = 0
  · subst hz
    subst he
    have OK := hd (ctZ_0 HC.out)
    cases hlv : lvB level
    · have HV := hd hlv
      have FF : Hid (R = (0, 2)) := hd (by have := HR.out; rw [hlv] at this; exact this.symm)
      clear hlv ga1 gb1
      go_wp2_with (go_at_call 80; refine (ValidLevel_callsB HV.out _).mono ?_; rintro e w' ⟨rfl, rfl⟩)
      go_ret2
      exact ⟨ret_ints (by rw [FF.out]) (by rw [FF.out]), d1⟩
    · have HV := hd hlv
      by_cases h12 : (nr : Int) ≤ 12
      · have HRZ : Hid (∀ {o}, findK (fun i => kpB xL xV on off v (at0 xr i) xs level) xr.length = o → R = optZ o 3) := hd (fun h => by
          have := HR.out
          rw [hlv, show decide (xr.length ≤ 12) = true by rw [LR.out]; simp; omega, h] at this
          exact this.symm)
        have GA := hd ga1
        have GB := hd gb1
        clear hlv ga1 gb1 HR
        go_wp2_with (go_at_call 80; refine (ValidLevel_callsB HV.out _).mono ?_; rintro e w' ⟨rfl, rfl⟩)
        go_loopw [39] (fun i wr => ∃ k : Nat, k ≤ nr ∧ i = .int .i64 k ∧ (∀ j, j < k → kpB xL xV on off v (at0 xr j) xs level = false) ∧ wr.heap[w.heap.size]? = some (cvC aL nL cL aV nV cV) ∧ wr.heap[w.heap.size + 1]? = some (swC on off) ∧ Below w.heap.size w wr) (fun i _ => nr - (intOf i).toNat)
        case atStart => exact ⟨0, Nat.zero_le _, rfl, fun j hj => absurd hj (Nat.not_lt_zero _), GA.out, GB.out, d1⟩
        case round =>
          clear GA GB d1
          obtain ⟨k, hk, rfl, hle, hgA, hgB, hb⟩ := hrel
          have HLE := hd hle
          have HGA := hd hgA
          have HGB := hd hgB
          have k0 := blk_cell hgA 0
          have k1 := blk_cell hgA 1
          have k2 := blk_cell hgB 0
          have k3 := blk_cell hgB 1
          clear hle hgA hgB
          by_cases hlt : k < nr
          · obtain ⟨bo, oo, f0, rfl, hbl, hx0, hc0⟩ := getInt64 (rr.below hb) hlt
            have HF := hd (all_at OK.out.2.1 hx0)
            have HA := hd (at0_get hx0)
            clear hx0
            obtain ⟨b, hbv⟩ : ∃ b, kpB xL xV on off v f0 xs level = b := ⟨_, rfl⟩
            have HB := hd hbv
            clear hbv
            go_wp2_with fail
            refine (keeps_calls aL nL cL xL aV nV cV xV on off v f0 _ _ _ xs level _ (rL.below hb) hL (rV.below hb) hV (rx.below hb) hx OK.out.1.1 OK.out.2.2.1.1 OK.out.2.2.1.2 HF.out OK.out.2.2.2.1).mono ?_
            rintro e w2 ⟨A, m, c, he, ho, hm, b2⟩
            rw [HB.out] at he
            subst he
            have hgA := blk_below HGA.out b2 (blk_lt HGA.out)
            have hgB := blk_below HGB.out b2 (blk_lt HGB.out)
            have HGA' := hd hgA
            have HGB' := hd hgB
            have hb2 := bnext hb b2 (Nat.le_refl _)
            clear k0 k1 k2 k3 hc0 hgA hgB HGA HGB ho hm b2 hb
            cases b
            · have HLE' : Hid (∀ j, j < k + 1 → kpB xL xV on off v (at0 xr j) xs level = false) := hd (fun j hj => by
                rcases Nat.lt_or_eq_of_le (Nat.le_of_lt_succ hj) with hl | rfl
                · exact HLE.out j hl
                · rw [HA.out]; exact HB.out)
              go_wp2_with fail
              go_roundw
              case rel => exact ⟨k + 1, by omega, by go_num, HLE'.out, HGA'.out, HGB'.out, hb2⟩
              case measure => simp [intOf]; omega
            · have FF := hd (HRZ.out (findK_some (i := k) (by rw [LR.out]; exact hlt) (by rw [HA.out]; exact HB.out) HLE.out))
              go_wp2_with fail
              go_ret2
              exact ⟨ret_ints (by rw [FF.out]; rfl) (by rw [FF.out]; rfl), hb2⟩
          · obtain rfl : k = nr := by omega
            have FF := hd (HRZ.out (findK_none (fun j hj => HLE.out j (by rw [LR.out] at hj; exact hj))))
            clear k0 k1 k2 k3
            go_wp2_with fail
            go_ret2
            exact ⟨ret_ints (by rw [FF.out]; rfl) (by rw [FF.out]; rfl), hb⟩
      · have h12' : (12 : Int) < nr := by omega
        have FF : Hid (R = (0, 2)) := hd (by
          have := HR.out
          rw [hlv, show decide (xr.length ≤ 12) = false by rw [LR.out]; simp; omega] at this
          exact this.symm)
        clear hlv ga1 gb1
        go_wp2_with (go_at_call 80; refine (ValidLevel_callsB HV.out _).mono ?_; rintro e w' ⟨rfl, rfl⟩)
        go_ret2
        exact ⟨ret_ints (by rw [FF.out]) (by rw [FF.out]), d1⟩
  · subst he
    have FF : Hid (R = (0, c)) := hd (by rw [← HR.out, if_neg hz, if_neg hz])
    clear ga1 gb1
    go_wp2_with fail
    go_ret2
    exact ⟨ret_ints (by rw [FF.out]) (by rw [FF.out]), d1⟩
set_option maxRecDepth 100000 in
set_option maxHeartbeats 1000000 in
theorem specEnoughRate_calls (aL : Option Addr) (nL cL : Nat) (xL : List Int) (aV : Option Addr) (nV cV : Nat) (xV : List Int) (on off v : Int) (ar : Option Addr) (nr cr : Nat) (xr : List Int) (ax : Option Addr) (nx cx : Nat) (xs : List Int) (level : Int) (w : World) (rL : RdInt64 w aL nL xL) (hL : nL ≤ 1048576) (rV : RdInt64 w aV nV xV) (hV : nV ≤ 1048576) (rr : RdInt64 w ar nr xr) (hr : nr ≤ 1048576) (rx : RdInt64 w ax nx xs) (hx : nx ≤ 1048576) :
    Calls Try.prog 29 #[.agg #[.slice aL nL cL, .slice aV nV cV], .agg #[.int .i64 on, .int .i64 off], .int .i64 v, .slice ar nr cr, .slice ax nx cx, .int .i64 level] w fun e w' => e = .returned (.tuple #[.int .i64 (erZ xL xV on off v xr xs level).1, .int .i64 (erZ xL xV on off v xr xs level).2]) ∧ Below w.heap.size w w' := by
  have LR := hd rr.len
  obtain ⟨R, hR⟩ : ∃ R, erZ xL xV on off v xr xs level = R := ⟨_, rfl⟩
  have HR := hd hR
  rw [hR]
  clear hR
  go_enter Try.func29, Try.ntmps29
  go_upto_region 1 with fail
  obtain ⟨ga, gb, dd⟩ := two_blk2 w (cvC aL nL cL aV nV cV) (swC on off)
  generalize (w.alloc (cvC aL nL cL aV nV cV)).alloc (swC on off) = W1 at ga gb dd ⊢
  have k0 := blk_cell ga 0
  have k1 := blk_cell ga 1
  go_wp2_with fail
  refine (specValidCurve_calls aL nL cL xL aV nV cV xV _ (rL.below dd) hL (rV.below dd) hV).mono ?_
  rintro e w1 ⟨he, b1⟩
  have d1 := bnext dd b1 (Nat.le_refl _)
  have ga1 := blk_below ga b1 (blk_lt ga)
  have gb1 := blk_below gb b1 (blk_lt gb)
  clear k0 k1 ga gb b1 dd
  have k2 := blk_cell gb1 0
  have k3 := blk_cell gb1 1
  have GA := hd ga1
  have GB := hd gb1
  clear ga1 gb1
  cases hcv : cvB xL xV
  · rw [hcv] at he
    subst he
    have FF : Hid (R = (0, 1)) := hd (by rw [← HR.out]; unfold erZ; rw [ctZ_cv (by rw [hcv]; rfl)]; rfl)
    clear hcv
    go_wp2_with fail
    go_ret2
    exact ⟨ret_ints (by rw [FF.out]) (by rw [FF.out]), d1⟩
  · rw [hcv] at he
    subst he
    have HCV := hd hcv
    clear hcv
    cases hsw : swB on off
    · have FF : Hid (R = (0, 1)) := hd (by rw [← HR.out]; unfold erZ; rw [ctZ_cv (by rw [hsw, Bool.and_false])]; rfl)
      have HSW := hd hsw
      clear hsw
      go_wp2_with fail
      refine (l14Ok_b on off HSW.out _).mono ?_
      rintro e w2 ⟨rfl, b2⟩
      go_wp2_with fail
      go_ret2
      exact ⟨ret_ints (by rw [FF.out]) (by rw [FF.out]), bnext d1 b2 (Nat.le_refl _)⟩
    · have HSW := hd hsw
      clear hsw
      go_wp2_with fail
      refine (l14Ok_b on off HSW.out _).mono ?_
      rintro e w2 ⟨rfl, b2⟩
      have d2 := bnext d1 b2 (Nat.le_refl _)
      have GA2 := hd (blk_below GA.out b2 (blk_lt GA.out))
      have GB2 := hd (blk_below GB.out b2 (blk_lt GB.out))
      clear k2 k3 GA GB d1 b2
      obtain ⟨fin, hfin⟩ : ∃ b, (lvB level && decide (nr ≤ 12)) = b := ⟨_, rfl⟩
      have HFIN := hd hfin
      have hcase : (lvB level = false ∧ fin = false) ∨ (lvB level = true ∧ (nr : Int) ≤ 12 ∧ fin = true) ∨ (lvB level = true ∧ (12 : Int) < nr ∧ fin = false) := by
        rw [← hfin]
        cases lvB level
        · exact .inl ⟨rfl, rfl⟩
        · by_cases h : nr ≤ 12
          · exact .inr (.inl ⟨rfl, by omega, by simp [h]⟩)
          · exact .inr (.inr ⟨rfl, by omega, by simp; omega⟩)
      clear hfin
      go_upto_region 3 with fail
      go_cut [14] (fun s14 wx => s14 = .bool fin ∧ w2 = wx)
      case first =>
        rcases hcase with ⟨hlv, hf⟩ | ⟨hlv, h12, hf⟩ | ⟨hlv, h12, hf⟩
        all_goals
          have HV := hd hlv
          have HF0 := hd hf
          clear hlv hf
          go_wp2_with (go_at_call 77; refine (l02Level_calls _ _).mono ?_; rintro e w9 ⟨he, rfl⟩; rw [HV.out] at he; subst he)
          go_meet
          exact ⟨by rw [HF0.out]; first | done | rfl | (congr 1; simp; omega), rfl⟩
      case rest =>
      obtain ⟨rfl, hw⟩ := hcut
      subst hw
      clear hcase
      go_wp2_with fail
      go_loopw [14, 15] (fun f i wr => ∃ k : Nat, k ≤ nr ∧ i = .int .i64 k ∧ f = .bool (fin && (xr.take k).all rtB) ∧ Below w2.heap.size w2 wr) (fun _ i _ => nr - (intOf i).toNat)
      case atStart => exact ⟨0, Nat.zero_le _, rfl, by simp, Below.refl _ _⟩
      case round =>
      obtain ⟨k, hk, rfl, rfl, hb⟩ := hrel
      obtain ⟨f, hf⟩ : ∃ f : Bool, (fin && (xr.take k).all rtB) = f := ⟨_, rfl⟩
      have HF := hd hf
      rw [hf]
      clear hf
      by_cases hlt : k < nr
      · obtain ⟨bo, oo, f0, rfl, hbl, hx0, hc0⟩ := getInt64 ((rr.below d2).below hb) hlt
        have HN : Hid ((fin && (xr.take (k + 1)).all rtB) = (f && rtB f0)) := hd (by rw [take_next hx0, List.all_append, ← HF.out]; simp [Bool.and_assoc])
        clear hx0
        cases f
        · have HN' : Hid ((fin && (xr.take (k + 1)).all rtB) = false) := hd (by rw [HN.out, Bool.false_and])
          go_wp2_with fail
          go_roundw
          case rel => exact ⟨k + 1, by omega, by go_num, by rw [HN'.out], hb⟩
          case measure => simp [intOf]; omega
        · have HN' : Hid ((fin && (xr.take (k + 1)).all rtB) = rtB f0) := hd (by rw [HN.out, Bool.true_and])
          go_wp2_with (go_at_call 76; refine (l14Rate_calls _ _).mono ?_; rintro e w' ⟨rfl, rfl⟩)
          go_roundw
          case rel => exact ⟨k + 1, by omega, by go_num, by rw [HN'.out], hb⟩
          case measure => simp [intOf]; omega
      · obtain rfl : nr = k := by omega
        have HFF : Hid (f = (fin && xr.all rtB)) := hd (by rw [← HF.out, List.take_of_length_le (by rw [LR.out]; exact Nat.le_refl _)])
        obtain ⟨w3, hw3⟩ : ∃ W, W = wr := ⟨_, rfl⟩
        subst hw3
        have d3 := bnext d2 hb (Nat.le_refl _)
        have GA3 := hd (blk_below GA2.out hb (blk_lt GA2.out))
        have GB3 := hd (blk_below GB2.out hb (blk_lt GB2.out))
        go_wp2_with fail
        refine (l14Code_calls _ aL nL cL xL aV nV cV xV v _ _ _ xs f _ GA3.out (rL.below d3) hL (rV.below d3) hV (rx.below d3) hx HCV.out).mono ?_
        rintro e w4 ⟨he, b4⟩
        have hR' := HR.out
        unfold erZ at hR'
        have hfe : (xr.all rtB && (lvB level && decide (xr.length ≤ 12))) = f := by rw [HFF.out, ← HFIN.out, LR.out, Bool.and_comm]
        rw [HSW.out, hfe] at hR'
        obtain ⟨c, hc⟩ : ∃ c, ctZ xL xV true v xs f = c := ⟨_, rfl⟩
        rw [hc] at hR' he
        have HC := hd hc
        have HR' := hd hR'
        have HFE := hd hfe
        subst he
        have d4 := bnext d3 b4 (Nat.le_refl _)
        have GA4 := hd (blk_below GA3.out b4 (blk_lt GA3.out))
        have GB4 := hd (blk_below GB3.out b4 (blk_lt GB3.out))
        clear hc hR' hfe GA2 GB2 GA3 GB3 hb d2 d3 b4
        by_cases hz : c = 0
        · subst hz
          have OK := hd (ctZ_0 HC.out)
          have HALL : Hid (xr.all rtB = true) := hd (by have h1 := OK.out.2.1; have h2 := HFE.out; rw [h1] at h2; exact (Bool.and_eq_true_iff.1 h2).1)
          have HRZ : Hid (∀ {o}, findK (fun i => kpB xL xV on off v (at0 xr i) xs level) xr.length = o → R = optZ o 3) := hd (fun h => by have := HR'.out; rw [if_pos rfl, h] at this; exact this.symm)
          go_wp2_with fail
          go_loopw [17] (fun i wr => ∃ k : Nat, k ≤ nr ∧ i = .int .i64 k ∧ (∀ j, j < k → kpB xL xV on off v (at0 xr j) xs level = false) ∧ wr.heap[w.heap.size]? = some (cvC aL nL cL aV nV cV) ∧ wr.heap[w.heap.size + 1]? = some (swC on off) ∧ Below w.heap.size w wr) (fun i _ => nr - (intOf i).toNat)
          case atStart => exact ⟨0, Nat.zero_le _, rfl, fun j hj => absurd hj (Nat.not_lt_zero _), GA4.out, GB4.out, d4⟩
          case round =>
          clear GA4 GB4 d4 hlt hk
          obtain ⟨k, hk, rfl, hle, hgA, hgB, hb⟩ := hrel
          have HLE := hd hle
          have HGA := hd hgA
          have HGB := hd hgB
          clear hle hgA hgB
          by_cases hlt : k < nr
          · obtain ⟨bo, oo, f0, rfl, hbl, hx0, hc0⟩ := getInt64 (rr.below hb) hlt
            have HF := hd (all_at HALL.out hx0)
            have HA := hd (at0_get hx0)
            clear hx0
            obtain ⟨b, hbv⟩ : ∃ b, kpB xL xV on off v f0 xs level = b := ⟨_, rfl⟩
            have HB := hd hbv
            clear hbv
            have k2 := blk_cell HGB.out 0
            have k3 := blk_cell HGB.out 1
            have lA := blk_lt HGA.out
            have lB := blk_lt HGB.out
            have i1 : (0 : Int) ≤ (k : Int) := by omega
            have i2 : (k : Int) < (nr : Int) := by omega
            have RL := hd (rL.below hb)
            have RV := hd (rV.below hb)
            have RX := hd (rx.below hb)
            go_upto_region 14 with fail
            go_region_held3 (fun w' => w'.cell? ⟨w.heap.size + 1, 0, none⟩ = some (.int .i64 on) ∧ w'.cell? ⟨w.heap.size + 1, 1, none⟩ = some (.int .i64 off) ∧ w'.cell? ⟨bo, oo + k, none⟩ = some (.int .i64 f0)) (first | exact ⟨r0, r1, r2⟩ | go_keep)
              (first | (go_at_call 78; refine (l14Keeps_calls _ aL nL cL xL aV nV cV xV on off v f0 _ _ _ xs level _ (blk_below HGA.out (by go_grown) lA) (RL.out.below (by go_grown)) hL (RV.out.below (by go_grown)) hV (RX.out.below (by go_grown)) hx OK.out.1.1 OK.out.2.2.1.1 OK.out.2.2.1.2 HF.out OK.out.2.2.2.1).mono ?_; rintro e w9 ⟨A, m, c, he, ho, hm, b9⟩; rw [HB.out] at he; subst he; have b9w : Below wr.heap.size wr w9 := Below.trans (by go_grown) (b9.mono (by simp)); have r0 := (b9w.cell (p := ⟨w.heap.size + 1, 0, none⟩) lB).trans k2; have r1 := (b9w.cell (p := ⟨w.heap.size + 1, 1, none⟩) lB).trans k3; have r2 := (b9w.cell (p := ⟨bo, oo + k, none⟩) hbl).trans hc0))
            have hgA := blk_below HGA.out b9w lA
            have hgB := blk_below HGB.out b9w lB
            have HGA' := hd hgA
            have HGB' := hd hgB
            have hb2 := bnext hb b9w (Nat.le_refl _)
            clear k2 k3 hc0 hgA hgB HGA HGB ho hm b9 b9w hb RL RV RX r0 r1 r2
            cases b
            · have HLE' : Hid (∀ j, j < k + 1 → kpB xL xV on off v (at0 xr j) xs level = false) := hd (fun j hj => by
                rcases Nat.lt_or_eq_of_le (Nat.le_of_lt_succ hj) with hl | rfl
                · exact HLE.out j hl
                · rw [HA.out]; exact HB.out)
              go_wp2_with fail
              go_roundw
              case rel => exact ⟨k + 1, by omega, by go_num, HLE'.out, HGA'.out, HGB'.out, hb2⟩
              case measure => simp [intOf]; omega
            · have FF := hd (HRZ.out (findK_some (i := k) (by rw [LR.out]; exact hlt) (by rw [HA.out]; exact HB.out) HLE.out))
              go_wp2_with fail
              go_ret2
              exact ⟨ret_ints (by rw [FF.out]; rfl) (by rw [FF.out]; rfl), hb2⟩
          · obtain rfl : k = nr := by omega
            have FF := hd (HRZ.out (findK_none (fun j hj => HLE.out j (by rw [LR.out] at hj; exact hj))))
            go_wp2_with fail
            go_ret2
            exact ⟨ret_ints (by rw [FF.out]; rfl) (by rw [FF.out]; rfl), hb⟩
        · have FF : Hid (R = (0, c)) := hd (by rw [← HR'.out, if_neg hz])
          clear GA4 GB4
          go_wp2_with fail
          go_ret2
          exact ⟨ret_ints (by rw [FF.out]) (by rw [FF.out]), d4⟩
end Go.Proofs.Ytieomdjcnaaopaa
