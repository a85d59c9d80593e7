/- CheapestPlan. -/
import Derived.Test.YthabjlhfidcnoaaLp
import Derived.Deep.DeepCutAuto
namespace Go.Proofs.Ythabjlhfidcnoaa
open Go.RowKit
set_option linter.unusedVariables false

def pwF (S L H C : Int) (xI ys : List Int) : List Int × Int := if 0 ≤ nx (rowAt L H C xI ys 0) S then (planF L H C xI ys S, 0) else ([], 3)
def chF (S L H C : Int) (xI xP : List Int) : List Int × Int := if vpB S L H C xI xP then pwF S L H C xI xP else ([], 1)
theorem pw_ok {S L H C : Int} {xI ys : List Int} (h : 0 ≤ nx (rowAt L H C xI ys 0) S) : pwF S L H C xI ys = (planF L H C xI ys S, 0) := by
  unfold pwF
  rw [if_pos h]
theorem pw_no {S L H C : Int} {xI ys : List Int} (h : ¬ 0 ≤ nx (rowAt L H C xI ys 0) S) : pwF S L H C xI ys = ([], 3) := by
  unfold pwF
  rw [if_neg h]
theorem ch_bad {S L H C : Int} {xI xP : List Int} (h : vpB S L H C xI xP = false) : chF S L H C xI xP = ([], 1) := by
  unfold chF
  rw [h]
  rfl
theorem ch_good {S L H C : Int} {xI xP : List Int} (h : vpB S L H C xI xP = true) : chF S L H C xI xP = pwF S L H C xI xP := by
  unfold chF
  rw [h]
  rfl
theorem planWith_calls (S L H C : Int) (aI : Option Addr) (nI cI : Nat) (xI : List Int) (aP : Option Addr) (nP cP : Nat) (xP : List Int) (b : Option Addr) (d : Nat) (ys : List Int) (w : World) (rI : RdInt64 w aI nI xI) (hI : nI ≤ 1048576) (rP : RdInt64 w aP nP xP) (hP : nP ≤ 1048576) (rY : RdInt64 w b nI ys) (hv : VP S L H C xI xP) (hpr : ys.all prB = true) :
    Calls Try.prog 64 #[.agg #[.int .i64 S, .int .i64 L, .int .i64 H, .int .i64 C, .slice aI nI cI, .slice aP nP cP], .slice b nI d] w fun e w' => ∃ A m c, e = .returned (.tuple #[.slice A m c, .int .i64 (pwF S L H C xI ys).2]) ∧ Own 1 ci 2 w' w.heap.size w'.heap.size A m c (pwF S L H C xI ys).1 ∧ m ≤ 1048576 ∧ Below w.heap.size w w' := by
  go_enter Try.func64, Try.ntmps64
  go_wp2_with fail
  refine (leastPlan_calls S L H C aI nI cI xI aP nP cP xP b d ys _ (rI.alloc _) hI (rP.alloc _) hP (rY.alloc _) hv hpr).mono ?_
  rintro e w1 ⟨A, m, c, he, ho, hm, b1⟩
  have d1 := bbox1 b1
  by_cases h : 0 ≤ nx (rowAt L H C xI ys 0) S
  · have F := hd (pw_ok h)
    rw [lp_ok h] at he ho
    clear h
    subst he
    go_wp2_with fail
    go_ret2
    exact ⟨A, m, c, ret_sli (by rw [F.out]), by rw [F.out]; exact ho.mono (by simp) (Nat.le_refl _), hm, d1⟩
  · have F := hd (pw_no h)
    rw [lp_no h] at he ho
    clear h
    subst he
    go_wp2_with fail
    go_ret2
    exact ⟨_, 0, 0, ret_sli (by rw [F.out]), by rw [F.out]; exact Own.empty w1 _ rfl d1.size (by simp), by omega, d1.alloc d1.size _⟩
theorem CheapestPlan_calls (S L H C : Int) (aI : Option Addr) (nI cI : Nat) (xI : List Int) (aP : Option Addr) (nP cP : Nat) (xP : List Int) (w : World) (rI : RdInt64 w aI nI xI) (hI : nI ≤ 1048576) (rP : RdInt64 w aP nP xP) (hP : nP ≤ 1048576) :
    Calls Try.prog 39 #[.agg #[.int .i64 S, .int .i64 L, .int .i64 H, .int .i64 C, .slice aI nI cI, .slice aP nP cP]] w fun e w' => ∃ A m c, e = .returned (.tuple #[.slice A m c, .int .i64 (chF S L H C xI xP).2]) ∧ Own 1 ci 2 w' w.heap.size w'.heap.size A m c (chF S L H C xI xP).1 ∧ m ≤ 1048576 ∧ Below w.heap.size w w' := by
  have LI := hd rI.len
  have LP := hd rP.len
  go_enter Try.func39, Try.ntmps39
  go_wp2_with fail
  refine (ValidPumping_calls S L H C aI nI cI xI aP nP cP xP _ (rI.alloc _) hI (rP.alloc _) hP).mono ?_
  rintro e w1 ⟨he, b1⟩
  have hq := box_q b1
  have d1 := bbox1 b1
  clear b1
  cases hv : vpB S L H C xI xP
  · rw [hv] at he
    subst he
    have F := hd (ch_bad hv)
    clear hv
    go_wp2_with fail
    go_ret2
    exact ⟨_, 0, 0, ret_sli (by rw [F.out]), by rw [F.out]; exact Own.empty w1 _ rfl d1.size (by simp), by omega, d1.alloc d1.size _⟩
  · rw [hv] at he
    subst he
    have F := hd (ch_good hv)
    have V := hd (vp_iff.1 hv)
    have e7 : Hid (nP = nI) := hd (by have := V.out.len; rw [LI.out, LP.out] at this; exact this)
    clear hv
    obtain rfl := e7.out
    have k0 := blk_cell hq 0
    have k1 := blk_cell hq 1
    have k2 := blk_cell hq 2
    have k3 := blk_cell hq 3
    have k4 := blk_cell hq 4
    have k5 := blk_cell hq 5
    go_wp2_with fail
    refine (planWith_calls S L H C aI nP cI xI aP nP cP xP aP cP xP _ (rI.below d1) hI (rP.below d1) hP (rP.below d1) V.out V.out.pr).mono ?_
    rintro e w2 ⟨A, m, c, rfl, ho, hm, b2⟩
    have d2 := bnext d1 b2 (Nat.le_refl _)
    go_wp2_with fail
    go_ret2
    exact ⟨A, m, c, ret_sli (by rw [F.out]), by rw [F.out]; exact ho.mono d1.size (Nat.le_refl _), hm, d2⟩
set_option maxRecDepth 100000 in
set_option maxHeartbeats 1500000 in
theorem specCheapestPlan_calls (S L H C : Int) (aI : Option Addr) (nI cI : Nat) (xI : List Int) (aP : Option Addr) (nP cP : Nat) (xP : List Int) (w : World) (rI : RdInt64 w aI nI xI) (hI : nI ≤ 1048576) (rP : RdInt64 w aP nP xP) (hP : nP ≤ 1048576) :
    Calls Try.prog 38 #[.agg #[.int .i64 S, .int .i64 L, .int .i64 H, .int .i64 C, .slice aI nI cI, .slice aP nP cP]] w fun e w' => ∃ A m c, e = .returned (.tuple #[.slice A m c, .int .i64 (chF S L H C xI xP).2]) ∧ Own 1 ci 2 w' w.heap.size w'.heap.size A m c (chF S L H C xI xP).1 ∧ m ≤ 1048576 ∧ Below w.heap.size w w' := by
  have LI := hd rI.len
  have LY := hd rP.len
  cases hv : vpB S L H C xI xP
  · have F := hd (ch_bad hv)
    go_enter Try.func38, Try.ntmps38
    go_wp2_with fail
    refine (l15Ok_calls _ S L H C aI nI cI xI aP nP cP xP _ (heap_alloc_new w _) (rI.alloc _) hI (rP.alloc _) hP).mono ?_
    rintro e w1 ⟨he, b1⟩
    have d1 := bbox1 b1
    rw [hv] at he
    subst he
    clear hv
    go_wp2_with fail
    go_ret2
    exact ⟨none, 0, 0, ret_sli (by rw [F.out]), by rw [F.out]; exact Own.nil_, by omega, d1⟩
  · have FG := hd (ch_good hv)
    have hvv := vp_iff.1 hv
    obtain ⟨h, rfl⟩ : ∃ h : Nat, H = h := ⟨H.toNat, by have := hvv.l0; have := hvv.ls; have := hvv.sh; omega⟩
    obtain ⟨s, rfl⟩ : ∃ s : Nat, S = s := ⟨S.toNat, by have := hvv.l0; have := hvv.ls; omega⟩
    have v0 := hvv.l0
    have v1 := hvv.ls
    have v2 := hvv.sh
    have v3 := hvv.h1
    have v4 := hvv.c0
    have v5 := hvv.c1
    have HU := hd hvv.un
    have HPR := hd hvv.pr
    have HVP := hd hvv
    have v6 := hvv.n48
    have v7 := hvv.len
    rw [LI.out] at v6
    rw [LI.out, LY.out] at v7
    have HV7 := hd v7
    have HVB := hd hv
    clear hvv hv v7
    obtain ⟨i0, hi, hz0, hz1, hz2⟩ := info_parts infoInt64
    go_enter Try.func38, Try.ntmps38
    go_wp2_with fail
    refine (l15Ok_calls _ s L h C aI nI cI xI aP nP cP xP _ (heap_alloc_new w _) (rI.alloc _) hI (rP.alloc _) hP).mono ?_
    rintro e w0 ⟨he, b0⟩
    have hgb := box_q b0
    have d0 := bbox1 b0
    have s0 := b0.size
    simp only [World.size_alloc] at s0
    rw [HVB.out] at he
    subst he
    clear b0
    go_wp2_with fail
    refine (l15Costs_calls _ s L h C aI nI cI xI aP nP cP xP _ hgb (rI.below d0) hI (rP.below d0) hP HVP.out).mono ?_
    rintro e w1 ⟨g, rfl, hrt, b1⟩
    rw [Int.toNat_natCast] at hrt
    have hgb := blk_below hgb b1 (blk_lt hgb)
    have d1 := bnext d0 b1 (Nat.le_refl _)
    have s1 := b1.size
    clear b1
    have kb0 := blk_cell hgb 0
    obtain ⟨AU, cU, kU, rU⟩ := hrt.get (j := 0) (by omega)
    obtain ⟨bV, oV, zv, rfl, hblV, hzv, hcV⟩ := getInt64 rU (show s < h + 1 by omega)
    clear rU
    obtain ⟨z0, z1⟩ := rowAt_bd v5 HPR.out (by rw [LI.out]; exact v6) 0 hzv
    have hnv : nx (rowAt L h C xI xP 0) (s : Int) = zv := nx_get (by rw [Int.toNat_natCast]; exact hzv)
    clear hzv
    have q1 : (0 : Int) < (nI : Int) + 1 := by omega
    have q2 : (0 : Int) ≤ (s : Int) := by omega
    have q3 : (s : Int) < (h : Int) + 1 := by omega
    by_cases hzn : zv < 0
    · have F := hd (FG.out.trans (pw_no (S := s) (L := L) (H := h) (C := C) (xI := xI) (ys := xP) (by rw [hnv]; omega)))
      clear hnv
      go_wp2_with fail
      go_quiet (fail)
      generalize hD : w1.drewN _ = V5
      have d5 : Below w.heap.size w V5 := hD ▸ below_drewN d1 _
      clear hD hcV kU kb0
      go_wp2_with fail
      go_ret2
      exact ⟨none, 0, 0, ret_sli (by rw [F.out]), by rw [F.out]; exact Own.nil_, by omega, d5⟩
    · have F := hd (FG.out.trans (pw_ok (S := s) (L := L) (H := h) (C := C) (xI := xI) (ys := xP) (by rw [hnv]; omega)))
      have HN := hd hnv
      clear hnv
      go_wp2_with fail
      go_quiet (fail)
      generalize hD : w1.drewN _ = V5
      have d5 : Below w.heap.size w V5 := hD ▸ below_drewN d1 _
      have b15 : Below w1.heap.size w1 V5 := hD ▸ below_drewN (Below.refl _ _) _
      have hgb5 := blk_below hgb b15 (blk_lt hgb)
      have hrt5 := hrt.below b15
      have s5 := b15.size
      clear hD hcV kU kb0 hgb hrt d1 b15
      obtain ⟨gL, hgL⟩ : ∃ gL, gL = V5.heap.size := ⟨_, rfl⟩
      have he := Own.empty (E := 2) (sz := 1) (cs := ci) (L := gL) (U := V5.heap.size + 1) V5 #[] rfl (by omega) (by omega)
      have hgw : w.heap.size < gL := by omega
      have HE := hd he
      have HGL := hd hgL
      have HG5 := hd (blk_alloc hgb5 (.cells #[] 2))
      have HRT5 := hd hrt5
      have HBV5 : Hid (Below gL V5 (V5.alloc (.cells #[] 2))) := hd ((Below.refl _ _).alloc (by omega) _)
      have HD5 := hd (d5.alloc d5.size (.cells #[] 2))
      have hs6 : (V5.alloc (.cells #[] 2)).heap.size = V5.heap.size + 1 := by simp
      clear he hgL hgb5 hrt5
      go_upto_region 7 with fail
      generalize V5.alloc (.cells #[] 2) = W6 at HE HG5 HBV5 HD5 hs6 ⊢
      have kb0 := blk_cell HG5.out 0
      go_wp2_with fail
      clear kb0
      go_loopw [5, 6, 7] (fun v t i wr => ∃ k wn : Nat, ∃ acc : List Int, k ≤ nI ∧ L ≤ (wn : Int) ∧ wn ≤ h ∧ i = .int .i64 k ∧ t = .int .i64 wn ∧ ∃ A c, v = .slice A k c ∧ Own 1 ci 2 wr gL wr.heap.size A k c acc ∧ planF L h C xI xP s = acc ++ planF L h C (xI.drop k) (xP.drop k) (wn : Int) ∧ 0 ≤ nx (rowAt L h C xI xP k) (wn : Int) ∧ Below gL V5 wr ∧ wr.heap[w.heap.size]? = some (pmC s L h C aI nI cI aP nP cP) ∧ gL ≤ wr.heap.size ∧ Below w.heap.size w wr) (fun _ _ i _ => nI - (intOf i).toNat)
      case atStart => exact ⟨0, s, [], Nat.zero_le _, v1, by omega, rfl, rfl, _, 0, rfl, HE.out.mono (Nat.le_refl _) (by omega), rfl, by rw [HN.out]; omega, HBV5.out, HG5.out, by have := HGL.out; omega, HD5.out⟩
      case round =>
        clear HE HG5 HBV5 HD5 d5 s5
        obtain ⟨k, wn, acc, hk, hwL, hwH, rfl, rfl, A, c', rfl, ho, hac, hnx, hrt, hgb, hgl3, hb⟩ := hrel
        have HO := hd ho
        have HAC := hd hac
        have HNX := hd hnx
        have HBV := hd hrt
        have RT := hd (HRT5.out.below (by rw [← HGL.out]; exact hrt))
        have HGB := hd hgb
        have HB := hd hb
        obtain ⟨w3, hW⟩ : ∃ W, W = wr := ⟨_, rfl⟩
        subst hW
        have RI := hd (rI.below hb)
        have RY := hd (rP.below hb)
        have kb0 := blk_cell hgb 0
        have kb1 := blk_cell hgb 1
        have kb2 := blk_cell hgb 2
        have kb3 := blk_cell hgb 3
        have kb4 := blk_cell hgb 4
        have kb5 := blk_cell hgb 5
        have hs3 := hb.size
        have hl3 := blk_lt hgb
        clear ho hac hnx hrt hgb hb
        by_cases hlt : k < nI
        · have hltP : k < nP := by have := HV7.out; omega
          obtain ⟨x0, hx0⟩ : ∃ x, xI[k]? = some x := ⟨_, List.getElem?_eq_getElem (by rw [LI.out]; exact hlt)⟩
          obtain ⟨pr, hpr⟩ : ∃ x, xP[k]? = some x := ⟨_, List.getElem?_eq_getElem (by rw [LY.out]; exact hltP)⟩
          obtain ⟨hx00, hx01⟩ := unB_iff.1 (all_at_ HU.out hx0)
          obtain ⟨hp0, hp1⟩ := prB_iff.1 (all_at_ HPR.out hpr)
          have HX := hd hx0
          have HY := hd hpr
          clear hx0 hpr
          obtain ⟨u0, hu0, hpl, hin0, hz0', he0, hmin⟩ := plan_step v4 hp0 (show (wn : Int) ≤ (h : Int) by omega) HX.out HY.out HNX.out
          have HPL := hd hpl
          have HIN := hd hin0
          have HZ0 := hd hz0'
          have HE0 := hd he0
          have HMIN := hd hmin
          clear hpl hin0 hz0' he0 hmin
          go_wp2_with fail
          go_loopw [5, 6, 8] (fun v t i wr => ∃ u : Nat, u ≤ u0 ∧ v = .slice A k c' ∧ t = .int .i64 wn ∧ i = .int .i64 u ∧ Below w3.heap.size w3 wr) (fun _ _ i _ => u0 - (intOf i).toNat)
          case atStart => exact ⟨0, Nat.zero_le _, rfl, rfl, rfl, Below.refl _ _⟩
          case round =>
            clear kb0 kb1 kb2 kb3 kb4 kb5
            obtain ⟨u, hu, rfl, rfl, rfl, hb3⟩ := hrel
            have hgb := blk_below HGB.out hb3 (blk_lt HGB.out)
            have kb1 := blk_cell hgb 1
            have kb2 := blk_cell hgb 2
            have kb3 := blk_cell hgb 3
            have kb4 := blk_cell hgb 4
            have kb5 := blk_cell hgb 5
            clear hgb
            have T3 := RT.out.below hb3
            have hu00 : (0 : Int) ≤ (u : Int) := by omega
            have huC : (u : Int) ≤ C := by omega
            obtain ⟨bX, oX, x', rfl, hblX, hx, hcX⟩ := getInt64 ((RI.out).below hb3) hlt
            rw [HX.out] at hx
            obtain rfl := Option.some.inj hx
            clear hx
            have q2 : (0 : Int) ≤ (k : Int) := by omega
            have q3 : (k : Int) < (nI : Int) := by omega
            have q4 : (k : Int) < (nI : Int) + 1 := by omega
            cases hin : inB ((wn : Int) + x0 - u) L h
            · have hne : u < u0 := by
                rcases Nat.lt_or_eq_of_le hu with hlt2 | rfl
                · exact hlt2
                · rw [HIN.out] at hin; cases hin
              clear T3
              go_wp2_with fail
              go_quiet ((go_at_call 63; first | with_reducible exact Calls.quiet_of_same ((l00In_callsB hin' _).mono (fun _ _ h => ⟨h.1, h.2.symm⟩)) | with_reducible exact Calls.quiet_of_same ((l00In_callsB hin _).mono (fun _ _ h => ⟨h.1, h.2.symm⟩))))
              go_wp2_with fail
              all_goals (
                go_roundw
                case rel => exact ⟨u + 1, by omega, rfl, rfl, by go_num, below_drewN hb3 _⟩
                case measure => simp [intOf]; omega)
            · obtain ⟨hi0, hi1⟩ := inB_iff.1 hin
              obtain ⟨q, hq⟩ : ∃ q : Nat, (wn : Int) + x0 - u = (q : Int) := ⟨((wn : Int) + x0 - u).toNat, by omega⟩
              have hin' : inB (q : Int) L h = true := hq ▸ hin
              obtain ⟨AT, cT, kT, rT⟩ := T3.get (j := k + 1) (by omega)
              obtain ⟨AU, cU, kU, rU⟩ := T3.get (j := k) (by omega)
              clear T3
              obtain ⟨bN, oN, z, rfl, hblN, hz, hcN⟩ := getInt64 rT (show q < h + 1 by omega)
              obtain ⟨bV, oV, zv, rfl, hblV, hzv, hcV⟩ := getInt64 rU (show wn < h + 1 by omega)
              clear rT rU
              obtain ⟨z0, z1⟩ := rowAt_bd v5 HPR.out (by rw [LI.out]; exact v6) (k + 1) hz
              have hnz : nx (rowAt L h C xI xP (k + 1)) ((wn : Int) + x0 - u) = z := nx_get (by rw [hq, Int.toNat_natCast]; exact hz)
              have hnv : nx (rowAt L h C xI xP k) (wn : Int) = zv := nx_get (by rw [Int.toNat_natCast]; exact hzv)
              have HNZ := hd hnz
              have HNV := hd hnv
              have HQ := hd hq
              clear hz hzv hnz hnv
              have q0 : (0 : Int) ≤ (q : Int) := by omega
              have q1 : (q : Int) < ((h + 1 : Nat) : Int) := by omega
              have q5 : (0 : Int) ≤ (wn : Int) := by omega
              have q6 : (wn : Int) < ((h + 1 : Nat) : Int) := by omega
              have hr2 : (0 : Int) ≤ (k : Int) + 1 := by omega
              have hr3 : (k : Int) + 1 < (nI : Int) + 1 := by omega
              have hr4 : (q : Int) < (h : Int) + 1 := by omega
              have hr5 : (wn : Int) < (h : Int) + 1 := by omega
              by_cases hzn : z < 0
              · have hzn' : decide (0 ≤ z) = false := by simp; omega
                have hne : u < u0 := by
                  rcases Nat.lt_or_eq_of_le hu with hlt2 | rfl
                  · exact hlt2
                  · have := HZ0.out; rw [HNZ.out] at this; omega
                skip
                go_wp2_with fail
                go_quiet ((go_at_call 63; first | with_reducible exact Calls.quiet_of_same ((l00In_callsB hin' _).mono (fun _ _ h => ⟨h.1, h.2.symm⟩)) | with_reducible exact Calls.quiet_of_same ((l00In_callsB hin _).mono (fun _ _ h => ⟨h.1, h.2.symm⟩))))
                go_wp2_with fail
                all_goals (
                  go_roundw
                  case rel => exact ⟨u + 1, by omega, rfl, rfl, by go_num, below_drewN hb3 _⟩
                  case measure => simp [intOf]; omega)
              · have hzn' : decide (0 ≤ z) = true := by simp; omega
                have hmb := mul_bd (x := (u : Int)) (y := pr) hu00 (show (u : Int) ≤ 40 by omega) hp0 hp1
                obtain ⟨hm0, hm1⟩ := hmb
                obtain ⟨bY, oY, pr', rfl, hblY, hy, hcY⟩ := getInt64 ((RY.out).below hb3) hltP
                rw [HY.out] at hy
                obtain rfl := Option.some.inj hy
                clear hy
                by_cases heq : (z + (u : Int) * pr) = zv
                · have hue : u = u0 := by
                    rcases Nat.lt_or_eq_of_le hu with hlt2 | rfl
                    · exact absurd (by rw [HNZ.out, HNV.out]; omega) (HMIN.out u hlt2 hin (by rw [HNZ.out]; omega))
                    · rfl
                  have hbe : ((z + (u : Int) * pr) == zv) = true := by simp; omega
                  have HHQ := hd hue
                  clear hue heq
                  go_wp2_with fail
                  go_quiet ((go_at_call 63; first | with_reducible exact Calls.quiet_of_same ((l00In_callsB hin' _).mono (fun _ _ h => ⟨h.1, h.2.symm⟩)) | with_reducible exact Calls.quiet_of_same ((l00In_callsB hin _).mono (fun _ _ h => ⟨h.1, h.2.symm⟩))))
                  generalize hD : wr.drewN _ = W5
                  have hb5 : Below w3.heap.size w3 W5 := hD ▸ below_drewN hb3 _
                  clear hD hcX hcN hcV hcY kT kU kb1 kb2 kb3 kb4 kb5 hbe
                  have hb1 := bnext HB.out hb5 (by have := HB.out.size; omega)
                  have Ho1 := hd ((HO.out.below hb5).mono (Nat.le_refl _) hb5.size)
                  have HG5 := hd (blk_below HGB.out hb5 (blk_lt HGB.out))
                  have hpq : planF L h C xI xP s = (acc ++ [(u : Int)]) ++ planF L h C (xI.drop (k + 1)) (xP.drop (k + 1)) (q : Int) := by
                    rw [HAC.out, HPL.out, ← HHQ.out, HQ.out, List.append_assoc]
                    rfl
                  have HPQ := hd hpq
                  have HNQ : Hid (0 ≤ nx (rowAt L h C xI xP (k + 1)) (q : Int)) := hd (by rw [← HQ.out, HNZ.out]; omega)
                  clear hpq
                  go_wp2_with (at_builtin; refine wpList_app _ rfl _ _ 22 rfl 2 i0 _ 1 8 Try.underlying22 hi hz0 hz1 hz2 rfl (by decide) len_ci one_ci gL W5.heap.size A k c' acc rfl (Ho1.out.alloc _) W5.heap.size ((u : Int)) rfl (app_new _ _ _) (by omega) (by unfold maxLen; omega) (by have := hb5.size; simp; omega) ?_)
                  intro A' c'' w6 ho2 hg2
                  have hb2 := below_app (hb1.alloc hb1.size _) (Ho1.out.alloc _) hg2 (Nat.le_refl _) (by omega)
                  have HGN := hd (blk_only (blk_alloc HG5.out _) hg2 (fun hg => by have := Ho1.out.row hg; omega))
                  have hv5 : Below gL V5 W5 := HBV.out.trans (hb5.mono hgl3)
                  have RTN := hd (below_app (hv5.alloc (Nat.le_trans hgl3 hb5.size) _) (Ho1.out.alloc _) hg2 (by have := HGL.out; omega) (Nat.le_refl _))
                  have hgl6 : gL ≤ w6.heap.size := by have a1 := hg2.size; have a2 := hb5.size; simp at a1; omega
                  have Ho2 := hd ho2
                  clear ho2 hg2
                  go_wp2_with fail
                  go_roundw
                  case rel => exact ⟨k + 1, q, acc ++ [(u : Int)], by omega, by omega, by omega, by go_num, rfl, A', c'', rfl, Ho2.out, HPQ.out, HNQ.out, RTN.out, HGN.out, hgl6, hb2⟩
                  case measure => simp [intOf]; omega
                · have hne : u < u0 := by
                    rcases Nat.lt_or_eq_of_le hu with hlt2 | rfl
                    · exact hlt2
                    · have := HE0.out; rw [HNZ.out, HNV.out] at this; omega
                  have hbe : ((z + (u : Int) * pr) == zv) = false := by simp; omega
                  skip
                  go_wp2_with fail
                  go_quiet ((go_at_call 63; first | with_reducible exact Calls.quiet_of_same ((l00In_callsB hin' _).mono (fun _ _ h => ⟨h.1, h.2.symm⟩)) | with_reducible exact Calls.quiet_of_same ((l00In_callsB hin _).mono (fun _ _ h => ⟨h.1, h.2.symm⟩))))
                  go_wp2_with fail
                  all_goals (
                    go_roundw
                    case rel => exact ⟨u + 1, by omega, rfl, rfl, by go_num, below_drewN hb3 _⟩
                    case measure => simp [intOf]; omega)
        · obtain rfl : k = nI := by omega
          have HP : Hid (planF L h C xI xP s = acc) := hd (by rw [HAC.out, List.drop_eq_nil_of_le (by rw [LI.out]; exact Nat.le_refl _)]; simp [planF])
          go_wp2_with fail
          go_ret2
          exact ⟨A, k, c', ret_sli (by rw [F.out]), by rw [F.out, HP.out]; exact HO.out.mono (by omega) (Nat.le_refl _), by omega, HB.out⟩
end Go.Proofs.Ythabjlhfidcnoaa
