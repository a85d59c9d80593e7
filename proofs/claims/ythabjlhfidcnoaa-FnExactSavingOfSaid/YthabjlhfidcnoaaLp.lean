/- The plan with the least price, the first one. -/
import Derived.Test.YthabjlhfidcnoaaTbl2
import Derived.Test.YthabjlhfidcnoaaPlan2
import Derived.Deep.DeepCutAuto
namespace Go.Proofs.Ythabjlhfidcnoaa
open Go.RowKit
set_option linter.unusedVariables false

theorem firstTo_spec {p : Nat → Bool} : ∀ {m : Nat}, (∃ v, v < m ∧ p v = true) → firstTo p m < m ∧ p (firstTo p m) = true ∧ ∀ v, v < firstTo p m → p v = false := by
  intro m
  induction m generalizing p with
  | zero => rintro ⟨v, h, _⟩; omega
  | succ m ih =>
    rintro ⟨v, hv, hp⟩
    by_cases h0 : p 0 = true
    · simp [firstTo, h0]
    · have h0' : p 0 = false := by simpa using h0
      have hv0 : v ≠ 0 := by rintro rfl; exact h0 hp
      obtain ⟨a, b, c⟩ := ih (p := fun u => p (u + 1)) ⟨v - 1, by omega, by simpa [show v - 1 + 1 = v by omega] using hp⟩
      simp only [firstTo]
      rw [if_neg h0]
      refine ⟨by omega, b, fun q hq => ?_⟩
      cases q with
      | zero => exact h0'
      | succ q => exact c q (by omega)
theorem plan_next {L H C : Int} {xs ps : List Int} {k : Nat} {x q w : Int} (hx : xs[k]? = some x) (hp : ps[k]? = some q) :
    planF L H C (xs.drop k) (ps.drop k) w = (firstTo (fun u => decide (stepF L H x q (rowAt L H C xs ps (k + 1)) w u = nx (rowAt L H C xs ps k) w)) (C.toNat + 1) : Int) :: planF L H C (xs.drop (k + 1)) (ps.drop (k + 1)) (w + x - (firstTo (fun u => decide (stepF L H x q (rowAt L H C xs ps (k + 1)) w u = nx (rowAt L H C xs ps k) w)) (C.toNat + 1) : Int)) := by
  unfold rowAt
  rw [drop_cons hx, drop_cons hp]
  rfl
theorem plan_step {L H C : Int} {xs ps : List Int} {k wn : Nat} {x q : Int} (hC : 0 ≤ C) (hq : 0 ≤ q) (hw : (wn : Int) ≤ H) (hx : xs[k]? = some x) (hp : ps[k]? = some q) (h : 0 ≤ nx (rowAt L H C xs ps k) wn) :
    ∃ u0 : Nat, (u0 : Int) ≤ C ∧ planF L H C (xs.drop k) (ps.drop k) wn = (u0 : Int) :: planF L H C (xs.drop (k + 1)) (ps.drop (k + 1)) (wn + x - u0) ∧ inB (wn + x - u0) L H = true ∧ 0 ≤ nx (rowAt L H C xs ps (k + 1)) (wn + x - u0) ∧ u0 * q + nx (rowAt L H C xs ps (k + 1)) (wn + x - u0) = nx (rowAt L H C xs ps k) wn ∧
      ∀ u : Nat, u < u0 → inB (wn + x - u) L H = true → 0 ≤ nx (rowAt L H C xs ps (k + 1)) (wn + x - u) → ¬ u * q + nx (rowAt L H C xs ps (k + 1)) (wn + x - u) = nx (rowAt L H C xs ps k) wn := by
  have hrow : nx (rowAt L H C xs ps k) wn = bestTo (stepF L H x q (rowAt L H C xs ps (k + 1)) wn) (C.toNat + 1) := by
    rw [rowAt_next hx hp]
    exact nx_get (by rw [Int.toNat_natCast]; exact rowF_get (by omega))
  obtain ⟨v, hv, e⟩ := bestTo_has (hrow ▸ h)
  obtain ⟨a, b, c⟩ := firstTo_spec (p := fun u => decide (stepF L H x q (rowAt L H C xs ps (k + 1)) wn u = nx (rowAt L H C xs ps k) wn)) (m := C.toNat + 1) ⟨v, hv, by simp only [decide_eq_true_eq]; rw [e, hrow]⟩
  have hn := plan_next (L := L) (H := H) (C := C) (w := (wn : Int)) hx hp
  generalize firstTo (fun u => decide (stepF L H x q (rowAt L H C xs ps (k + 1)) wn u = nx (rowAt L H C xs ps k) wn)) (C.toNat + 1) = u0 at a b c hn
  simp only [decide_eq_true_eq] at b
  have hg := (stepF_ge hq).1 (show 0 ≤ stepF L H x q (rowAt L H C xs ps (k + 1)) wn u0 by omega)
  refine ⟨u0, by omega, hn, hg.1, hg.2, ?_, ?_⟩
  · rw [← b]
    unfold stepF
    rw [if_pos hg]
  · intro u hu h1 h2 h3
    have := c u hu
    simp only [decide_eq_false_iff_not] at this
    apply this
    rw [← h3]
    unfold stepF
    rw [if_pos ⟨h1, h2⟩]
def lpF (S L H C : Int) (xI ys : List Int) : List Int × Int × Bool := if 0 ≤ nx (rowAt L H C xI ys 0) S then (planF L H C xI ys S, nx (rowAt L H C xI ys 0) S, true) else ([], 0, false)
theorem lp_ok {S L H C : Int} {xI ys : List Int} (h : 0 ≤ nx (rowAt L H C xI ys 0) S) : lpF S L H C xI ys = (planF L H C xI ys S, nx (rowAt L H C xI ys 0) S, true) := by
  unfold lpF
  rw [if_pos h]
theorem lp_no {S L H C : Int} {xI ys : List Int} (h : ¬ 0 ≤ nx (rowAt L H C xI ys 0) S) : lpF S L H C xI ys = ([], 0, false) := by
  unfold lpF
  rw [if_neg h]
theorem in_callsB {n lo hi : Int} {b : Bool} (h : inB n lo hi = b) (w : World) : Calls Try.prog 49 #[.int .i64 n, .int .i64 lo, .int .i64 hi] w fun e w' => e = .returned (.bool b) ∧ w = w' := h ▸ in_calls n lo hi w
theorem l00In_callsB {n lo hi : Int} {b : Bool} (h : inB n lo hi = b) (w : World) : Calls Try.prog 63 #[.int .i64 n, .int .i64 lo, .int .i64 hi] w fun e w' => e = .returned (.bool b) ∧ w = w' := h ▸ l00In_calls n lo hi w
theorem RdT.get {w : World} {g n m : Nat} {row : Nat → List Int} (h : RdT w g n m row) {j : Nat} (hj : j < n) : ∃ A c, w.cell? ⟨g, j, none⟩ = some (.slice A m c) ∧ RdInt64 w A m (row j) := h.2 j hj

theorem results_tmp3 {P : Program} {fn : Func} {t u v : Tmp} (h : fn.results = #[.tmp t, .tmp u, .tmp v]) (tmps : Array Value) (w : World) :
    (results fn tmps).run P w = .ok (.tuple #[tmps.getD t undef, tmps.getD u undef, tmps.getD v undef]) w := by simp [results, h]
theorem RdT.grown2 {w w1 w2 : World} {g n m : Nat} {row : Nat → List Int} {ro : Option Nat} (h : RdT w g n m row) (b : Below w.heap.size w w1) (hg : w1.grownBy w2 ro) (hr : ∀ q, ro = some q → w.heap.size ≤ q) : RdT w2 g n m row :=
  h.below (below_only b hg (Nat.le_refl _) hr)
set_option maxRecDepth 100000 in
set_option maxHeartbeats 1500000 in
theorem leastPlan_calls (S L H C : Int) (aI : Option Addr) (nI cI : Nat) (xI : List Int) (aP : Option Addr) (nP cP : Nat) (xP : List Int) (b : Option Addr) (d : Nat) (ys : List Int) (w : World) (rI : RdInt64 w aI nI xI) (hI : nI ≤ 1048576) (rP : RdInt64 w aP nP xP) (hP : nP ≤ 1048576) (rY : RdInt64 w b nI ys) (hv : VP S L H C xI xP) (hpr : ys.all prB = true) :
    Calls Try.prog 60 #[.agg #[.int .i64 S, .int .i64 L, .int .i64 H, .int .i64 C, .slice aI nI cI, .slice aP nP cP], .slice b nI d] w fun e w' => ∃ A m c, e = .returned (.tuple #[.slice A m c, .int .i64 (lpF S L H C xI ys).2.1, .bool (lpF S L H C xI ys).2.2]) ∧ Own 1 ci 2 w' w.heap.size w'.heap.size A m c (lpF S L H C xI ys).1 ∧ m ≤ 1048576 ∧ Below w.heap.size w w' := by
  obtain ⟨h, rfl⟩ : ∃ h : Nat, H = h := ⟨H.toNat, by have := hv.l0; have := hv.ls; have := hv.sh; omega⟩
  obtain ⟨s, rfl⟩ : ∃ s : Nat, S = s := ⟨S.toNat, by have := hv.l0; have := hv.ls; omega⟩
  have LI := hd rI.len
  have LY := hd rY.len
  have v0 := hv.l0
  have v1 := hv.ls
  have v2 := hv.sh
  have v3 := hv.h1
  have v4 := hv.c0
  have v5 := hv.c1
  have HU := hd hv.un
  have HPR := hd hpr
  have HVP := hd hv
  have v6 := hv.n48
  rw [LI.out] at v6
  clear hv hpr
  obtain ⟨i0, hi, hz0, hz1, hz2⟩ := info_parts infoInt64
  go_enter Try.func60, Try.ntmps60
  go_wp2_with fail
  refine (leastFrom_calls (s : Int) L h C aI nI cI xI aP nP cP xP b d ys _ (rI.alloc _) hI (rP.alloc _) hP (rY.alloc _) HVP.out HPR.out).mono ?_
  rintro e w1 ⟨g, rfl, hrt, b1⟩
  rw [Int.toNat_natCast] at hrt
  have hgb := box_q b1
  have d1 := bbox1 b1
  have s1 := b1.size
  simp only [World.size_alloc] at s1
  clear b1
  have kb0 := blk_cell hgb 0
  obtain ⟨AU, cU, kU, rU⟩ := hrt.get (j := 0) (by omega)
  obtain ⟨bV, oV, zv, rfl, hblV, hzv, hcV⟩ := getInt64 rU (show s < h + 1 by omega)
  clear rU
  obtain ⟨z0, z1⟩ := rowAt_bd v5 HPR.out (by rw [LI.out]; exact v6) 0 hzv
  have hnv : nx (rowAt L h C xI ys 0) (s : Int) = zv := nx_get (by rw [Int.toNat_natCast]; exact hzv)
  clear hzv
  have q1 : (0 : Int) < (nI : Int) + 1 := by omega
  have q2 : (0 : Int) ≤ (s : Int) := by omega
  have q3 : (s : Int) < (h : Int) + 1 := by omega
  by_cases hzn : zv < 0
  · have F := hd (lp_no (S := s) (L := L) (H := h) (C := C) (xI := xI) (ys := ys) (by rw [hnv]; omega))
    clear hnv
    go_wp2_with fail
    go_quiet (fail)
    generalize hD : w1.drewN _ = W5
    have d5 : Below w.heap.size w W5 := hD ▸ below_drewN d1 _
    clear hD hcV kU kb0
    go_wp2_with fail
    refine bodyPost_ret (results_tmp3 rfl _ _) rfl ?_
    exact ⟨_, 0, 0, by rw [F.out]; rfl, by rw [F.out]; exact Own.empty W5 _ rfl d5.size (by simp), by omega, d5.alloc d5.size _⟩
  · have F := hd (lp_ok (S := s) (L := L) (H := h) (C := C) (xI := xI) (ys := ys) (by rw [hnv]; omega))
    have HN := hd hnv
    clear hnv
    go_wp2_with fail
    go_quiet (fail)
    generalize hD : w1.drewN _ = V5
    have d5 : Below w.heap.size w V5 := hD ▸ below_drewN d1 _
    have b15 : Below w1.heap.size w1 V5 := hD ▸ below_drewN (Below.refl _ _) _
    have hgb5 := blk_below hgb b15 (blk_lt hgb)
    have hrt5 := hrt.below b15
    have s5 := b15.size
    clear hD hcV kU kb0 hgb hrt d1 b15
    obtain ⟨gL, hgL⟩ : ∃ gL, gL = V5.heap.size := ⟨_, rfl⟩
    have he := Own.empty (E := 2) (sz := 1) (cs := ci) (L := gL) (U := V5.heap.size + 1) V5 #[] rfl (by omega) (by omega)
    have hgw : w.heap.size < gL := by omega
    have HE := hd he
    have HGL := hd hgL
    have HG5 := hd (blk_alloc hgb5 (.cells #[] 2))
    have HRT5 := hd hrt5
    have HBV5 : Hid (Below gL V5 (V5.alloc (.cells #[] 2))) := hd ((Below.refl _ _).alloc (by omega) _)
    have HD5 := hd (d5.alloc d5.size (.cells #[] 2))
    have hs6 : (V5.alloc (.cells #[] 2)).heap.size = V5.heap.size + 1 := by simp
    clear he hgL hgb5 hrt5
    go_upto_region 6 with fail
    generalize V5.alloc (.cells #[] 2) = W6 at HE HG5 HBV5 HD5 hs6 ⊢
    have kb0 := blk_cell HG5.out 0
    have kb4 := blk_cell HG5.out 4
    go_wp2_with fail
    clear kb0 kb4
    go_loopw [9, 10, 34] (fun v t i wr => ∃ k wn : Nat, ∃ acc : List Int, k ≤ nI ∧ L ≤ (wn : Int) ∧ wn ≤ h ∧ i = .int .i64 k ∧ t = .int .i64 wn ∧ ∃ A c, v = .slice A k c ∧ Own 1 ci 2 wr gL wr.heap.size A k c acc ∧ planF L h C xI ys s = acc ++ planF L h C (xI.drop k) (ys.drop k) (wn : Int) ∧ 0 ≤ nx (rowAt L h C xI ys k) (wn : Int) ∧ Below gL V5 wr ∧ wr.heap[w.heap.size]? = some (pmC s L h C aI nI cI aP nP cP) ∧ gL ≤ wr.heap.size ∧ Below w.heap.size w wr) (fun _ _ i _ => nI - (intOf i).toNat)
    case atStart => exact ⟨0, s, [], Nat.zero_le _, v1, by omega, rfl, rfl, _, 0, rfl, HE.out.mono (Nat.le_refl _) (by omega), rfl, by rw [HN.out]; omega, HBV5.out, HG5.out, by have := HGL.out; omega, HD5.out⟩
    case round =>
      clear HE HG5 HBV5 HD5 d5 s5
      obtain ⟨k, wn, acc, hk, hwL, hwH, rfl, rfl, A, c', rfl, ho, hac, hnx, hrt, hgb, hgl3, hb⟩ := hrel
      have HO := hd ho
      have HAC := hd hac
      have HNX := hd hnx
      have HBV := hd hrt
      have RT := hd (HRT5.out.below (by rw [← HGL.out]; exact hrt))
      have HGB := hd hgb
      have HB := hd hb
      obtain ⟨w3, hW⟩ : ∃ W, W = wr := ⟨_, rfl⟩
      subst hW
      have RI := hd (rI.below hb)
      have RY := hd (rY.below hb)
      have kb0 := blk_cell hgb 0
      have kb1 := blk_cell hgb 1
      have kb2 := blk_cell hgb 2
      have kb3 := blk_cell hgb 3
      have kb4 := blk_cell hgb 4
      have kb5 := blk_cell hgb 5
      have hs3 := hb.size
      have hl3 := blk_lt hgb
      clear ho hac hnx hrt hgb hb
      by_cases hlt : k < nI
      · obtain ⟨x0, hx0⟩ : ∃ x, xI[k]? = some x := ⟨_, List.getElem?_eq_getElem (by rw [LI.out]; exact hlt)⟩
        obtain ⟨pr, hpr⟩ : ∃ x, ys[k]? = some x := ⟨_, List.getElem?_eq_getElem (by rw [LY.out]; exact hlt)⟩
        obtain ⟨hx00, hx01⟩ := unB_iff.1 (all_at_ HU.out hx0)
        obtain ⟨hp0, hp1⟩ := prB_iff.1 (all_at_ HPR.out hpr)
        have HX := hd hx0
        have HY := hd hpr
        clear hx0 hpr
        obtain ⟨bI, oI, x'', rfl, hblI, hxi, hcI⟩ := getInt64 (RI.out) hlt
        rw [HX.out] at hxi
        obtain rfl := Option.some.inj hxi
        clear hxi
        obtain ⟨u0, hu0, hpl, hin0, hz0', he0, hmin⟩ := plan_step v4 hp0 (show (wn : Int) ≤ (h : Int) by omega) HX.out HY.out HNX.out
        have HPL := hd hpl
        have HIN := hd hin0
        have HZ0 := hd hz0'
        have HE0 := hd he0
        have HMIN := hd hmin
        clear hpl hin0 hz0' he0 hmin
        go_wp2_with fail
        go_loopw [10, 13] (fun t i wr => ∃ u : Nat, u ≤ u0 ∧ t = .int .i64 wn ∧ i = .int .i64 u ∧ Below w3.heap.size w3 wr) (fun _ i _ => u0 - (intOf i).toNat)
        case atStart => exact ⟨0, Nat.zero_le _, rfl, rfl, Below.refl _ _⟩
        case round =>
          clear kb0 kb1 kb2 kb3 kb4 kb5
          obtain ⟨u, hu, rfl, rfl, hb3⟩ := hrel
          have hgb := blk_below HGB.out hb3 (blk_lt HGB.out)
          have kb1 := blk_cell hgb 1
          have kb2 := blk_cell hgb 2
          have kb3 := blk_cell hgb 3
          have kb4 := blk_cell hgb 4
          have kb5 := blk_cell hgb 5
          clear hgb
          have T3 := RT.out.below hb3
          have hu00 : (0 : Int) ≤ (u : Int) := by omega
          have huC : (u : Int) ≤ C := by omega
          skip
          have q2 : (0 : Int) ≤ (k : Int) := by omega
          have q3 : (k : Int) < (nI : Int) := by omega
          have q4 : (k : Int) < (nI : Int) + 1 := by omega
          cases hin : inB ((wn : Int) + x0 - u) L h
          · have hne : u < u0 := by
              rcases Nat.lt_or_eq_of_le hu with hlt2 | rfl
              · exact hlt2
              · rw [HIN.out] at hin; cases hin
            clear T3
            go_wp2_with fail
            go_quiet ((go_at_call 49; first | with_reducible exact Calls.quiet_of_same ((in_callsB hin' _).mono (fun _ _ h => ⟨h.1, h.2.symm⟩)) | with_reducible exact Calls.quiet_of_same ((in_callsB hin _).mono (fun _ _ h => ⟨h.1, h.2.symm⟩))))
            go_wp2_with fail
            all_goals (
              go_roundw
              case rel => exact ⟨u + 1, by omega, rfl, by go_num, below_drewN hb3 _⟩
              case measure => simp [intOf]; omega)
          · obtain ⟨hi0, hi1⟩ := inB_iff.1 hin
            obtain ⟨q, hq⟩ : ∃ q : Nat, (wn : Int) + x0 - u = (q : Int) := ⟨((wn : Int) + x0 - u).toNat, by omega⟩
            have hin' : inB (q : Int) L h = true := hq ▸ hin
            obtain ⟨AT, cT, kT, rT⟩ := T3.get (j := k + 1) (by omega)
            obtain ⟨AU, cU, kU, rU⟩ := T3.get (j := k) (by omega)
            clear T3
            obtain ⟨bN, oN, z, rfl, hblN, hz, hcN⟩ := getInt64 rT (show q < h + 1 by omega)
            obtain ⟨bV, oV, zv, rfl, hblV, hzv, hcV⟩ := getInt64 rU (show wn < h + 1 by omega)
            clear rT rU
            obtain ⟨z0, z1⟩ := rowAt_bd v5 HPR.out (by rw [LI.out]; exact v6) (k + 1) hz
            have hnz : nx (rowAt L h C xI ys (k + 1)) ((wn : Int) + x0 - u) = z := nx_get (by rw [hq, Int.toNat_natCast]; exact hz)
            have hnv : nx (rowAt L h C xI ys k) (wn : Int) = zv := nx_get (by rw [Int.toNat_natCast]; exact hzv)
            have HNZ := hd hnz
            have HNV := hd hnv
            have HQ := hd hq
            clear hz hzv hnz hnv
            have q0 : (0 : Int) ≤ (q : Int) := by omega
            have q1 : (q : Int) < ((h + 1 : Nat) : Int) := by omega
            have q5 : (0 : Int) ≤ (wn : Int) := by omega
            have q6 : (wn : Int) < ((h + 1 : Nat) : Int) := by omega
            have hr2 : (0 : Int) ≤ (k : Int) + 1 := by omega
            have hr3 : (k : Int) + 1 < (nI : Int) + 1 := by omega
            have hr4 : (q : Int) < (h : Int) + 1 := by omega
            have hr5 : (wn : Int) < (h : Int) + 1 := by omega
            by_cases hzn : z < 0
            · have hzn' : decide (0 ≤ z) = false := by simp; omega
              have hne : u < u0 := by
                rcases Nat.lt_or_eq_of_le hu with hlt2 | rfl
                · exact hlt2
                · have := HZ0.out; rw [HNZ.out] at this; omega
              skip
              go_wp2_with fail
              go_quiet ((go_at_call 49; first | with_reducible exact Calls.quiet_of_same ((in_callsB hin' _).mono (fun _ _ h => ⟨h.1, h.2.symm⟩)) | with_reducible exact Calls.quiet_of_same ((in_callsB hin _).mono (fun _ _ h => ⟨h.1, h.2.symm⟩))))
              go_wp2_with fail
              all_goals (
                go_roundw
                case rel => exact ⟨u + 1, by omega, rfl, by go_num, below_drewN hb3 _⟩
                case measure => simp [intOf]; omega)
            · have hzn' : decide (0 ≤ z) = true := by simp; omega
              have hmb := mul_bd (x := (u : Int)) (y := pr) hu00 (show (u : Int) ≤ 40 by omega) hp0 hp1
              obtain ⟨hm0, hm1⟩ := hmb
              obtain ⟨bY, oY, pr', rfl, hblY, hy, hcY⟩ := getInt64 ((RY.out).below hb3) hlt
              rw [HY.out] at hy
              obtain rfl := Option.some.inj hy
              clear hy
              by_cases heq : ((u : Int) * pr + z) = zv
              · have hue : u = u0 := by
                  rcases Nat.lt_or_eq_of_le hu with hlt2 | rfl
                  · exact absurd (by rw [HNZ.out, HNV.out]; omega) (HMIN.out u hlt2 hin (by rw [HNZ.out]; omega))
                  · rfl
                have hbe : (((u : Int) * pr + z) == zv) = true := by simp; omega
                have HHQ := hd hue
                clear hue heq
                go_wp2_with fail
                go_quiet ((go_at_call 49; first | with_reducible exact Calls.quiet_of_same ((in_callsB hin' _).mono (fun _ _ h => ⟨h.1, h.2.symm⟩)) | with_reducible exact Calls.quiet_of_same ((in_callsB hin _).mono (fun _ _ h => ⟨h.1, h.2.symm⟩))))
                generalize hD : wr.drewN _ = W5
                have hb5 : Below w3.heap.size w3 W5 := hD ▸ below_drewN hb3 _
                clear hD hcN hcV hcY kT kU kb1 kb2 kb3 kb4 kb5 hbe
                have hb1 := bnext HB.out hb5 (by have := HB.out.size; omega)
                have Ho1 := hd ((HO.out.below hb5).mono (Nat.le_refl _) hb5.size)
                have HG5 := hd (blk_below HGB.out hb5 (blk_lt HGB.out))
                have hpq : planF L h C xI ys s = (acc ++ [(u : Int)]) ++ planF L h C (xI.drop (k + 1)) (ys.drop (k + 1)) (q : Int) := by
                  rw [HAC.out, HPL.out, ← HHQ.out, HQ.out, List.append_assoc]
                  rfl
                have HPQ := hd hpq
                have HNQ : Hid (0 ≤ nx (rowAt L h C xI ys (k + 1)) (q : Int)) := hd (by rw [← HQ.out, HNZ.out]; omega)
                clear hpq
                go_wp2_with (at_builtin; refine wpList_app _ rfl _ _ 22 rfl 2 i0 _ 1 8 Try.underlying22 hi hz0 hz1 hz2 rfl (by decide) len_ci one_ci gL W5.heap.size A k c' acc rfl (Ho1.out.alloc _) W5.heap.size ((u : Int)) rfl (app_new _ _ _) (by omega) (by unfold maxLen; omega) (by have := hb5.size; simp; omega) ?_)
                intro A' c'' w6 ho2 hg2
                have hb2 := below_app (hb1.alloc hb1.size _) (Ho1.out.alloc _) hg2 (Nat.le_refl _) (by omega)
                have HGN := hd (blk_only (blk_alloc HG5.out _) hg2 (fun hg => by have := Ho1.out.row hg; omega))
                have hv5 : Below gL V5 W5 := HBV.out.trans (hb5.mono hgl3)
                have RTN := hd (below_app (hv5.alloc (Nat.le_trans hgl3 hb5.size) _) (Ho1.out.alloc _) hg2 (by have := HGL.out; omega) (Nat.le_refl _))
                have hgl6 : gL ≤ w6.heap.size := by have a1 := hg2.size; have a2 := hb5.size; simp at a1; omega
                have Ho2 := hd ho2
                clear ho2 hg2
                go_wp2_with fail
                go_roundw
                case rel => exact ⟨k + 1, q, acc ++ [(u : Int)], by omega, by omega, by omega, by go_num, rfl, A', c'', rfl, Ho2.out, HPQ.out, HNQ.out, RTN.out, HGN.out, hgl6, hb2⟩
                case measure => simp [intOf]; omega
              · have hne : u < u0 := by
                  rcases Nat.lt_or_eq_of_le hu with hlt2 | rfl
                  · exact hlt2
                  · have := HE0.out; rw [HNZ.out, HNV.out] at this; omega
                have hbe : (((u : Int) * pr + z) == zv) = false := by simp; omega
                skip
                go_wp2_with fail
                go_quiet ((go_at_call 49; first | with_reducible exact Calls.quiet_of_same ((in_callsB hin' _).mono (fun _ _ h => ⟨h.1, h.2.symm⟩)) | with_reducible exact Calls.quiet_of_same ((in_callsB hin _).mono (fun _ _ h => ⟨h.1, h.2.symm⟩))))
                go_wp2_with fail
                all_goals (
                  go_roundw
                  case rel => exact ⟨u + 1, by omega, rfl, by go_num, below_drewN hb3 _⟩
                  case measure => simp [intOf]; omega)
      · obtain rfl : k = nI := by omega
        have HP : Hid (planF L h C xI ys s = acc) := hd (by rw [HAC.out, List.drop_eq_nil_of_le (by rw [LI.out]; exact Nat.le_refl _)]; simp [planF])
        go_wp2_with fail
        refine bodyPost_ret (results_tmp3 rfl _ _) rfl ?_
        exact ⟨A, k, c', by rw [F.out, HN.out]; rfl, by rw [F.out, HP.out]; exact HO.out.mono (by omega) (Nat.le_refl _), by omega, HB.out⟩
end Go.Proofs.Ythabjlhfidcnoaa
