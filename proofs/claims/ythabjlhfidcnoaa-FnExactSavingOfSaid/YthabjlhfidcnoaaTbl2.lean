/- The table of least prices, by the reference. -/
import Derived.Test.YthabjlhfidcnoaaTbl
namespace Go.Proofs.Ythabjlhfidcnoaa
open Go.RowKit
set_option linter.unusedVariables false

set_option maxRecDepth 100000 in
set_option maxHeartbeats 8000000 in
theorem l15Costs_calls (gP : Nat) (S L H C : Int) (aI : Option Addr) (nI cI : Nat) (xI : List Int) (aP : Option Addr) (nP cP : Nat) (xP : List Int) (w : World) (hgb : w.heap[gP]? = some (pmC S L H C aI nI cI aP nP cP)) (rI : RdInt64 w aI nI xI) (hI : nI ≤ 1048576) (rP : RdInt64 w aP nP xP) (hP : nP ≤ 1048576) (hv : VP S L H C xI xP) :
    Calls Try.prog 62 #[.pointer (some ⟨gP, 0, none⟩)] w fun e w' => ∃ g, e = .returned (.slice (some ⟨g, 0, none⟩) (nI + 1) (nI + 1)) ∧ RdT w' g (nI + 1) (H.toNat + 1) (rowAt L H C xI xP) ∧ Below w.heap.size w w' := by
  obtain ⟨h, rfl⟩ : ∃ h : Nat, H = h := ⟨H.toNat, by have := hv.l0; have := hv.ls; have := hv.sh; omega⟩
  have LI := hd rI.len
  have LY := hd rP.len
  have v0 := hv.l0
  have v1 := hv.ls
  have v2 := hv.sh
  have v3 := hv.h1
  have v4 := hv.c0
  have v5 := hv.c1
  have HU := hd hv.un
  have HPR := hd hv.pr
  have v6 := hv.n48
  have v7 := hv.len
  rw [LI.out] at v6
  rw [LI.out, LY.out] at v7
  have HV7 := hd v7
  clear hv v7
  rw [Int.toNat_natCast]
  obtain ⟨i0, hi, hz0, hz1, hz2⟩ := info_parts infoInt64
  obtain ⟨i1, hj, hy0, hy1, hy2⟩ := info_parts info_rows
  have hgl := blk_lt hgb
  have HGP := hd hgb
  have kb4 := blk_cell hgb 4
  clear hgb
  go_enter Try.func62, Try.ntmps62
  go_wp2_with (at_make; refine wpList_make_full _ rfl _ _ 62 rfl w.heap.size 22 i1 _ 1 Try.underlying62 hj hy0 hy1 _ _ _ _ (nI + 1) rfl rfl (by omega) (by omega) (by rw [hy2]; omega) (by unfold maxLen; omega) (Nat.le_refl _) ?_)
  intro w1 hown hgrow
  obtain ⟨cur0, hB0, hg0, hs0, _, _, _⟩ := own_head hown
  have d1 : Below w.heap.size w w1 := (Below.refl _ _).grown hgrow (Nat.le_refl _) (by simp)
  have hg1 := blk_lt hg0
  obtain ⟨g, hgg⟩ : ∃ g, w.heap.size = g := ⟨_, rfl⟩
  have hgw : w.heap.size ≤ g := Nat.le_of_eq hgg
  rw [hgg] at hg0 hg1 ⊢
  clear hown hgrow hB0 hgg kb4
  have hgb := blk_below HGP.out d1 hgl
  have kb2 := blk_cell hgb 2
  go_wp2_with (at_make; refine wpList_make_full _ rfl _ _ 22 rfl w1.heap.size 2 i0 _ 1 Try.underlying22 hi hz0 hz1 _ _ _ _ (h + 1) rfl rfl (by omega) (by omega) (by rw [hz2]; omega) (by unfold maxLen; omega) (Nat.le_refl _) ?_)
  intro w2 hown hgrow
  rw [made_ci] at hown
  have d2 : Below w.heap.size w w2 := d1.grown hgrow d1.size (by simp)
  have hg0 := blk_only hg0 hgrow (by simp)
  obtain ⟨cur1, hB1, hg2, hs1, _, _, _⟩ := own_head hown
  have hg2l := blk_lt hg2
  have ho : Own 1 ci 2 w2 w1.heap.size w2.heap.size (some ⟨w1.heap.size, 0, none⟩) (h + 1) (h + 1) (List.replicate (h + 1) 0) := ⟨by simp, hown, fun a ha => by obtain rfl := Option.some.inj ha; exact hg2l⟩
  clear hown hgrow hB1 hg2 kb2 hgb
  generalize w1.heap.size = g2 at hg1 ho hg2l ⊢
  obtain ⟨v, hvn⟩ := get_of_lt (cur := cur0) (i := nI) (by omega)
  have kv := (blk_cell hg0 nI).trans hvn
  have zv := blk_free hg0 nI
  have T : TbC cur0 w2 g (g2 + 1) nI (h + 1) (nI + 1) (rowAt L h C xI xP) := ⟨hg0, by omega, fun j a b => by omega⟩
  clear hg0 hvn
  have T2 := T.set (Nat.lt_succ_self nI) (.slice (some ⟨g2, 0, none⟩) (h + 1) (h + 1))
  have oN : Own 1 ci 2 (w2.setCell ⟨g, nI, none⟩ (.slice (some ⟨g2, 0, none⟩) (h + 1) (h + 1))) (g + 1) w2.heap.size (some ⟨g2, 0, none⟩) (h + 1) (h + 1) (rowAt L h C xI xP nI) := by
    rw [rowAt_end (by rw [LI.out]; exact Nat.le_refl _), Int.toNat_natCast]
    exact (ho.only (only_set (only_refl w2 (some g)) nI _) (fun q e => by obtain rfl := Option.some.inj e; omega)).mono (by omega) (Nat.le_refl _)
  have T3 : TbC (cur0.setIfInBounds nI (.slice (some ⟨g2, 0, none⟩) (h + 1) (h + 1))) (w2.setCell ⟨g, nI, none⟩ (.slice (some ⟨g2, 0, none⟩) (h + 1) (h + 1))) g w2.heap.size nI (h + 1) nI (rowAt L h C xI xP) :=
    (T2.mono (by omega)).ext (by rw [Array.getElem?_setIfInBounds_self_of_lt (by rw [T.2.1]; omega)]) oN
  have d3 := d2.setCell (show w.heap.size ≤ (⟨g, nI, none⟩ : Addr).block by simp; omega) (.slice (some ⟨g2, 0, none⟩) (h + 1) (h + 1))
  have T3 := hd T3
  clear T T2 oN ho
  go_wp2_with fail
  clear kv zv
  go_loopw [5] (fun i wr => ∃ k : Nat, k ≤ nI ∧ i = .int .i64 ((k : Int) - 1) ∧ ∃ cur, TbC cur wr g wr.heap.size nI (h + 1) k (rowAt L h C xI xP) ∧ Below w.heap.size w wr) (fun i _ => (intOf i + 1).toNat)
  case atStart => exact ⟨nI, Nat.le_refl _, rfl, _, by simpa using T3.out, d3⟩
  case round =>
    clear d3 T3
    obtain ⟨k, hk, rfl, cur, hT, hb⟩ := hrel
    have HT := hd hT
    clear hT
    obtain ⟨W1, hW⟩ : ∃ W, W = wr := ⟨_, rfl⟩
    subst hW
    by_cases hk0 : k = 0
    · subst hk0
      go_wp2_with fail
      go_ret
      exact ⟨g, rfl, HT.out.rdT, hb⟩
    · obtain ⟨hr, rfl⟩ : ∃ hr, k = hr + 1 := ⟨k - 1, by omega⟩
      have hlt : hr < nI := by omega
      have hltP : hr < nP := by have := HV7.out; omega
      have e1 : (((hr + 1 : Nat) : Int) - 1) = (hr : Int) := by omega
      rw [e1]
      clear e1 hk0
      have hr0 : (0 : Int) ≤ (hr : Int) := by omega
      obtain ⟨x0, hx0⟩ : ∃ x, xI[hr]? = some x := ⟨_, List.getElem?_eq_getElem (by rw [LI.out]; exact hlt)⟩
      obtain ⟨pr, hpr⟩ : ∃ x, xP[hr]? = some x := ⟨_, List.getElem?_eq_getElem (by rw [LY.out]; exact hltP)⟩
      obtain ⟨hx00, hx01⟩ := unB_iff.1 (all_at_ HU.out hx0)
      obtain ⟨hp0, hp1⟩ := prB_iff.1 (all_at_ HPR.out hpr)
      have HRow := hd (rowAt_next (L := L) (H := (h : Int)) (C := C) hx0 hpr)
      have HX := hd hx0
      have HY := hd hpr
      clear hx0 hpr
      have gW := blk_lt HT.out.1
      have he := Own.empty (E := 2) (sz := 1) (cs := ci) (L := W1.heap.size) (U := W1.heap.size + 1) W1 #[] rfl (Nat.le_refl _) (by omega)
      have HTa := hd (HT.out.below ((Below.refl _ _).alloc (Nat.le_refl _) (.cells #[] 2)))
      have hba := hb.alloc hb.size (.cells #[] 2)
      obtain ⟨gr, hgr⟩ : ∃ gr, gr = W1.heap.size := ⟨_, rfl⟩
      have hggr : g < gr := by rw [hgr]; exact gW
      have hwgr : w.heap.size ≤ gr := by rw [hgr]; exact hb.size
      have HGR := hd hgr
      clear hgr
      go_wp2_with fail
      go_loopw [6, 7] (fun v i wr => ∃ j : Nat, j ≤ h + 1 ∧ i = .int .i64 j ∧ ∃ A c, v = .slice A j c ∧ Own 1 ci 2 wr gr wr.heap.size A j c ((rowAt L h C xI xP hr).take j) ∧ TbC cur wr g gr nI (h + 1) (hr + 1) (rowAt L h C xI xP) ∧ gr < wr.heap.size ∧ Below w.heap.size w wr) (fun _ i _ => (h + 1) - (intOf i).toNat)
      case atStart => exact ⟨0, Nat.zero_le _, rfl, _, 0, rfl, by rw [HGR.out]; exact he.mono (Nat.le_refl _) (by simp), by rw [HGR.out]; exact HTa.out, by rw [HGR.out]; simp, hba⟩
      case round =>
        clear HT HTa he hba hb
        obtain ⟨j, hj, rfl, A, c', rfl, ho, hT, hgl3, hb⟩ := hrel
        have TB := hd hT
        have HO := hd ho
        have HB := hd hb
        obtain ⟨w3, hW⟩ : ∃ W, W = wr := ⟨_, rfl⟩
        subst hW
        have RI := hd (rI.below hb)
        have RY := hd (rP.below hb)
        have hgb := blk_below HGP.out hb hgl
        have HGB := hd hgb
        have kb0 := blk_cell hgb 0
        have kb1 := blk_cell hgb 1
        have kb2 := blk_cell hgb 2
        have kb3 := blk_cell hgb 3
        have kb4 := blk_cell hgb 4
        have kb5 := blk_cell hgb 5
        clear hT ho hgb hb
        by_cases hjl : j < h + 1
        · obtain ⟨f, hf⟩ : ∃ f, f = stepF L h x0 pr (rowAt L h C xI xP (hr + 1)) (j : Int) := ⟨_, rfl⟩
          have HF := hd hf
          have HBD : Hid (∀ u : Nat, (u : Int) ≤ C + 1 → bestTo f u ≤ 2000000) := hd (fun u hu => by
            rw [hf]
            exact step_best v5 hp0 hp1 HPR.out (by rw [LI.out]; exact v6) hu)
          clear hf
          go_wp2_with fail
          try rw [show (decide ((j : Int) < (h : Int) + 1)) = true from by simp; omega]
          try rw [show (decide ((j : Int) ≤ (h : Int))) = true from by simp; omega]
          try rw [show (decide (j ≤ h)) = true from by simp; omega]
          go_loopw [8, 9] (fun t i wr => ∃ u : Nat, (u : Int) ≤ C + 1 ∧ i = .int .i64 u ∧ t = .int .i64 (bestTo f u) ∧ Below w3.heap.size w3 wr) (fun _ i _ => (C.toNat + 1) - (intOf i).toNat)
          case atStart => exact ⟨0, by omega, rfl, rfl, Below.refl _ _⟩
          case round =>
            clear kb0 kb1 kb2 kb3 kb4 kb5
            obtain ⟨u, hu, rfl, rfl, hb3⟩ := hrel
            have hgb := blk_below HGB.out hb3 (blk_lt HGB.out)
            have kb1 := blk_cell hgb 1
            have kb2 := blk_cell hgb 2
            have kb3 := blk_cell hgb 3
            have kb4 := blk_cell hgb 4
            have kb5 := blk_cell hgb 5
            clear hgb
            have T3 := hd (TB.out.below hb3)
            have hB0 := bestTo_low f u
            have hB1 := HBD.out u hu
            by_cases hlu : (u : Int) ≤ C
            · have hu0 : (0 : Int) ≤ (u : Int) := by omega
              obtain ⟨bX, oX, x, rfl, hblX, hx, hcX⟩ := getInt64 ((RI.out).below hb3) hlt
              have hx' := hx
              rw [HX.out] at hx'
              obtain rfl := Option.some.inj hx'
              clear hx hx'
              cases hin : inB ((j : Int) + x0 - u) L h
              · have Hn := hd (bestTo_skip (f := f) (m := u) (by rw [HF.out]; exact stepF_out hin))
                clear T3
                go_wp2_with fail
                go_quiet ((go_at_call 63; exact Calls.quiet_of_same ((l00In_calls _ _ _ _).mono (fun _ _ h => ⟨h.1, h.2.symm⟩))))
                go_wp2_with fail
                all_goals (
                  go_roundw
                  case rel => exact ⟨u + 1, by omega, by go_num, by rw [Hn.out], below_drewN hb3 _⟩
                  case measure => simp [intOf]; omega)
              · obtain ⟨hi0, hi1⟩ := inB_iff.1 hin
                obtain ⟨q, hq⟩ : ∃ q : Nat, (j : Int) + x0 - u = (q : Int) := ⟨((j : Int) + x0 - u).toNat, by omega⟩
                have hin' : inB (q : Int) L h = true := hq ▸ hin
                obtain ⟨AT, cT, kT, rT⟩ := T3.out.get (j := hr + 1) (Nat.le_refl _) (by omega)
                clear T3
                obtain ⟨bN, oN, z, rfl, hblN, hz, hcN⟩ := getInt64 rT (show q < h + 1 by omega)
                clear rT
                obtain ⟨z0, z1⟩ := rowAt_bd v5 HPR.out (by rw [LI.out]; exact v6) (hr + 1) hz
                have hz' : (rowAt L h C xI xP (hr + 1))[((j : Int) + x0 - u).toNat]? = some z := by rw [hq, Int.toNat_natCast]; exact hz
                have HZ := hd hz'
                clear hz hz'
                have HQ := hd hq
                have q0 : (0 : Int) ≤ (q : Int) := by omega
                have q1 : (q : Int) < ((h + 1 : Nat) : Int) := by omega
                have hr2 : (0 : Int) ≤ (hr : Int) + 1 := by omega
                have hr3 : (hr : Int) + 1 < (nI : Int) + 1 := by omega
                by_cases hzn : z < 0
                · have hzn' : decide (z < 0) = true := by simp; omega
                  have Hn := hd (bestTo_skip (f := f) (m := u) (by rw [HF.out]; exact stepF_none HZ.out hzn))
                  go_wp2_with fail
                  go_quiet ((go_at_call 63; exact Calls.quiet_of_same ((l00In_calls _ _ _ _).mono (fun _ _ h => ⟨h.1, h.2.symm⟩))))
                  go_wp2_with fail
                  all_goals (
                    go_roundw
                    case rel => exact ⟨u + 1, by omega, by go_num, by rw [Hn.out], below_drewN hb3 _⟩
                    case measure => simp [intOf]; omega)
                · have hC := stepF_some (p := pr) HZ.out (by omega) hin
                  have hmb := mul_bd (x := (u : Int)) (y := pr) hu0 (show (u : Int) ≤ 40 by omega) hp0 hp1
                  obtain ⟨hm0, hm1⟩ := hmb
                  obtain ⟨bY, oY, pr', rfl, hblY, hy, hcY⟩ := getInt64 ((RY.out).below hb3) hltP
                  have hy' := hy
                  rw [HY.out] at hy'
                  obtain rfl := Option.some.inj hy'
                  clear hy hy'
                  have hzn' : decide (z < 0) = false := by simp; omega
                  by_cases hlow : bestTo f u < 0
                  · have Hn := hd (bestTo_take (f := f) (m := u) (c := (z + u * pr)) (by rw [HF.out, hC]; omega) (by omega) (.inl hlow))
                    go_wp2_with fail
                    go_quiet ((go_at_call 63; exact Calls.quiet_of_same ((l00In_calls _ _ _ _).mono (fun _ _ h => ⟨h.1, h.2.symm⟩))))
                    go_wp2_with fail
                    go_quiet (fail)
                    go_wp2_with fail
                    go_roundw
                    case rel => exact ⟨u + 1, by omega, by go_num, by rw [Hn.out], by first | exact below_drewN (below_drewN hb3 _) _ | exact below_drewN hb3 _⟩
                    case measure => simp [intOf]; omega
                  · by_cases hlt2 : (z + u * pr) < bestTo f u
                    · have Hn := hd (bestTo_take (f := f) (m := u) (c := (z + u * pr)) (by rw [HF.out, hC]; omega) (by omega) (.inr hlt2))
                      go_wp2_with fail
                      go_quiet ((go_at_call 63; exact Calls.quiet_of_same ((l00In_calls _ _ _ _).mono (fun _ _ h => ⟨h.1, h.2.symm⟩))))
                      go_wp2_with fail
                      go_quiet (fail)
                      go_wp2_with fail
                      go_roundw
                      case rel => exact ⟨u + 1, by omega, by go_num, by rw [Hn.out], by first | exact below_drewN (below_drewN hb3 _) _ | exact below_drewN hb3 _⟩
                      case measure => simp [intOf]; omega
                    · have Hn := hd (bestTo_leave (f := f) (m := u) (c := (z + u * pr)) (by rw [HF.out, hC]; omega) (by omega) (by omega))
                      go_wp2_with fail
                      go_quiet ((go_at_call 63; exact Calls.quiet_of_same ((l00In_calls _ _ _ _).mono (fun _ _ h => ⟨h.1, h.2.symm⟩))))
                      go_wp2_with fail
                      go_quiet (fail)
                      go_wp2_with fail
                      go_roundw
                      case rel => exact ⟨u + 1, by omega, by go_num, by rw [Hn.out], by first | exact below_drewN (below_drewN hb3 _) _ | exact below_drewN hb3 _⟩
                      case measure => simp [intOf]; omega
            · obtain rfl : u = C.toNat + 1 := by omega
              have hval : (rowAt L h C xI xP hr)[j]? = some (bestTo f (C.toNat + 1)) := by
                rw [HRow.out, HF.out]
                exact rowF_get (by omega)
              have Hn : Hid ((rowAt L h C xI xP hr).take (j + 1) = (rowAt L h C xI xP hr).take j ++ [bestTo f (C.toNat + 1)]) := hd (take_next hval)
              clear hval T3 hB0 hB1
              obtain ⟨w4, hW⟩ : ∃ W, W = wr := ⟨_, rfl⟩
              subst hW
              have hb1 := bnext HB.out hb3 (by have := HB.out.size; omega)
              have Ho1 := hd ((HO.out.below hb3).mono (Nat.le_refl _) hb3.size)
              have HT4 := hd (TB.out.below hb3)
              have hs4 := hb3.size
              go_wp2_with (at_builtin; refine wpList_app _ rfl _ _ 22 rfl 2 i0 _ 1 8 Try.underlying22 hi hz0 hz1 hz2 rfl (by decide) len_ci one_ci gr w4.heap.size A j c' _ rfl (Ho1.out.alloc _) w4.heap.size (bestTo f (C.toNat + 1) : Int) rfl (app_new _ _ _) (by omega) (by unfold maxLen; omega) (by simp; omega) ?_)
              intro A' c'' w5 ho2 hg2
              have hb2 := below_app (hb1.alloc hb1.size _) (Ho1.out.alloc _) hg2 (Nat.le_refl _) (by omega)
              have HT5 := hd ((HT4.out.below ((Below.refl _ _).alloc (Nat.le_refl _) _)).grown hg2 (fun q hq => by have := Ho1.out.row hq; omega))
              have hs5 := hg2.size
              simp only [World.size_alloc] at hs5
              have Ho2 := hd ho2
              clear ho2 hg2
              go_wp2_with fail
              go_roundw
              case rel => exact ⟨j + 1, by omega, by go_num, A', c'', rfl, by rw [Hn.out]; exact Ho2.out, HT5.out, by omega, hb2⟩
              case measure => simp [intOf]; omega
        · obtain rfl : j = h + 1 := by omega
          have oR : Own 1 ci 2 w3 (g + 1) w3.heap.size A (h + 1) c' (rowAt L h C xI xP hr) := by
            have e := HO.out
            rw [List.take_of_length_le (by rw [rowAt_len, Int.toNat_natCast]; exact Nat.le_refl _)] at e
            exact e.mono (by omega) (Nat.le_refl _)
          have hT := TB.out
          obtain ⟨v, hvn⟩ := get_of_lt (cur := cur) (i := hr) (by rw [hT.2.1]; omega)
          have kv := (blk_cell hT.1 hr).trans hvn
          have zv := blk_free hT.1 hr
          clear hvn
          have hT2 := (hT.set (Nat.lt_succ_self hr) (.slice A (h + 1) c')).mono (U' := w3.heap.size) (by omega)
          have hcs : (cur.setIfInBounds hr (.slice A (h + 1) c'))[hr]? = some (.slice A (h + 1) c') := by rw [Array.getElem?_setIfInBounds_self_of_lt (by rw [hT.2.1]; omega)]
          have oR2 := oR.only (only_set (only_refl w3 (some g)) hr (.slice A (h + 1) c')) (fun q e => by obtain rfl := Option.some.inj e; omega)
          have HT2 := hd (hT2.ext hcs oR2)
          have hb3 := HB.out.setCell (show w.heap.size ≤ (⟨g, hr, none⟩ : Addr).block by simp; omega) (.slice A (h + 1) c')
          clear hT hT2 hcs oR oR2
          go_wp2_with fail
          go_roundw
          case rel => exact ⟨hr, by omega, by go_num, _, by simpa using HT2.out, hb3⟩
          case measure => simp [intOf] <;> omega
end Go.Proofs.Ythabjlhfidcnoaa
