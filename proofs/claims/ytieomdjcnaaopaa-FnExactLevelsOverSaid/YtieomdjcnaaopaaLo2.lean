/- Levels over days: the reference. -/
import Derived.Test.YtieomdjcnaaopaaLo
namespace Go.Proofs.Ytieomdjcnaaopaa
open Go.RowKit
set_option linter.unusedVariables false
set_option maxRecDepth 100000 in
set_option maxHeartbeats 1000000 in
theorem specLevelsOver_calls (aL : Option Addr) (nL cL : Nat) (xL : List Int) (aV : Option Addr) (nV cV : Nat) (xV : List Int) (level : Int) (a : Option Addr) (n c : Nat) (xs : List W5) (w : World) (rL : RdInt64 w aL nL xL) (hL : nL ≤ 1048576) (rV : RdInt64 w aV nV xV) (hV : nV ≤ 1048576) (hr : RdWater w a n xs) (hn : n ≤ 1048576) :
    Calls Try.prog 39 #[.agg #[.slice aL nL cL, .slice aV nV cV], .int .i64 level, .slice a n c] w fun e w' => ∃ A m c, e = .returned (.tuple #[.slice A m c, .int .i64 (loZ xL xV level xs).2]) ∧ Own 1 ci 2 w' w.heap.size w'.heap.size A m c (loZ xL xV level xs).1 ∧ m ≤ 1048576 ∧ Below w.heap.size w w' := by
  have LX := hd hr.len
  obtain ⟨R, hR⟩ : ∃ R, loZ xL xV level xs = R := ⟨_, rfl⟩
  have hR' := hR
  unfold loZ at hR'
  have HR := hd hR'
  rw [hR]
  clear hR hR'
  obtain ⟨i0, hi, hz0, hz1, hz2⟩ := info_parts infoInt64
  have hg := heap_alloc_new w (cvC aL nL cL aV nV cV)
  have dd : Below w.heap.size w (w.alloc (cvC aL nL cL aV nV cV)) := (Below.refl _ _).alloc (Nat.le_refl _) _
  go_enter Try.func39, Try.ntmps39
  go_upto_region 1 with fail
  generalize w.alloc (cvC aL nL cL aV nV cV) = W1 at hg dd ⊢
  go_wp2_with fail
  refine (l05CodeG_calls _ aL nL cL xL aV nV cV xV level _ hg (rL.below dd) hL (rV.below dd) hV).mono ?_
  rintro e w1 ⟨he, b1⟩
  have d1 := bnext dd b1 (Nat.le_refl _)
  have g1 := blk_below hg b1 (blk_lt hg)
  clear b1 hg dd
  obtain ⟨c5, hc5⟩ : ∃ z, c5Z xL xV level = z := ⟨_, rfl⟩
  rw [hc5] at he
  subst he
  have HC5 := hd hc5
  clear hc5
  go_wp2_with fail
  refine (l13List_calls _ _ _ xs _ (hr.below d1) hn).mono ?_
  rintro e w2 ⟨he, b2⟩
  have d2 := bnext d1 b2 (Nat.le_refl _)
  have g2 := blk_below g1 b2 (blk_lt g1)
  clear b2 g1 d1
  obtain ⟨cl, hcl⟩ : ∃ z, lstC xs = z := ⟨_, rfl⟩
  rw [hcl] at he
  subst he
  have HCL := hd hcl
  clear hcl
  have h5 : (c5 = 1 ∧ cvB xL xV = false) ∨ (c5 = 2 ∧ cvB xL xV = true ∧ inC xL level = false) ∨ (c5 = 0 ∧ cvB xL xV = true ∧ inC xL level = true) := by
    have := HC5.out
    unfold c5Z at this
    cases hc : cvB xL xV <;> cases hi : inC xL level <;> simp [hc, hi] at this <;> simp [← this]
  have h6 : (cl = 1 ∧ xs.all waB = false) ∨ (cl = 2 ∧ xs.all waB = true ∧ ¬ xs.length ≤ 100) ∨ (cl = 0 ∧ xs.all waB = true ∧ xs.length ≤ 100) := by
    have := HCL.out
    unfold lstC at this
    cases hc : xs.all waB <;> by_cases hi : xs.length ≤ 100 <;> simp [hc, hi] at this <;> simp [← this, hi]
  clear HC5 HCL
  have no1 : R = ([], 1) → ∀ w' : World, Below w.heap.size w w' → ∃ A m c, Ending.returned (.tuple #[.slice none 0 0, .int .i64 1]) = .returned (.tuple #[.slice A m c, .int .i64 R.2]) ∧ Own 1 ci 2 w' w.heap.size w'.heap.size A m c R.1 ∧ m ≤ 1048576 ∧ Below w.heap.size w w' := by
    rintro rfl w' hb; exact ⟨none, 0, 0, rfl, Own.nil_, by omega, hb⟩
  have no2 : R = ([], 2) → ∀ w' : World, Below w.heap.size w w' → ∃ A m c, Ending.returned (.tuple #[.slice none 0 0, .int .i64 2]) = .returned (.tuple #[.slice A m c, .int .i64 R.2]) ∧ Own 1 ci 2 w' w.heap.size w'.heap.size A m c R.1 ∧ m ≤ 1048576 ∧ Below w.heap.size w w' := by
    rintro rfl w' hb; exact ⟨none, 0, 0, rfl, Own.nil_, by omega, hb⟩
  have NO1 := hd no1
  have NO2 := hd no2
  clear no1 no2
  rcases h5 with ⟨rfl, hc⟩ | h5
  · have FF : Hid (R = ([], 1)) := hd (by have := HR.out; rw [hc, Bool.and_false] at this; exact this.symm)
    clear HR h6 g2
    go_wp2_with fail
    go_ret2
    exact NO1.out FF.out _ d2
  rcases h6 with ⟨rfl, hall⟩ | h6
  · have FF : Hid (R = ([], 1)) := hd (by have := HR.out; rw [hall] at this; exact this.symm)
    clear HR hall g2
    rcases h5 with ⟨rfl, -⟩ | ⟨rfl, -⟩
    all_goals
      go_wp2_with fail
      go_ret2
      exact NO1.out FF.out _ d2
  have HCC : Hid (cvB xL xV = true) := hd (by rcases h5 with h | h <;> exact h.2.1)
  have HALL : Hid (xs.all waB = true) := hd (by rcases h6 with h | h <;> exact h.2.1)
  have HR1 : Hid ((if xs.length ≤ 100 ∧ inC xL level = true then lo1 xL xV [] (volF (volZ xL xV level) xs).2 else ([], 2)) = R) := hd (by have := HR.out; rw [HCC.out, HALL.out] at this; exact this)
  clear HR
  rcases h5 with ⟨rfl, -, hon⟩ | ⟨rfl, -, hon⟩
  · have FF : Hid (R = ([], 2)) := hd (by have := HR1.out; rw [hon, if_neg (by simp)] at this; exact this.symm)
    clear HR1 hon g2
    rcases h6 with ⟨rfl, -⟩ | ⟨rfl, -⟩
    all_goals
      go_wp2_with fail
      go_ret2
      exact NO2.out FF.out _ d2
  rcases h6 with ⟨rfl, -, hle⟩ | ⟨rfl, -, hle⟩
  · have FF : Hid (R = ([], 2)) := hd (by have := HR1.out; rw [if_neg (fun h => hle h.1)] at this; exact this.symm)
    clear HR1 hon hle g2
    go_wp2_with fail
    go_ret2
    exact NO2.out FF.out _ d2
  have HON := hd hon
  have HR2 : Hid (lo1 xL xV [] (volF (volZ xL xV level) xs).2 = R) := hd (by have := HR1.out; rw [if_pos ⟨hle, HON.out⟩] at this; exact this)
  have hn1 : n ≤ 100 := by rw [← LX.out]; exact hle
  clear HR1 NO1 NO2 hon hle
  have HC := HCC
  have vb := volZ_c5 HC.out HON.out
  obtain ⟨v0, hv0⟩ : ∃ v, volZ xL xV level = v := ⟨_, rfl⟩
  have HV0 := hd hv0
  rw [hv0] at HR2 vb
  clear hv0
  obtain ⟨vb0, vb1⟩ := vb
  have VB0 := hd vb0
  have VB1 := hd vb1
  go_upto_region 7 with fail
  have k0 := blk_cell g2 0
  have k1 := blk_cell g2 1
  go_wp2_with fail
  refine (l05Volume_calls _ aL nL cL xL aV nV cV xV level _ g2 (rL.below d2) hL (rV.below d2) hV (cv_of HC.out) (inB_iff.1 HON.out).1 (inB_iff.1 HON.out).2).mono ?_
  rintro e w4 ⟨he, b4⟩
  rw [HV0.out] at he
  subst he
  have d4 := bnext d2 b4 (Nat.le_refl _)
  have g4 := blk_below g2 b4 (blk_lt g2)
  clear b4 d2 g2 k0 k1
  have own0 := Own.empty (sz := 1) (cs := ci) (E := 2) (L := w.heap.size + 1) (U := (w4.alloc (.cells #[] 2)).heap.size) w4 #[] rfl (blk_lt g4) (by simp)
  have O0 := hd own0
  have G4 := hd (blk_alloc g4 (.cells #[] 2))
  have da := d4.alloc d4.size (.cells #[] 2)
  clear own0 g4 d4
  obtain ⟨L, hLL⟩ : ∃ L, (volF v0 xs).2 = L := ⟨_, rfl⟩
  have HLL0 := hd hLL
  have hlen : L.length = n := by rw [← hLL, volF_len]; exact LX.out
  have HLEN := hd hlen
  rw [hLL] at HR2
  clear hLL hlen
  have lz := lastV (cv_of HC.out)
  obtain ⟨ll, hll⟩ : ∃ x, lastZ xV = x := ⟨_, rfl⟩
  rw [hll] at lz
  obtain ⟨lz0, lz1⟩ := lz
  have HLL := hd hll
  have LV := rV.len
  have HLN := hd (lastZ_n LV)
  have hpos : 0 < nV := by have := (cv_of HC.out).n2; have := (cv_of HC.out).len; omega
  obtain ⟨bV, oV, hbV, hlV, hcV⟩ := rdBase rV hpos
  have c1 := hcV (nV - 1) (by omega)
  rw [← HLN.out, hll] at c1
  obtain ⟨nn, rfl⟩ : ∃ nn, nV = nn + 1 := ⟨nV - 1, by omega⟩
  rw [Nat.add_sub_cancel] at c1
  subst hbV
  have CV1 := hd c1
  have q0 : (0 : Int) ≤ (nn : Int) := by omega
  have q1 : (nn : Int) < (nn : Int) + 1 := by omega
  clear hll LV hcV c1 HLN hpos
  go_wp2_with fail
  go_loopw [10, 11, 12] (fun s10 s11 s12 wr => ∃ k : Nat, ∃ v : Int, ∃ acc : List Int, k ≤ n ∧ s10 = .int .i64 v ∧ s12 = .int .i64 k ∧ ∃ A c', s11 = .slice A k c' ∧ (volF v0 (xs.take k)).1 = v ∧ lo1 xL xV acc (L.drop k) = R ∧ Own 1 ci 2 wr (w.heap.size + 1) wr.heap.size A k c' acc ∧ wr.heap[w.heap.size]? = some (cvC aL nL cL (some ⟨bV, oV, none⟩) (nn + 1) cV) ∧ Below w.heap.size w wr) (fun _ _ i _ => n - (intOf i).toNat)
  case atStart => exact ⟨0, v0, [], Nat.zero_le _, rfl, rfl, _, 0, rfl, rfl, HR2.out, O0.out, G4.out, da⟩
  case round =>
    clear O0 G4 da
    obtain ⟨k, v, acc, hk, rfl, rfl, A, c', rfl, hvv, hlo, hown, hg, hb⟩ := hrel
    have HLO := hd hlo
    have Hown := hd hown
    have HG := hd hg
    have HVV := hd hvv
    clear hlo hown hg hvv
    by_cases hlt : k < n
    · obtain ⟨bo, oo, f0, f1, f2, f3, f4, rfl, hbl, hx, hc0, hc1, hc2, hc3, hc4⟩ := getWater (hr.below hb) hlt
      have bd := volF_bd HALL.out VB0.out VB1.out k (by rw [LX.out]; omega)
      have hw := all_at HALL.out hx
      have hsm := netW_small hw
      have HNB := hd (waB_nb hw)
      have hy := volF_at hx HVV.out bd.2.2
      rw [HLL0.out] at hy
      have HV1 : Hid ((volF v0 (xs.take (k + 1))).1 = v + netW (f0, f1, f2, f3, f4)) := hd (by rw [volF_next hx]; unfold volS; rw [HVV.out])
      obtain ⟨q, hq⟩ : ∃ q, netW (f0, f1, f2, f3, f4) = q := ⟨_, rfl⟩
      rw [hq] at hy hsm HV1
      have HQ := hd hq
      rw [HVV.out] at bd
      obtain ⟨bd1, bd2, -⟩ := bd
      obtain ⟨m1, m2⟩ := hsm
      have HX := hd hy
      have i1 : (0 : Int) ≤ (k : Int) := by omega
      have i2 : (k : Int) < (n : Int) := by omega
      have hk100 : k ≤ 100 := by omega
      clear hy hx hw hq HVV
      have k0 := blk_cell HG.out 0
      have k1 := blk_cell HG.out 1
      go_wp2_with fail
      refine (l13Net_calls _ _ f0 f1 f2 f3 f4 _ HNB.out hc0 hc1 hc2 hc3 hc4).mono ?_
      rintro e w5 ⟨he, b5⟩
      rw [HQ.out] at he
      subst he
      have hb5 := bnext hb b5 (Nat.le_refl _)
      have g5 := blk_below HG.out b5 (blk_lt HG.out)
      have O5 := hd ((Hown.out.below b5).mono (Nat.le_refl _) b5.size)
      clear b5 hb k0 k1 hc0 hc1 hc2 hc3 hc4 HG Hown HQ HNB
      have k0 := blk_cell g5 0
      have k1 := blk_cell g5 1
      have cl1 := ((bcell hb5).1 _ _ hlV).trans CV1.out
      by_cases hneg : v + q < 0
      · have FF := hd (lo1_neg HX.out HLO.out hneg)
        clear HLO
        go_wp2_with fail
        go_ret2
        exact ⟨none, 0, 0, ret_sli (by rw [FF.out]), by rw [FF.out]; exact Own.nil_, by omega, hb5⟩
      · by_cases hbig : ll < v + q
        · have FF := hd (lo1_big HX.out HLO.out hneg (by rw [HLL.out]; exact hbig))
          clear HLO
          go_wp2_with fail
          go_ret2
          exact ⟨none, 0, 0, ret_sli (by rw [FF.out]), by rw [FF.out]; exact Own.nil_, by omega, hb5⟩
        · have HN := hd (lo1_next HX.out HLO.out hneg (by rw [HLL.out]; exact hbig))
          obtain ⟨z, hz⟩ : ∃ z, lvZ xL xV (v + q) = z := ⟨_, rfl⟩
          have HZ := hd hz
          rw [hz] at HN
          clear HLO hz
          go_wp2_with fail
          refine (l05Level_calls _ aL nL cL xL _ _ cV xV (v + q) _ g5 (rL.below hb5) hL (rV.below hb5) hV (cv_of HC.out)).mono ?_
          rintro e w7 ⟨he, b7⟩
          rw [HZ.out] at he
          subst he
          have hb7 := bnext hb5 b7 (Nat.le_refl _)
          have HG7 := hd (blk_below g5 b7 (blk_lt g5))
          have HO7 := hd ((O5.out.below b7).mono (Nat.le_refl _) b7.size)
          clear b7 k0 k1 cl1 g5 O5 hb5
          go_wp2_with (at_builtin; refine wpList_app_at _ rfl _ _ 22 rfl 2 i0 _ 1 8 Try.underlying22 hi hz0 hz1 hz2 rfl (by decide) len_ci one_ci (w.heap.size + 1) w7.heap.size A k c' acc rfl (HO7.out.alloc _) w7.heap.size z rfl (app_new _ _ _) (by omega) (by unfold maxLen; omega) (by have := blk_lt HG7.out; simp; omega) ?_)
          intro A' c'' w8 ho8 hg8 hoff8
          have rG := blk_grown (blk_alloc HG7.out _) hg8 (own_off HO7.out (by omega))
          have hb8 := below_app (hb7.alloc hb7.size _) (HO7.out.alloc _) hg8 (Nat.le_refl _) (by omega)
          have Ho8 := hd ho8
          have RG := hd rG
          clear ho8 hg8 hoff8 rG HG7 HO7
          go_wp2_with fail
          go_roundw
          case rel => exact ⟨k + 1, v + q, acc ++ [z], by omega, by go_num, by go_num, A', c'', rfl, HV1.out, HN.out, Ho8.out, RG.out, hb8⟩
          case measure => simp [intOf]; omega
    · obtain rfl : k = n := by omega
      have FF := hd (lo1_end (by rw [HLEN.out]; exact Nat.le_refl _) HLO.out)
      have hk100 : k ≤ 1048576 := by omega
      clear HLO
      go_wp2_with fail
      go_ret2
      exact ⟨A, k, c', ret_sli (by rw [FF.out]), by rw [FF.out]; exact Hown.out.mono (by omega) (Nat.le_refl _), hk100, hb⟩
end Go.Proofs.Ytieomdjcnaaopaa
