/- Control: what happens hour by hour. -/
import Derived.Test.YtieomdjcnaaopaaCod
import Derived.Test.YtieomdjcnaaopaaBl
import Derived.Test.YtieomdjcnaaopaaApp
import Derived.Test.YtieomdjcnaaopaaHours
import Derived.Test.YtieomdjcnaaopaaRunsNow
namespace Go.Proofs.Ytieomdjcnaaopaa
open Go.RowKit
set_option linter.unusedVariables false

def rtB (z : Int) : Bool := inB z 0 1000000
def ctl (ls vs : List Int) (on off rate : Int) (s : Int × Bool) (x : Int) : Int × Bool :=
  (if runB on off (lvZ ls vs s.1) s.2 then max 0 (s.1 + x - rate) else s.1 + x, runB on off (lvZ ls vs s.1) s.2)
def cAt (ls vs : List Int) (on off rate : Int) (xs : List Int) (v : Int) : Nat → Int × Bool
  | 0 => (v, false)
  | k + 1 => ctl ls vs on off rate (cAt ls vs on off rate xs v k) (at0 xs k)
def okN (ls vs : List Int) (on off rate : Int) (xs : List Int) (v : Int) (n : Nat) : Bool := (List.range n).all fun k => decide ((cAt ls vs on off rate xs v (k + 1)).1 ≤ lastZ vs)
def hrL (ls vs : List Int) (on off rate : Int) (xs : List Int) (v : Int) (n : Nat) : List (Int × Bool) := (List.range n).map fun k => (lvZ ls vs (cAt ls vs on off rate xs v (k + 1)).1, (cAt ls vs on off rate xs v (k + 1)).2)
def rcZ (ls vs : List Int) (on off : Int) (v rate : Int) (xs : List Int) : List (Int × Bool) × Bool :=
  if okN ls vs on off rate xs v xs.length then (hrL ls vs on off rate xs v xs.length, true) else ([], false)
theorem okN_stop {ls vs : List Int} {on off rate : Int} {xs : List Int} {v : Int} {n k : Nat} (hk : k < n) (h : lastZ vs < (cAt ls vs on off rate xs v (k + 1)).1) : okN ls vs on off rate xs v n = false := by
  unfold okN
  rw [List.all_eq_false]
  exact ⟨k, List.mem_range.2 hk, by simp; omega⟩
theorem okN_next {ls vs : List Int} {on off rate : Int} {xs : List Int} {v : Int} {k : Nat} (h0 : okN ls vs on off rate xs v k = true) (h : (cAt ls vs on off rate xs v (k + 1)).1 ≤ lastZ vs) : okN ls vs on off rate xs v (k + 1) = true := by
  unfold okN at *
  rw [List.range_succ, List.all_append, h0]
  simp [h]
theorem hrL_next (ls vs : List Int) (on off rate : Int) (xs : List Int) (v : Int) (k : Nat) : hrL ls vs on off rate xs v (k + 1) = hrL ls vs on off rate xs v k ++ [(lvZ ls vs (cAt ls vs on off rate xs v (k + 1)).1, (cAt ls vs on off rate xs v (k + 1)).2)] := by
  unfold hrL
  rw [List.range_succ, List.map_append]
  rfl
theorem cAt_next {ls vs : List Int} {on off rate : Int} {xs : List Int} {v0 : Int} {k : Nat} {v x : Int} {r : Bool} (h : cAt ls vs on off rate xs v0 k = (v, r)) (hx : xs[k]? = some x) :
    cAt ls vs on off rate xs v0 (k + 1) = (if runB on off (lvZ ls vs v) r then max 0 (v + x - rate) else v + x, runB on off (lvZ ls vs v) r) := by
  simp only [cAt, h, at0_get hx]
  rfl
theorem rcZ_len (ls vs : List Int) (on off : Int) (v rate : Int) (xs : List Int) : (rcZ ls vs on off v rate xs).1.length ≤ xs.length := by
  unfold rcZ
  split
  · simp [hrL]
  · simp
section
variable {α : Type} {sz : Nat} {cs : α → List Value} {E : TypeId} {w : World} {L U : Nat} {A : Option Addr} {n c : Nat} {xs : List α}
theorem own_off (h : Own sz cs E w L U A n c xs) {g : Nat} (hg : g < L) : Off A g := fun a ha e => by
  have := h.row (g := a.block) (by rw [ha]; rfl)
  omega
end
abbrev swC (on off : Int) : Obj := .cells #[.int .i64 on, .int .i64 off] 40 (0, 0)
theorem one_cHour : ∀ y, ∀ u ∈ cHour y, u.oneCell' = true := by intro y u hu; simp [cHour] at hu; rcases hu with rfl | rfl <;> rfl
theorem ret_slb {A : Option Addr} {n c : Nat} {x y : Bool} (h : x = y) : Ending.returned (.tuple #[.slice A n c, .bool x]) = .returned (.tuple #[.slice A n c, .bool y]) := by rw [h]
set_option maxRecDepth 100000 in
set_option maxHeartbeats 1000000 in
theorem runControl_calls (aL : Option Addr) (nL cL : Nat) (xL : List Int) (aV : Option Addr) (nV cV : Nat) (xV : List Int) (on off v0 rate : Int) (ax : Option Addr) (nx cx : Nat) (xs : List Int) (w : World) (rL : RdInt64 w aL nL xL) (hL : nL ≤ 1048576) (rV : RdInt64 w aV nV xV) (hV : nV ≤ 1048576) (rx : RdInt64 w ax nx xs) (hx : nx ≤ 1048576) (hc : cvB xL xV = true) (hv0 : 0 ≤ v0) (hv1 : v0 ≤ lastZ xV) (hr : rtB rate = true) (hall : xs.all rtB = true) :
    Calls Try.prog 105 #[.agg #[.slice aL nL cL, .slice aV nV cV], .agg #[.int .i64 on, .int .i64 off], .int .i64 v0, .int .i64 rate, .slice ax nx cx] w fun e w' => ∃ A m c, e = .returned (.tuple #[.slice A m c, .bool (rcZ xL xV on off v0 rate xs).2]) ∧ Own 2 cHour 119 w' w.heap.size w'.heap.size A m c (rcZ xL xV on off v0 rate xs).1 ∧ m ≤ 1048576 ∧ Below w.heap.size w w' := by
  have LX := hd rx.len
  have HCV := hd (cv_of hc)
  have lz := lastV (cv_of hc)
  obtain ⟨ll, hll⟩ : ∃ x, lastZ xV = x := ⟨_, rfl⟩
  have HLL := hd hll
  rw [hll] at lz hv1
  obtain ⟨lz0, lz1⟩ := lz
  obtain ⟨r0, r1⟩ := inB_iff.1 hr
  have HALL := hd hall
  have HPV : Hid (0 < nV) := hd (by have := HCV.out.n2; have := HCV.out.len; have := rV.len; omega)
  obtain ⟨R, hR⟩ : ∃ R, rcZ xL xV on off v0 rate xs = R := ⟨_, rfl⟩
  have HR := hd hR
  rw [hR]
  clear hll hr hall hR hc
  obtain ⟨i0, hi, hz0, hz1, hz2⟩ := info_parts infoHour
  obtain ⟨ga, gb, dd⟩ := two_blk2 w (cvC aL nL cL aV nV cV) (swC on off)
  have GA := hd ga
  have GB := hd gb
  clear ga gb
  have own0 := Own.empty (sz := 2) (cs := cHour) (E := 119) (L := w.heap.size + 1 + 1) (U := w.heap.size + 1 + 1 + 1) ((w.alloc (cvC aL nL cL aV nV cV)).alloc (swC on off)) #[] rfl (by simp) (by simp)
  simp only [World.size_alloc] at own0
  go_enter Try.func105, Try.ntmps105
  go_wp2_with fail
  go_loopw [2, 12, 13, 19] (fun s2 s12 s13 s19 wr => ∃ k : Nat, ∃ v : Int, ∃ r : Bool, k ≤ nx ∧ s2 = .int .i64 v ∧ s13 = .bool r ∧ s19 = .int .i64 k ∧ ∃ A c, s12 = .slice A k c ∧ cAt xL xV on off rate xs v0 k = (v, r) ∧ (0 ≤ v ∧ v ≤ ll) ∧ okN xL xV on off rate xs v0 k = true ∧ Own 2 cHour 119 wr (w.heap.size + 1 + 1) wr.heap.size A k c (hrL xL xV on off rate xs v0 k) ∧ wr.heap[w.heap.size]? = some (cvC aL nL cL aV nV cV) ∧ wr.heap[w.heap.size + 1]? = some (swC on off) ∧ Below w.heap.size w wr) (fun _ _ _ i _ => nx - (intOf i).toNat)
  case atStart => exact ⟨0, v0, false, Nat.zero_le _, rfl, rfl, rfl, _, 0, rfl, rfl, ⟨hv0, hv1⟩, rfl, own0.mono (Nat.le_refl _) (by simp), blk_alloc GA.out _, blk_alloc GB.out _, dd.alloc dd.size _⟩
  case round =>
    clear GA GB dd own0
    obtain ⟨k, v, r, hk, rfl, rfl, rfl, A, c0, rfl, hcat, ⟨v0', v1'⟩, hok, hown, hgA, hgB, hb⟩ := hrel
    have HCAT := hd hcat
    have HOK := hd hok
    have Hown := hd hown
    have HGA := hd hgA
    have HGB := hd hgB
    clear hcat hok hown hgA hgB
    by_cases hlt : k < nx
    · obtain ⟨bo, oo, f0, rfl, hbl, hx0, hc0⟩ := getInt64 (rx.below hb) hlt
      have hf := inB_iff.1 (all_at HALL.out hx0)
      obtain ⟨f0a, f0b⟩ := hf
      have hn := cAt_next HCAT.out hx0
      obtain ⟨z, hz⟩ : ∃ z, lvZ xL xV v = z := ⟨_, rfl⟩
      rw [hz] at hn
      have HZ := hd hz
      obtain ⟨r', hr'⟩ : ∃ r', runB on off z r = r' := ⟨_, rfl⟩
      rw [hr'] at hn
      have HR' := hd hr'
      clear hz hr' hx0
      have hd0 := hc0
      have i1 : (0 : Int) ≤ (k : Int) := by omega
      have i2 : (k : Int) < (nx : Int) := by omega
      have k0 := blw_cell (blk_cell HGA.out 0)
      have k1 := blw_cell (blk_cell HGA.out 1)
      have k2 := blw_cell (blk_cell HGB.out 0)
      have k3 := blw_cell (blk_cell HGB.out 1)
      have c0' := blw_cell hc0
      have RL1 := hd (rL.below hb)
      have RV1 := hd (rV.below hb)
      obtain ⟨v2, hv2⟩ : ∃ v2, (if r' then max 0 (v + f0 - rate) else v + f0) = v2 := ⟨_, rfl⟩
      rw [hv2] at hn
      have HN := hd hn
      obtain ⟨z2, hz2'⟩ : ∃ z, lvZ xL xV v2 = z := ⟨_, rfl⟩
      have HZ2 := hd hz2'
      have hv2b : 0 ≤ v2 ∧ v2 ≤ 1001000000 := by rw [← hv2]; split <;> omega
      obtain ⟨vb0, vb1⟩ := hv2b
      clear hn hz2'
      go_upto_region 6 with fail
      clear hc0
      refine wp_region_blw (by kernel_rfl) (by kernel_rfl) ?_
      repeat (go_big_quiet_step (first | (go_at_call 88; with_reducible exact blw_of ((level_calls aL nL cL xL aV nV cV xV v _ (RL1.out.below (Blw.out _)) hL (RV1.out.below (Blw.out _)) hV HCV.out).mono fun _ _ h => ⟨h.1.trans (ret_int HZ.out), h.2⟩)) | (go_at_call 141; with_reducible exact blw_of ((runs_calls on off z r _).mono fun _ _ h => ⟨h.1.trans (ret_bool HR'.out), h.2⟩))))
      refine wpQuiet_nil ?_
      rintro _ ⟨D, rfl⟩
      have hgA := blk_below HGA.out D.out (blk_lt HGA.out)
      have hgB := blk_below HGB.out D.out (blk_lt HGB.out)
      have own1 := (Hown.out.below D.out).mono (Nat.le_refl _) D.out.size
      have hb3 := bnext hb D.out (Nat.le_refl _)
      have rx := (D.out.cell (p := ⟨bo, oo + k, none⟩) hbl).trans hd0
      clear k0 k1 k2 k3 c0' RL1 RV1 HGA HGB hd0 Hown
      have k0 := blk_cell hgA 0
      have k1 := blk_cell hgA 1
      have HGA := hd hgA
      have HGB := hd hgB
      have Hown := hd own1
      clear hgA hgB own1
      have s1 : IntKind.i64.wrap (v + f0) = v + f0 := IntWalk.i64_in _ (by omega)
      have s2 : IntKind.i64.wrap (v + f0 - rate) = v + f0 - rate := IntWalk.i64_in _ (by omega)
      cases r'
      · obtain rfl : v + f0 = v2 := hv2
        by_cases hov : ll < (v + f0)
        · have FF : Hid (R = ([], false)) := hd (by rw [← HR.out]; unfold rcZ; rw [LX.out, okN_stop hlt (by rw [HN.out, HLL.out]; exact hov)]; rfl)
          go_wp2_with (first | (go_at_call 102; refine (last_calls _ _ _ xV _ (rV.below hb3) hV HPV.out).mono ?_; rintro e w9 ⟨he, rfl⟩; rw [HLL.out] at he; subst he))
          go_ret2
          exact ⟨_, 0, 0, ret_slb (by rw [FF.out]), by rw [FF.out]; exact Own.empty _ _ rfl hb3.size (by simp), by omega, hb3.alloc hb3.size _⟩
        · have hov' : (v + f0) ≤ ll := by omega
          go_wp2_with (first | (go_at_call 102; refine (last_calls _ _ _ xV _ (rV.below hb3) hV HPV.out).mono ?_; rintro e w9 ⟨he, rfl⟩; rw [HLL.out] at he; subst he))
          refine (level_calls aL nL cL xL aV nV cV xV _ _ (rL.below hb3) hL (rV.below hb3) hV HCV.out).mono ?_
          rintro e w4 ⟨he, b4⟩
          rw [HZ2.out] at he
          subst he
          have hgA := blk_below HGA.out b4 (blk_lt HGA.out)
          have hgB := blk_below HGB.out b4 (blk_lt HGB.out)
          have own2 := (Hown.out.below b4).mono (Nat.le_refl _) b4.size
          have hb4 := bnext hb3 b4 (Nat.le_refl _)
          clear k0 k1 HGA HGB Hown b4 rx hb3
          have l8 := blk_lt hgA
          have l9 := blk_lt hgB
          have GA2 := hd hgA
          have GB2 := hd hgB
          have O2 := hd own2
          clear hgA hgB own2
          go_wp2_with (at_builtin; refine wpList_app _ rfl _ _ 64 rfl 119 i0 _ 2 16 Try.underlying64 hi hz0 hz1 hz2 rfl (by decide) len_cHour one_cHour (w.heap.size + 1 + 1) w4.heap.size A k c0 (hrL xL xV on off rate xs v0 k) rfl (O2.out.alloc _) w4.heap.size (z2, false) rfl (app_new _ _ _) (by omega) (by unfold maxLen; omega) (by simp; omega) ?_)
          intro A' c'' w6 ho2 hg2
          have rA := blk_grown (blk_alloc GA2.out _) hg2 (own_off O2.out (by omega))
          have rB := blk_grown (blk_alloc GB2.out _) hg2 (own_off O2.out (by omega))
          have hd2 := below_app (hb4.alloc hb4.size _) (O2.out.alloc _) hg2 (Nat.le_refl _) (by omega)
          have Ho2 := hd ho2
          have RA := hd rA
          have RB := hd rB
          clear ho2 hg2 rA rB
          go_wp2_with fail
          go_roundw
          case rel => exact ⟨k + 1, (v + f0), _, by omega, rfl, rfl, by go_num, A', c'', rfl, HN.out, ⟨vb0, hov'⟩, okN_next HOK.out (by rw [HN.out, HLL.out]; exact hov'), by rw [hrL_next, HN.out]; simp only [HZ2.out]; exact Ho2.out, RA.out, RB.out, hd2⟩
          case measure => simp [intOf]; omega
      · by_cases hp : 0 < v + f0 - rate
        · obtain rfl : v + f0 - rate = v2 := by rw [← hv2]; simp only [if_true]; omega
          clear hv2
          by_cases hov : ll < (v + f0 - rate)
          · have FF : Hid (R = ([], false)) := hd (by rw [← HR.out]; unfold rcZ; rw [LX.out, okN_stop hlt (by rw [HN.out, HLL.out]; exact hov)]; rfl)
            go_wp2_with (first | (go_at_call 102; refine (last_calls _ _ _ xV _ (rV.below hb3) hV HPV.out).mono ?_; rintro e w9 ⟨he, rfl⟩; rw [HLL.out] at he; subst he))
            go_ret2
            exact ⟨_, 0, 0, ret_slb (by rw [FF.out]), by rw [FF.out]; exact Own.empty _ _ rfl hb3.size (by simp), by omega, hb3.alloc hb3.size _⟩
          · have hov' : (v + f0 - rate) ≤ ll := by omega
            go_wp2_with (first | (go_at_call 102; refine (last_calls _ _ _ xV _ (rV.below hb3) hV HPV.out).mono ?_; rintro e w9 ⟨he, rfl⟩; rw [HLL.out] at he; subst he))
            refine (level_calls aL nL cL xL aV nV cV xV _ _ (rL.below hb3) hL (rV.below hb3) hV HCV.out).mono ?_
            rintro e w4 ⟨he, b4⟩
            rw [HZ2.out] at he
            subst he
            have hgA := blk_below HGA.out b4 (blk_lt HGA.out)
            have hgB := blk_below HGB.out b4 (blk_lt HGB.out)
            have own2 := (Hown.out.below b4).mono (Nat.le_refl _) b4.size
            have hb4 := bnext hb3 b4 (Nat.le_refl _)
            clear k0 k1 HGA HGB Hown b4 rx hb3
            have l8 := blk_lt hgA
            have l9 := blk_lt hgB
            have GA2 := hd hgA
            have GB2 := hd hgB
            have O2 := hd own2
            clear hgA hgB own2
            go_wp2_with (at_builtin; refine wpList_app _ rfl _ _ 64 rfl 119 i0 _ 2 16 Try.underlying64 hi hz0 hz1 hz2 rfl (by decide) len_cHour one_cHour (w.heap.size + 1 + 1) w4.heap.size A k c0 (hrL xL xV on off rate xs v0 k) rfl (O2.out.alloc _) w4.heap.size (z2, true) rfl (app_new _ _ _) (by omega) (by unfold maxLen; omega) (by simp; omega) ?_)
            intro A' c'' w6 ho2 hg2
            have rA := blk_grown (blk_alloc GA2.out _) hg2 (own_off O2.out (by omega))
            have rB := blk_grown (blk_alloc GB2.out _) hg2 (own_off O2.out (by omega))
            have hd2 := below_app (hb4.alloc hb4.size _) (O2.out.alloc _) hg2 (Nat.le_refl _) (by omega)
            have Ho2 := hd ho2
            have RA := hd rA
            have RB := hd rB
            clear ho2 hg2 rA rB
            go_wp2_with fail
            go_roundw
            case rel => exact ⟨k + 1, (v + f0 - rate), _, by omega, rfl, rfl, by go_num, A', c'', rfl, HN.out, ⟨vb0, hov'⟩, okN_next HOK.out (by rw [HN.out, HLL.out]; exact hov'), by rw [hrL_next, HN.out]; simp only [HZ2.out]; exact Ho2.out, RA.out, RB.out, hd2⟩
            case measure => simp [intOf]; omega
        · obtain rfl : (0 : Int) = v2 := by rw [← hv2]; simp only [if_true]; omega
          have hp' : v + f0 - rate ≤ 0 := by omega
          clear hv2
          have hov' : 0 ≤ ll := by omega
          go_wp2_with (first | (go_at_call 102; refine (last_calls _ _ _ xV _ (rV.below hb3) hV HPV.out).mono ?_; rintro e w9 ⟨he, rfl⟩; rw [HLL.out] at he; subst he))
          refine (level_calls aL nL cL xL aV nV cV xV _ _ (rL.below hb3) hL (rV.below hb3) hV HCV.out).mono ?_
          rintro e w4 ⟨he, b4⟩
          rw [HZ2.out] at he
          subst he
          have hgA := blk_below HGA.out b4 (blk_lt HGA.out)
          have hgB := blk_below HGB.out b4 (blk_lt HGB.out)
          have own2 := (Hown.out.below b4).mono (Nat.le_refl _) b4.size
          have hb4 := bnext hb3 b4 (Nat.le_refl _)
          clear k0 k1 HGA HGB Hown b4 rx hb3
          have l8 := blk_lt hgA
          have l9 := blk_lt hgB
          have GA2 := hd hgA
          have GB2 := hd hgB
          have O2 := hd own2
          clear hgA hgB own2
          go_wp2_with (at_builtin; refine wpList_app _ rfl _ _ 64 rfl 119 i0 _ 2 16 Try.underlying64 hi hz0 hz1 hz2 rfl (by decide) len_cHour one_cHour (w.heap.size + 1 + 1) w4.heap.size A k c0 (hrL xL xV on off rate xs v0 k) rfl (O2.out.alloc _) w4.heap.size (z2, true) rfl (app_new _ _ _) (by omega) (by unfold maxLen; omega) (by simp; omega) ?_)
          intro A' c'' w6 ho2 hg2
          have rA := blk_grown (blk_alloc GA2.out _) hg2 (own_off O2.out (by omega))
          have rB := blk_grown (blk_alloc GB2.out _) hg2 (own_off O2.out (by omega))
          have hd2 := below_app (hb4.alloc hb4.size _) (O2.out.alloc _) hg2 (Nat.le_refl _) (by omega)
          have Ho2 := hd ho2
          have RA := hd rA
          have RB := hd rB
          clear ho2 hg2 rA rB
          go_wp2_with fail
          go_roundw
          case rel => exact ⟨k + 1, 0, _, by omega, rfl, rfl, by go_num, A', c'', rfl, HN.out, ⟨vb0, hov'⟩, okN_next HOK.out (by rw [HN.out, HLL.out]; exact hov'), by rw [hrL_next, HN.out]; simp only [HZ2.out]; exact Ho2.out, RA.out, RB.out, hd2⟩
          case measure => simp [intOf]; omega
    · obtain rfl : k = nx := by omega
      have FF : Hid (R = (hrL xL xV on off rate xs v0 k, true)) := hd (by rw [← HR.out]; unfold rcZ; rw [LX.out, if_pos HOK.out])
      clear HGA HGB
      go_wp2_with fail
      go_ret2
      exact ⟨A, k, c0, ret_slb (by rw [FF.out]), by rw [FF.out]; exact Hown.out.mono (by omega) (Nat.le_refl _), hx, hb⟩
set_option maxRecDepth 100000 in
set_option maxHeartbeats 1000000 in
theorem l14Run_calls (g : Nat) (aL : Option Addr) (nL cL : Nat) (xL : List Int) (aV : Option Addr) (nV cV : Nat) (xV : List Int) (on off v0 rate : Int) (ax : Option Addr) (nx cx : Nat) (xs : List Int) (w : World) (hg : w.heap[g]? = some (cvC aL nL cL aV nV cV)) (rL : RdInt64 w aL nL xL) (hL : nL ≤ 1048576) (rV : RdInt64 w aV nV xV) (hV : nV ≤ 1048576) (rx : RdInt64 w ax nx xs) (hx : nx ≤ 1048576) (hc : cvB xL xV = true) (hv0 : 0 ≤ v0) (hv1 : v0 ≤ lastZ xV) (hr : rtB rate = true) (hall : xs.all rtB = true) :
    Calls Try.prog 104 #[.pointer (some ⟨g, 0, none⟩), .agg #[.int .i64 on, .int .i64 off], .int .i64 v0, .int .i64 rate, .slice ax nx cx] w fun e w' => ∃ A m c, e = .returned (.tuple #[.slice A m c, .bool (rcZ xL xV on off v0 rate xs).2]) ∧ Own 2 cHour 119 w' w.heap.size w'.heap.size A m c (rcZ xL xV on off v0 rate xs).1 ∧ m ≤ 1048576 ∧ Below w.heap.size w w' := by
  have LX := hd rx.len
  have HC := hd hc
  have HCV := hd (cv_of hc)
  have lz := lastV (cv_of hc)
  have hgl := blk_lt hg
  obtain ⟨ll, hll⟩ : ∃ x, lastZ xV = x := ⟨_, rfl⟩
  have HLL := hd hll
  rw [hll] at lz hv1
  obtain ⟨lz0, lz1⟩ := lz
  obtain ⟨r0, r1⟩ := inB_iff.1 hr
  have HALL := hd hall
  have LV := rV.len
  have HLN := hd (lastZ_n LV)
  have hpos : 0 < nV := by have := HCV.out.n2; have := HCV.out.len; omega
  obtain ⟨bV, oV, hbV, hlV, hcV⟩ := rdBase rV hpos
  have c1 := hcV (nV - 1) (by omega)
  rw [← HLN.out, hll] at c1
  obtain ⟨nn, rfl⟩ : ∃ nn, nV = nn + 1 := ⟨nV - 1, by omega⟩
  rw [Nat.add_sub_cancel] at c1
  subst hbV
  have CV1 := hd c1
  have q0 : (0 : Int) ≤ (nn : Int) := by omega
  have q1 : (nn : Int) < (nn : Int) + 1 := by omega
  obtain ⟨R, hR⟩ : ∃ R, rcZ xL xV on off v0 rate xs = R := ⟨_, rfl⟩
  have HR := hd hR
  rw [hR]
  obtain ⟨z0, hz0'⟩ : ∃ z, lvZ xL xV v0 = z := ⟨_, rfl⟩
  have HZ0 := hd hz0'
  clear hll hr hall hR hc LV hpos hcV c1 hz0'
  obtain ⟨i0, hi, hz0, hz1, hz2⟩ := info_parts infoHour
  have gb := heap_alloc_new w (swC on off)
  have ga := blk_alloc hg (swC on off)
  have dd : Below w.heap.size w (w.alloc (swC on off)) := (Below.refl _ _).alloc (Nat.le_refl _) _
  have own0 := Own.empty (sz := 2) (cs := cHour) (E := 119) (L := w.heap.size + 1) (U := w.heap.size + 1 + 1) (w.alloc (swC on off)) #[] rfl (by simp) (by simp)
  have e0 : (some ⟨(w.alloc (swC on off)).heap.size, 0, none⟩ : Option Addr) = some ⟨w.heap.size + 1, 0, none⟩ := by rw [World.size_alloc]
  rw [e0] at own0
  have ga0 := blk_alloc ga (.cells #[] 119)
  have gb0 := blk_alloc gb (.cells #[] 119)
  have d0 := dd.alloc dd.size (.cells #[] 119)
  have hw1 : w.heap.size + 1 + 1 ≤ ((w.alloc (swC on off)).alloc (.cells #[] 119)).heap.size := by simp
  clear e0 ga gb dd
  go_enter Try.func104, Try.ntmps104
  go_upto_region 3 with fail
  generalize (w.alloc (swC on off)).alloc (.cells #[] 119) = W1 at ga0 gb0 d0 own0 hw1 ⊢
  have k0 := blk_cell ga0 0
  have k1 := blk_cell ga0 1
  go_wp2_with fail
  refine (specLevelAt_calls _ _ _ _ _ _ _ _ _ _ (rL.below d0) hL (rV.below d0) hV HC.out hv0 (by rw [HLL.out]; exact hv1)).mono ?_
  rintro e w1 ⟨he, b1⟩
  rw [HZ0.out] at he
  subst he
  have ga1 := blk_below ga0 b1 (blk_lt ga0)
  have gb1 := blk_below gb0 b1 (blk_lt gb0)
  have own1 := (own0.below b1).mono (Nat.le_refl _) (Nat.le_trans hw1 b1.size)
  have d1 := bnext d0 b1 (Nat.le_refl _)
  clear k0 k1 ga0 gb0 own0 hw1 b1 d0
  have GA := hd ga1
  have GB := hd gb1
  have OW := hd own1
  clear ga1 gb1 own1
  go_wp2_with fail
  go_loopw [2, 12, 13, 14, 16] (fun s2 s12 s13 s14 s16 wr => ∃ k : Nat, ∃ v : Int, ∃ r : Bool, ∃ z : Int, k ≤ nx ∧ s2 = .int .i64 v ∧ s13 = .bool r ∧ s14 = .int .i64 z ∧ s16 = .int .i64 k ∧ ∃ A c, s12 = .slice A k c ∧ cAt xL xV on off rate xs v0 k = (v, r) ∧ lvZ xL xV v = z ∧ (0 ≤ v ∧ v ≤ ll) ∧ okN xL xV on off rate xs v0 k = true ∧ Own 2 cHour 119 wr (w.heap.size + 1) wr.heap.size A k c (hrL xL xV on off rate xs v0 k) ∧ wr.heap[g]? = some (cvC aL nL cL (some ⟨bV, oV, none⟩) (nn + 1) cV) ∧ wr.heap[w.heap.size]? = some (swC on off) ∧ Below w.heap.size w wr) (fun _ _ _ _ i _ => nx - (intOf i).toNat)
  case atStart => exact ⟨0, v0, false, z0, Nat.zero_le _, rfl, rfl, rfl, rfl, _, 0, rfl, rfl, HZ0.out, ⟨hv0, hv1⟩, rfl, OW.out, GA.out, GB.out, d1⟩
  case round =>
    clear GA GB d1 OW HZ0
    obtain ⟨k, v, r, z, hk, rfl, rfl, rfl, rfl, A, c0, rfl, hcat, hzv, ⟨v0', v1'⟩, hok, hown, hgA, hgB, hb⟩ := hrel
    have HCAT := hd hcat
    have HOK := hd hok
    have Hown := hd hown
    have HGA := hd hgA
    have HGB := hd hgB
    by_cases hlt : k < nx
    · obtain ⟨bo, oo, f0, rfl, hbl, hx0, hc0⟩ := getInt64 (rx.below hb) hlt
      have hf := inB_iff.1 (all_at HALL.out hx0)
      obtain ⟨f0a, f0b⟩ := hf
      have hn := cAt_next HCAT.out hx0
      rw [hzv] at hn
      obtain ⟨r', hr'⟩ : ∃ r', runB on off z r = r' := ⟨_, rfl⟩
      rw [hr'] at hn
      have HR' := hd hr'
      have i1 : (0 : Int) ≤ (k : Int) := by omega
      have i2 : (k : Int) < (nx : Int) := by omega
      have k2 := blk_cell hgB 0
      have k3 := blk_cell hgB 1
      obtain ⟨v2, hv2⟩ : ∃ v2, (if r' then max 0 (v + f0 - rate) else v + f0) = v2 := ⟨_, rfl⟩
      rw [hv2] at hn
      have HN := hd hn
      obtain ⟨z2, hz2'⟩ : ∃ z, lvZ xL xV v2 = z := ⟨_, rfl⟩
      have HZ2 := hd hz2'
      have hv2b : 0 ≤ v2 ∧ v2 ≤ 1001000000 := by rw [← hv2]; split <;> omega
      obtain ⟨vb0, vb1⟩ := hv2b
      clear hn hz2' hr' hx0 hcat hok hown hgA hgB hzv
      go_wp2_with fail
      refine (l14Runs_calls on off z r _).mono ?_
      rintro e w2 ⟨he, b2⟩
      rw [HR'.out] at he
      subst he
      have hgA := blk_below HGA.out b2 (blk_lt HGA.out)
      have hgB := blk_below HGB.out b2 (blk_lt HGB.out)
      have own1 := (Hown.out.below b2).mono (Nat.le_refl _) b2.size
      have hb2 := bnext hb b2 (Nat.le_refl _)
      have hc1 := (b2.cell (p := ⟨bo, oo + k, none⟩) hbl).trans hc0
      clear k2 k3 hc0 HGA HGB Hown b2 hb
      have k0 := blk_cell hgA 0
      have k1 := blk_cell hgA 1
      have HGA := hd hgA
      have HGB := hd hgB
      have Hown := hd own1
      clear hgA hgB own1
      have s1 : IntKind.i64.wrap (v + f0) = v + f0 := IntWalk.i64_in _ (by omega)
      cases r'
      · obtain rfl : v + f0 = v2 := hv2
        by_cases hov : ll < (v + f0)
        · have FF : Hid (R = ([], false)) := hd (by rw [← HR.out]; unfold rcZ; rw [LX.out, okN_stop hlt (by rw [HN.out, HLL.out]; exact hov)]; rfl)
          go_upto_region 11 with fail
          have y0 := blw_cell (blk_cell HGA.out 0)
          have y1 := blw_cell (blk_cell HGA.out 1)
          have cv1 := blw_cell ((hb2.cell (p := ⟨bV, oV + nn, none⟩) hlV).trans CV1.out)
          clear k0 k1
          refine wp_region_blw (by kernel_rfl) (by kernel_rfl) ?_
          repeat (go_big_quiet_step (fail))
          refine wpQuiet_nil ?_
          rintro _ ⟨D, rfl⟩
          have hgA := blk_below HGA.out D.out (blk_lt HGA.out)
          have hgB := blk_below HGB.out D.out (blk_lt HGB.out)
          have own1 := (Hown.out.below D.out).mono (Nat.le_refl _) D.out.size
          have hb3 := bnext hb2 D.out (Nat.le_refl _)
          clear y0 y1 cv1 HGA HGB Hown hb2
          have k0 := blk_cell hgA 0
          have k1 := blk_cell hgA 1
          have HGA := hd hgA
          have HGB := hd hgB
          have Hown := hd own1
          clear hgA hgB own1
          go_wp2_with fail
          go_ret2
          exact ⟨none, 0, 0, ret_slb (by rw [FF.out]), by rw [FF.out]; exact Own.nil_, by omega, hb3⟩
        · have hov' : (v + f0) ≤ ll := by omega
          go_upto_region 11 with fail
          have y0 := blw_cell (blk_cell HGA.out 0)
          have y1 := blw_cell (blk_cell HGA.out 1)
          have cv1 := blw_cell ((hb2.cell (p := ⟨bV, oV + nn, none⟩) hlV).trans CV1.out)
          clear k0 k1
          refine wp_region_blw (by kernel_rfl) (by kernel_rfl) ?_
          repeat (go_big_quiet_step (fail))
          refine wpQuiet_nil ?_
          rintro _ ⟨D, rfl⟩
          have hgA := blk_below HGA.out D.out (blk_lt HGA.out)
          have hgB := blk_below HGB.out D.out (blk_lt HGB.out)
          have own1 := (Hown.out.below D.out).mono (Nat.le_refl _) D.out.size
          have hb3 := bnext hb2 D.out (Nat.le_refl _)
          clear y0 y1 cv1 HGA HGB Hown hb2
          have k0 := blk_cell hgA 0
          have k1 := blk_cell hgA 1
          have HGA := hd hgA
          have HGB := hd hgB
          have Hown := hd own1
          clear hgA hgB own1
          go_wp2_with fail
          refine (specLevelAt_calls _ _ _ _ _ _ _ _ _ _ (rL.below hb3) hL (rV.below hb3) hV HC.out vb0 (by rw [HLL.out]; exact hov')).mono ?_
          rintro e w4 ⟨he, b4⟩
          rw [HZ2.out] at he
          subst he
          have hgA := blk_below HGA.out b4 (blk_lt HGA.out)
          have hgB := blk_below HGB.out b4 (blk_lt HGB.out)
          have own2 := (Hown.out.below b4).mono (Nat.le_refl _) b4.size
          have hb4 := bnext hb3 b4 (Nat.le_refl _)
          clear k0 k1 HGA HGB Hown b4 hb3
          have l8 := blk_lt hgA
          have l9 := blk_lt hgB
          have GA2 := hd hgA
          have GB2 := hd hgB
          have O2 := hd own2
          clear hgA hgB own2
          go_wp2_with (at_builtin; refine wpList_app _ rfl _ _ 64 rfl 119 i0 _ 2 16 Try.underlying64 hi hz0 hz1 hz2 rfl (by decide) len_cHour one_cHour (w.heap.size + 1) w4.heap.size A k c0 (hrL xL xV on off rate xs v0 k) rfl (O2.out.alloc _) w4.heap.size (z2, false) rfl (app_new _ _ _) (by omega) (by unfold maxLen; omega) (by simp; omega) ?_)
          intro A' c'' w6 ho2 hg2
          have rA := blk_grown (blk_alloc GA2.out _) hg2 (own_off O2.out (by omega))
          have rB := blk_grown (blk_alloc GB2.out _) hg2 (own_off O2.out (by omega))
          have hd2 := below_app (hb4.alloc hb4.size _) (O2.out.alloc _) hg2 (Nat.le_refl _) (by omega)
          have Ho2 := hd ho2
          have RA := hd rA
          have RB := hd rB
          clear ho2 hg2 rA rB
          go_wp2_with fail
          go_roundw
          case rel => exact ⟨k + 1, (v + f0), _, z2, by omega, rfl, rfl, rfl, by go_num, A', c'', rfl, HN.out, HZ2.out, ⟨vb0, hov'⟩, okN_next HOK.out (by rw [HN.out, HLL.out]; exact hov'), by rw [hrL_next, HN.out]; simp only [HZ2.out]; exact Ho2.out, RA.out, RB.out, hd2⟩
          case measure => simp [intOf]; omega
      · have e1 : v + f0 - min rate (v + f0) = v2 := by rw [← hv2]; simp only [if_true]; omega
        have s2 : IntKind.i64.wrap (v + f0 - min rate (v + f0)) = v2 := by rw [IntWalk.i64_in _ (by omega)]; exact e1
        clear hv2 e1
        by_cases hov : ll < v2
        · have FF : Hid (R = ([], false)) := hd (by rw [← HR.out]; unfold rcZ; rw [LX.out, okN_stop hlt (by rw [HN.out, HLL.out]; exact hov)]; rfl)
          go_upto_region 11 with (go_at_call 118; refine (l00Min_calls _ _ _).mono ?_; rintro e w' ⟨rfl, rfl⟩)
          have y0 := blw_cell (blk_cell HGA.out 0)
          have y1 := blw_cell (blk_cell HGA.out 1)
          have cv1 := blw_cell ((hb2.cell (p := ⟨bV, oV + nn, none⟩) hlV).trans CV1.out)
          clear k0 k1
          refine wp_region_blw (by kernel_rfl) (by kernel_rfl) ?_
          repeat (go_big_quiet_step (fail))
          refine wpQuiet_nil ?_
          rintro _ ⟨D, rfl⟩
          have hgA := blk_below HGA.out D.out (blk_lt HGA.out)
          have hgB := blk_below HGB.out D.out (blk_lt HGB.out)
          have own1 := (Hown.out.below D.out).mono (Nat.le_refl _) D.out.size
          have hb3 := bnext hb2 D.out (Nat.le_refl _)
          clear y0 y1 cv1 HGA HGB Hown hb2
          have k0 := blk_cell hgA 0
          have k1 := blk_cell hgA 1
          have HGA := hd hgA
          have HGB := hd hgB
          have Hown := hd own1
          clear hgA hgB own1
          go_wp2_with fail
          go_ret2
          exact ⟨none, 0, 0, ret_slb (by rw [FF.out]), by rw [FF.out]; exact Own.nil_, by omega, hb3⟩
        · have hov' : v2 ≤ ll := by omega
          go_upto_region 11 with (go_at_call 118; refine (l00Min_calls _ _ _).mono ?_; rintro e w' ⟨rfl, rfl⟩)
          have y0 := blw_cell (blk_cell HGA.out 0)
          have y1 := blw_cell (blk_cell HGA.out 1)
          have cv1 := blw_cell ((hb2.cell (p := ⟨bV, oV + nn, none⟩) hlV).trans CV1.out)
          clear k0 k1
          refine wp_region_blw (by kernel_rfl) (by kernel_rfl) ?_
          repeat (go_big_quiet_step (fail))
          refine wpQuiet_nil ?_
          rintro _ ⟨D, rfl⟩
          have hgA := blk_below HGA.out D.out (blk_lt HGA.out)
          have hgB := blk_below HGB.out D.out (blk_lt HGB.out)
          have own1 := (Hown.out.below D.out).mono (Nat.le_refl _) D.out.size
          have hb3 := bnext hb2 D.out (Nat.le_refl _)
          clear y0 y1 cv1 HGA HGB Hown hb2
          have k0 := blk_cell hgA 0
          have k1 := blk_cell hgA 1
          have HGA := hd hgA
          have HGB := hd hgB
          have Hown := hd own1
          clear hgA hgB own1
          go_wp2_with fail
          refine (specLevelAt_calls _ _ _ _ _ _ _ _ _ _ (rL.below hb3) hL (rV.below hb3) hV HC.out vb0 (by rw [HLL.out]; exact hov')).mono ?_
          rintro e w4 ⟨he, b4⟩
          rw [HZ2.out] at he
          subst he
          have hgA := blk_below HGA.out b4 (blk_lt HGA.out)
          have hgB := blk_below HGB.out b4 (blk_lt HGB.out)
          have own2 := (Hown.out.below b4).mono (Nat.le_refl _) b4.size
          have hb4 := bnext hb3 b4 (Nat.le_refl _)
          clear k0 k1 HGA HGB Hown b4 hb3
          have l8 := blk_lt hgA
          have l9 := blk_lt hgB
          have GA2 := hd hgA
          have GB2 := hd hgB
          have O2 := hd own2
          clear hgA hgB own2
          go_wp2_with (at_builtin; refine wpList_app _ rfl _ _ 64 rfl 119 i0 _ 2 16 Try.underlying64 hi hz0 hz1 hz2 rfl (by decide) len_cHour one_cHour (w.heap.size + 1) w4.heap.size A k c0 (hrL xL xV on off rate xs v0 k) rfl (O2.out.alloc _) w4.heap.size (z2, true) rfl (app_new _ _ _) (by omega) (by unfold maxLen; omega) (by simp; omega) ?_)
          intro A' c'' w6 ho2 hg2
          have rA := blk_grown (blk_alloc GA2.out _) hg2 (own_off O2.out (by omega))
          have rB := blk_grown (blk_alloc GB2.out _) hg2 (own_off O2.out (by omega))
          have hd2 := below_app (hb4.alloc hb4.size _) (O2.out.alloc _) hg2 (Nat.le_refl _) (by omega)
          have Ho2 := hd ho2
          have RA := hd rA
          have RB := hd rB
          clear ho2 hg2 rA rB
          go_wp2_with fail
          go_roundw
          case rel => exact ⟨k + 1, v2, _, z2, by omega, rfl, rfl, rfl, by go_num, A', c'', rfl, HN.out, HZ2.out, ⟨vb0, hov'⟩, okN_next HOK.out (by rw [HN.out, HLL.out]; exact hov'), by rw [hrL_next, HN.out]; simp only [HZ2.out]; exact Ho2.out, RA.out, RB.out, hd2⟩
          case measure => simp [intOf]; omega
    · obtain rfl : k = nx := by omega
      have FF : Hid (R = (hrL xL xV on off rate xs v0 k, true)) := hd (by rw [← HR.out]; unfold rcZ; rw [LX.out, if_pos HOK.out])
      clear HGA HGB hcat hzv hok hown hgA hgB
      go_wp2_with fail
      go_ret2
      exact ⟨A, k, c0, ret_slb (by rw [FF.out]), by rw [FF.out]; exact Hown.out.mono (by omega) (Nat.le_refl _), hx, hb⟩
end Go.Proofs.Ytieomdjcnaaopaa
