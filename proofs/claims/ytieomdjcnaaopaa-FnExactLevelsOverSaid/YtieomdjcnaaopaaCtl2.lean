/- Control: the codes; what keeps below a level. -/
import Derived.Test.YtieomdjcnaaopaaCtl
namespace Go.Proofs.Ytieomdjcnaaopaa
open Go.RowKit
set_option linter.unusedVariables false

def swP (x : Int × Int) : Bool := swB x.1 x.2
def ctZ (ls vs : List Int) (sw : Bool) (v : Int) (xs : List Int) (rt : Bool) : Int :=
  if cvB ls vs && sw then (if (rt && inB v 0 (lastZ vs)) && (xs.all rtB && decide (xs.length ≤ 200)) then 0 else 2) else 1
theorem ctZ_other (ls vs : List Int) (sw : Bool) (v : Int) (xs : List Int) (rt other : Bool) : ctZ ls vs sw v xs (rt && other) = if ctZ ls vs sw v xs rt = 0 then (if other then 0 else 2) else ctZ ls vs sw v xs rt := by
  unfold ctZ
  cases h1 : (cvB ls vs && sw)
  · simp
  · simp only [if_true]
    cases rt <;> cases other <;> cases h2 : inB v 0 (lastZ vs) <;> cases h3 : (xs.all rtB && decide (xs.length ≤ 200)) <;> simp
theorem ctZ_0 {ls vs : List Int} {sw : Bool} {v : Int} {xs : List Int} {rt : Bool} (h : ctZ ls vs sw v xs rt = 0) : (cvB ls vs = true ∧ sw = true) ∧ rt = true ∧ (0 ≤ v ∧ v ≤ lastZ vs) ∧ xs.all rtB = true ∧ xs.length ≤ 200 := by
  unfold ctZ at h
  split at h
  · rename_i h1
    split at h
    · rename_i h2
      simp only [Bool.and_eq_true, decide_eq_true_eq] at h1 h2
      exact ⟨h1, h2.1.1, inB_iff.1 h2.1.2, h2.2.1, h2.2.2⟩
    · omega
  · omega
theorem ctZ_cv {ls vs : List Int} {sw : Bool} {v : Int} {xs : List Int} {rt : Bool} (h : (cvB ls vs && sw) = false) : ctZ ls vs sw v xs rt = 1 := by unfold ctZ; rw [h]; rfl
theorem ctZ_2 {ls vs : List Int} {sw : Bool} {v : Int} {xs : List Int} {rt : Bool} (h : (cvB ls vs && sw) = true) (h2 : ((rt && inB v 0 (lastZ vs)) && (xs.all rtB && decide (xs.length ≤ 200))) = false) : ctZ ls vs sw v xs rt = 2 := by unfold ctZ; rw [h, h2]; rfl
theorem ctZ_ok {ls vs : List Int} {sw : Bool} {v : Int} {xs : List Int} {rt : Bool} (h : (cvB ls vs && sw) = true) (h2 : ((rt && inB v 0 (lastZ vs)) && (xs.all rtB && decide (xs.length ≤ 200))) = true) : ctZ ls vs sw v xs rt = 0 := by unfold ctZ; rw [h, h2]; rfl
theorem isPumpRate_calls (n : Int) (w : World) : Calls Try.prog 124 #[.int .i64 n] w fun e w' => e = .returned (.bool (rtB n)) ∧ w = w' := by
  go_enter Try.func124, Try.ntmps124
  go_wp2_with fail
  refine (in_calls _ _ _ _).mono ?_
  rintro e w' ⟨rfl, rfl⟩
  go_wp2_with fail
  go_ret
  exact ⟨rfl, rfl⟩
theorem l14Rate_calls (n : Int) (w : World) : Calls Try.prog 76 #[.int .i64 n] w fun e w' => e = .returned (.bool (rtB n)) ∧ w = w' := by
  go_enter Try.func76, Try.ntmps76
  go_wp2_with fail
  refine (l00In_calls _ _ _ _).mono ?_
  rintro e w' ⟨rfl, rfl⟩
  go_wp2_with fail
  go_ret
  exact ⟨rfl, rfl⟩
theorem l00In_b {n lo hi : Int} {b : Bool} (h : inB n lo hi = b) (w : World) : Calls Try.prog 121 #[.int .i64 n, .int .i64 lo, .int .i64 hi] w fun e w' => e = .returned (.bool b) ∧ w = w' := h ▸ l00In_calls n lo hi w
set_option maxRecDepth 100000 in
set_option maxHeartbeats 1000000 in
theorem controlCode_calls (aL : Option Addr) (nL cL : Nat) (xL : List Int) (aV : Option Addr) (nV cV : Nat) (xV : List Int) (az : Option Addr) (nz cz : Nat) (xz : List (Int × Int)) (v : Int) (ar : Option Addr) (nr cr : Nat) (xr : List Int) (ax : Option Addr) (nx cx : Nat) (xs : List Int) (w : World) (rL : RdInt64 w aL nL xL) (hL : nL ≤ 1048576) (rV : RdInt64 w aV nV xV) (hV : nV ≤ 1048576) (rz : RdSwitch w az nz xz) (hz : nz ≤ 1048576) (rr : RdInt64 w ar nr xr) (hr : nr ≤ 1048576) (rx : RdInt64 w ax nx xs) (hx : nx ≤ 1048576) :
    Calls Try.prog 79 #[.agg #[.slice aL nL cL, .slice aV nV cV], .slice az nz cz, .int .i64 v, .slice ar nr cr, .slice ax nx cx] w fun e w' => e = .returned (.int .i64 (ctZ xL xV (xz.all swP) v xs (xr.all rtB))) ∧ Below w.heap.size w w' := by
  have LX := hd rx.len
  have LV := hd rV.len
  have he1 := ent Try.func123 (by kernel_rfl) rfl
  have he2 := ent Try.func124 (by kernel_rfl) rfl
  obtain ⟨R, hR⟩ : ∃ R, ctZ xL xV (xz.all swP) v xs (xr.all rtB) = R := ⟨_, rfl⟩
  have HR := hd hR
  rw [hR]
  clear hR
  have GA := hd (heap_alloc_new w (cvC aL nL cL aV nV cV))
  go_enter Try.func79, Try.ntmps79
  go_wp2_with fail
  refine (ValidCurve_calls _ _ _ xL _ _ _ xV _ (rL.alloc _) hL (rV.alloc _) hV).mono ?_
  rintro e w1 ⟨he, b1⟩
  have d1 := bbox1 b1
  have G1 := hd (blk_below GA.out b1 (by simp))
  clear b1 GA
  cases hcv : cvB xL xV
  · rw [hcv] at he
    subst he
    have FF : Hid (R = 1) := hd (HR.out.symm.trans (ctZ_cv (by rw [hcv]; rfl)))
    clear hcv
    go_wp2_with fail
    go_ret
    exact ⟨ret_int (by rw [FF.out]), d1⟩
  · rw [hcv] at he
    subst he
    have HCV := hd hcv
    clear hcv
    go_wp2_with fail
    refine (allSwitch_calls 123 #[] swP _ _ _ xz _ (rz.below d1) (by omega) he1 (fun f0 f1 W _ => by rw [Array.append_empty]; exact ValidSwitch_calls f0 f1 W)).mono ?_
    rintro e w2 ⟨he, b2⟩
    have d2 := bnext d1 b2 (Nat.le_refl _)
    have G2 := hd (blk_below G1.out b2 (blk_lt G1.out))
    clear b2 G1
    cases hsw : xz.all swP
    · rw [hsw] at he
      subst he
      have FF : Hid (R = 1) := hd (HR.out.symm.trans (ctZ_cv (by rw [HCV.out, hsw]; rfl)))
      clear hsw
      go_wp2_with fail
      go_ret
      exact ⟨ret_int (by rw [FF.out]), d2⟩
    · rw [hsw] at he
      subst he
      have HSW := hd (show (cvB xL xV && xz.all swP) = true by rw [HCV.out, hsw]; rfl)
      clear hsw
      have HPV : Hid (0 < nV) := hd (by have a := cv_of HCV.out; have := a.n2; have := a.len; have := LV.out; omega)
      obtain ⟨ll, hll⟩ : ∃ x, lastZ xV = x := ⟨_, rfl⟩
      have HLL := hd hll
      clear hll
      go_wp2_with fail
      refine (allInt64_calls 124 #[] rtB _ _ _ xr _ (rr.below d2) (by omega) he2 (fun z W _ => by rw [Array.append_empty]; exact (isPumpRate_calls z W).mono fun e w' ⟨h1, h2⟩ => ⟨h1, h2 ▸ Below.refl _ _⟩)).mono ?_
      rintro e w3 ⟨he, b3⟩
      have d3 := bnext d2 b3 (Nat.le_refl _)
      have G3 := hd (blk_below G2.out b3 (blk_lt G2.out))
      clear b3 G2
      cases hrt : xr.all rtB
      · rw [hrt] at he
        subst he
        have FF : Hid (R = 2) := hd (HR.out.symm.trans (ctZ_2 HSW.out (by rw [hrt]; rfl)))
        clear hrt
        go_wp2_with fail
        go_ret
        exact ⟨ret_int (by rw [FF.out]), d3⟩
      · rw [hrt] at he
        subst he
        have HRT := hd hrt
        clear hrt
        have k1 := blk_cell G3.out 1
        cases hin : inB v 0 ll
        · have FF : Hid (R = 2) := hd (HR.out.symm.trans (ctZ_2 HSW.out (by rw [HRT.out, HLL.out, hin]; rfl)))
          have HIN := hd hin
          clear hin
          go_wp2_with (first | (go_at_call 102; refine (last_calls _ _ _ xV _ (rV.below d3) hV HPV.out).mono ?_; rintro e w9 ⟨he, rfl⟩; rw [HLL.out] at he; subst he) | (go_at_call 125; refine (in_callsB HIN.out _).mono ?_; rintro e w9 ⟨rfl, rfl⟩))
          go_ret
          exact ⟨ret_int (by rw [FF.out]), d3⟩
        · have HIN := hd hin
          clear hin
          go_wp2_with (first | (go_at_call 102; refine (last_calls _ _ _ xV _ (rV.below d3) hV HPV.out).mono ?_; rintro e w9 ⟨he, rfl⟩; rw [HLL.out] at he; subst he) | (go_at_call 125; refine (in_callsB HIN.out _).mono ?_; rintro e w9 ⟨rfl, rfl⟩))
          refine (allInt64_calls 124 #[] rtB _ _ _ xs _ (rx.below d3) (by omega) he2 (fun z W _ => by rw [Array.append_empty]; exact (isPumpRate_calls z W).mono fun e w' ⟨h1, h2⟩ => ⟨h1, h2 ▸ Below.refl _ _⟩)).mono ?_
          rintro e w4 ⟨he, b4⟩
          have d4 := bnext d3 b4 (Nat.le_refl _)
          clear b4 k1
          cases hal : xs.all rtB
          · rw [hal] at he
            subst he
            have FF : Hid (R = 2) := hd (HR.out.symm.trans (ctZ_2 HSW.out (by rw [hal]; simp)))
            clear hal
            go_wp2_with fail
            go_ret
            exact ⟨ret_int (by rw [FF.out]), d4⟩
          · rw [hal] at he
            subst he
            have HAL := hd hal
            clear hal
            by_cases hn : (nx : Int) ≤ 200
            · have FF : Hid (R = 0) := hd (HR.out.symm.trans (ctZ_ok HSW.out (by rw [HRT.out, HLL.out, HIN.out, HAL.out, LX.out]; simp; omega)))
              go_wp2_with fail
              go_ret
              exact ⟨ret_int (by rw [FF.out]), d4⟩
            · have FF : Hid (R = 2) := hd (HR.out.symm.trans (ctZ_2 HSW.out (by rw [HRT.out, HLL.out, HIN.out, HAL.out, LX.out]; simp; omega)))
              have hn' : (200 : Int) < nx := by omega
              go_wp2_with fail
              go_ret
              exact ⟨ret_int (by rw [FF.out]), d4⟩
set_option maxRecDepth 100000 in
set_option maxHeartbeats 1000000 in
theorem l14Code_calls (g : Nat) (aL : Option Addr) (nL cL : Nat) (xL : List Int) (aV : Option Addr) (nV cV : Nat) (xV : List Int) (v : Int) (ax : Option Addr) (nx cx : Nat) (xs : List Int) (other : Bool) (w : World) (hg : w.heap[g]? = some (cvC aL nL cL aV nV cV)) (rL : RdInt64 w aL nL xL) (hL : nL ≤ 1048576) (rV : RdInt64 w aV nV xV) (hV : nV ≤ 1048576) (rx : RdInt64 w ax nx xs) (hx : nx ≤ 1048576) (hc : cvB xL xV = true) :
    Calls Try.prog 75 #[.pointer (some ⟨g, 0, none⟩), .int .i64 v, .slice ax nx cx, .bool other] w fun e w' => e = .returned (.int .i64 (ctZ xL xV true v xs other)) ∧ Below w.heap.size w w' := by
  have LX := hd rx.len
  have HC := hd (show (cvB xL xV && true) = true by rw [hc]; rfl)
  have HCV := hd (cv_of hc)
  have LV := rV.len
  have HLN := hd (lastZ_n LV)
  have hpos : 0 < nV := by have := HCV.out.n2; have := HCV.out.len; omega
  obtain ⟨bV, oV, hbV, hlV, hcV⟩ := rdBase rV hpos
  obtain ⟨ll, hll⟩ : ∃ x, lastZ xV = x := ⟨_, rfl⟩
  have HLL := hd hll
  have c1 := hcV (nV - 1) (by omega)
  rw [← HLN.out, hll] at c1
  obtain ⟨nn, rfl⟩ : ∃ nn, nV = nn + 1 := ⟨nV - 1, by omega⟩
  rw [Nat.add_sub_cancel] at c1
  subst hbV
  have CV1 := hd c1
  have q0 : (0 : Int) ≤ (nn : Int) := by omega
  have q1 : (nn : Int) < (nn : Int) + 1 := by omega
  obtain ⟨R, hR⟩ : ∃ R, ctZ xL xV true v xs other = R := ⟨_, rfl⟩
  have HR := hd hR
  rw [hR]
  have HG := hd hg
  have hgl := blk_lt hg
  clear hll hR hc LV hpos hcV c1 hg
  go_enter Try.func75, Try.ntmps75
  go_wp2_with fail
  go_loopw [9] (fun i wr => ∃ k : Nat, k ≤ nx ∧ i = .int .i64 k ∧ (xs.take k).all rtB = true ∧ Below w.heap.size w wr) (fun i _ => nx - (intOf i).toNat)
  case atStart => exact ⟨0, Nat.zero_le _, rfl, rfl, Below.refl _ _⟩
  case round =>
    obtain ⟨k, hk, rfl, hp, hb'⟩ := hrel
    have Hp := hd hp
    clear hp
    by_cases hlt : k < nx
    · obtain ⟨b1, o1, f0, rfl, hbl, hx0, hc0⟩ := getInt64 (rx.below hb') hlt
      have Hx := hd hx0
      clear hx0
      cases h3 : rtB f0
      · have H3 := hd h3
        have FF : Hid (R = 2) := hd (HR.out.symm.trans (ctZ_2 HC.out (by rw [all_stop' Hx.out H3.out]; simp)))
        go_wp2_with (go_at_call 76; refine (l14Rate_calls _ _).mono ?_; rintro e w' ⟨he, rfl⟩; rw [H3.out] at he; subst he)
        go_ret
        exact ⟨ret_int (by rw [FF.out]), hb'⟩
      · have H3 := hd h3
        go_wp2_with (go_at_call 76; refine (l14Rate_calls _ _).mono ?_; rintro e w' ⟨he, rfl⟩; rw [H3.out] at he; subst he)
        go_roundw
        case rel => exact ⟨k + 1, by omega, by go_num, all_take_next Hx.out H3.out Hp.out, hb'⟩
        case measure => simp [intOf]; omega
    · have HAL := hd (all_take_done (by rw [LX.out]; omega) Hp.out)
      obtain rfl : k = nx := by omega
      have hg' := blk_below HG.out hb' hgl
      go_upto_region 6 with fail
      have y0 := blw_cell (blk_cell hg' 0)
      have y1 := blw_cell (blk_cell hg' 1)
      have cv1 := blw_cell ((hb'.cell (p := ⟨bV, oV + nn, none⟩) hlV).trans CV1.out)
      clear hg'
      cases other
      · have FF : Hid (R = 2) := hd (HR.out.symm.trans (ctZ_2 HC.out (by simp)))
        refine wp_region_blw (by kernel_rfl) (by kernel_rfl) ?_
        repeat (go_big_quiet_step (fail))
        refine wpQuiet_nil ?_
        rintro _ ⟨D, rfl⟩
        go_wp2_with fail
        go_ret
        exact ⟨ret_int (by rw [FF.out]), bnext hb' D.out (Nat.le_refl _)⟩
      · by_cases hn : (k : Int) ≤ 200
        · have hnd : decide ((200 : Int) < (k : Int)) = false := by simp; omega
          cases hin : inB v 0 ll
          · have FF : Hid (R = 2) := hd (HR.out.symm.trans (ctZ_2 HC.out (by rw [HLL.out, hin]; rfl)))
            have HIN := hd hin
            clear hin
            refine wp_region_blw (by kernel_rfl) (by kernel_rfl) ?_
            repeat (go_big_quiet_step ((go_at_call 121; with_reducible exact blw_same (l00In_b HIN.out _))))
            refine wpQuiet_nil ?_
            rintro _ ⟨D, rfl⟩
            go_wp2_with fail
            go_ret
            exact ⟨ret_int (by rw [FF.out]), bnext hb' D.out (Nat.le_refl _)⟩
          · have FF : Hid (R = 0) := hd (HR.out.symm.trans (ctZ_ok HC.out (by rw [HLL.out, hin, HAL.out, LX.out]; simp; omega)))
            have HIN := hd hin
            clear hin
            refine wp_region_blw (by kernel_rfl) (by kernel_rfl) ?_
            repeat (go_big_quiet_step ((go_at_call 121; with_reducible exact blw_same (l00In_b HIN.out _))))
            refine wpQuiet_nil ?_
            rintro _ ⟨D, rfl⟩
            go_wp2_with fail
            go_ret
            exact ⟨ret_int (by rw [FF.out]), bnext hb' D.out (Nat.le_refl _)⟩
        · have hnd : decide ((200 : Int) < (k : Int)) = true := by simp; omega
          have hn' : (200 : Int) < (k : Int) := by omega
          have FF : Hid (R = 2) := hd (HR.out.symm.trans (ctZ_2 HC.out (by rw [LX.out]; simp; omega)))
          refine wp_region_blw (by kernel_rfl) (by kernel_rfl) ?_
          repeat (go_big_quiet_step (fail))
          refine wpQuiet_nil ?_
          rintro _ ⟨D, rfl⟩
          go_wp2_with fail
          go_ret
          exact ⟨ret_int (by rw [FF.out]), bnext hb' D.out (Nat.le_refl _)⟩
/-- Does it keep below a level. -/
def kpB (ls vs : List Int) (on off v rate : Int) (xs : List Int) (level : Int) : Bool := (rcZ ls vs on off v rate xs).2 && (rcZ ls vs on off v rate xs).1.all (fun h => decide (h.1 ≤ level))
theorem three_blk2 (w : World) (A B C : Obj) : (((w.alloc A).alloc B).alloc C).heap[w.heap.size]? = some A ∧ (((w.alloc A).alloc B).alloc C).heap[w.heap.size + 1]? = some B ∧ (((w.alloc A).alloc B).alloc C).heap[w.heap.size + 1 + 1]? = some C ∧ Below w.heap.size w (((w.alloc A).alloc B).alloc C) := by
  have h := three_blk w A B C
  exact ⟨h.1, h.2.1, h.2.2.1, h.2.2.2.1⟩
theorem keeps1_calls (z : Int) (r : Bool) (g : Nat) (level : Int) (w : World) (hg : w.cell? ⟨g, 0, none⟩ = some (.int .i64 level)) :
    Calls Try.prog 127 #[.agg #[.int .i64 z, .bool r], .pointer (some ⟨g, 0, none⟩)] w fun e w' => e = .returned (.bool (decide (z ≤ level))) ∧ Below w.heap.size w w' := by
  have hgl := World.block_lt_of_cell? _ _ hg
  have hg' := ((Below.refl w.heap.size w).alloc (Nat.le_refl _) (.cells #[.int .i64 z, .bool r] 119)).cell (p := ⟨g, 0, none⟩) hgl |>.trans hg
  go_enter Try.func127, Try.ntmps127
  go_wp2_with fail
  go_ret
  exact ⟨rfl, by go_grown⟩
set_option maxRecDepth 100000 in
set_option maxHeartbeats 1000000 in
theorem keeps_calls (aL : Option Addr) (nL cL : Nat) (xL : List Int) (aV : Option Addr) (nV cV : Nat) (xV : List Int) (on off v0 rate : Int) (ax : Option Addr) (nx cx : Nat) (xs : List Int) (level : Int) (w : World) (rL : RdInt64 w aL nL xL) (hL : nL ≤ 1048576) (rV : RdInt64 w aV nV xV) (hV : nV ≤ 1048576) (rx : RdInt64 w ax nx xs) (hx : nx ≤ 1048576) (hc : cvB xL xV = true) (hv0 : 0 ≤ v0) (hv1 : v0 ≤ lastZ xV) (hr : rtB rate = true) (hall : xs.all rtB = true) :
    Calls Try.prog 81 #[.agg #[.slice aL nL cL, .slice aV nV cV], .agg #[.int .i64 on, .int .i64 off], .int .i64 v0, .int .i64 rate, .slice ax nx cx, .int .i64 level] w fun e w' => ∃ A m c, e = .returned (.tuple #[.slice A m c, .bool (kpB xL xV on off v0 rate xs level)]) ∧ Own 2 cHour 119 w' w.heap.size w'.heap.size A m c (rcZ xL xV on off v0 rate xs).1 ∧ m ≤ 1048576 ∧ Below w.heap.size w w' := by
  have H := hd (And.intro hc (And.intro hv0 (And.intro hv1 (And.intro hr hall))))
  have he1 := ent Try.func127 (by kernel_rfl) rfl
  obtain ⟨b, hb⟩ : ∃ b, kpB xL xV on off v0 rate xs level = b := ⟨_, rfl⟩
  have HB := hd hb
  rw [hb]
  obtain ⟨H2, hH2⟩ : ∃ b, (rcZ xL xV on off v0 rate xs).2 = b := ⟨_, rfl⟩
  have HH2 := hd hH2
  clear hc hr hall hb hH2 hv0 hv1
  go_enter Try.func81, Try.ntmps81
  go_upto_region 1 with fail
  obtain ⟨ga, gb, gc, dd⟩ := three_blk2 w (cvC aL nL cL aV nV cV) (swC on off) (.cells #[.int .i64 level] 2)
  generalize ((w.alloc (cvC aL nL cL aV nV cV)).alloc (swC on off)).alloc (.cells #[.int .i64 level] 2) = W1 at ga gb gc dd ⊢
  have k0 := blk_cell ga 0
  have k1 := blk_cell ga 1
  have k2 := blk_cell gb 0
  have k3 := blk_cell gb 1
  go_wp2_with fail
  refine (runControl_calls aL nL cL xL aV nV cV xV on off v0 rate _ _ _ xs _ (rL.below dd) hL (rV.below dd) hV (rx.below dd) hx H.out.1 H.out.2.1 H.out.2.2.1 H.out.2.2.2.1 H.out.2.2.2.2).mono ?_
  rintro e w1 ⟨A, m, c, he, ho, hm, b1⟩
  rw [HH2.out] at he
  subst he
  have d1 := bnext dd b1 (Nat.le_refl _)
  have gc1 := blk_below gc b1 (blk_lt gc)
  have HO := hd (ho.mono dd.size (Nat.le_refl _))
  clear k0 k1 k2 k3 ga gb gc b1 dd ho
  cases H2
  · have FF : Hid (b = false) := hd (by rw [← HB.out]; unfold kpB; rw [HH2.out]; rfl)
    clear gc1
    go_wp2_with fail
    go_ret2
    exact ⟨A, m, c, ret_slb (by rw [FF.out]), HO.out, hm, d1⟩
  · have FF : Hid (b = (rcZ xL xV on off v0 rate xs).1.all (fun h => decide (h.1 ≤ level))) := hd (by rw [← HB.out]; unfold kpB; rw [HH2.out]; rfl)
    have GC := hd gc1
    clear gc1
    go_wp2_with fail
    refine (allHour_calls 127 #[.pointer (some ⟨w.heap.size + 1 + 1, 0, none⟩)] (fun h => decide (h.1 ≤ level)) _ _ _ _ _ (HO.out.rd len_cHour) (by omega) he1 (fun z r W hW => keeps1_calls z r _ level W (by rw [hW.cell (p := ⟨w.heap.size + 1 + 1, 0, none⟩) (blk_lt GC.out)]; exact blk_cell GC.out 0))).mono ?_
    rintro e w2 ⟨he, b2⟩
    rw [← FF.out] at he
    subst he
    go_wp2_with fail
    go_ret2
    exact ⟨A, m, c, ret_slb rfl, (HO.out.below b2).mono (Nat.le_refl _) b2.size, hm, bnext d1 b2 (Nat.le_refl _)⟩
set_option maxRecDepth 100000 in
set_option maxHeartbeats 1000000 in
theorem l14Keeps_calls (g : Nat) (aL : Option Addr) (nL cL : Nat) (xL : List Int) (aV : Option Addr) (nV cV : Nat) (xV : List Int) (on off v0 rate : Int) (ax : Option Addr) (nx cx : Nat) (xs : List Int) (level : Int) (w : World) (hg : w.heap[g]? = some (cvC aL nL cL aV nV cV)) (rL : RdInt64 w aL nL xL) (hL : nL ≤ 1048576) (rV : RdInt64 w aV nV xV) (hV : nV ≤ 1048576) (rx : RdInt64 w ax nx xs) (hx : nx ≤ 1048576) (hc : cvB xL xV = true) (hv0 : 0 ≤ v0) (hv1 : v0 ≤ lastZ xV) (hr : rtB rate = true) (hall : xs.all rtB = true) :
    Calls Try.prog 78 #[.pointer (some ⟨g, 0, none⟩), .agg #[.int .i64 on, .int .i64 off], .int .i64 v0, .int .i64 rate, .slice ax nx cx, .int .i64 level] w fun e w' => ∃ A m c, e = .returned (.tuple #[.slice A m c, .bool (kpB xL xV on off v0 rate xs level)]) ∧ Own 2 cHour 119 w' w.heap.size w'.heap.size A m c (rcZ xL xV on off v0 rate xs).1 ∧ m ≤ 1048576 ∧ Below w.heap.size w w' := by
  have H := hd (And.intro hc (And.intro hv0 (And.intro hv1 (And.intro hr hall))))
  obtain ⟨b, hb⟩ : ∃ b, kpB xL xV on off v0 rate xs level = b := ⟨_, rfl⟩
  have HB := hd hb
  rw [hb]
  obtain ⟨H2, hH2⟩ : ∃ b, (rcZ xL xV on off v0 rate xs).2 = b := ⟨_, rfl⟩
  have HH2 := hd hH2
  obtain ⟨H1, hH1⟩ : ∃ b, (rcZ xL xV on off v0 rate xs).1 = b := ⟨_, rfl⟩
  have HH1 := hd hH1
  rw [hH1]
  have FF : Hid (b = (H2 && H1.all (fun h => decide (h.1 ≤ level)))) := hd (by rw [← hb]; unfold kpB; rw [hH2, hH1])
  clear hc hr hall hb hH2 hH1 hv0 hv1
  have GP := hd (blk_alloc hg (swC on off))
  have dd : Below w.heap.size w (w.alloc (swC on off)) := (Below.refl _ _).alloc (Nat.le_refl _) _
  go_enter Try.func78, Try.ntmps78
  go_wp2_with fail
  refine (l14Run_calls g aL nL cL xL aV nV cV xV on off v0 rate _ _ _ xs _ GP.out (rL.alloc _) hL (rV.alloc _) hV (rx.alloc _) hx H.out.1 H.out.2.1 H.out.2.2.1 H.out.2.2.2.1 H.out.2.2.2.2).mono ?_
  rintro e w1 ⟨A, m, c, he, ho, hm, b1⟩
  rw [HH2.out] at he
  subst he
  rw [HH1.out] at ho
  have d1 := bbox1 b1
  have HO := hd (ho.mono (L' := w.heap.size) (by simp) (Nat.le_refl _))
  have HL := hd ho.len
  clear ho b1 dd GP
  go_wp2_with fail
  go_loopw [15, 16] (fun f i wr => ∃ k : Nat, k ≤ m ∧ i = .int .i64 k ∧ f = .bool (H2 && (H1.take k).all (fun h => decide (h.1 ≤ level))) ∧ Own 2 cHour 119 wr w.heap.size wr.heap.size A m c H1 ∧ Below w.heap.size w wr) (fun _ i _ => m - (intOf i).toNat)
  case atStart => exact ⟨0, Nat.zero_le _, rfl, by simp, HO.out, d1⟩
  case round =>
    clear HO d1
    obtain ⟨k, hk, rfl, rfl, hown, hb⟩ := hrel
    have Hown := hd hown
    clear hown
    obtain ⟨f, hf⟩ : ∃ f : Bool, (H2 && (H1.take k).all (fun h => decide (h.1 ≤ level))) = f := ⟨_, rfl⟩
    have HF := hd hf
    rw [hf]
    clear hf
    by_cases hlt : k < m
    · obtain ⟨bo, oo, f0, f1, rfl, hbl, hx0, hc0, hc1⟩ := getHour (Hown.out.rd len_cHour) hlt
      have HN : Hid ((H2 && (H1.take (k + 1)).all (fun h => decide (h.1 ≤ level))) = (f && decide (f0 ≤ level))) := hd (by rw [take_next hx0, List.all_append, ← HF.out]; simp [Bool.and_assoc])
      clear hx0 hc1
      cases f
      · have HN' : Hid ((H2 && (H1.take (k + 1)).all (fun h => decide (h.1 ≤ level))) = false) := hd (by rw [HN.out, Bool.false_and])
        go_wp2_with fail
        go_roundw
        case rel => exact ⟨k + 1, by omega, by go_num, by rw [HN'.out], Hown.out, hb⟩
        case measure => simp [intOf]; omega
      · have HN' : Hid ((H2 && (H1.take (k + 1)).all (fun h => decide (h.1 ≤ level))) = decide (f0 ≤ level)) := hd (by rw [HN.out, Bool.true_and])
        go_wp2_with fail
        go_roundw
        case rel => exact ⟨k + 1, by omega, by go_num, by rw [HN'.out], Hown.out, hb⟩
        case measure => simp [intOf]; omega
    · obtain rfl : k = m := by omega
      have HFF : Hid (b = f) := hd (by rw [FF.out, ← HF.out, List.take_of_length_le (by rw [HL.out]; exact Nat.le_refl _)])
      go_wp2_with fail
      go_ret2
      exact ⟨A, k, c, ret_slb (by rw [HFF.out]), Hown.out, hm, hb⟩
end Go.Proofs.Ytieomdjcnaaopaa
