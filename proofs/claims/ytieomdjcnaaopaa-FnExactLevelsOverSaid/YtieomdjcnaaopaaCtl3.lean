/- Control: RunControl, KeepsBelow. -/
import Derived.Test.YtieomdjcnaaopaaCtl2
namespace Go.Proofs.Ytieomdjcnaaopaa
open Go.RowKit
set_option linter.unusedVariables false

theorem rd_oneSw {w : World} {g : Nat} {x y : Int} {E : TypeId} (h : w.heap[g]? = some (.cells #[.int .i64 x, .int .i64 y] E (0, 0))) : Rd 2 cSwitch w (some ⟨g, 0, none⟩) 1 [(x, y)] := by
  refine ⟨rfl, fun _ => ⟨g, 0, rfl, fun i z hz j u hu => ?_⟩⟩
  cases i with
  | succ i => simp at hz
  | zero =>
    obtain rfl : (x, y) = z := by simpa using hz
    have hj : j < 2 := by have := lt_of_get hu; simpa [cSwitch] using this
    rcases (show j = 0 ∨ j = 1 by omega) with rfl | rfl
    · obtain rfl : Value.int IntKind.i64 x = u := by simpa [cSwitch] using hu
      have := blk_cell h 0
      simpa using this
    · obtain rfl : Value.int IntKind.i64 y = u := by simpa [cSwitch] using hu
      have := blk_cell h 1
      simpa using this
def rrZ (ls vs : List Int) (on off v rate : Int) (xs : List Int) : List (Int × Bool) × Int :=
  if ctZ ls vs (swB on off) v xs (rtB rate) = 0 then (if (rcZ ls vs on off v rate xs).2 then ((rcZ ls vs on off v rate xs).1, 0) else ([], 10)) else ([], ctZ ls vs (swB on off) v xs (rtB rate))
def kbZ (ls vs : List Int) (on off v rate : Int) (xs : List Int) (level : Int) : Bool × Int :=
  if ctZ ls vs (swB on off) v xs (rtB rate && lvB level) = 0 then (kpB ls vs on off v rate xs level, 0) else (false, ctZ ls vs (swB on off) v xs (rtB rate && lvB level))
theorem one_all {α : Type} {p : α → Bool} {x : α} : [x].all p = p x := by simp
theorem ret_bi {a b : Bool} {c d : Int} (h : a = b) (k : c = d) : Ending.returned (.tuple #[.bool a, .int .i64 c]) = .returned (.tuple #[.bool b, .int .i64 d]) := by rw [h, k]
theorem l14Ok_b {b : Bool} (on off : Int) (h : swB on off = b) (w : World) : Calls Try.prog 74 #[.agg #[.int .i64 on, .int .i64 off]] w fun e w' => e = .returned (.bool b) ∧ Below w.heap.size w w' := h ▸ l14Ok_calls on off w
set_option maxRecDepth 100000 in
set_option maxHeartbeats 1000000 in
theorem RunControl_calls (aL : Option Addr) (nL cL : Nat) (xL : List Int) (aV : Option Addr) (nV cV : Nat) (xV : List Int) (on off v rate : Int) (ax : Option Addr) (nx cx : Nat) (xs : List Int) (w : World) (rL : RdInt64 w aL nL xL) (hL : nL ≤ 1048576) (rV : RdInt64 w aV nV xV) (hV : nV ≤ 1048576) (rx : RdInt64 w ax nx xs) (hx : nx ≤ 1048576) :
    Calls Try.prog 48 #[.agg #[.slice aL nL cL, .slice aV nV cV], .agg #[.int .i64 on, .int .i64 off], .int .i64 v, .int .i64 rate, .slice ax nx cx] w fun e w' => ∃ A m c, e = .returned (.tuple #[.slice A m c, .int .i64 (rrZ xL xV on off v rate xs).2]) ∧ Own 2 cHour 119 w' w.heap.size w'.heap.size A m c (rrZ xL xV on off v rate xs).1 ∧ m ≤ 1048576 ∧ Below w.heap.size w w' := by
  obtain ⟨c, hc⟩ : ∃ c, ctZ xL xV (swB on off) v xs (rtB rate) = c := ⟨_, rfl⟩
  have HC := hd hc
  obtain ⟨R, hR⟩ : ∃ R, rrZ xL xV on off v rate xs = R := ⟨_, rfl⟩
  have hR' := hR
  unfold rrZ at hR'
  rw [hc] at hR'
  have HR := hd hR'
  rw [hR]
  clear hc hR hR'
  go_enter Try.func48, Try.ntmps48
  go_upto_region 1 with fail
  obtain ⟨ga, gb, dd⟩ := two_blk2 w (cvC aL nL cL aV nV cV) (swC on off)
  generalize (w.alloc (cvC aL nL cL aV nV cV)).alloc (swC on off) = W1 at ga gb dd ⊢
  have k0 := blk_cell ga 0
  have k1 := blk_cell ga 1
  have k2 := blk_cell gb 0
  have k3 := blk_cell gb 1
  go_wp2_with fail
  have q1 := heap_alloc_new W1 (swC on off)
  have q2 := heap_alloc_new (W1.alloc (swC on off)) (.cells #[.int .i64 rate] 2)
  have q1' := blk_alloc q1 (.cells #[.int .i64 rate] 2)
  have d0 := (dd.alloc dd.size (swC on off)).alloc (by have := dd.size; simp; omega) (.cells #[.int .i64 rate] 2)
  have ga0 := blk_alloc (blk_alloc ga (swC on off)) (.cells #[.int .i64 rate] 2)
  have gb0 := blk_alloc (blk_alloc gb (swC on off)) (.cells #[.int .i64 rate] 2)
  simp only [World.size_alloc] at q2
  refine (controlCode_calls aL nL cL xL aV nV cV xV _ _ _ [(on, off)] v _ _ _ [rate] _ _ _ xs _ (rL.below d0) hL (rV.below d0) hV (rd_oneSw q1') (by decide) (rd_one q2) (by decide) (rx.below d0) hx).mono ?_
  rintro e w1 ⟨he, b1⟩
  have d1 := bnext d0 b1 (Nat.le_refl _)
  have ga1 := blk_below ga0 b1 (blk_lt ga0)
  have gb1 := blk_below gb0 b1 (blk_lt gb0)
  clear k0 k1 k2 k3 ga gb ga0 gb0 q1 q2 q1' b1 dd d0
  rw [one_all, one_all, show swP (on, off) = swB on off from rfl, HC.out] at he
  by_cases hz : c = 0
  · subst hz
    subst he
    have OK := hd (ctZ_0 HC.out)
    obtain ⟨b2, hb2⟩ : ∃ b, (rcZ xL xV on off v rate xs).2 = b := ⟨_, rfl⟩
    have HB2 := hd hb2
    have k0 := blk_cell ga1 0
    have k1 := blk_cell ga1 1
    have k2 := blk_cell gb1 0
    have k3 := blk_cell gb1 1
    clear hb2
    go_wp2_with fail
    refine (runControl_calls aL nL cL xL aV nV cV xV on off v rate _ _ _ xs _ (rL.below d1) hL (rV.below d1) hV (rx.below d1) hx OK.out.1.1 OK.out.2.2.1.1 OK.out.2.2.1.2 OK.out.2.1 OK.out.2.2.2.1).mono ?_
    rintro e w2 ⟨A, m, c, he, ho, hm, b2'⟩
    rw [HB2.out] at he
    subst he
    have HO := hd (ho.mono d1.size (Nat.le_refl _))
    have d2 := bnext d1 b2' (Nat.le_refl _)
    clear k0 k1 k2 k3 ga1 gb1 ho b2'
    cases b2
    · have FF : Hid (R = ([], 10)) := hd (by rw [← HR.out, HB2.out]; rfl)
      go_wp2_with fail
      go_ret2
      exact ⟨_, 0, 0, ret_sli (by rw [FF.out]), by rw [FF.out]; exact Own.empty w2 _ rfl d2.size (by simp), by omega, d2.alloc d2.size _⟩
    · have FF : Hid (R = ((rcZ xL xV on off v rate xs).1, 0)) := hd (by rw [← HR.out, HB2.out]; rfl)
      go_wp2_with fail
      go_ret2
      exact ⟨A, m, c, ret_sli (by rw [FF.out]), by rw [FF.out]; exact HO.out, hm, d2⟩
  · subst he
    have FF : Hid (R = ([], c)) := hd (by rw [← HR.out, if_neg hz])
    clear ga1 gb1
    go_wp2_with fail
    go_ret2
    exact ⟨_, 0, 0, ret_sli (by rw [FF.out]), by rw [FF.out]; exact Own.empty w1 _ rfl d1.size (by simp), by omega, d1.alloc d1.size _⟩
set_option maxRecDepth 100000 in
set_option maxHeartbeats 1000000 in
theorem KeepsBelow_calls (aL : Option Addr) (nL cL : Nat) (xL : List Int) (aV : Option Addr) (nV cV : Nat) (xV : List Int) (on off v rate : Int) (ax : Option Addr) (nx cx : Nat) (xs : List Int) (level : Int) (w : World) (rL : RdInt64 w aL nL xL) (hL : nL ≤ 1048576) (rV : RdInt64 w aV nV xV) (hV : nV ≤ 1048576) (rx : RdInt64 w ax nx xs) (hx : nx ≤ 1048576) :
    Calls Try.prog 27 #[.agg #[.slice aL nL cL, .slice aV nV cV], .agg #[.int .i64 on, .int .i64 off], .int .i64 v, .int .i64 rate, .slice ax nx cx, .int .i64 level] w fun e w' => e = .returned (.tuple #[.bool (kbZ xL xV on off v rate xs level).1, .int .i64 (kbZ xL xV on off v rate xs level).2]) ∧ Below w.heap.size w w' := by
  have hoth := ctZ_other xL xV (swB on off) v xs (rtB rate) (lvB level)
  obtain ⟨c, hc⟩ : ∃ c, ctZ xL xV (swB on off) v xs (rtB rate) = c := ⟨_, rfl⟩
  have HC := hd hc
  obtain ⟨R, hR⟩ : ∃ R, kbZ xL xV on off v rate xs level = R := ⟨_, rfl⟩
  have hR' := hR
  unfold kbZ at hR'
  rw [hc] at hoth
  rw [hoth] at hR'
  have HR := hd hR'
  rw [hR]
  clear hc hR hR' hoth
  go_enter Try.func27, Try.ntmps27
  go_upto_region 1 with fail
  obtain ⟨ga, gb, dd⟩ := two_blk2 w (cvC aL nL cL aV nV cV) (swC on off)
  generalize (w.alloc (cvC aL nL cL aV nV cV)).alloc (swC on off) = W1 at ga gb dd ⊢
  have k0 := blk_cell ga 0
  have k1 := blk_cell ga 1
  have k2 := blk_cell gb 0
  have k3 := blk_cell gb 1
  go_wp2_with fail
  have q1 := heap_alloc_new W1 (swC on off)
  have q2 := heap_alloc_new (W1.alloc (swC on off)) (.cells #[.int .i64 rate] 2)
  have q1' := blk_alloc q1 (.cells #[.int .i64 rate] 2)
  have d0 := (dd.alloc dd.size (swC on off)).alloc (by have := dd.size; simp; omega) (.cells #[.int .i64 rate] 2)
  have ga0 := blk_alloc (blk_alloc ga (swC on off)) (.cells #[.int .i64 rate] 2)
  have gb0 := blk_alloc (blk_alloc gb (swC on off)) (.cells #[.int .i64 rate] 2)
  simp only [World.size_alloc] at q2
  refine (controlCode_calls aL nL cL xL aV nV cV xV _ _ _ [(on, off)] v _ _ _ [rate] _ _ _ xs _ (rL.below d0) hL (rV.below d0) hV (rd_oneSw q1') (by decide) (rd_one q2) (by decide) (rx.below d0) hx).mono ?_
  rintro e w1 ⟨he, b1⟩
  have d1 := bnext d0 b1 (Nat.le_refl _)
  have ga1 := blk_below ga0 b1 (blk_lt ga0)
  have gb1 := blk_below gb0 b1 (blk_lt gb0)
  clear k0 k1 k2 k3 ga gb ga0 gb0 q1 q2 q1' b1 dd d0
  rw [one_all, one_all, show swP (on, off) = swB on off from rfl, HC.out] at he
  by_cases hz : c = 0
  · subst hz
    subst he
    have OK := hd (ctZ_0 HC.out)
    cases hlv : lvB level
    · have HV := hd hlv
      have FF : Hid (R = (false, 2)) := hd (by have := HR.out; rw [hlv] at this; exact this.symm)
      clear hlv ga1 gb1
      go_wp2_with (go_at_call 80; refine (ValidLevel_callsB HV.out _).mono ?_; rintro e w' ⟨rfl, rfl⟩)
      go_ret2
      exact ⟨ret_bi (by rw [FF.out]) (by rw [FF.out]), d1⟩
    · have HV := hd hlv
      have FF : Hid (R = (kpB xL xV on off v rate xs level, 0)) := hd (by have := HR.out; rw [hlv] at this; exact this.symm)
      have k0 := blk_cell ga1 0
      have k1 := blk_cell ga1 1
      have k2 := blk_cell gb1 0
      have k3 := blk_cell gb1 1
      clear hlv
      go_wp2_with (go_at_call 80; refine (ValidLevel_callsB HV.out _).mono ?_; rintro e w' ⟨rfl, rfl⟩)
      refine (keeps_calls aL nL cL xL aV nV cV xV on off v rate _ _ _ xs level _ (rL.below d1) hL (rV.below d1) hV (rx.below d1) hx OK.out.1.1 OK.out.2.2.1.1 OK.out.2.2.1.2 OK.out.2.1 OK.out.2.2.2.1).mono ?_
      rintro e w2 ⟨A, m, c, rfl, ho, hm, b2⟩
      clear k0 k1 k2 k3 ga1 gb1 ho
      go_wp2_with fail
      go_ret2
      exact ⟨ret_bi (by rw [FF.out]) (by rw [FF.out]), bnext d1 b2 (Nat.le_refl _)⟩
  · subst he
    have FF : Hid (R = (false, c)) := hd (by rw [← HR.out, if_neg hz, if_neg hz])
    clear ga1 gb1
    go_wp2_with fail
    go_ret2
    exact ⟨ret_bi (by rw [FF.out]) (by rw [FF.out]), d1⟩
set_option maxRecDepth 100000 in
set_option maxHeartbeats 1000000 in
theorem specRunControl_calls (aL : Option Addr) (nL cL : Nat) (xL : List Int) (aV : Option Addr) (nV cV : Nat) (xV : List Int) (on off v rate : Int) (ax : Option Addr) (nx cx : Nat) (xs : List Int) (w : World) (rL : RdInt64 w aL nL xL) (hL : nL ≤ 1048576) (rV : RdInt64 w aV nV xV) (hV : nV ≤ 1048576) (rx : RdInt64 w ax nx xs) (hx : nx ≤ 1048576) :
    Calls Try.prog 47 #[.agg #[.slice aL nL cL, .slice aV nV cV], .agg #[.int .i64 on, .int .i64 off], .int .i64 v, .int .i64 rate, .slice ax nx cx] w fun e w' => ∃ A m c, e = .returned (.tuple #[.slice A m c, .int .i64 (rrZ xL xV on off v rate xs).2]) ∧ Own 2 cHour 119 w' w.heap.size w'.heap.size A m c (rrZ xL xV on off v rate xs).1 ∧ m ≤ 1048576 ∧ Below w.heap.size w w' := by
  obtain ⟨R, hR⟩ : ∃ R, rrZ xL xV on off v rate xs = R := ⟨_, rfl⟩
  have HR := hd hR
  rw [hR]
  clear hR
  go_enter Try.func47, Try.ntmps47
  go_upto_region 1 with fail
  obtain ⟨ga, gb, dd⟩ := two_blk2 w (cvC aL nL cL aV nV cV) (swC on off)
  generalize (w.alloc (cvC aL nL cL aV nV cV)).alloc (swC on off) = W1 at ga gb dd ⊢
  have k0 := blk_cell ga 0
  have k1 := blk_cell ga 1
  go_wp2_with fail
  refine (specValidCurve_calls aL nL cL xL aV nV cV xV _ (rL.below dd) hL (rV.below dd) hV).mono ?_
  rintro e w1 ⟨he, b1⟩
  have d1 := bnext dd b1 (Nat.le_refl _)
  have ga1 := blk_below ga b1 (blk_lt ga)
  have gb1 := blk_below gb b1 (blk_lt gb)
  clear k0 k1 ga gb b1 dd
  have k2 := blk_cell gb1 0
  have k3 := blk_cell gb1 1
  have GA := hd ga1
  have GB := hd gb1
  clear ga1 gb1
  cases hcv : cvB xL xV
  · rw [hcv] at he
    subst he
    have FF : Hid (R = ([], 1)) := hd (by rw [← HR.out]; unfold rrZ; rw [ctZ_cv (by rw [hcv]; rfl)]; rfl)
    clear hcv
    go_wp2_with fail
    go_ret2
    exact ⟨none, 0, 0, ret_sli (by rw [FF.out]), by rw [FF.out]; exact Own.nil_, by omega, d1⟩
  · rw [hcv] at he
    subst he
    have HCV := hd hcv
    clear hcv
    cases hsw : swB on off
    · have FF : Hid (R = ([], 1)) := hd (by rw [← HR.out]; unfold rrZ; rw [ctZ_cv (by rw [hsw, Bool.and_false])]; rfl)
      have HSW := hd hsw
      clear hsw
      go_wp2_with fail
      refine (l14Ok_b on off HSW.out _).mono ?_
      rintro e w2 ⟨rfl, b2⟩
      go_wp2_with fail
      go_ret2
      exact ⟨none, 0, 0, ret_sli (by rw [FF.out]), by rw [FF.out]; exact Own.nil_, by omega, bnext d1 b2 (Nat.le_refl _)⟩
    · have HSW := hd hsw
      clear hsw
      go_wp2_with fail
      refine (l14Ok_b on off HSW.out _).mono ?_
      rintro e w2 ⟨rfl, b2⟩
      have d2 := bnext d1 b2 (Nat.le_refl _)
      have GA2 := hd (blk_below GA.out b2 (blk_lt GA.out))
      have GB2 := hd (blk_below GB.out b2 (blk_lt GB.out))
      clear k2 k3 GA GB d1 b2
      go_wp2_with (first | (go_at_call 76; refine (l14Rate_calls _ _).mono ?_; rintro e w9 ⟨rfl, rfl⟩))
      refine (l14Code_calls _ aL nL cL xL aV nV cV xV v _ _ _ xs _ _ GA2.out (rL.below d2) hL (rV.below d2) hV (rx.below d2) hx HCV.out).mono ?_
      rintro e w3 ⟨he, b3⟩
      have d3 := bnext d2 b3 (Nat.le_refl _)
      have GA3 := hd (blk_below GA2.out b3 (blk_lt GA2.out))
      have gb3 := blk_below GB2.out b3 (blk_lt GB2.out)
      clear GA2 GB2 b3
      obtain ⟨c, hc⟩ : ∃ c, ctZ xL xV true v xs (rtB rate) = c := ⟨_, rfl⟩
      have hR' := HR.out
      unfold rrZ at hR'
      rw [HSW.out, hc] at hR'
      have HR' := hd hR'
      rw [hc] at he
      have HC := hd hc
      subst he
      clear hc hR'
      by_cases hz : c = 0
      · subst hz
        have OK := hd (ctZ_0 HC.out)
        obtain ⟨b2, hb2⟩ : ∃ b, (rcZ xL xV on off v rate xs).2 = b := ⟨_, rfl⟩
        have HB2 := hd hb2
        have k2 := blk_cell gb3 0
        have k3 := blk_cell gb3 1
        clear hb2 gb3
        go_wp2_with fail
        refine (l14Run_calls _ aL nL cL xL aV nV cV xV on off v rate _ _ _ xs _ GA3.out (rL.below d3) hL (rV.below d3) hV (rx.below d3) hx OK.out.1.1 OK.out.2.2.1.1 OK.out.2.2.1.2 OK.out.2.1 OK.out.2.2.2.1).mono ?_
        rintro e w4 ⟨A, m, c, he, ho, hm, b4⟩
        rw [HB2.out] at he
        subst he
        have HO := hd (ho.mono d3.size (Nat.le_refl _))
        have d4 := bnext d3 b4 (Nat.le_refl _)
        clear k2 k3 ho b4
        cases b2
        · have FF : Hid (R = ([], 10)) := hd (by rw [← HR'.out, HB2.out]; rfl)
          go_wp2_with fail
          go_ret2
          exact ⟨none, 0, 0, ret_sli (by rw [FF.out]), by rw [FF.out]; exact Own.nil_, by omega, d4⟩
        · have FF : Hid (R = ((rcZ xL xV on off v rate xs).1, 0)) := hd (by rw [← HR'.out, HB2.out]; rfl)
          go_wp2_with fail
          go_ret2
          exact ⟨A, m, c, ret_sli (by rw [FF.out]), by rw [FF.out]; exact HO.out, hm, d4⟩
      · have FF : Hid (R = ([], c)) := hd (by rw [← HR'.out, if_neg hz])
        clear gb3
        go_wp2_with fail
        go_ret2
        exact ⟨none, 0, 0, ret_sli (by rw [FF.out]), by rw [FF.out]; exact Own.nil_, by omega, d3⟩
set_option maxRecDepth 100000 in
set_option maxHeartbeats 1000000 in
theorem specKeepsBelow_calls (aL : Option Addr) (nL cL : Nat) (xL : List Int) (aV : Option Addr) (nV cV : Nat) (xV : List Int) (on off v rate : Int) (ax : Option Addr) (nx cx : Nat) (xs : List Int) (level : Int) (w : World) (rL : RdInt64 w aL nL xL) (hL : nL ≤ 1048576) (rV : RdInt64 w aV nV xV) (hV : nV ≤ 1048576) (rx : RdInt64 w ax nx xs) (hx : nx ≤ 1048576) :
    Calls Try.prog 24 #[.agg #[.slice aL nL cL, .slice aV nV cV], .agg #[.int .i64 on, .int .i64 off], .int .i64 v, .int .i64 rate, .slice ax nx cx, .int .i64 level] w fun e w' => e = .returned (.tuple #[.bool (kbZ xL xV on off v rate xs level).1, .int .i64 (kbZ xL xV on off v rate xs level).2]) ∧ Below w.heap.size w w' := by
  obtain ⟨R, hR⟩ : ∃ R, kbZ xL xV on off v rate xs level = R := ⟨_, rfl⟩
  have HR := hd hR
  rw [hR]
  clear hR
  go_enter Try.func24, Try.ntmps24
  go_upto_region 1 with fail
  obtain ⟨ga, gb, dd⟩ := two_blk2 w (cvC aL nL cL aV nV cV) (swC on off)
  generalize (w.alloc (cvC aL nL cL aV nV cV)).alloc (swC on off) = W1 at ga gb dd ⊢
  have k0 := blk_cell ga 0
  have k1 := blk_cell ga 1
  go_wp2_with fail
  refine (specValidCurve_calls aL nL cL xL aV nV cV xV _ (rL.below dd) hL (rV.below dd) hV).mono ?_
  rintro e w1 ⟨he, b1⟩
  have d1 := bnext dd b1 (Nat.le_refl _)
  have ga1 := blk_below ga b1 (blk_lt ga)
  have gb1 := blk_below gb b1 (blk_lt gb)
  clear k0 k1 ga gb b1 dd
  have k2 := blk_cell gb1 0
  have k3 := blk_cell gb1 1
  have GA := hd ga1
  have GB := hd gb1
  clear ga1 gb1
  cases hcv : cvB xL xV
  · rw [hcv] at he
    subst he
    have FF : Hid (R = (false, 1)) := hd (by rw [← HR.out]; unfold kbZ; rw [ctZ_cv (by rw [hcv]; rfl)]; rfl)
    clear hcv
    go_wp2_with fail
    go_ret2
    exact ⟨ret_bi (by rw [FF.out]) (by rw [FF.out]), d1⟩
  · rw [hcv] at he
    subst he
    have HCV := hd hcv
    clear hcv
    cases hsw : swB on off
    · have FF : Hid (R = (false, 1)) := hd (by rw [← HR.out]; unfold kbZ; rw [ctZ_cv (by rw [hsw, Bool.and_false])]; rfl)
      have HSW := hd hsw
      clear hsw
      go_wp2_with fail
      refine (l14Ok_b on off HSW.out _).mono ?_
      rintro e w2 ⟨rfl, b2⟩
      go_wp2_with fail
      go_ret2
      exact ⟨ret_bi (by rw [FF.out]) (by rw [FF.out]), bnext d1 b2 (Nat.le_refl _)⟩
    · have HSW := hd hsw
      clear hsw
      go_wp2_with fail
      refine (l14Ok_b on off HSW.out _).mono ?_
      rintro e w2 ⟨rfl, b2⟩
      have d2 := bnext d1 b2 (Nat.le_refl _)
      have GA2 := hd (blk_below GA.out b2 (blk_lt GA.out))
      have GB2 := hd (blk_below GB.out b2 (blk_lt GB.out))
      clear k2 k3 GA GB d1 b2
      obtain ⟨rt, hrt⟩ : ∃ b, rtB rate = b := ⟨_, rfl⟩
      have HRT := hd hrt
      clear hrt
      obtain ⟨oth, hoth⟩ : ∃ b, (rt && lvB level) = b := ⟨_, rfl⟩
      have HOTH := hd hoth
      clear hoth
      have hcode : Hid (∀ w', Calls Try.prog 77 #[.int .i64 level] w' fun e w'' => e = .returned (.bool (lvB level)) ∧ w' = w'') := hd (fun w' => l02Level_calls level w')
      obtain ⟨c, hc⟩ : ∃ c, ctZ xL xV true v xs oth = c := ⟨_, rfl⟩
      have HC := hd hc
      clear hc
      have hR' := HR.out
      unfold kbZ at hR'
      rw [HSW.out, HRT.out, HOTH.out, HC.out] at hR'
      have HR' := hd hR'
      clear hR'
      have key : ∀ w', Below w2.heap.size w2 w' → Calls Try.prog 75 #[.pointer (some ⟨w.heap.size, 0, none⟩), .int .i64 v, .slice ax nx cx, .bool oth] w' fun e w'' => e = .returned (.int .i64 c) ∧ Below w'.heap.size w' w'' := fun w' hw' =>
        (l14Code_calls _ aL nL cL xL aV nV cV xV v _ _ _ xs oth w' (blk_below GA2.out hw' (blk_lt GA2.out)) ((rL.below d2).below hw') hL ((rV.below d2).below hw') hV ((rx.below d2).below hw') hx HCV.out).mono fun _ _ h => ⟨h.1.trans (ret_int HC.out), h.2⟩
      have KEY := hd key
      clear key
      cases rt
      · have e0 : oth = false := by rw [← HOTH.out]; rfl
        subst e0
        go_wp2_with (first | (go_at_call 76; refine (l14Rate_calls _ _).mono ?_; rintro e w9 ⟨he, rfl⟩; rw [HRT.out] at he; subst he))
        refine (KEY.out _ (Below.refl _ _)).mono ?_
        rintro e w3 ⟨rfl, b3⟩
        have d3 := bnext d2 b3 (Nat.le_refl _)
        have GA3 := hd (blk_below GA2.out b3 (blk_lt GA2.out))
        have gb3 := blk_below GB2.out b3 (blk_lt GB2.out)
        clear GA2 GB2 b3
        by_cases hz : c = 0
        · subst hz
          have OK := hd (ctZ_0 HC.out)
          have FF : Hid (R = (kpB xL xV on off v rate xs level, 0)) := hd (by rw [← HR'.out]; rfl)
          have hrr : Hid (rtB rate = true) := hd (by have h1 := OK.out.2.1; first | exact absurd h1 (by decide) | (have h2 := HOTH.out; rw [h1] at h2; have := Bool.and_eq_true_iff.1 h2; first | exact HRT.out.trans this.1 | exact HRT.out))
          have k2 := blk_cell gb3 0
          have k3 := blk_cell gb3 1
          clear gb3
          go_wp2_with fail
          refine (l14Keeps_calls _ aL nL cL xL aV nV cV xV on off v rate _ _ _ xs level _ GA3.out (rL.below d3) hL (rV.below d3) hV (rx.below d3) hx OK.out.1.1 OK.out.2.2.1.1 OK.out.2.2.1.2 hrr.out OK.out.2.2.2.1).mono ?_
          rintro e w4 ⟨A, m, c, rfl, ho, hm, b4⟩
          clear k2 k3 ho
          go_wp2_with fail
          go_ret2
          exact ⟨ret_bi (by rw [FF.out]) (by rw [FF.out]), bnext d3 b4 (Nat.le_refl _)⟩
        · have FF : Hid (R = (false, c)) := hd (by rw [← HR'.out, if_neg hz])
          clear gb3
          go_wp2_with fail
          go_ret2
          exact ⟨ret_bi (by rw [FF.out]) (by rw [FF.out]), d3⟩
      · have e0 : lvB level = oth := by rw [← HOTH.out]; rfl
        have E0 := hd e0
        clear e0
        go_wp2_with (first | (go_at_call 76; refine (l14Rate_calls _ _).mono ?_; rintro e w9 ⟨he, rfl⟩; rw [HRT.out] at he; subst he) | (go_at_call 77; refine (hcode.out _).mono ?_; rintro e w9 ⟨he, rfl⟩; rw [E0.out] at he; subst he))
        refine (KEY.out _ (Below.refl _ _)).mono ?_
        rintro e w3 ⟨rfl, b3⟩
        have d3 := bnext d2 b3 (Nat.le_refl _)
        have GA3 := hd (blk_below GA2.out b3 (blk_lt GA2.out))
        have gb3 := blk_below GB2.out b3 (blk_lt GB2.out)
        clear GA2 GB2 b3
        by_cases hz : c = 0
        · subst hz
          have OK := hd (ctZ_0 HC.out)
          have FF : Hid (R = (kpB xL xV on off v rate xs level, 0)) := hd (by rw [← HR'.out]; rfl)
          have hrr : Hid (rtB rate = true) := hd (by have h1 := OK.out.2.1; first | exact absurd h1 (by decide) | (have h2 := HOTH.out; rw [h1] at h2; have := Bool.and_eq_true_iff.1 h2; first | exact HRT.out.trans this.1 | exact HRT.out))
          have k2 := blk_cell gb3 0
          have k3 := blk_cell gb3 1
          clear gb3
          go_wp2_with fail
          refine (l14Keeps_calls _ aL nL cL xL aV nV cV xV on off v rate _ _ _ xs level _ GA3.out (rL.below d3) hL (rV.below d3) hV (rx.below d3) hx OK.out.1.1 OK.out.2.2.1.1 OK.out.2.2.1.2 hrr.out OK.out.2.2.2.1).mono ?_
          rintro e w4 ⟨A, m, c, rfl, ho, hm, b4⟩
          clear k2 k3 ho
          go_wp2_with fail
          go_ret2
          exact ⟨ret_bi (by rw [FF.out]) (by rw [FF.out]), bnext d3 b4 (Nat.le_refl _)⟩
        · have FF : Hid (R = (false, c)) := hd (by rw [← HR'.out, if_neg hz])
          clear gb3
          go_wp2_with fail
          go_ret2
          exact ⟨ret_bi (by rw [FF.out]) (by rw [FF.out]), d3⟩
end Go.Proofs.Ytieomdjcnaaopaa
