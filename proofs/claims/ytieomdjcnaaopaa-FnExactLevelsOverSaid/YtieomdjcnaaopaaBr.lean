/- Breaches: what is valid, the level inside, the head. -/
import Derived.Test.YtieomdjcnaaopaaCur2
import Derived.Test.YtieomdjcnaaopaaTyBreach
import Derived.Test.YtieomdjcnaaopaaBq
import Derived.Deep.RegionHeld3
import Derived.Deep.RegionWith
import Derived.Deep.DeepCutAuto
namespace Go.Proofs.Ytieomdjcnaaopaa
open Go.RowKit
set_option linter.unusedVariables false

abbrev brC (wd sl wt : Int) : Obj := .cells #[.int .i64 wd, .int .i64 sl, .int .i64 wt] 32 (0, 0)
def brB (ls vs : List Int) (wd sl wt : Int) : Bool := cvB ls vs && (inB wd 0 1000 && (lvB sl && inB wt 0 (lastZ vs)))
theorem lastV {ls vs : List Int} (h : CV ls vs) : 0 ≤ lastZ vs ∧ lastZ vs ≤ 1000000000 := by
  have := h.vb (ls.length - 1) (by have := h.n2; omega)
  unfold lastZ
  rw [h.len]
  exact this
theorem two_blk2 (w : World) (A B : Obj) : ((w.alloc A).alloc B).heap[w.heap.size]? = some A ∧ ((w.alloc A).alloc B).heap[w.heap.size + 1]? = some B ∧ Below w.heap.size w ((w.alloc A).alloc B) := by
  refine ⟨blk_alloc (heap_alloc_new w _) _, ?_, ((Below.refl _ _).alloc (Nat.le_refl _) _).alloc (by simp) _⟩
  have := heap_alloc_new (w.alloc A) B
  simp only [World.size_alloc] at this
  exact this
theorem in_callsB {n lo hi : Int} {b : Bool} (h : inB n lo hi = b) (w : World) : Calls Try.prog 125 #[.int .i64 n, .int .i64 lo, .int .i64 hi] w fun e w' => e = .returned (.bool b) ∧ w = w' := h ▸ in_calls n lo hi w
theorem ValidLevel_callsB {n : Int} {b : Bool} (h : lvB n = b) (w : World) : Calls Try.prog 80 #[.int .i64 n] w fun e w' => e = .returned (.bool b) ∧ w = w' := h ▸ ValidLevel_calls n w
theorem l00Max_calls (a b : Int) (w : World) : Calls Try.prog 115 #[.int .i64 a, .int .i64 b] w fun e w' => e = .returned (.int .i64 (max a b)) ∧ w = w' := by
  by_cases h : b < a
  · have K := hd (show max a b = a by omega)
    go_enter Try.func115, Try.ntmps115
    go_wp2
    go_ret
    exact ⟨ret_int K.out.symm, rfl⟩
  · have K := hd (show max a b = b by omega)
    go_enter Try.func115, Try.ntmps115
    go_wp2
    go_ret
    exact ⟨ret_int K.out.symm, rfl⟩
theorem l00Min_calls (a b : Int) (w : World) : Calls Try.prog 118 #[.int .i64 a, .int .i64 b] w fun e w' => e = .returned (.int .i64 (min a b)) ∧ w = w' := by
  by_cases h : a < b
  · have K := hd (show min a b = a by omega)
    go_enter Try.func118, Try.ntmps118
    go_wp2
    go_ret
    exact ⟨ret_int K.out.symm, rfl⟩
  · have K := hd (show min a b = b by omega)
    go_enter Try.func118, Try.ntmps118
    go_wp2
    go_ret
    exact ⟨ret_int K.out.symm, rfl⟩
theorem l12Plain_calls (wd sl wt : Int) (w : World) :
    Calls Try.prog 142 #[.agg #[.int .i64 wd, .int .i64 sl, .int .i64 wt]] w fun e w' => e = .returned (.bool (inB wd 0 1000 && (lvB sl && inB wt 0 1000000000))) ∧ Below w.heap.size w w' := by
  go_enter Try.func142, Try.ntmps142
  go_wp2_with (first | (go_at_call 121; refine (l00In_calls _ _ _ _).mono ?_; rintro e w' ⟨rfl, rfl⟩) | (go_at_call 77; refine (l02Level_calls _ _).mono ?_; rintro e w' ⟨rfl, rfl⟩))
  all_goals (go_ret; exact ⟨by simp [*], by go_grown⟩)
set_option maxRecDepth 100000 in
theorem specLevelAt_calls (aL : Option Addr) (nL cL : Nat) (xL : List Int) (aV : Option Addr) (nV cV : Nat) (xV : List Int) (v : Int) (w : World) (rL : RdInt64 w aL nL xL) (hL : nL ≤ 1048576) (rV : RdInt64 w aV nV xV) (hV : nV ≤ 1048576) (hc : cvB xL xV = true) (h0 : 0 ≤ v) (h1 : v ≤ lastZ xV) :
    Calls Try.prog 129 #[.agg #[.slice aL nL cL, .slice aV nV cV], .int .i64 v] w fun e w' => e = .returned (.tuple #[.int .i64 (lvZ xL xV v), .int .i64 0]) ∧ Below w.heap.size w w' := by
  have cv := cv_of hc
  have hv := lastV cv
  have LV := rV.len
  have HLN := hd (lastZ_n LV)
  have HCV := hd cv
  have n2 := cv.n2
  have hln := cv.len
  have hin : inB v 0 1000000000 = true := inB_iff.2 (by omega)
  have hpos : 0 < nV := by omega
  obtain ⟨bV, oV, hbV, hl2, hcV⟩ := rdBase rV hpos
  obtain ⟨ll, hll⟩ : ∃ x, lastZ xV = x := ⟨_, rfl⟩
  have c1 := hcV (nV - 1) (by omega)
  rw [← HLN.out, hll] at c1
  rw [hll] at h1 hv
  obtain ⟨hv0, hv1⟩ := hv
  obtain ⟨nn, rfl⟩ : ∃ nn, nV = nn + 1 := ⟨nV - 1, by omega⟩
  rw [Nat.add_sub_cancel] at c1
  have HC := hd hc
  clear cv LV HLN n2 hln hcV hll hc
  subst hbV
  have q0 : (0 : Int) ≤ (nn : Int) := by omega
  have q1 : (nn : Int) < (nn : Int) + 1 := by omega
  go_enter Try.func129, Try.ntmps129
  go_wp2_with fail
  refine (l05Ok_calls _ aL nL cL xL _ (nn + 1) cV xV _ (heap_alloc_new w _) (rL.alloc _) hL (rV.alloc _) hV).mono ?_
  rintro e w1 ⟨he, b1⟩
  rw [HC.out] at he
  subst he
  have hg1 := box_q b1
  have d1 := bbox1 b1
  clear b1
  have k0 := blk_cell hg1 0
  have k1 := blk_cell hg1 1
  have c1' := (d1.cell (p := ⟨bV, oV + nn, none⟩) hl2).trans c1
  go_wp2_with (go_at_call 121; refine (l00In_calls _ _ _ _).mono ?_; rintro e w' ⟨rfl, rfl⟩)
  refine (l05Level_calls _ aL nL cL xL _ (nn + 1) cV xV v _ hg1 (rL.below d1) hL (rV.below d1) hV HCV.out).mono ?_
  rintro e w2 ⟨rfl, b2⟩
  go_wp2_with fail
  go_ret2
  exact ⟨rfl, bnext d1 b2 (Nat.le_refl _)⟩
def hdZ (ls vs : List Int) (sl wt outside : Int) : Int := max 0 (outside - max sl (lvZ ls vs wt))
theorem ValidCurve_b {b : Bool} (aL : Option Addr) (nL cL : Nat) (xL : List Int) (aV : Option Addr) (nV cV : Nat) (xV : List Int) (h : cvB xL xV = b) (w : World) (rL : RdInt64 w aL nL xL) (hL : nL ≤ 1048576) (rV : RdInt64 w aV nV xV) (hV : nV ≤ 1048576) :
    Calls Try.prog 98 #[.agg #[.slice aL nL cL, .slice aV nV cV]] w fun e w' => e = .returned (.bool b) ∧ Below w.heap.size w w' := h ▸ ValidCurve_calls aL nL cL xL aV nV cV xV w rL hL rV hV
set_option maxRecDepth 100000 in
set_option maxHeartbeats 1000000 in
theorem ValidBreach_calls (aL : Option Addr) (nL cL : Nat) (xL : List Int) (aV : Option Addr) (nV cV : Nat) (xV : List Int) (wd sl wt : Int) (w : World) (rL : RdInt64 w aL nL xL) (hL : nL ≤ 1048576) (rV : RdInt64 w aV nV xV) (hV : nV ≤ 1048576) :
    Calls Try.prog 116 #[.agg #[.slice aL nL cL, .slice aV nV cV], .agg #[.int .i64 wd, .int .i64 sl, .int .i64 wt]] w fun e w' => e = .returned (.bool (brB xL xV wd sl wt)) ∧ Below w.heap.size w w' := by
  have FF : Hid (brB xL xV wd sl wt = (cvB xL xV && (inB wd 0 1000 && (lvB sl && inB wt 0 (lastZ xV))))) := hd rfl
  have HVP : Hid (cvB xL xV = true → 0 < nV) := hd (fun h => by have a := cv_of h; have := a.n2; have := a.len; have := rV.len; omega)
  go_enter Try.func116, Try.ntmps116
  go_upto_region 1 with fail
  obtain ⟨ga, gb, dd⟩ := two_blk2 w (cvC aL nL cL aV nV cV) (brC wd sl wt)
  generalize (w.alloc (cvC aL nL cL aV nV cV)).alloc (brC wd sl wt) = W1 at ga gb dd ⊢
  have k0 := blw_cell (blk_cell ga 0)
  have k1 := blw_cell (blk_cell ga 1)
  have k2 := blw_cell (blk_cell gb 0)
  have k3 := blw_cell (blk_cell gb 1)
  have k4 := blw_cell (blk_cell gb 2)
  have RL := hd (rL.below dd)
  have RV := hd (rV.below dd)
  clear ga gb
  cases hcv : cvB xL xV
  case' true => cases hw : inB wd 0 1000
  case' true.true => cases hs : lvB sl
  case' true.true.true => cases ht : inB wt 0 (lastZ xV)
  all_goals (
    have HCV := hd hcv
    refine wp_region_blw (by kernel_rfl) (by kernel_rfl) ?_
    repeat (go_big_quiet_step (first
      | (go_at_call 98; with_reducible exact blw_of (ValidCurve_b _ _ _ xL _ _ _ xV HCV.out _ (RL.out.below (Blw.out _)) hL (RV.out.below (Blw.out _)) hV))
      | (go_at_call 125; with_reducible exact blw_same (in_callsB hw _))
      | (go_at_call 125; with_reducible exact blw_same (in_callsB ht _))
      | (go_at_call 80; with_reducible exact blw_same (ValidLevel_callsB hs _))
      | (go_at_call 102; with_reducible exact blw_same (last_calls _ _ _ xV _ (RV.out.below (Blw.out _)) hV (HVP.out HCV.out)))))
    refine wpQuiet_nil ?_
    rintro _ ⟨D, rfl⟩
    go_wp2_with fail
    go_ret
    exact ⟨ret_bool (by rw [FF.out]; simp [*]), bnext dd D.out (Nat.le_refl _)⟩)
end Go.Proofs.Ytieomdjcnaaopaa
