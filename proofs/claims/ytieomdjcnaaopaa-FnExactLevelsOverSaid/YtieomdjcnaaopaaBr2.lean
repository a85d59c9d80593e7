/- Breaches, the reference: what is valid. -/
import Derived.Test.YtieomdjcnaaopaaBr
import Derived.Test.YtieomdjcnaaopaaBrAlt
import Derived.Test.YtieomdjcnaaopaaBq
namespace Go.Proofs.Ytieomdjcnaaopaa
open Go.RowKit
set_option linter.unusedVariables false

theorem specValidCurve_b {b : Bool} (aL : Option Addr) (nL cL : Nat) (xL : List Int) (aV : Option Addr) (nV cV : Nat) (xV : List Int) (h : cvB xL xV = b) (w : World) (rL : RdInt64 w aL nL xL) (hL : nL ≤ 1048576) (rV : RdInt64 w aV nV xV) (hV : nV ≤ 1048576) :
    Calls Try.prog 73 #[.agg #[.slice aL nL cL, .slice aV nV cV]] w fun e w' => e = .returned (.bool b) ∧ Below w.heap.size w w' := h ▸ specValidCurve_calls aL nL cL xL aV nV cV xV w rL hL rV hV
theorem l12Plain_b {b : Bool} (wd sl wt : Int) (h : (inB wd 0 1000 && (lvB sl && inB wt 0 1000000000)) = b) (w : World) :
    Calls Try.prog 142 #[.agg #[.int .i64 wd, .int .i64 sl, .int .i64 wt]] w fun e w' => e = .returned (.bool b) ∧ Below w.heap.size w w' := h ▸ l12Plain_calls wd sl wt w
set_option maxRecDepth 100000 in
set_option maxHeartbeats 1000000 in
theorem l12Ok_calls (g : Nat) (aL : Option Addr) (nL cL : Nat) (xL : List Int) (aV : Option Addr) (nV cV : Nat) (xV : List Int) (wd sl wt : Int) (w : World) (hg : w.heap[g]? = some (cvC aL nL cL aV nV cV)) (rL : RdInt64 w aL nL xL) (hL : nL ≤ 1048576) (rV : RdInt64 w aV nV xV) (hV : nV ≤ 1048576) :
    Calls Try.prog 114 #[.pointer (some ⟨g, 0, none⟩), .agg #[.int .i64 wd, .int .i64 sl, .int .i64 wt]] w fun e w' => e = .returned (.bool (brB xL xV wd sl wt)) ∧ Below w.heap.size w w' := by
  have hlv := rV.len
  have HVP : Hid (cvB xL xV = true → 0 < nV) := hd (fun h => by have a := cv_of h; have := a.n2; have := a.len; omega)
  have HB := hd (fun h => rdBase rV (HVP.out h))
  have HLN := hd (lastZ_n hlv)
  have FF := hd (brB_alt xL xV wd sl wt)
  have hgl := blk_lt hg
  go_enter Try.func114, Try.ntmps114
  go_upto_region 1 with fail
  have gb := heap_alloc_new w (brC wd sl wt)
  have ga := blk_alloc hg (brC wd sl wt)
  have dd : Below w.heap.size w (w.alloc (brC wd sl wt)) := (Below.refl _ _).alloc (Nat.le_refl _) _
  generalize w.alloc (brC wd sl wt) = W1 at ga gb dd ⊢
  have k0 := blw_cell (blk_cell ga 0)
  have k1 := blw_cell (blk_cell ga 1)
  have k2 := blw_cell (blk_cell gb 0)
  have k3 := blw_cell (blk_cell gb 1)
  have k4 := blw_cell (blk_cell gb 2)
  have RL := hd (rL.below dd)
  have RV := hd (rV.below dd)
  clear ga gb hlv
  cases hcv : cvB xL xV
  case' true =>
    obtain ⟨bV, oV, hbV, hl2, hcV⟩ := HB.out hcv
    have c1 := blw_cell ((dd.cell (p := ⟨bV, oV + (nV - 1), none⟩) hl2).trans (hcV (nV - 1) (by have := HVP.out hcv; omega)))
    rw [← HLN.out] at c1
    have hnp := HVP.out hcv
    obtain ⟨nn, rfl⟩ : ∃ nn, nV = nn + 1 := ⟨nV - 1, by omega⟩
    rw [Nat.add_sub_cancel] at c1
    have q0 : (0 : Int) ≤ (nn : Int) := by omega
    have q1' : (nn : Int) < (nn : Int) + 1 := by omega
    subst hbV
    clear hcV
    cases hp : (inB wd 0 1000 && (lvB sl && inB wt 0 1000000000))
  case' true.true => cases ht : decide (wt ≤ lastZ xV)
  all_goals (
    have HCV := hd hcv
    refine wp_region_blw (by kernel_rfl) (by kernel_rfl) ?_
    repeat (go_big_quiet_step (first
      | (go_at_call 73; with_reducible exact blw_of (specValidCurve_b _ _ _ xL _ _ _ xV HCV.out _ (RL.out.below (Blw.out _)) hL (RV.out.below (Blw.out _)) hV))
      | (go_at_call 142; with_reducible exact blw_of (l12Plain_b _ _ _ hp _))))
    refine wpQuiet_nil ?_
    rintro _ ⟨D, rfl⟩
    go_wp2_with fail
    go_ret
    exact ⟨ret_bool (by rw [FF.out]; simp [*]), bnext dd D.out (Nat.le_refl _)⟩)
end Go.Proofs.Ytieomdjcnaaopaa
