/- Breaches: what is valid, as the reference says it. -/
import Derived.Test.YtieomdjcnaaopaaBr
namespace Go.Proofs.Ytieomdjcnaaopaa
open Go.RowKit
set_option linter.unusedVariables false

theorem brB_alt (ls vs : List Int) (wd sl wt : Int) : brB ls vs wd sl wt = (cvB ls vs && (inB wd 0 1000 && (lvB sl && inB wt 0 1000000000)) && decide (wt ≤ lastZ vs)) := by
  unfold brB
  cases hc : cvB ls vs
  · simp
  · have h := lastV (cv_of hc)
    have e : inB wt 0 (lastZ vs) = (inB wt 0 1000000000 && decide (wt ≤ lastZ vs)) := by
      rw [Bool.eq_iff_iff]
      simp only [inB, Bool.and_eq_true, decide_eq_true_eq]
      omega
    rw [e]
    cases inB wd 0 1000 <;> cases lvB sl <;> simp
end Go.Proofs.Ytieomdjcnaaopaa
