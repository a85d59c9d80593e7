/- indicesWhere, size. -/
import Derived.Test.YtieomdjcnaaopaaTyInt64
namespace Go.Proofs.Ytieomdjcnaaopaa
open Go.RowKit
set_option linter.unusedVariables false

/-- The numbers below n for which p holds. -/
def idx (p : Nat → Bool) (n : Nat) : List Int := ((List.range n).filter p).map Int.ofNat
theorem idx_succ (p : Nat → Bool) (n : Nat) : idx p (n + 1) = idx p n ++ if p n then [(n : Int)] else [] := by
  unfold idx
  rw [List.range_succ, List.filter_append, List.map_append]
  cases h : p n <;> simp [h]
theorem idx_len (p : Nat → Bool) (n : Nat) : (idx p n).length ≤ n := by
  unfold idx
  rw [List.length_map]
  have := List.length_filter_le p (List.range n)
  simpa using this

end Go.Proofs.Ytieomdjcnaaopaa
