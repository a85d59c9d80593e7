/- Quotients, rounded. -/
import Derived.Test.YtieomdjcnaaopaaLev
import Derived.IntWalk
namespace Go.Proofs.Ytieomdjcnaaopaa
open Go.RowKit
set_option linter.unusedVariables false

theorem floor_neg {n d : Int} (hd0 : 0 < d) (h : n.tmod d < 0) : n.tdiv d - 1 = n / d := by
  have h1 := Int.mul_tdiv_add_tmod n d
  have h2 := Int.lt_tmod_of_pos n hd0
  exact ((Int.ediv_emod_unique hd0 (a := n) (q := n.tdiv d - 1) (r := n.tmod d + d)).2 ⟨by rw [Int.mul_sub]; omega, by omega, by omega⟩).1.symm
theorem floor_pos {n d : Int} (hd0 : 0 < d) (h : 0 ≤ n.tmod d) : n.tdiv d = n / d := by
  have h1 := Int.mul_tdiv_add_tmod n d
  have h2 := Int.tmod_lt_of_pos n hd0
  exact ((Int.ediv_emod_unique hd0 (a := n) (q := n.tdiv d) (r := n.tmod d)).2 ⟨by omega, by omega, by omega⟩).1.symm
theorem tdiv_bd {n d : Int} (h0 : -1000000000 ≤ n) (h1 : n ≤ 1000000000) : -1000000000 ≤ n.tdiv d ∧ n.tdiv d ≤ 1000000000 := by
  have := Int.natAbs_tdiv_le_natAbs n d
  omega
theorem floorDiv_calls (n d : Int) (w : World) (hd0 : 0 < d) (hd1 : d ≤ 1000000) (h0 : -1000000000 ≤ n) (h1 : n ≤ 1000000000) :
    Calls Try.prog 130 #[.int .i64 n, .int .i64 d] w fun e w' => e = .returned (.int .i64 (n / d)) ∧ w = w' := by
  obtain ⟨t0, t1⟩ := tdiv_bd (d := d) h0 h1
  have hdz : (d == 0) = false := by simp; omega
  go_enter Try.func130, Try.ntmps130
  by_cases ht : n.tmod d < 0
  · have K := hd (floor_neg hd0 ht)
    go_wp2_with fail
    go_ret
    exact ⟨ret_int K.out, rfl⟩
  · have ht' : 0 ≤ n.tmod d := by omega
    have K := hd (floor_pos hd0 ht')
    go_wp2_with fail
    go_ret
    exact ⟨ret_int K.out, rfl⟩
theorem l02Floor_calls (n d : Int) (w : World) (hd0 : 0 < d) (hd1 : d ≤ 1000000) (h0 : -1000000000 ≤ n) (h1 : n ≤ 1000000000) :
    Calls Try.prog 134 #[.int .i64 n, .int .i64 d] w fun e w' => e = .returned (.int .i64 (n / d)) ∧ w = w' := by
  obtain ⟨t0, t1⟩ := tdiv_bd (d := d) h0 h1
  have hdz : (d == 0) = false := by simp; omega
  go_enter Try.func134, Try.ntmps134
  by_cases ht : n.tmod d < 0
  · have K := hd (floor_neg hd0 ht)
    go_wp2_with fail
    go_ret
    exact ⟨ret_int K.out, rfl⟩
  · have ht' : 0 ≤ n.tmod d := by omega
    have K := hd (floor_pos hd0 ht')
    go_wp2_with fail
    go_ret
    exact ⟨ret_int K.out, rfl⟩
end Go.Proofs.Ytieomdjcnaaopaa
