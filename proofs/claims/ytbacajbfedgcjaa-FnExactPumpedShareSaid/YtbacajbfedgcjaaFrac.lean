/- Greatest common divisors and fractions in lowest terms. -/
import Derived.Test.YtbacajbfedgcjaaBasic
import Derived.Test.YtbacajbfedgcjaaAux2
import Derived.RegionTactic
import Derived.BigRegion
namespace Go.Proofs.Ytbacajbfedgcjaa
open Go.RowKit
set_option linter.unusedVariables false

theorem gcd_step (x y : Nat) : Nat.gcd y (x % y) = Nat.gcd x y := by rw [Nat.gcd_comm x y, Nat.gcd_rec y x, Nat.gcd_comm]
theorem wrap_div (a g : Nat) (ha : a ≤ 1000000000000000000) : wrap64 ((a : Int) / (g : Int)) = ((a / g : Nat) : Int) := by
  rw [← Int.natCast_ediv]
  have h := Nat.div_le_self a g
  generalize a / g = q at h ⊢
  exact IntWalk.wrap64_in _ ⟨by omega, by omega⟩
theorem gcd_calls (a b : Nat) (w : World) (ha : a ≤ 1000000000000000000) (hb : b ≤ 1000000000000000000) :
    Calls Try.prog 68 #[.int .i64 a, .int .i64 b] w fun e w' => e = .returned (.int .i64 (Nat.gcd a b)) ∧ Below w.heap.size w w' := by
  go_enter Try.func68, Try.ntmps68
  go_wp2_with fail
  go_loopw [0, 1] (fun p q wr => ∃ x y : Nat, p = .int .i64 x ∧ q = .int .i64 y ∧ x ≤ 1000000000000000000 ∧ y ≤ 1000000000000000000 ∧ Nat.gcd x y = Nat.gcd a b ∧ Below w.heap.size w wr) (fun _ q _ => (intOf q).toNat)
  case atStart => exact ⟨a, b, rfl, rfl, ha, hb, rfl, Below.refl _ _⟩
  case round =>
    obtain ⟨x, y, rfl, rfl, hx, hy, hg, hbl⟩ := hrel
    have Hg := hd hg
    clear hg
    by_cases h0 : y = 0
    · subst h0
      go_wp2_with fail
      go_ret
      exact ⟨ret_int (by have := Hg.out; rw [Nat.gcd_zero_right] at this; rw [this]), hbl⟩
    · have h1 : (0 : Int) < y := by omega
      have h2 : ((y : Int) == 0) = false := by simp; omega
      go_wp2_with fail
      go_region
      go_wp2_with fail
      go_roundw
      case rel => exact ⟨y, x % y, rfl, rfl, hy, by have := Nat.mod_lt x (show y > 0 by omega); omega, by rw [gcd_step, Hg.out], hbl.drew⟩
      case measure =>
        show (intOf (.int .i64 ((x % y : Nat) : Int))).toNat < (intOf (.int .i64 (y : Int))).toNat
        have := Nat.mod_lt x (show y > 0 by omega)
        simp [intOf]
        omega
theorem l02Gcd_calls (a b : Nat) (w : World) (ha : a ≤ 1000000000000000000) (hb : b ≤ 1000000000000000000) :
    Calls Try.prog 66 #[.int .i64 a, .int .i64 b] w fun e w' => e = .returned (.int .i64 (Nat.gcd a b)) ∧ Below w.heap.size w w' := by
  go_enter Try.func66, Try.ntmps66
  go_wp2_with fail
  go_loopw [0, 1] (fun p q wr => ∃ x y : Nat, p = .int .i64 x ∧ q = .int .i64 y ∧ x ≤ 1000000000000000000 ∧ y ≤ 1000000000000000000 ∧ Nat.gcd x y = Nat.gcd a b ∧ Below w.heap.size w wr) (fun _ q _ => (intOf q).toNat)
  case atStart => exact ⟨a, b, rfl, rfl, ha, hb, rfl, Below.refl _ _⟩
  case round =>
    obtain ⟨x, y, rfl, rfl, hx, hy, hg, hbl⟩ := hrel
    have Hg := hd hg
    clear hg
    by_cases h0 : y = 0
    · subst h0
      go_wp2_with fail
      go_ret
      exact ⟨ret_int (by have := Hg.out; rw [Nat.gcd_zero_right] at this; rw [this]), hbl⟩
    · have h1 : (0 : Int) < y := by omega
      have h2 : ((y : Int) == 0) = false := by simp; omega
      have h3 : ((y : Int) != 0) = true := by simp; omega
      go_wp2_with fail
      go_roundw
      case rel => exact ⟨y, x % y, rfl, rfl, hy, by have := Nat.mod_lt x (show y > 0 by omega); omega, by rw [gcd_step, Hg.out], hbl⟩
      case measure =>
        show (intOf (.int .i64 ((x % y : Nat) : Int))).toNat < (intOf (.int .i64 (y : Int))).toNat
        have := Nat.mod_lt x (show y > 0 by omega)
        simp [intOf]
        omega
theorem abs_calls (a : Nat) (w : World) (ha : a ≤ 1000000000000000000) :
    Calls Try.prog 69 #[.int .i64 a] w fun e w' => e = .returned (.int .i64 a) ∧ w = w' := by
  have h : ¬ ((a : Int) < -(a : Int)) := by omega
  go_enter Try.func69, Try.ntmps69
  go_wp2
  go_ret
  exact ⟨rfl, rfl⟩
theorem l02Size_calls (a : Nat) (w : World) (ha : a ≤ 1000000000000000000) :
    Calls Try.prog 67 #[.int .i64 a] w fun e w' => e = .returned (.int .i64 a) ∧ w = w' := by
  have h : ¬ ((a : Int) < 0) := by omega
  go_enter Try.func67, Try.ntmps67
  go_wp2
  go_ret
  exact ⟨rfl, rfl⟩
theorem fraction_calls (a b : Nat) (w : World) (ha : a ≤ 1000000000000000000) (hb : b ≤ 1000000000000000000) (h0 : 0 < b) :
    Calls Try.prog 59 #[.int .i64 a, .int .i64 b] w fun e w' => e = .returned (.agg #[.int .i64 ((a / Nat.gcd a b : Nat) : Int), .int .i64 ((b / Nat.gcd a b : Nat) : Int)]) ∧ Below w.heap.size w w' := by
  have hg0 : 0 < Nat.gcd a b := Nat.gcd_pos_of_pos_right _ h0
  go_enter Try.func59, Try.ntmps59
  go_wp2_with (go_at_call 69; refine (abs_calls _ _ ha).mono ?_; rintro e w' ⟨rfl, rfl⟩)
  refine (gcd_calls a b _ ha hb).mono ?_
  rintro e w1 ⟨rfl, b1⟩
  obtain ⟨g, hg⟩ : ∃ g, Nat.gcd a b = g := ⟨_, rfl⟩
  rw [hg] at hg0 ⊢
  have Hg := hd hg
  clear hg
  have hq := box_q b1
  have Hq := hd hq
  have d1 := bbox1 b1
  have e0 := blk_cell hq 0
  have e1 := blk_cell hq 1
  have z0 := blk_free hq 0
  have z1 := blk_free hq 1
  have h1 : (0 : Int) < g := by omega
  have h2 : ((g : Int) == 0) = false := by simp; omega
  clear b1 hq
  go_wp2_with fail
  have ea := wrap_div a g ha
  have eb := wrap_div b g hb
  have Ea := hd ea
  have Eb := hd eb
  clear ea eb
  go_region
  go_wp2_with fail
  exact bodyPost_ret (results_cell_row rfl _ _ _ _ _ _ _ rfl (blk_set2 Hq.out _ _) Try.underlying47 rfl (by kernel_rfl)) rfl ⟨by rw [Ea.out, Eb.out, Hg.out], (below_set2 d1 (Nat.le_refl _) _ _).drew⟩
theorem l02Make_calls (a b : Nat) (w : World) (ha : a ≤ 1000000000000000000) (hb : b ≤ 1000000000000000000) (h0 : 0 < b) :
    Calls Try.prog 58 #[.int .i64 a, .int .i64 b] w fun e w' => e = .returned (.agg #[.int .i64 ((a / Nat.gcd a b : Nat) : Int), .int .i64 ((b / Nat.gcd a b : Nat) : Int)]) ∧ Below w.heap.size w w' := by
  have hg0 : 0 < Nat.gcd a b := Nat.gcd_pos_of_pos_right _ h0
  go_enter Try.func58, Try.ntmps58
  go_wp2_with (go_at_call 67; refine (l02Size_calls _ _ ha).mono ?_; rintro e w' ⟨rfl, rfl⟩)
  refine (l02Gcd_calls a b _ ha hb).mono ?_
  rintro e w1 ⟨rfl, b1⟩
  obtain ⟨g, hg⟩ : ∃ g, Nat.gcd a b = g := ⟨_, rfl⟩
  rw [hg] at hg0 ⊢
  have Hg := hd hg
  clear hg
  have hq := box_q b1
  have Hq := hd hq
  have d1 := bbox1 b1
  have e0 := blk_cell hq 0
  have e1 := blk_cell hq 1
  have z0 := blk_free hq 0
  have z1 := blk_free hq 1
  have h1 : (0 : Int) < g := by omega
  have h2 : ((g : Int) == 0) = false := by simp; omega
  clear b1 hq
  go_wp2_with fail
  have ea := wrap_div a g ha
  have eb := wrap_div b g hb
  have Ea := hd ea
  have Eb := hd eb
  clear ea eb
  go_region
  go_wp2_with fail
  exact bodyPost_ret (results_cell_row rfl _ _ _ _ _ _ _ rfl (blk_set2 Hq.out _ _) Try.underlying47 rfl (by kernel_rfl)) rfl ⟨by rw [Ea.out, Eb.out, Hg.out], (below_set2 d1 (Nat.le_refl _) _ _).drew⟩
end Go.Proofs.Ytbacajbfedgcjaa
