/- The water of a day: valid, net. -/
import Derived.Test.YtbbnjddgioaoeaaDoorTyWater
import Derived.Test.YtbbnjddgioaoeaaDoorTyInt64
import Derived.BigQuiet
import Derived.Deep.QuietTactic
namespace Go.Proofs.YtbbnjddgioaoeaaDoor
open Go.RowKit
set_option linter.unusedVariables false

abbrev W5 := Int × Int × Int × Int × Int
def flB (n : Int) : Bool := inB n 0 10000000
theorem flB_iff {n : Int} : flB n = true ↔ 0 ≤ n ∧ n ≤ 10000000 := inB_iff
def waB (x : W5) : Bool := flB x.1 && flB x.2.1 && flB x.2.2.1 && flB x.2.2.2.1 && flB x.2.2.2.2
def netW (x : W5) : Int := x.1 + x.2.1 - x.2.2.1 - x.2.2.2.1 - x.2.2.2.2
theorem waB_bd {r s e p q : Int} (h : waB (r, s, e, p, q) = true) : (0 ≤ r ∧ r ≤ 10000000) ∧ (0 ≤ s ∧ s ≤ 10000000) ∧ (0 ≤ e ∧ e ≤ 10000000) ∧ (0 ≤ p ∧ p ≤ 10000000) ∧ (0 ≤ q ∧ q ≤ 10000000) := by
  simp only [waB, Bool.and_eq_true, flB_iff] at h
  obtain ⟨⟨⟨⟨h1, h2⟩, h3⟩, h4⟩, h5⟩ := h
  exact ⟨h1, h2, h3, h4, h5⟩

/-- Five numbers that are small enough to be added. -/
def Nb (x : W5) : Prop := (0 ≤ x.1 ∧ x.1 ≤ 1000000000000) ∧ (0 ≤ x.2.1 ∧ x.2.1 ≤ 1000000000000) ∧ (0 ≤ x.2.2.1 ∧ x.2.2.1 ≤ 1000000000000) ∧ (0 ≤ x.2.2.2.1 ∧ x.2.2.2.1 ≤ 1000000000000) ∧ (0 ≤ x.2.2.2.2 ∧ x.2.2.2.2 ≤ 1000000000000)
theorem waB_nb {r s e p q : Int} (h : waB (r, s, e, p, q) = true) : Nb (r, s, e, p, q) := by
  have := waB_bd h
  simp only [Nb]
  omega
theorem isFlowAmount_calls (n : Int) (w : World) : Calls Tryd.prog 59 #[.int .i64 n] w fun e w' => e = .returned (.bool (flB n)) ∧ w = w' := by
  go_enter Tryd.func59, Tryd.ntmps59
  go_wp2_with (go_at_call 44; refine (in_calls _ _ _ _).mono ?_; rintro e w' ⟨rfl, rfl⟩)
  go_ret
  exact ⟨rfl, rfl⟩
theorem l13Flow_calls (n : Int) (w : World) : Calls Tryd.prog 58 #[.int .i64 n] w fun e w' => e = .returned (.bool (flB n)) ∧ w = w' := by
  go_enter Tryd.func58, Tryd.ntmps58
  go_wp2_with (go_at_call 48; refine (l00In_calls _ _ _ _).mono ?_; rintro e w' ⟨rfl, rfl⟩)
  go_ret
  exact ⟨rfl, rfl⟩
set_option maxRecDepth 100000 in
theorem amounts_calls (r s e p q : Int) (w : World) :
    Calls Tryd.prog 47 #[.agg #[.int .i64 r, .int .i64 s, .int .i64 e, .int .i64 p, .int .i64 q]] w fun e' w' => ∃ a, e' = .returned (.slice a 5 5) ∧ RdI w' a 5 [r, s, e, p, q] ∧ Below w.heap.size w w' := by
  go_enter Tryd.func47, Tryd.ntmps47
  go_wp2
  go_ret
  refine ⟨_, rfl, ⟨rfl, fun _ => ⟨_, _, rfl, fun i x hx j v hv => ?_⟩⟩, by go_grown⟩
  have hj : j = 0 := by have := lt_of_get hv; simp [ci] at this; omega
  subst hj
  simp [ci] at hv
  subst hv
  rw [World.cell?_alloc_at _ _ _ _ (by simp)]
  simp only [Nat.mul_one, Nat.add_zero, Nat.zero_add]
  have hi : i < 5 := lt_of_get hx
  rcases (show i = 0 ∨ i = 1 ∨ i = 2 ∨ i = 3 ∨ i = 4 from by omega) with rfl | rfl | rfl | rfl | rfl <;> simp at hx <;> subst hx <;> rfl
set_option maxRecDepth 100000 in
theorem ValidWater_calls (r s e p q : Int) (w : World) :
    Calls Tryd.prog 38 #[.agg #[.int .i64 r, .int .i64 s, .int .i64 e, .int .i64 p, .int .i64 q]] w fun e' w' => e' = .returned (.bool (waB (r, s, e, p, q))) ∧ Below w.heap.size w w' := by
  have he := ent Tryd.func59 (by kernel_rfl) rfl
  go_enter Tryd.func38, Tryd.ntmps38
  go_wp2_with fail
  refine (amounts_calls _ _ _ _ _ _).mono ?_
  rintro e' w1 ⟨a, rfl, ha, b1⟩
  go_wp2_with fail
  refine (allInt64_calls 59 #[] flB _ _ _ _ _ ha (by omega) he (fun z W _ => by rw [Array.append_empty]; exact (isFlowAmount_calls z W).mono fun e w' ⟨h1, h2⟩ => ⟨h1, h2 ▸ Below.refl _ _⟩)).mono ?_
  rintro e' w2 ⟨rfl, b2⟩
  go_wp2_with fail
  go_ret
  exact ⟨ret_bool (by simp [waB, Bool.and_assoc]), bnext (bbox1 b1) b2 (Nat.le_refl _)⟩
set_option maxRecDepth 100000 in
theorem l13Ok_calls (b o : Nat) (r s e p q : Int) (w : World) (h0 : w.cell? ⟨b, o, none⟩ = some (.int .i64 r)) (h1 : w.cell? ⟨b, o + 1, none⟩ = some (.int .i64 s)) (h2 : w.cell? ⟨b, o + 2, none⟩ = some (.int .i64 e)) (h3 : w.cell? ⟨b, o + 3, none⟩ = some (.int .i64 p)) (h4 : w.cell? ⟨b, o + 4, none⟩ = some (.int .i64 q)) :
    Calls Tryd.prog 37 #[.pointer (some ⟨b, o, none⟩)] w fun e' w' => e' = .returned (.bool (waB (r, s, e, p, q))) ∧ w = w' := by
  go_enter Tryd.func37, Tryd.ntmps37
  go_wp2_with (go_at_call 58; refine (l13Flow_calls _ _).mono ?_; rintro e w' ⟨rfl, rfl⟩)
  all_goals (go_ret; exact ⟨ret_bool (by simp_all [waB]), rfl⟩)
end Go.Proofs.YtbbnjddgioaoeaaDoor
