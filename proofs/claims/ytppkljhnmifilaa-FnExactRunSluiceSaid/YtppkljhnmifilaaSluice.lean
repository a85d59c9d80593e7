/- Sluices and gates: what is valid, and the flow. -/
import Derived.Test.YtppkljhnmifilaaTySluice
import Derived.Test.YtppkljhnmifilaaTyGate
import Derived.Deep.QuietTactic
import Derived.BigQuiet
import Derived.IntWalk
namespace Go.Proofs.Ytppkljhnmifilaa
open Go.RowKit
set_option linter.unusedVariables false

def slB (wd sill : Int) : Bool := inB wd 1 5000 && lvB sill
def gaB (p m : Int) : Bool := inB p 0 1000000000 && inB m 0 1000000
def orB (n : Int) : Bool := inB n 0 2
def moreZ (a b : Int) : Int := if b < a then a else b
def flowZ (wd sill i o : Int) : Int := wd * moreZ 0 (i - moreZ o sill) / 10
theorem moreZ_bd {wd sill i o : Int} (h1 : slB wd sill = true) (h2 : lvB i = true) (h3 : lvB o = true) : -2000 ≤ moreZ o sill ∧ moreZ o sill ≤ 2000 ∧ 0 ≤ moreZ 0 (i - moreZ o sill) ∧ moreZ 0 (i - moreZ o sill) ≤ 4000 := by
  simp only [slB, Bool.and_eq_true, lvB_iff, inB_iff] at h1 h2 h3
  unfold moreZ
  omega
theorem flow_mul {wd x : Int} (h0 : 1 ≤ wd) (h1 : wd ≤ 5000) (h2 : 0 ≤ x) (h3 : x ≤ 4000) : 0 ≤ wd * x ∧ wd * x ≤ 20000000 := by
  refine ⟨Int.mul_nonneg (by omega) h2, ?_⟩
  have := Int.mul_le_mul h1 h3 h2 (by omega)
  omega
theorem flowZ_bd {wd sill i o : Int} (h1 : slB wd sill = true) (h2 : lvB i = true) (h3 : lvB o = true) : 0 ≤ flowZ wd sill i o ∧ flowZ wd sill i o ≤ 2000000 := by
  obtain ⟨_, _, a, b⟩ := moreZ_bd h1 h2 h3
  simp only [slB, Bool.and_eq_true, lvB_iff, inB_iff] at h1
  have := flow_mul h1.1.1 h1.1.2 a b
  unfold flowZ
  generalize wd * moreZ 0 (i - moreZ o sill) = y at this ⊢
  omega
theorem below_drewN {B : Nat} {a w : World} (h : Below B a w) (n : Nat) : Below B a (w.drewN n) := h.trans ⟨rfl, rfl, rfl, Nat.le_refl _, fun _ _ => rfl⟩
theorem ValidSluice_calls (wd sill : Int) (w : World) :
    Calls Try.prog 60 #[.agg #[.int .i64 wd, .int .i64 sill]] w fun e w' => e = .returned (.bool (slB wd sill)) ∧ Below w.heap.size w w' := by
  go_enter Try.func60, Try.ntmps60
  go_wp2_with (first | (go_at_call 67; refine (in_calls _ _ _ _).mono ?_; rintro e w' ⟨rfl, rfl⟩) | (go_at_call 41; refine (ValidLevel_calls _ _).mono ?_; rintro e w' ⟨rfl, rfl⟩))
  all_goals (go_ret; exact ⟨by simp [slB, *], by go_grown⟩)
theorem ValidGate_calls (op : Bool) (p m : Int) (w : World) :
    Calls Try.prog 61 #[.agg #[.bool op, .int .i64 p, .int .i64 m]] w fun e w' => e = .returned (.bool (gaB p m)) ∧ Below w.heap.size w w' := by
  go_enter Try.func61, Try.ntmps61
  go_wp2_with (go_at_call 67; refine (in_calls _ _ _ _).mono ?_; rintro e w' ⟨rfl, rfl⟩)
  all_goals (go_ret; exact ⟨by simp [gaB, *], by go_grown⟩)
theorem l09Ok_calls (wd sill : Int) (w : World) :
    Calls Try.prog 56 #[.agg #[.int .i64 wd, .int .i64 sill]] w fun e w' => e = .returned (.bool (slB wd sill)) ∧ Below w.heap.size w w' := by
  go_enter Try.func56, Try.ntmps56
  go_wp2_with (first | (go_at_call 58; refine (l00In_calls _ _ _ _).mono ?_; rintro e w' ⟨rfl, rfl⟩) | (go_at_call 42; refine (l02Level_calls _ _).mono ?_; rintro e w' ⟨rfl, rfl⟩))
  all_goals (go_ret; exact ⟨by simp [slB, *], by go_grown⟩)
theorem l09Gate_calls (op : Bool) (p m : Int) (w : World) :
    Calls Try.prog 57 #[.agg #[.bool op, .int .i64 p, .int .i64 m]] w fun e w' => e = .returned (.bool (gaB p m)) ∧ Below w.heap.size w w' := by
  go_enter Try.func57, Try.ntmps57
  go_wp2_with (go_at_call 58; refine (l00In_calls _ _ _ _).mono ?_; rintro e w' ⟨rfl, rfl⟩)
  all_goals (go_ret; exact ⟨by simp [gaB, *], by go_grown⟩)
theorem isOrder_calls (n : Int) (w : World) :
    Calls Try.prog 62 #[.int .i64 n] w fun e w' => e = .returned (.bool (orB n)) ∧ w = w' := by
  go_enter Try.func62, Try.ntmps62
  go_wp2_with (go_at_call 67; refine (in_calls _ _ _ _).mono ?_; rintro e w' ⟨rfl, rfl⟩)
  go_ret
  exact ⟨rfl, rfl⟩
theorem l00Max_calls (a b : Int) (w : World) : Calls Try.prog 74 #[.int .i64 a, .int .i64 b] w fun e w' => e = .returned (.int .i64 (moreZ a b)) ∧ w = w' := by
  go_enter Try.func74, Try.ntmps74
  by_cases h : b < a
  · go_wp2
    go_ret
    exact ⟨by simp [moreZ, *], rfl⟩
  · go_wp2
    go_ret
    exact ⟨by unfold moreZ; rw [if_neg (by omega)]; rfl, rfl⟩
theorem flow_calls (wd sill i o : Int) (w : World) (h1 : slB wd sill = true) (h2 : lvB i = true) (h3 : lvB o = true) :
    Calls Try.prog 71 #[.agg #[.int .i64 wd, .int .i64 sill], .int .i64 i, .int .i64 o] w fun e w' => e = .returned (.int .i64 (flowZ wd sill i o)) ∧ Below w.heap.size w w' := by
  obtain ⟨q1, q2, q3, q4⟩ := moreZ_bd h1 h2 h3
  have h4 := h1
  have h5 := h2
  have h6 := h3
  simp only [slB, Bool.and_eq_true, lvB_iff, inB_iff] at h4 h5 h6
  obtain ⟨⟨p1, p2⟩, p3, p4⟩ := h4
  obtain ⟨p5, p6⟩ := h5
  obtain ⟨p7, p8⟩ := h6
  have hm := flow_mul p1 p2 q3 q4
  have hz : wd * 0 = 0 := Int.mul_zero _
  have key : ∀ x, (0 ≤ wd * x ∧ wd * x ≤ 20000000) → moreZ 0 (i - moreZ o sill) = x → ((.returned (.int .i64 (wd * x / 10)) : Ending) = .returned (.int .i64 (flowZ wd sill i o))) := by
    intro x _ h
    unfold flowZ
    rw [h]
  by_cases g1 : o < sill
  · have e1 : moreZ o sill = sill := by unfold moreZ; omega
    by_cases g2 : 0 < i - sill
    · have e2 : moreZ 0 (i - moreZ o sill) = i - sill := by rw [e1]; unfold moreZ; omega
      rw [e2] at hm
      obtain ⟨m1, m2⟩ := hm
      have K := hd (key _ ⟨m1, m2⟩ e2)
      clear key e1 e2 hz q1 q2 q3 q4
      go_enter Try.func71, Try.ntmps71
      go_wp2_with fail
      go_ret
      exact ⟨K.out, by go_grown⟩
    · have e2 : moreZ 0 (i - moreZ o sill) = 0 := by rw [e1]; unfold moreZ; omega
      rw [e2] at hm
      obtain ⟨m1, m2⟩ := hm
      have K0 := key _ ⟨m1, m2⟩ e2
      rw [Int.mul_zero, show (0 : Int) / 10 = 0 from rfl] at K0
      have K := hd K0
      clear K0 key e1 e2 q1 q2 q3 q4
      go_enter Try.func71, Try.ntmps71
      go_wp2_with fail
      go_ret
      exact ⟨K.out, by go_grown⟩
  · have e1 : moreZ o sill = o := by unfold moreZ; omega
    by_cases g2 : 0 < i - o
    · have e2 : moreZ 0 (i - moreZ o sill) = i - o := by rw [e1]; unfold moreZ; omega
      rw [e2] at hm
      obtain ⟨m1, m2⟩ := hm
      have K := hd (key _ ⟨m1, m2⟩ e2)
      clear key e1 e2 hz q1 q2 q3 q4
      go_enter Try.func71, Try.ntmps71
      go_wp2_with fail
      go_ret
      exact ⟨K.out, by go_grown⟩
    · have e2 : moreZ 0 (i - moreZ o sill) = 0 := by rw [e1]; unfold moreZ; omega
      rw [e2] at hm
      obtain ⟨m1, m2⟩ := hm
      have K0 := key _ ⟨m1, m2⟩ e2
      rw [Int.mul_zero, show (0 : Int) / 10 = 0 from rfl] at K0
      have K := hd K0
      clear K0 key e1 e2 q1 q2 q3 q4
      go_enter Try.func71, Try.ntmps71
      go_wp2_with fail
      go_ret
      exact ⟨K.out, by go_grown⟩
theorem l09Flow_calls (wd sill i o : Int) (w : World) (h1 : slB wd sill = true) (h2 : lvB i = true) (h3 : lvB o = true) :
    Calls Try.prog 70 #[.agg #[.int .i64 wd, .int .i64 sill], .int .i64 i, .int .i64 o] w fun e w' => e = .returned (.int .i64 (flowZ wd sill i o)) ∧ Below w.heap.size w w' := by
  obtain ⟨q1, q2, q3, q4⟩ := moreZ_bd h1 h2 h3
  have h4 := h1
  have h5 := h2
  have h6 := h3
  simp only [slB, Bool.and_eq_true, lvB_iff, inB_iff] at h4 h5 h6
  obtain ⟨⟨p1, p2⟩, p3, p4⟩ := h4
  obtain ⟨p5, p6⟩ := h5
  obtain ⟨p7, p8⟩ := h6
  have hm := flow_mul p1 p2 q3 q4
  obtain ⟨m1, m2⟩ := hm
  have s1 : IntKind.i64.wrap (i - moreZ o sill) = i - moreZ o sill := IntWalk.i64_in _ (by omega)
  have s2 : IntKind.i64.wrap (wd * moreZ 0 (i - moreZ o sill)) = wd * moreZ 0 (i - moreZ o sill) := IntWalk.i64_in _ (by omega)
  go_enter Try.func70, Try.ntmps70
  go_wp2_with fail
  go_quiet ((go_at_call 74; exact Calls.quiet_of_same ((l00Max_calls _ _ _).mono (fun _ _ h => ⟨h.1, h.2.symm⟩))))
  go_wp2_with fail
  go_ret
  exact ⟨rfl, below_drewN ((Below.refl _ _).alloc (Nat.le_refl _) _) _⟩
end Go.Proofs.Ytppkljhnmifilaa
