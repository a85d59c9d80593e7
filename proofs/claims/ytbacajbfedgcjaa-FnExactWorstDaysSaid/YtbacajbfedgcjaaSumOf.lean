/- SumOfDays. -/
import Derived.Test.YtbacajbfedgcjaaSums2
namespace Go.Proofs.Ytbacajbfedgcjaa
open Go.RowKit
set_option linter.unusedVariables false

def sumDays (xs : List W5) : W5 × Int := if lstC xs = 0 then (sumF xs, 0) else ((0, 0, 0, 0, 0), lstC xs)
theorem sumF_nb {xs : List W5} (h : lstC xs = 0) : Nb (sumF xs) := by
  obtain ⟨ha, hl⟩ := lstC_ok h
  have := sumF_bd ha xs.length (Nat.le_refl _)
  rw [List.take_length] at this
  simp only [Sb] at this
  simp only [Nb]
  omega
theorem SumOfDays_calls (a : Option Addr) (n c : Nat) (xs : List W5) (w : World) (hr : RdWater w a n xs) (hn : n ≤ 1048576) :
    Calls Try.prog 24 #[.slice a n c] w fun e w' => e = .returned (.tuple #[.agg #[.int .i64 (sumDays xs).1.1, .int .i64 (sumDays xs).1.2.1, .int .i64 (sumDays xs).1.2.2.1, .int .i64 (sumDays xs).1.2.2.2.1, .int .i64 (sumDays xs).1.2.2.2.2], .int .i64 (sumDays xs).2]) ∧ Below w.heap.size w w' := by
  have Hl := hd hr.len
  go_enter Try.func24, Try.ntmps24
  go_wp2_with fail
  refine (runCode_calls _ _ _ xs _ _ (hr.alloc _) hn).mono ?_
  rintro e w1 ⟨he, b1⟩
  rw [runC_zero] at he
  have hg0 := blk_below (heap_alloc_new w _) b1 (by simp)
  have d1 := bbox1 b1
  clear b1
  have h2 := lstC_bd xs
  obtain ⟨z, hz⟩ : ∃ z, lstC xs = z := ⟨_, rfl⟩
  rw [hz] at h2 he
  subst he
  by_cases h0 : z = 0
  · subst h0
    obtain ⟨hv, hl⟩ := lstC_ok hz
    have Hz := hd hz
    have Hv := hd hv
    have Hg0 := hd hg0
    clear hz hv hg0
    go_wp2_with fail
    refine (sumOf_calls _ _ _ xs _ (hr.below d1) Hv.out (by rw [← Hl.out]; exact hl)).mono ?_
    rintro e w2 ⟨rfl, b2⟩
    have hg2 := blk_below Hg0.out b2 (blk_lt Hg0.out)
    have Hg2 := hd hg2
    have d2 := bnext d1 b2 (Nat.le_refl _)
    have e0 := blk_cell hg2 0
    have e1 := blk_cell hg2 1
    have e2 := blk_cell hg2 2
    have e3 := blk_cell hg2 3
    have e4 := blk_cell hg2 4
    have z0 := blk_free hg2 0
    have z1 := blk_free hg2 1
    have z2 := blk_free hg2 2
    have z3 := blk_free hg2 3
    have z4 := blk_free hg2 4
    clear hg2 b2
    generalize hS : sumF xs = S at *
    obtain ⟨s0, s1, s2, s3, s4⟩ := S
    have HS := hd hS
    clear hS
    go_wp2_with fail
    exact bodyPost_ret (results_cell_tmp rfl _ _ _ _ _ _ _ rfl (blk_set5 Hg2.out _ _ _ _ _) Try.underlying25 rfl (by kernel_rfl)) rfl ⟨by simp [sumDays, Hz.out, HS.out], below_set5 d2 (Nat.le_refl _) _ _ _ _ _⟩
  · have h0' : (z != 0) = true := by simpa using h0
    have Hz := hd hz
    have Hg0 := hd hg0
    have e0 := blk_cell hg0 0
    have e1 := blk_cell hg0 1
    have e2 := blk_cell hg0 2
    have e3 := blk_cell hg0 3
    have e4 := blk_cell hg0 4
    have z0 := blk_free hg0 0
    have z1 := blk_free hg0 1
    have z2 := blk_free hg0 2
    have z3 := blk_free hg0 3
    have z4 := blk_free hg0 4
    clear hz hg0
    go_wp2_with fail
    exact bodyPost_ret (results_cell_tmp rfl _ _ _ _ _ _ _ rfl (blk_set5 Hg0.out _ _ _ _ _) Try.underlying25 rfl (by kernel_rfl)) rfl ⟨by simp [sumDays, Hz.out, h0], below_set5 d1 (Nat.le_refl _) _ _ _ _ _⟩
theorem specSumOfDays_calls (a : Option Addr) (n c : Nat) (xs : List W5) (w : World) (hr : RdWater w a n xs) (hn : n ≤ 1048576) :
    Calls Try.prog 23 #[.slice a n c] w fun e w' => e = .returned (.tuple #[.agg #[.int .i64 (sumDays xs).1.1, .int .i64 (sumDays xs).1.2.1, .int .i64 (sumDays xs).1.2.2.1, .int .i64 (sumDays xs).1.2.2.2.1, .int .i64 (sumDays xs).1.2.2.2.2], .int .i64 (sumDays xs).2]) ∧ Below w.heap.size w w' := by
  have Hl := hd hr.len
  go_enter Try.func23, Try.ntmps23
  go_wp2_with fail
  refine (l13List_calls _ _ _ xs _ (hr.alloc _) hn).mono ?_
  rintro e w1 ⟨he, b1⟩
  have hg0 := blk_below (heap_alloc_new w _) b1 (by simp)
  have d1 := bbox1 b1
  clear b1
  have h2 := lstC_bd xs
  obtain ⟨z, hz⟩ : ∃ z, lstC xs = z := ⟨_, rfl⟩
  rw [hz] at h2 he
  subst he
  by_cases h0 : z = 0
  · subst h0
    obtain ⟨hv, hl⟩ := lstC_ok hz
    have Hz := hd hz
    have Hv := hd hv
    have Hg0 := hd hg0
    clear hz hv hg0
    go_wp2_with fail
    refine (l13Sum_calls _ _ _ xs _ (hr.below d1) Hv.out (by rw [← Hl.out]; exact hl)).mono ?_
    rintro e w2 ⟨rfl, b2⟩
    have hg2 := blk_below Hg0.out b2 (blk_lt Hg0.out)
    have Hg2 := hd hg2
    have d2 := bnext d1 b2 (Nat.le_refl _)
    have e0 := blk_cell hg2 0
    have e1 := blk_cell hg2 1
    have e2 := blk_cell hg2 2
    have e3 := blk_cell hg2 3
    have e4 := blk_cell hg2 4
    have z0 := blk_free hg2 0
    have z1 := blk_free hg2 1
    have z2 := blk_free hg2 2
    have z3 := blk_free hg2 3
    have z4 := blk_free hg2 4
    clear hg2 b2
    generalize hS : sumF xs = S at *
    obtain ⟨s0, s1, s2, s3, s4⟩ := S
    have HS := hd hS
    clear hS
    go_wp2_with fail
    exact bodyPost_ret (results_cell_tmp rfl _ _ _ _ _ _ _ rfl (blk_set5 Hg2.out _ _ _ _ _) Try.underlying25 rfl (by kernel_rfl)) rfl ⟨by simp [sumDays, Hz.out, HS.out], below_set5 d2 (Nat.le_refl _) _ _ _ _ _⟩
  · have h0' : (z != 0) = true := by simpa using h0
    have Hz := hd hz
    have Hg0 := hd hg0
    have e0 := blk_cell hg0 0
    have e1 := blk_cell hg0 1
    have e2 := blk_cell hg0 2
    have e3 := blk_cell hg0 3
    have e4 := blk_cell hg0 4
    have z0 := blk_free hg0 0
    have z1 := blk_free hg0 1
    have z2 := blk_free hg0 2
    have z3 := blk_free hg0 3
    have z4 := blk_free hg0 4
    clear hz hg0
    go_wp2_with fail
    exact bodyPost_ret (results_cell_tmp rfl _ _ _ _ _ _ _ rfl (blk_set5 Hg0.out _ _ _ _ _) Try.underlying25 rfl (by kernel_rfl)) rfl ⟨by simp [sumDays, Hz.out, h0], below_set5 d1 (Nat.le_refl _) _ _ _ _ _⟩
end Go.Proofs.Ytbacajbfedgcjaa
