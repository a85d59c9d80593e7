/- PumpedShare. -/
import Derived.Test.YtbacajbfedgcjaaSumOf
import Derived.Test.YtbacajbfedgcjaaFrac
import Derived.Test.YtbacajbfedgcjaaTyFraction
namespace Go.Proofs.Ytbacajbfedgcjaa
open Go.RowKit
set_option linter.unusedVariables false

def outN (S : W5) : Nat := (S.2.2.1 + S.2.2.2.1 + S.2.2.2.2).toNat
def pumpN (S : W5) : Nat := S.2.2.2.1.toNat
def shareF (S : W5) : Int × Int := (((pumpN S / Nat.gcd (pumpN S) (outN S) : Nat) : Int), ((outN S / Nat.gcd (pumpN S) (outN S) : Nat) : Int))
def shareOf (xs : List W5) : (Int × Int) × Int := if lstC xs = 0 then (if outN (sumF xs) = 0 then ((0, 0), 3) else (shareF (sumF xs), 0)) else ((0, 0), lstC xs)
theorem PumpedShare_calls (a : Option Addr) (n c : Nat) (xs : List W5) (w : World) (hr : RdWater w a n xs) (hn : n ≤ 1048576) :
    Calls Try.prog 33 #[.slice a n c] w fun e w' => e = .returned (.tuple #[.agg #[.int .i64 (shareOf xs).1.1, .int .i64 (shareOf xs).1.2], .int .i64 (shareOf xs).2]) ∧ Below w.heap.size w w' := by
  have Hl := hd hr.len
  go_enter Try.func33, Try.ntmps33
  go_wp2_with fail
  refine (runCode_calls _ _ _ xs _ _ (hr.alloc _) hn).mono ?_
  rintro e w1 ⟨he, b1⟩
  rw [runC_zero] at he
  have hg0 := box_q b1
  have d1 := bbox1 b1
  clear b1
  have h2 := lstC_bd xs
  obtain ⟨z, hz⟩ : ∃ z, lstC xs = z := ⟨_, rfl⟩
  rw [hz] at h2 he
  subst he
  by_cases h0 : z = 0
  · subst h0
    obtain ⟨hv, hl⟩ := lstC_ok hz
    have hnb := sumF_nb hz
    have Hz := hd hz
    have Hv := hd hv
    have Hg0 := hd hg0
    clear hz hv hg0
    obtain ⟨s0, s1, s2, s3, s4, hS⟩ : ∃ s0 s1 s2 s3 s4, sumF xs = (s0, s1, s2, s3, s4) := ⟨_, _, _, _, _, rfl⟩
    rw [hS] at hnb
    obtain ⟨⟨q1, q2⟩, ⟨q3, q4⟩, ⟨q5, q6⟩, ⟨q7, q8⟩, q9, q10⟩ := hnb
    simp only [] at q1 q2 q3 q4 q5 q6 q7 q8 q9 q10
    have HS := hd hS
    clear hS
    go_wp2_with fail
    refine (sumOf_calls _ _ _ xs _ (hr.below d1) Hv.out (by rw [← Hl.out]; exact hl)).mono ?_
    rintro e w2 ⟨he, b2⟩
    rw [HS.out] at he
    subst he
    have hg2 := blk_below Hg0.out b2 (blk_lt Hg0.out)
    have d2 := bnext d1 b2 (Nat.le_refl _)
    have Hg2 := hd hg2
    have lg2 := blk_lt hg2
    have e0 := blk_cell hg2 0
    have e1 := blk_cell hg2 1
    have z0 := blk_free hg2 0
    have z1 := blk_free hg2 1
    clear hg2 b2
    by_cases ho : s2 + s3 + s4 = 0
    · have ho' : (s2 + s3 + s4 == 0) = true := by simpa using ho
      have Ho := hd ho
      clear ho
      go_wp2_with fail
      exact bodyPost_ret (results_cell_tmp rfl _ _ _ _ _ _ _ rfl (blk_alloc (blk_set2 Hg2.out _ _) _) Try.underlying47 rfl (by kernel_rfl)) rfl ⟨by simp [shareOf, Hz.out, HS.out, outN, Ho.out], (below_set2 d2 (Nat.le_refl _) _ _).alloc (by simpa using d2.size) _⟩
    · have ho' : (s2 + s3 + s4 == 0) = false := by simpa using ho
      have Ho := hd ho
      clear ho
      obtain ⟨p, rfl⟩ := Int.eq_ofNat_of_zero_le q7
      obtain ⟨u, hu⟩ := Int.eq_ofNat_of_zero_le (show 0 ≤ s2 + p + s4 by omega)
      have Hu := hd hu
      clear hu
      go_wp2_with fail
      rw [Hu.out]
      refine (fraction_calls p u _ (by omega) (by have := Hu.out; omega) (by have := Hu.out; have := Ho.out; omega)).mono ?_
      rintro e w3 ⟨rfl, b3⟩
      have b3' := bbox1 b3
      clear b3 e0 e1 z0 z1
      have hg3 := blk_below Hg2.out b3' lg2
      have Hg3 := hd hg3
      have d3 := bnext d2 b3' (Nat.le_refl _)
      have e0 := blk_cell hg3 0
      have e1 := blk_cell hg3 1
      have z0 := blk_free hg3 0
      have z1 := blk_free hg3 1
      have hf : shareF (s0, s1, s2, (p : Int), s4) = (((p / Nat.gcd p u : Nat) : Int), ((u / Nat.gcd p u : Nat) : Int)) := by
        have h1 : outN (s0, s1, s2, (p : Int), s4) = u := by simp only [outN]; rw [Hu.out]; rfl
        unfold shareF
        rw [h1]
        rfl
      have Hf := hd hf
      have hn0 : outN (s0, s1, s2, (p : Int), s4) ≠ 0 := by simp only [outN]; have := Ho.out; omega
      have Hn0 := hd hn0
      clear hg3 hf hn0 b3'
      go_wp2_with fail
      exact bodyPost_ret (results_cell_tmp rfl _ _ _ _ _ _ _ rfl (blk_set2 Hg3.out _ _) Try.underlying47 rfl (by kernel_rfl)) rfl ⟨by unfold shareOf; rw [if_pos Hz.out, HS.out, if_neg Hn0.out, Hf.out]; rfl, below_set2 d3 (Nat.le_refl _) _ _⟩
  · have h0' : (z != 0) = true := by simpa using h0
    have Hz := hd hz
    have Hg0 := hd hg0
    have e0 := blk_cell hg0 0
    have e1 := blk_cell hg0 1
    have z0 := blk_free hg0 0
    have z1 := blk_free hg0 1
    clear hz hg0
    go_wp2_with fail
    exact bodyPost_ret (results_cell_tmp rfl _ _ _ _ _ _ _ rfl (blk_set2 Hg0.out _ _) Try.underlying47 rfl (by kernel_rfl)) rfl ⟨by simp [shareOf, Hz.out, h0], below_set2 d1 (Nat.le_refl _) _ _⟩
theorem specPumpedShare_calls (a : Option Addr) (n c : Nat) (xs : List W5) (w : World) (hr : RdWater w a n xs) (hn : n ≤ 1048576) :
    Calls Try.prog 32 #[.slice a n c] w fun e w' => e = .returned (.tuple #[.agg #[.int .i64 (shareOf xs).1.1, .int .i64 (shareOf xs).1.2], .int .i64 (shareOf xs).2]) ∧ Below w.heap.size w w' := by
  have Hl := hd hr.len
  go_enter Try.func32, Try.ntmps32
  go_wp2_with fail
  refine (l13List_calls _ _ _ xs _ (hr.alloc _) hn).mono ?_
  rintro e w1 ⟨he, b1⟩
  skip
  have hg0 := box_q b1
  have d1 := bbox1 b1
  clear b1
  have h2 := lstC_bd xs
  obtain ⟨z, hz⟩ : ∃ z, lstC xs = z := ⟨_, rfl⟩
  rw [hz] at h2 he
  subst he
  by_cases h0 : z = 0
  · subst h0
    obtain ⟨hv, hl⟩ := lstC_ok hz
    have hnb := sumF_nb hz
    have Hz := hd hz
    have Hv := hd hv
    have Hg0 := hd hg0
    clear hz hv hg0
    obtain ⟨s0, s1, s2, s3, s4, hS⟩ : ∃ s0 s1 s2 s3 s4, sumF xs = (s0, s1, s2, s3, s4) := ⟨_, _, _, _, _, rfl⟩
    rw [hS] at hnb
    obtain ⟨⟨q1, q2⟩, ⟨q3, q4⟩, ⟨q5, q6⟩, ⟨q7, q8⟩, q9, q10⟩ := hnb
    simp only [] at q1 q2 q3 q4 q5 q6 q7 q8 q9 q10
    have HS := hd hS
    clear hS
    go_wp2_with fail
    refine (l13Sum_calls _ _ _ xs _ (hr.below d1) Hv.out (by rw [← Hl.out]; exact hl)).mono ?_
    rintro e w2 ⟨he, b2⟩
    rw [HS.out] at he
    subst he
    have hg2 := blk_below Hg0.out b2 (blk_lt Hg0.out)
    have d2 := bnext d1 b2 (Nat.le_refl _)
    have Hg2 := hd hg2
    have lg2 := blk_lt hg2
    have e0 := blk_cell hg2 0
    have e1 := blk_cell hg2 1
    have z0 := blk_free hg2 0
    have z1 := blk_free hg2 1
    clear hg2 b2
    by_cases ho : s2 + s3 + s4 = 0
    · have ho' : (s2 + s3 + s4 == 0) = true := by simpa using ho
      have Ho := hd ho
      clear ho
      go_wp2_with fail
      exact bodyPost_ret (results_cell_tmp rfl _ _ _ _ _ _ _ rfl (blk_alloc (blk_set2 Hg2.out _ _) _) Try.underlying47 rfl (by kernel_rfl)) rfl ⟨by simp [shareOf, Hz.out, HS.out, outN, Ho.out], (below_set2 d2 (Nat.le_refl _) _ _).alloc (by simpa using d2.size) _⟩
    · have ho' : (s2 + s3 + s4 == 0) = false := by simpa using ho
      have Ho := hd ho
      clear ho
      obtain ⟨p, rfl⟩ := Int.eq_ofNat_of_zero_le q7
      obtain ⟨u, hu⟩ := Int.eq_ofNat_of_zero_le (show 0 ≤ s2 + p + s4 by omega)
      have Hu := hd hu
      clear hu
      go_wp2_with fail
      rw [Hu.out]
      refine (l02Make_calls p u _ (by omega) (by have := Hu.out; omega) (by have := Hu.out; have := Ho.out; omega)).mono ?_
      rintro e w3 ⟨rfl, b3⟩
      have b3' := bbox1 b3
      clear b3 e0 e1 z0 z1
      have hg3 := blk_below Hg2.out b3' lg2
      have Hg3 := hd hg3
      have d3 := bnext d2 b3' (Nat.le_refl _)
      have e0 := blk_cell hg3 0
      have e1 := blk_cell hg3 1
      have z0 := blk_free hg3 0
      have z1 := blk_free hg3 1
      have hf : shareF (s0, s1, s2, (p : Int), s4) = (((p / Nat.gcd p u : Nat) : Int), ((u / Nat.gcd p u : Nat) : Int)) := by
        have h1 : outN (s0, s1, s2, (p : Int), s4) = u := by simp only [outN]; rw [Hu.out]; rfl
        unfold shareF
        rw [h1]
        rfl
      have Hf := hd hf
      have hn0 : outN (s0, s1, s2, (p : Int), s4) ≠ 0 := by simp only [outN]; have := Ho.out; omega
      have Hn0 := hd hn0
      clear hg3 hf hn0 b3'
      go_wp2_with fail
      exact bodyPost_ret (results_cell_tmp rfl _ _ _ _ _ _ _ rfl (blk_set2 Hg3.out _ _) Try.underlying47 rfl (by kernel_rfl)) rfl ⟨by unfold shareOf; rw [if_pos Hz.out, HS.out, if_neg Hn0.out, Hf.out]; rfl, below_set2 d3 (Nat.le_refl _) _ _⟩
  · have h0' : (z != 0) = true := by simpa using h0
    have Hz := hd hz
    have Hg0 := hd hg0
    have e0 := blk_cell hg0 0
    have e1 := blk_cell hg0 1
    have z0 := blk_free hg0 0
    have z1 := blk_free hg0 1
    clear hz hg0
    go_wp2_with fail
    exact bodyPost_ret (results_cell_tmp rfl _ _ _ _ _ _ _ rfl (blk_set2 Hg0.out _ _) Try.underlying47 rfl (by kernel_rfl)) rfl ⟨by simp [shareOf, Hz.out, h0], below_set2 d1 (Nat.le_refl _) _ _⟩
end Go.Proofs.Ytbacajbfedgcjaa
