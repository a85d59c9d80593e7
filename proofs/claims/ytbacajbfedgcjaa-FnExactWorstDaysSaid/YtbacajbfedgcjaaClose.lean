/- ClosingError. -/
import Derived.Test.YtbacajbfedgcjaaSumOf
namespace Go.Proofs.Ytbacajbfedgcjaa
open Go.RowKit
set_option linter.unusedVariables false

/-- The code of days and two volumes. -/
def bothC (xs : List W5) (s e : Int) : Int := if runC xs s = 0 ∧ voB e = false then 2 else runC xs s
theorem max_run (xs : List W5) (s e : Int) : max (runC xs s) (runC xs e) = bothC xs s e := by
  unfold bothC runC
  cases xs.all waB <;> cases voB s <;> cases voB e <;> by_cases h : xs.length ≤ 100 <;> simp [h] <;> decide
theorem bothC_bd (xs : List W5) (s e : Int) : 0 ≤ bothC xs s e ∧ bothC xs s e ≤ 2 := by
  have := runC_bd xs s
  unfold bothC
  split <;> omega
theorem bothC_ok {xs : List W5} {s e : Int} (h : bothC xs s e = 0) : xs.all waB = true ∧ xs.length ≤ 100 ∧ voB s = true ∧ voB e = true := by
  unfold bothC at h
  split at h
  · cases h
  · rename_i hn
    obtain ⟨h1, h2, h3⟩ := runC_ok h
    refine ⟨h1, h2, h3, ?_⟩
    cases he : voB e
    · exact absurd ⟨h, he⟩ hn
    · rfl
theorem netW_bd {x : W5} (h : Nb x) : -10000000000000 ≤ netW x ∧ netW x ≤ 10000000000000 := by
  simp only [Nb] at h
  simp only [netW]
  omega
def closeE (xs : List W5) (s e : Int) : Int × Int := if bothC xs s e = 0 then (e - s - netW (sumF xs), 0) else (0, bothC xs s e)
theorem ClosingError_calls (s e : Int) (a : Option Addr) (n c : Nat) (xs : List W5) (w : World) (hr : RdWater w a n xs) (hn : n ≤ 1048576) :
    Calls Try.prog 27 #[.int .i64 s, .int .i64 e, .slice a n c] w fun e' w' => e' = .returned (.tuple #[.int .i64 (closeE xs s e).1, .int .i64 (closeE xs s e).2]) ∧ Below w.heap.size w w' := by
  have Hl := hd hr.len
  have hmax := max_run xs s e
  have b1 := runC_bd xs s
  have b2 := runC_bd xs e
  obtain ⟨z1, hz1⟩ : ∃ z, runC xs s = z := ⟨_, rfl⟩
  obtain ⟨z2, hz2⟩ : ∃ z, runC xs e = z := ⟨_, rfl⟩
  rw [hz1] at hmax b1
  rw [hz2] at hmax b2
  have Hz1 := hd hz1
  have Hz2 := hd hz2
  have Hm := hd hmax
  clear hz1 hz2 hmax
  go_enter Try.func27, Try.ntmps27
  go_wp2_with fail
  refine (runCode_calls _ _ _ xs s _ hr hn).mono ?_
  rintro e' w1 ⟨he, b1⟩
  rw [Hz1.out] at he
  subst he
  go_wp2_with fail
  refine (runCode_calls _ _ _ xs e _ (hr.below b1) hn).mono ?_
  rintro e' w2 ⟨he, b2⟩
  rw [Hz2.out] at he
  subst he
  have hcase : (z1 < z2 ∧ bothC xs s e = z2) ∨ (z2 ≤ z1 ∧ bothC xs s e = z1) := by have := Hm.out; omega
  have d2 := bnext b1 b2 (Nat.le_refl _)
  rcases hcase with ⟨h12, hm⟩ | ⟨h12, hm⟩
  · have Hb := hd hm
    clear hm
    by_cases h0 : z2 = 0
    · subst h0
      obtain ⟨hv, hl, h3, h4⟩ := bothC_ok Hb.out
      rw [voB_iff] at h3 h4
      obtain ⟨h5, h6⟩ := h3
      obtain ⟨h7, h8⟩ := h4
      have hnb := sumF_nb (xs := xs) (by simp [lstC, hv, hl])
      have hl' : n ≤ 100 := by rw [← Hl.out]; exact hl
      have Hv := hd hv
      have Hn := hd hnb
      clear hv hl hnb
      obtain ⟨s0, s1, s2, s3, s4, hS⟩ : ∃ s0 s1 s2 s3 s4, sumF xs = (s0, s1, s2, s3, s4) := ⟨_, _, _, _, _, rfl⟩
      have Hq := netW_bd Hn.out
      obtain ⟨q, hq⟩ : ∃ q, netW (sumF xs) = q := ⟨_, rfl⟩
      rw [hq] at Hq
      have hq1 := Hq.1
      have hq2 := Hq.2
      have HQ := hd hq
      have HS := hd hS
      clear hS hq Hq
      go_wp2_with fail
      refine (sumOf_calls _ _ _ xs _ (hr.below d2) Hv.out hl').mono ?_
      rintro e' w3 ⟨he, b3⟩
      rw [HS.out] at he
      subst he
      go_wp2_with fail
      refine (net_calls s0 s1 s2 s3 s4 _ (by rw [← HS.out]; exact Hn.out)).mono ?_
      rintro e' w4 ⟨he, b4⟩
      rw [← HS.out, HQ.out] at he
      subst he
      go_wp2_with fail
      go_ret2
      exact ⟨ret_ints (by simp [closeE, Hb.out, HQ.out]) (by simp [closeE, Hb.out]), bnext (bnext d2 b3 (Nat.le_refl _)) b4 (Nat.le_refl _)⟩
    · have h0' : (z2 != 0) = true := by simpa using h0
      go_wp2_with fail
      go_ret2
      exact ⟨ret_ints (by simp [closeE, Hb.out, h0]) (by simp [closeE, Hb.out, h0]), d2⟩
  · have Hb := hd hm
    clear hm
    by_cases h0 : z1 = 0
    · subst h0
      obtain ⟨hv, hl, h3, h4⟩ := bothC_ok Hb.out
      rw [voB_iff] at h3 h4
      obtain ⟨h5, h6⟩ := h3
      obtain ⟨h7, h8⟩ := h4
      have hnb := sumF_nb (xs := xs) (by simp [lstC, hv, hl])
      have hl' : n ≤ 100 := by rw [← Hl.out]; exact hl
      have Hv := hd hv
      have Hn := hd hnb
      clear hv hl hnb
      obtain ⟨s0, s1, s2, s3, s4, hS⟩ : ∃ s0 s1 s2 s3 s4, sumF xs = (s0, s1, s2, s3, s4) := ⟨_, _, _, _, _, rfl⟩
      have Hq := netW_bd Hn.out
      obtain ⟨q, hq⟩ : ∃ q, netW (sumF xs) = q := ⟨_, rfl⟩
      rw [hq] at Hq
      have hq1 := Hq.1
      have hq2 := Hq.2
      have HQ := hd hq
      have HS := hd hS
      clear hS hq Hq
      go_wp2_with fail
      refine (sumOf_calls _ _ _ xs _ (hr.below d2) Hv.out hl').mono ?_
      rintro e' w3 ⟨he, b3⟩
      rw [HS.out] at he
      subst he
      go_wp2_with fail
      refine (net_calls s0 s1 s2 s3 s4 _ (by rw [← HS.out]; exact Hn.out)).mono ?_
      rintro e' w4 ⟨he, b4⟩
      rw [← HS.out, HQ.out] at he
      subst he
      go_wp2_with fail
      go_ret2
      exact ⟨ret_ints (by simp [closeE, Hb.out, HQ.out]) (by simp [closeE, Hb.out]), bnext (bnext d2 b3 (Nat.le_refl _)) b4 (Nat.le_refl _)⟩
    · have h0' : (z1 != 0) = true := by simpa using h0
      go_wp2_with fail
      go_ret2
      exact ⟨ret_ints (by simp [closeE, Hb.out, h0]) (by simp [closeE, Hb.out, h0]), d2⟩
theorem bothC_not0 {xs : List W5} {s e z : Int} (hz : runC xs s = z) (h : z ≠ 0) : bothC xs s e = z := by
  unfold bothC
  rw [hz, if_neg (fun k => h k.1)]
theorem bothC_bad {xs : List W5} {s e : Int} (hz : runC xs s = 0) (h : voB e = false) : bothC xs s e = 2 := by
  unfold bothC
  rw [if_pos ⟨hz, h⟩]
theorem bothC_good {xs : List W5} {s e : Int} (hz : runC xs s = 0) (h : voB e = true) : bothC xs s e = 0 := by
  unfold bothC
  rw [if_neg (fun k => by rw [h] at k; exact absurd k.2 (by decide)), hz]
theorem specClosingError_calls (s e : Int) (a : Option Addr) (n c : Nat) (xs : List W5) (w : World) (hr : RdWater w a n xs) (hn : n ≤ 1048576) :
    Calls Try.prog 26 #[.int .i64 s, .int .i64 e, .slice a n c] w fun e' w' => e' = .returned (.tuple #[.int .i64 (closeE xs s e).1, .int .i64 (closeE xs s e).2]) ∧ Below w.heap.size w w' := by
  have Hl := hd hr.len
  have b1 := runC_bd xs s
  obtain ⟨z1, hz1⟩ : ∃ z, runC xs s = z := ⟨_, rfl⟩
  rw [hz1] at b1
  have Hz1 := hd hz1
  clear hz1
  go_enter Try.func26, Try.ntmps26
  go_wp2_with fail
  refine (l13Start_calls s _ _ _ xs _ hr hn).mono ?_
  rintro e' w1 ⟨he, d1⟩
  rw [Hz1.out] at he
  subst he
  by_cases h0 : z1 = 0
  · subst h0
    cases hv : voB e
    · have Hb := hd (bothC_bad Hz1.out hv)
      unfold voB at hv
      go_wp2_with (go_at_call 55; refine (l00In_calls _ _ _ _).mono ?_; rintro e w' ⟨rfl, rfl⟩)
      go_ret2
      exact ⟨ret_ints (by simp [closeE, Hb.out]) (by simp [closeE, Hb.out]), d1⟩
    · have Hb := hd (bothC_good Hz1.out hv)
      obtain ⟨hv, hl, h3, h4⟩ := bothC_ok Hb.out
      have h9 := h4
      rw [voB_iff] at h3 h4
      obtain ⟨h5, h6⟩ := h3
      obtain ⟨h7, h8⟩ := h4
      unfold voB at h9
      have hnb := sumF_nb (xs := xs) (by simp [lstC, hv, hl])
      have hl' : n ≤ 100 := by rw [← Hl.out]; exact hl
      have Hv := hd hv
      have Hn := hd hnb
      clear hv hl hnb
      obtain ⟨s0, s1, s2, s3, s4, hS⟩ : ∃ s0 s1 s2 s3 s4, sumF xs = (s0, s1, s2, s3, s4) := ⟨_, _, _, _, _, rfl⟩
      have Hq := netW_bd Hn.out
      obtain ⟨q, hq⟩ : ∃ q, netW (sumF xs) = q := ⟨_, rfl⟩
      rw [hq] at Hq
      have hq1 := Hq.1
      have hq2 := Hq.2
      have HQ := hd hq
      have HS := hd hS
      clear hS hq Hq
      go_wp2_with (go_at_call 55; refine (l00In_calls _ _ _ _).mono ?_; rintro e w' ⟨rfl, rfl⟩)
      refine (l13Sum_calls _ _ _ xs _ (hr.below d1) Hv.out hl').mono ?_
      rintro e' w3 ⟨he, b3⟩
      rw [HS.out] at he
      subst he
      go_wp2_with fail
      refine (l13Net_calls _ _ s0 s1 s2 s3 s4 _ (by rw [← HS.out]; exact Hn.out) ?_ ?_ ?_ ?_ ?_).mono ?_
      iterate 5 exact World.cell?_alloc_new _ _ _ _
      rintro e' w4 ⟨he, b4⟩
      rw [← HS.out, HQ.out] at he
      subst he
      go_wp2_with fail
      go_ret2
      exact ⟨ret_ints (by simp [closeE, Hb.out, HQ.out]) (by simp [closeE, Hb.out]), bnext (bnext d1 b3 (Nat.le_refl _)) (bbox1 b4) (Nat.le_refl _)⟩
  · have Hb := hd (bothC_not0 (e := e) Hz1.out h0)
    have h0' : (z1 == 0) = false := by simpa using h0
    have h0'' : (z1 != 0) = true := by simpa using h0
    go_wp2_with fail
    go_ret2
    exact ⟨ret_ints (by simp [closeE, Hb.out, h0]) (by simp [closeE, Hb.out, h0]), d1⟩
end Go.Proofs.Ytbacajbfedgcjaa
