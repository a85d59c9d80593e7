/- BestAlarm. -/
import Derived.Test.YtmbonkklfnhkdaaMisFal
namespace Go.Proofs.Ytmbonkklfnhkdaa
open Go.RowKit
set_option linter.unusedVariables false

def costZ (xs : List P2) (pr al : Int) : Int := pr * (misN xs al : Nat) + (wroN xs al : Nat)
def bestF (xs : List P2) (pr : Int) : Nat → Int × Int
  | 0 => (0, -1)
  | j + 1 => if (bestF xs pr j).2 < 0 ∨ costZ xs pr (2000 - j) < (bestF xs pr j).2 then (2000 - j, costZ xs pr (2000 - j)) else bestF xs pr j
theorem use_best {a b c : Int} {p : Int × Int} (h : p = (a, b)) : p.1 = a ∧ p.2 = b := by rw [h]; exact ⟨rfl, rfl⟩
def bestAl (xs : List P2) (pr : Int) : Int × Int × Int := if casesB xs && inB pr 0 1000 then ((bestF xs pr 4001).1, (bestF xs pr 4001).2, 0) else (0, 0, 2)
theorem cost_bd {xs : List P2} {pr : Int} (h : xs.length ≤ 60) (h0 : 0 ≤ pr) (h1 : pr ≤ 1000) (al : Int) : 0 ≤ pr * (misN xs al : Nat) ∧ pr * (misN xs al : Nat) ≤ 60000 ∧ wroN xs al ≤ 60 := by
  have a : misN xs al ≤ xs.length := List.length_filter_le _ _
  have b : wroN xs al ≤ xs.length := List.length_filter_le _ _
  refine ⟨Int.mul_nonneg h0 (by omega), ?_, by omega⟩
  have := Int.mul_le_mul h1 (show (misN xs al : Int) ≤ 60 by omega) (by omega) (by omega)
  omega
theorem cases_len {xs : List P2} (h : casesB xs = true) : xs.length ≤ 60 := by
  simp only [casesB, Bool.and_eq_true, decide_eq_true_eq] at h
  exact h.2
theorem bestF_yes {xs : List P2} {pr : Int} {j : Nat} {be lo c : Int} (h : bestF xs pr j = (be, lo)) (hc : costZ xs pr (2000 - (j : Int)) = c) (hd : lo < 0 ∨ c < lo) : bestF xs pr (j + 1) = (2000 - (j : Int), c) := by
  unfold bestF
  rw [h, hc, if_pos hd]
theorem bestF_no {xs : List P2} {pr : Int} {j : Nat} {be lo c : Int} (h : bestF xs pr j = (be, lo)) (hc : costZ xs pr (2000 - (j : Int)) = c) (hd : ¬ (lo < 0 ∨ c < lo)) : bestF xs pr (j + 1) = (be, lo) := by
  unfold bestF
  rw [h, hc, if_neg hd]
set_option maxHeartbeats 2000000 in
theorem BestAlarm_calls (a : Option Addr) (n c : Nat) (xs : List P2) (pr : Int) (w : World) (ha : RdPast w a n xs) (hn : n ≤ 1048576) :
    Calls Try.prog 27 #[.slice a n c, .int .i64 pr] w fun e w' => e = .returned (.tuple #[.int .i64 (bestAl xs pr).1, .int .i64 (bestAl xs pr).2.1, .int .i64 (bestAl xs pr).2.2]) ∧ Below w.heap.size w w' := by
  go_enter Try.func27, Try.ntmps27
  go_wp2_with fail
  refine (areCases_calls _ _ _ xs _ ha hn).mono ?_
  rintro e w1 ⟨rfl, b1⟩
  cases hv : casesB xs
  · have K : Hid (bestAl xs pr = (0, 0, 2)) := hd (by simp [bestAl, hv])
    clear hv
    go_wp2_with fail
    go_ret3
    exact ⟨ret_ints3 (by rw [K.out]) (by rw [K.out]) (by rw [K.out]), b1⟩
  · cases hl : inB pr 0 1000
    · have K : Hid (bestAl xs pr = (0, 0, 2)) := hd (by simp [bestAl, hl])
      clear hv
      go_wp2_with (go_at_call 38; refine (in_calls _ _ _ _).mono ?_; rintro e w' ⟨rfl, rfl⟩)
      go_ret3
      exact ⟨ret_ints3 (by rw [K.out]) (by rw [K.out]) (by rw [K.out]), b1⟩
    · obtain ⟨N, hN⟩ : ∃ N : Nat, N = 4001 := ⟨_, rfl⟩
      have K : Hid (bestAl xs pr = ((bestF xs pr N).1, (bestF xs pr N).2, 0)) := hd (by unfold bestAl; rw [hl, hv, hN]; rfl)
      have hN1 : N ≤ 4001 := by omega
      have hN2 : 4001 ≤ N := by omega
      clear hN
      have hlen := cases_len hv
      have hp := inB_iff.1 hl
      obtain ⟨p0, p1⟩ := hp
      clear hv
      go_wp2_with (go_at_call 38; refine (in_calls _ _ _ _).mono ?_; rintro e w' ⟨rfl, rfl⟩)
      clear hl
      go_loopw [7, 8, 9] (fun v u i wr => ∃ j : Nat, ∃ be lo : Int, j ≤ N ∧ i = .int .i64 (2000 - j) ∧ v = .int .i64 be ∧ u = .int .i64 lo ∧ bestF xs pr j = (be, lo) ∧ Below w.heap.size w wr) (fun _ _ i _ => (intOf i + 2001).toNat)
      case atStart => exact ⟨0, 0, -1, by omega, rfl, rfl, rfl, rfl, b1⟩
      case round =>
        obtain ⟨j, be, lo, hj, rfl, rfl, rfl, hbf, hb⟩ := hrel
        have Hbf := hd hbf
        clear hbf
        by_cases hlt : j < N
        · have hcb := cost_bd hlen p0 p1 (2000 - (j : Int))
          obtain ⟨x, hx⟩ : ∃ x, misN xs (2000 - (j : Int)) = x := ⟨_, rfl⟩
          obtain ⟨y, hy⟩ : ∃ y, wroN xs (2000 - (j : Int)) = y := ⟨_, rfl⟩
          rw [hx, hy] at hcb
          obtain ⟨c0, c1, c2⟩ := hcb
          have hco : Hid (costZ xs pr (2000 - (j : Int)) = pr * (x : Int) + (y : Int)) := hd (by unfold costZ; rw [hx, hy])
          have Hx := hd hx
          have Hy := hd hy
          clear hx hy
          go_wp2_with fail
          refine (missed_calls _ _ _ xs (2000 - (j : Int)) _ (ha.below hb) hn).mono ?_
          rintro e w2 ⟨he, b2⟩
          rw [Hx.out, Hy.out] at he
          subst he
          have d2 := bnext hb b2 (Nat.le_refl _)
          by_cases h1 : lo < 0
          · go_wp2_with fail
            go_roundw
            case rel => exact ⟨j + 1, 2000 - j, pr * (x : Int) + (y : Int), by omega, congrArg (Value.int IntKind.i64) (by omega), rfl, rfl, bestF_yes Hbf.out hco.out (.inl h1), d2⟩
            case measure => simp [intOf]; omega
          · by_cases h2 : pr * (x : Int) + (y : Int) < lo
            · go_wp2_with fail
              go_roundw
              case rel => exact ⟨j + 1, 2000 - j, pr * (x : Int) + (y : Int), by omega, congrArg (Value.int IntKind.i64) (by omega), rfl, rfl, bestF_yes Hbf.out hco.out (.inr h2), d2⟩
              case measure => simp [intOf]; omega
            · go_wp2_with fail
              go_roundw
              case rel => exact ⟨j + 1, be, lo, by omega, congrArg (Value.int IntKind.i64) (by omega), rfl, rfl, bestF_no Hbf.out hco.out (by omega), d2⟩
              case measure => simp [intOf]; omega
        · obtain rfl : j = N := by omega
          go_wp2_with fail
          go_ret3
          exact ⟨ret_ints3 (by rw [K.out, Hbf.out]) (by rw [K.out, Hbf.out]) (by rw [K.out]), hb⟩
set_option maxHeartbeats 2000000 in
theorem specBestAlarm_calls (a : Option Addr) (n c : Nat) (xs : List P2) (pr : Int) (w : World) (ha : RdPast w a n xs) (hn : n ≤ 1048576) :
    Calls Try.prog 26 #[.slice a n c, .int .i64 pr] w fun e w' => e = .returned (.tuple #[.int .i64 (bestAl xs pr).1, .int .i64 (bestAl xs pr).2.1, .int .i64 (bestAl xs pr).2.2]) ∧ Below w.heap.size w w' := by
  go_enter Try.func26, Try.ntmps26
  go_wp2_with fail
  refine (l16Cases_calls _ _ _ xs _ ha hn).mono ?_
  rintro e w1 ⟨rfl, b1⟩
  cases hv : casesB xs
  · have K : Hid (bestAl xs pr = (0, 0, 2)) := hd (by simp [bestAl, hv])
    clear hv
    go_wp2_with fail
    go_ret3
    exact ⟨ret_ints3 (by rw [K.out]) (by rw [K.out]) (by rw [K.out]), b1⟩
  · cases hl : inB pr 0 1000
    · have K : Hid (bestAl xs pr = (0, 0, 2)) := hd (by simp [bestAl, hl])
      clear hv
      go_wp2_with (go_at_call 56; refine (l00In_calls _ _ _ _).mono ?_; rintro e w' ⟨rfl, rfl⟩)
      go_ret3
      exact ⟨ret_ints3 (by rw [K.out]) (by rw [K.out]) (by rw [K.out]), b1⟩
    · obtain ⟨N, hN⟩ : ∃ N : Nat, N = 4001 := ⟨_, rfl⟩
      have K : Hid (bestAl xs pr = ((bestF xs pr N).1, (bestF xs pr N).2, 0)) := hd (by unfold bestAl; rw [hl, hv, hN]; rfl)
      have hN1 : N ≤ 4001 := by omega
      have hN2 : 4001 ≤ N := by omega
      clear hN
      have hlen := cases_len hv
      have hp := inB_iff.1 hl
      obtain ⟨p0, p1⟩ := hp
      clear hv
      go_wp2_with (go_at_call 56; refine (l00In_calls _ _ _ _).mono ?_; rintro e w' ⟨rfl, rfl⟩)
      clear hl
      go_loopw [7, 8, 9] (fun v u i wr => ∃ j : Nat, ∃ be lo : Int, j ≤ N ∧ i = .int .i64 (2000 - j) ∧ v = .int .i64 be ∧ u = .int .i64 lo ∧ bestF xs pr j = (be, lo) ∧ Below w.heap.size w wr) (fun _ _ i _ => (intOf i + 2001).toNat)
      case atStart => exact ⟨0, 0, -1, by omega, rfl, rfl, rfl, rfl, b1⟩
      case round =>
        obtain ⟨j, be, lo, hj, rfl, rfl, rfl, hbf, hb⟩ := hrel
        have Hbf := hd hbf
        clear hbf
        by_cases hlt : j < N
        · have hcb := cost_bd hlen p0 p1 (2000 - (j : Int))
          obtain ⟨x, hx⟩ : ∃ x, misN xs (2000 - (j : Int)) = x := ⟨_, rfl⟩
          obtain ⟨y, hy⟩ : ∃ y, wroN xs (2000 - (j : Int)) = y := ⟨_, rfl⟩
          rw [hx, hy] at hcb
          obtain ⟨c0, c1, c2⟩ := hcb
          have hco : Hid (costZ xs pr (2000 - (j : Int)) = pr * (x : Int) + (y : Int)) := hd (by unfold costZ; rw [hx, hy])
          have Hx := hd hx
          have Hy := hd hy
          clear hx hy
          go_wp2_with fail
          refine (l16Count_calls _ _ _ xs (2000 - (j : Int)) _ (ha.below hb) hn).mono ?_
          rintro e w2 ⟨he, b2⟩
          rw [Hx.out, Hy.out] at he
          subst he
          have d2 := bnext hb b2 (Nat.le_refl _)
          by_cases h1 : lo < 0
          · go_wp2_with fail
            go_roundw
            case rel => exact ⟨j + 1, 2000 - j, pr * (x : Int) + (y : Int), by omega, congrArg (Value.int IntKind.i64) (by omega), rfl, rfl, bestF_yes Hbf.out hco.out (.inl h1), d2⟩
            case measure => simp [intOf]; omega
          · by_cases h2 : pr * (x : Int) + (y : Int) < lo
            · go_wp2_with fail
              go_roundw
              case rel => exact ⟨j + 1, 2000 - j, pr * (x : Int) + (y : Int), by omega, congrArg (Value.int IntKind.i64) (by omega), rfl, rfl, bestF_yes Hbf.out hco.out (.inr h2), d2⟩
              case measure => simp [intOf]; omega
            · go_wp2_with fail
              go_roundw
              case rel => exact ⟨j + 1, be, lo, by omega, congrArg (Value.int IntKind.i64) (by omega), rfl, rfl, bestF_no Hbf.out hco.out (by omega), d2⟩
              case measure => simp [intOf]; omega
        · obtain rfl : j = N := by omega
          go_wp2_with fail
          go_ret3
          exact ⟨ret_ints3 (by rw [K.out, Hbf.out]) (by rw [K.out, Hbf.out]) (by rw [K.out]), hb⟩
end Go.Proofs.Ytmbonkklfnhkdaa
