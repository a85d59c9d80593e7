/- HighestHour. -/
import Derived.Test.YtppkljhnmifilaaHours
namespace Go.Proofs.Ytppkljhnmifilaa
open Go.RowKit
set_option linter.unusedVariables false

def lvAt (xs : List (Int × Bool)) (i : Nat) : Int := (xs[i]?.map (·.1)).getD 0
/-- The first of the first k hours with the highest level. -/
def hiB (xs : List (Int × Bool)) : Nat → Nat
  | 0 => 0
  | k + 1 => if lvAt xs (hiB xs k) < lvAt xs k then k else hiB xs k
theorem hiB_le (xs : List (Int × Bool)) : ∀ k, hiB xs k ≤ k - 1 := by
  intro k
  induction k with
  | zero => simp [hiB]
  | succ k ih => unfold hiB; split <;> omega
theorem lvAt_of {xs : List (Int × Bool)} {i : Nat} {z : Int} {r : Bool} (h : xs[i]? = some (z, r)) : lvAt xs i = z := by unfold lvAt; rw [h]; rfl
theorem hiB_yes {xs : List (Int × Bool)} {k : Nat} (h : lvAt xs (hiB xs k) < lvAt xs k) : hiB xs (k + 1) = k := by simp [hiB, h]
theorem hiB_no {xs : List (Int × Bool)} {k : Nat} (h : ¬ lvAt xs (hiB xs k) < lvAt xs k) : hiB xs (k + 1) = hiB xs k := by simp [hiB, h]
def highest (xs : List (Int × Bool)) : Int × Int := if hoursB xs then (if xs.length = 0 then (0, 3) else (hiB xs xs.length, 0)) else (0, 2)

theorem specHighestHour_calls (a : Option Addr) (n c : Nat) (xs : List (Int × Bool)) (w : World) (hr : RdHour w a n xs) (hn : n ≤ 1048576) :
    Calls Try.prog 23 #[.slice a n c] w fun e w' => e = .returned (.tuple #[.int .i64 (highest xs).1, .int .i64 (highest xs).2]) ∧ Below w.heap.size w w' := by
  have Hl := hd hr.len
  go_enter Try.func23, Try.ntmps23
  go_wp2_with fail
  refine (l14Hours_calls _ _ _ _ _ hr hn).mono ?_
  rintro e w1 ⟨rfl, b1⟩
  cases hh : hoursB xs
  · have Hh := hd hh
    clear hh
    go_wp2_with fail
    go_ret2
    exact ⟨ret_ints (by simp [highest, Hh.out]) (by simp [highest, Hh.out]), b1⟩
  · have Hh := hd hh
    clear hh
    by_cases h0 : n = 0
    · subst h0
      go_wp2_with fail
      go_ret2
      exact ⟨ret_ints (by simp [highest, Hh.out, Hl.out]) (by simp [highest, Hh.out, Hl.out]), b1⟩
    · have h0' : ((n : Int) == 0) = false := by simp; omega
      go_wp2_with fail
      go_loopw [4, 5] (fun s i wr => ∃ k : Nat, 1 ≤ k ∧ k ≤ n ∧ i = .int .i64 k ∧ s = .int .i64 (hiB xs k) ∧ Below w.heap.size w wr) (fun _ i _ => n - (intOf i).toNat)
      case atStart => exact ⟨1, by omega, by omega, rfl, by simp [hiB], b1⟩
      case round =>
        obtain ⟨k, hk1, hk, rfl, rfl, hb⟩ := hrel
        have hle := hiB_le xs k
        obtain ⟨q, hq⟩ : ∃ q : Nat, q = hiB xs k := ⟨_, rfl⟩
        rw [← hq] at hle ⊢
        have Hq := hd hq
        clear hq
        by_cases hlt : k < n
        · obtain ⟨b, o, f0, f1, rfl, hbl, hx, hc0, hc1⟩ := getHour (hr.below hb) hlt
          have hqn : q < n := by omega
          obtain ⟨b', o', g0, g1, hab, hbl', hy, hd0, hd1⟩ := getHour (hr.below hb) hqn
          obtain ⟨rfl, rfl⟩ : b = b' ∧ o = o' := by simpa using hab
          have Hx := hd hx
          have Hy := hd hy
          clear hx hy hab
          go_wp2_with fail
          go_still_tail 10, (by kernel_rfl)
          change wpList _ _ _ _ _ wr.drew
          have hb2 : Below w.heap.size w wr.drew := hb.drew
          generalize wr.drew = w2 at hb2 ⊢
          clear hc0 hc1 hd0 hd1
          by_cases hp : g0 < f0
          · go_wp2_with fail
            go_roundw
            case rel => exact ⟨k + 1, by omega, by omega, by go_num, by rw [hiB_yes (by rw [← Hq.out, lvAt_of Hx.out, lvAt_of Hy.out]; exact hp)], hb2⟩
            case measure => simp [intOf]; omega
          · go_wp2_with fail
            go_roundw
            case rel => exact ⟨k + 1, by omega, by omega, by go_num, by rw [hiB_no (by rw [← Hq.out, lvAt_of Hx.out, lvAt_of Hy.out]; exact hp), ← Hq.out], hb2⟩
            case measure => simp [intOf]; omega
        · obtain rfl : k = n := by omega
          go_wp2_with fail
          go_ret2
          exact ⟨ret_ints (by simp [highest, Hh.out, Hl.out, h0, Hq.out]) (by simp [highest, Hh.out, Hl.out, h0]), hb⟩
theorem HighestHour_calls (a : Option Addr) (n c : Nat) (xs : List (Int × Bool)) (w : World) (hr : RdHour w a n xs) (hn : n ≤ 1048576) :
    Calls Try.prog 24 #[.slice a n c] w fun e w' => e = .returned (.tuple #[.int .i64 (highest xs).1, .int .i64 (highest xs).2]) ∧ Below w.heap.size w w' := by
  have Hl := hd hr.len
  go_enter Try.func24, Try.ntmps24
  go_wp2_with fail
  refine (areHours_calls _ _ _ _ _ hr hn).mono ?_
  rintro e w1 ⟨rfl, b1⟩
  cases hh : hoursB xs
  · have Hh := hd hh
    clear hh
    go_wp2_with fail
    go_ret2
    exact ⟨ret_ints (by simp [highest, Hh.out]) (by simp [highest, Hh.out]), b1⟩
  · have Hh := hd hh
    clear hh
    by_cases h0 : n = 0
    · subst h0
      go_wp2_with fail
      go_ret2
      exact ⟨ret_ints (by simp [highest, Hh.out, Hl.out]) (by simp [highest, Hh.out, Hl.out]), b1⟩
    · have h0' : ((n : Int) == 0) = false := by simp; omega
      go_wp2_with fail
      go_loopw [4, 17] (fun s i wr => ∃ k : Nat, k ≤ n ∧ i = .int .i64 k ∧ s = .int .i64 (hiB xs k) ∧ Below w.heap.size w wr) (fun _ i _ => n - (intOf i).toNat)
      case atStart => exact ⟨0, by omega, rfl, by simp [hiB], b1⟩
      case round =>
        obtain ⟨k, hk, rfl, rfl, hb⟩ := hrel
        have hle := hiB_le xs k
        obtain ⟨q, hq⟩ : ∃ q : Nat, q = hiB xs k := ⟨_, rfl⟩
        rw [← hq] at hle ⊢
        have Hq := hd hq
        clear hq
        by_cases hlt : k < n
        · obtain ⟨b, o, f0, f1, rfl, hbl, hx, hc0, hc1⟩ := getHour (hr.below hb) hlt
          have hqn : q < n := by omega
          obtain ⟨b', o', g0, g1, hab, hbl', hy, hd0, hd1⟩ := getHour (hr.below hb) hqn
          obtain ⟨rfl, rfl⟩ : b = b' ∧ o = o' := by simpa using hab
          have Hx := hd hx
          have Hy := hd hy
          clear hx hy hab
          go_wp2_with fail
          obtain ⟨W1, hW1⟩ : ∃ W1, W1 = wr.alloc (.cells #[.int .i64 f0, .bool f1] 66) := ⟨_, rfl⟩
          have e0 := (by rw [hW1, World.cell?_alloc_past _ _ _ hbl']; exact hd0 : W1.cell? ⟨b, o + q * 2, none⟩ = some (.int .i64 g0))
          have l0 := (by rw [hW1, World.cell?_alloc_at _ _ _ _ rfl]; rfl : W1.cell? ⟨wr.heap.size, 0, none⟩ = some (.int .i64 f0))
          have hb1 : Below w.heap.size w W1 := by rw [hW1]; exact hb.alloc hb.size _
          rw [← hW1]
          clear hW1
          go_still_tail 7, (by kernel_rfl)
          change wpList _ _ _ _ _ W1.drew
          have hb2 : Below w.heap.size w W1.drew := hb1.drew
          generalize W1.drew = w2 at hb2 ⊢
          clear hc0 hc1 hd0 hd1 e0 l0
          by_cases hp : g0 < f0
          · go_wp2_with fail
            go_roundw
            case rel => exact ⟨k + 1, by omega, by go_num, by rw [hiB_yes (by rw [← Hq.out, lvAt_of Hx.out, lvAt_of Hy.out]; exact hp)], hb2⟩
            case measure => simp [intOf]; omega
          · go_wp2_with fail
            go_roundw
            case rel => exact ⟨k + 1, by omega, by go_num, by rw [hiB_no (by rw [← Hq.out, lvAt_of Hx.out, lvAt_of Hy.out]; exact hp), ← Hq.out], hb2⟩
            case measure => simp [intOf]; omega
        · obtain rfl : k = n := by omega
          go_wp2_with fail
          go_ret2
          exact ⟨ret_ints (by simp [highest, Hh.out, Hl.out, h0, Hq.out]) (by simp [highest, Hh.out, Hl.out, h0]), hb⟩
end Go.Proofs.Ytppkljhnmifilaa
