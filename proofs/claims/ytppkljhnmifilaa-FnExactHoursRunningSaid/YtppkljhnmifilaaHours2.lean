/- HoursRunning, HighestHour. -/
import Derived.Test.YtppkljhnmifilaaHours
namespace Go.Proofs.Ytppkljhnmifilaa
open Go.RowKit
set_option linter.unusedVariables false

/-- How many hours the pump runs. -/
def runN (xs : List (Int × Bool)) : Nat := (xs.filter (fun x => x.2)).length
theorem runN_next {xs : List (Int × Bool)} {k : Nat} {x : Int × Bool} (h : xs[k]? = some x) : runN (xs.take (k + 1)) = runN (xs.take k) + if x.2 then 1 else 0 := by
  unfold runN; rw [take_next h, List.filter_append, List.length_append]
  cases hx : x.2 <;> simp [hx]
theorem runN_bd (xs : List (Int × Bool)) (k : Nat) : runN (xs.take k) ≤ k := by
  unfold runN
  have h1 := List.length_filter_le (fun x : Int × Bool => x.2) (xs.take k)
  have h2 := List.length_take_le k xs
  omega
def runAt (xs : List (Int × Bool)) (i : Nat) : Bool := (xs[i]?.map (·.2)).getD false
theorem idx_run (xs : List (Int × Bool)) : ∀ k, k ≤ xs.length → (idx (runAt xs) k).length = runN (xs.take k) := by
  intro k
  induction k with
  | zero => intro _; rfl
  | succ k ih =>
    intro hk
    have hx := List.getElem?_eq_getElem (show k < xs.length by omega)
    rw [idx_succ, List.length_append, ih (by omega), runN_next hx]
    have : runAt xs k = xs[k].2 := by unfold runAt; rw [hx]; rfl
    rw [this]
    cases xs[k].2 <;> rfl
def hoursRun (xs : List (Int × Bool)) : Int × Int := if hoursB xs then (runN xs, 0) else (0, 2)
theorem HoursRunning1_calls (g : Nat) (a : Option Addr) (n c i : Nat) (xs : List (Int × Bool)) (w : World) (hr : RdHour w a n xs) (hn : n ≤ 1048576) (hi : i < n) (hg : w.cell? ⟨g, 0, none⟩ = some (.slice a n c)) :
    Calls Try.prog 53 #[.int .i64 i, .pointer (some ⟨g, 0, none⟩)] w fun e w' => e = .returned (.bool (runAt xs i)) ∧ Below w.heap.size w w' := by
  obtain ⟨b, o, f0, f1, rfl, hbl, hx, hc0, hc1⟩ := getHour hr hi
  have hrun : runAt xs i = f1 := by unfold runAt; rw [hx]; rfl
  rw [hrun]
  clear hx hrun
  go_enter Try.func53, Try.ntmps53
  go_wp2_with fail
  go_ret
  exact ⟨rfl, Below.refl _ _⟩
theorem sizeHour_calls (a : Option Addr) (n c : Nat) (w : World) (hn : n ≤ 9223372036854775807) :
    Calls Try.prog 52 #[.slice a n c] w fun e w' => e = .returned (.int .i64 n) ∧ w = w' := by
  go_enter Try.func52, Try.ntmps52
  go_wp2
  go_ret
  exact ⟨rfl, rfl⟩
theorem HoursRunning_calls (a : Option Addr) (n c : Nat) (xs : List (Int × Bool)) (w : World) (hr : RdHour w a n xs) (hn : n ≤ 1048576) :
    Calls Try.prog 22 #[.slice a n c] w fun e w' => e = .returned (.tuple #[.int .i64 (hoursRun xs).1, .int .i64 (hoursRun xs).2]) ∧ Below w.heap.size w w' := by
  have he := ent Try.func53 (by kernel_rfl) rfl
  have Hl := hd hr.len
  go_enter Try.func22, Try.ntmps22
  go_wp2_with fail
  refine (areHours_calls _ _ _ _ _ (hr.alloc _) hn).mono ?_
  rintro e w1 ⟨rfl, b1⟩
  have d1 := bbox1 b1
  obtain ⟨k1, f1⟩ := bcell b1
  clear b1
  cases hh : hoursB xs
  · have Hh := hd hh
    clear hh
    go_wp2_with fail
    go_ret2
    exact ⟨ret_ints (by simp [hoursRun, Hh.out]) (by simp [hoursRun, Hh.out]), d1⟩
  · have hn2 : xs.length ≤ 200 := hoursB_len hh
    have Hh := hd hh
    clear hh
    go_wp2_with (go_at_call 52; refine (sizeHour_calls _ _ _ _ (by omega)).mono ?_; rintro e w' ⟨rfl, rfl⟩)
    have g1 : w1.cell? ⟨w.heap.size, 0, none⟩ = some (.slice a n c) := by rw [k1 _ _ (by simp)]; exact World.cell?_alloc_new _ _ _ _
    have hgl := World.block_lt_of_cell? _ _ g1
    refine (indicesWhere_calls 53 #[.pointer (some ⟨w.heap.size, 0, none⟩)] (runAt xs) n _ hn he (fun i W hi hb => ?_)).mono ?_
    · refine HoursRunning1_calls _ a n c i xs W ((hr.below d1).below hb) hn hi ?_
      rw [hb.cell (p := ⟨w.heap.size, 0, none⟩) hgl]
      exact g1
    rintro e w2 ⟨A, m, c', rfl, ho, b2⟩
    have hm : (m : Int) = runN xs := by
      rw [← ho.len, idx_run xs n (by rw [Hl.out]; exact Nat.le_refl _), List.take_of_length_le (by rw [Hl.out]; exact Nat.le_refl _)]
    have Hm := hd hm
    have hm2 : m ≤ 1048576 := by rw [← ho.len]; exact Nat.le_trans (idx_len _ _) hn
    clear ho hm
    go_wp2_with (go_at_call 50; refine (sizeInt64_calls _ _ _ _ (by omega)).mono ?_; rintro e w' ⟨rfl, rfl⟩)
    go_ret2
    exact ⟨ret_ints (by simp [hoursRun, Hh.out, Hm.out]) (by simp [hoursRun, Hh.out]), bnext d1 b2 (Nat.le_refl _)⟩
theorem specHoursRunning_calls (a : Option Addr) (n c : Nat) (xs : List (Int × Bool)) (w : World) (hr : RdHour w a n xs) (hn : n ≤ 1048576) :
    Calls Try.prog 21 #[.slice a n c] w fun e w' => e = .returned (.tuple #[.int .i64 (hoursRun xs).1, .int .i64 (hoursRun xs).2]) ∧ Below w.heap.size w w' := by
  have Hl := hd hr.len
  go_enter Try.func21, Try.ntmps21
  go_wp2_with fail
  refine (l14Hours_calls _ _ _ _ _ hr hn).mono ?_
  rintro e w1 ⟨rfl, b1⟩
  cases hh : hoursB xs
  · have Hh := hd hh
    clear hh
    go_wp2_with fail
    go_ret2
    exact ⟨ret_ints (by simp [hoursRun, Hh.out]) (by simp [hoursRun, Hh.out]), b1⟩
  · have Hh := hd hh
    clear hh
    go_wp2_with fail
    go_loopw [4, 5] (fun s i wr => ∃ k : Nat, k ≤ n ∧ i = .int .i64 k ∧ s = .int .i64 (runN (xs.take k)) ∧ Below w.heap.size w wr) (fun _ i _ => n - (intOf i).toNat)
    case atStart => exact ⟨0, Nat.zero_le _, rfl, rfl, b1⟩
    case round =>
      obtain ⟨k, hk, rfl, rfl, hb⟩ := hrel
      obtain ⟨q, hq⟩ : ∃ q : Int, q = runN (xs.take k) := ⟨_, rfl⟩
      have hq0 : 0 ≤ q := by rw [hq]; omega
      have hq1 : q ≤ k := by rw [hq]; have := runN_bd xs k; omega
      rw [← hq]
      have Hq := hd hq
      clear hq
      by_cases hlt : k < n
      · obtain ⟨b, o, f0, f1, rfl, hbl, hx, hc0, hc1⟩ := getHour (hr.below hb) hlt
        have Hx := hd hx
        clear hx
        cases f1
        all_goals
          go_wp2_with fail
          go_roundw
          case rel => exact ⟨k + 1, by omega, by go_num, by rw [runN_next Hx.out]; have := Hq.out; go_num, hb⟩
          case measure => simp [intOf]; omega
      · go_wp2_with fail
        go_ret2
        have e : xs.take k = xs := List.take_of_length_le (by rw [Hl.out]; omega)
        exact ⟨ret_ints (by simp [hoursRun, Hh.out, Hq.out, e]) (by simp [hoursRun, Hh.out]), hb⟩
end Go.Proofs.Ytppkljhnmifilaa
