/- Lists of hours: range, counts. -/
import Derived.Test.YtppkljhnmifilaaTyHour
import Derived.Test.YtppkljhnmifilaaIdx
namespace Go.Proofs.Ytppkljhnmifilaa
open Go.RowKit
set_option linter.unusedVariables false

def hoursB (xs : List (Int × Bool)) : Bool := decide (xs.length ≤ 200) && xs.all (fun x => lvB x.1)
theorem hoursB_len {xs : List (Int × Bool)} (h : hoursB xs = true) : xs.length ≤ 200 := by simp [hoursB] at h; exact h.1

theorem areHours1_calls (z : Int) (r : Bool) (w : World) :
    Calls Try.prog 69 #[.agg #[.int .i64 z, .bool r]] w fun e w' => e = .returned (.bool (lvB z)) ∧ Below w.heap.size w w' := by
  go_enter Try.func69, Try.ntmps69
  go_wp2_with (go_at_call 41; refine (ValidLevel_calls _ _).mono ?_; rintro e w' ⟨rfl, rfl⟩)
  go_ret
  exact ⟨rfl, by go_grown⟩
theorem areHours_calls (a : Option Addr) (n c : Nat) (xs : List (Int × Bool)) (w : World) (hr : RdHour w a n xs) (hn : n ≤ 1048576) :
    Calls Try.prog 49 #[.slice a n c] w fun e w' => e = .returned (.bool (hoursB xs)) ∧ Below w.heap.size w w' := by
  have Hl := hd hr.len
  have he := ent Try.func69 (by kernel_rfl) rfl
  by_cases h2 : n ≤ 200
  · have h2' : (n : Int) ≤ 200 := by omega
    go_enter Try.func49, Try.ntmps49
    go_wp2_with fail
    refine (allHour_calls 69 #[] (fun x => lvB x.1) _ _ _ _ _ hr (by omega) he (fun z r W _ => by rw [Array.append_empty]; exact areHours1_calls z r W)).mono ?_
    rintro e w1 ⟨rfl, b1⟩
    go_wp2_with fail
    go_ret
    exact ⟨ret_bool (by unfold hoursB; rw [Hl.out, decide_eq_true h2, Bool.true_and]), b1⟩
  · have h2' : (200 : Int) < n := by omega
    go_enter Try.func49, Try.ntmps49
    go_wp2_with fail
    go_ret
    exact ⟨ret_bool (by unfold hoursB; rw [Hl.out, decide_eq_false h2, Bool.false_and]), Below.refl _ _⟩
theorem l14Hours_calls (a : Option Addr) (n c : Nat) (xs : List (Int × Bool)) (w : World) (hr : RdHour w a n xs) (hn : n ≤ 1048576) :
    Calls Try.prog 48 #[.slice a n c] w fun e w' => e = .returned (.bool (hoursB xs)) ∧ Below w.heap.size w w' := by
  have Hl := hd hr.len
  go_enter Try.func48, Try.ntmps48
  go_wp2_with fail
  go_loopw [3] (fun i wr => ∃ k : Nat, k ≤ n ∧ i = .int .i64 k ∧ (xs.take k).all (fun x => lvB x.1) = true ∧ Below w.heap.size w wr) (fun i _ => n - (intOf i).toNat)
  case atStart => exact ⟨0, Nat.zero_le _, rfl, rfl, Below.refl _ _⟩
  case round =>
    obtain ⟨k, hk, rfl, hall, hb⟩ := hrel
    have Ha := hd hall
    clear hall
    by_cases hlt : k < n
    · obtain ⟨b, o, f0, f1, rfl, hbl, hx, hc0, hc1⟩ := getHour (hr.below hb) hlt
      have Hx := hd hx
      clear hx
      cases hp : lvB f0
      · go_wp2_with (go_at_call 42; refine (l02Level_calls _ _).mono ?_; rintro e w' ⟨rfl, rfl⟩)
        go_ret
        exact ⟨ret_bool (by unfold hoursB; rw [all_stop (p := fun x => lvB x.1) Hx.out hp, Bool.and_false]), hb⟩
      · go_wp2_with (go_at_call 42; refine (l02Level_calls _ _).mono ?_; rintro e w' ⟨rfl, rfl⟩)
        go_roundw
        case rel => exact ⟨k + 1, by omega, by go_num, all_next (p := fun x => lvB x.1) Hx.out Ha.out hp, hb⟩
        case measure => simp [intOf]; omega
    · go_wp2_with fail
      go_ret
      exact ⟨ret_bool (by unfold hoursB; rw [all_done (p := fun x => lvB x.1) Hl.out (by omega) Ha.out, Hl.out, Bool.and_true, Bool.eq_iff_iff]; simp; omega), hb⟩

/-- How often a pump is switched, and whether it ran last. -/
def swS (s : Int × Bool) (h : Int × Bool) : Int × Bool := (if h.2 = s.2 then s.1 else s.1 + 1, h.2)
def swF (xs : List (Int × Bool)) : Int × Bool := xs.foldl swS (0, false)
theorem swF_next {xs : List (Int × Bool)} {k : Nat} {x : Int × Bool} (h : xs[k]? = some x) : swF (xs.take (k + 1)) = swS (swF (xs.take k)) x := by
  rw [take_next h]; unfold swF; rw [List.foldl_append]; rfl
theorem swF_bd (xs : List (Int × Bool)) (k : Nat) : 0 ≤ (swF (xs.take k)).1 ∧ (swF (xs.take k)).1 ≤ k := by
  induction k with
  | zero => simp [swF]
  | succ k ih =>
    by_cases hk : k < xs.length
    · rw [swF_next (List.getElem?_eq_getElem hk)]
      unfold swS
      split <;> simp <;> omega
    · rw [List.take_of_length_le (by omega)] at ih ⊢
      omega
def swN (xs : List (Int × Bool)) : Int := (swF xs).1
theorem switches_calls (a : Option Addr) (n c : Nat) (xs : List (Int × Bool)) (w : World) (hr : RdHour w a n xs) (hn : n ≤ 1048576) :
    Calls Try.prog 55 #[.slice a n c] w fun e w' => e = .returned (.int .i64 (swN xs)) ∧ Below w.heap.size w w' := by
  have Hl := hd hr.len
  go_enter Try.func55, Try.ntmps55
  go_wp2_with fail
  go_loopw [3, 4, 9] (fun s l i wr => ∃ k : Nat, ∃ q : Int, ∃ r : Bool, k ≤ n ∧ i = .int .i64 k ∧ s = .int .i64 q ∧ l = .bool r ∧ swF (xs.take k) = (q, r) ∧ Below w.heap.size w wr) (fun _ _ i _ => n - (intOf i).toNat)
  case atStart => exact ⟨0, 0, false, Nat.zero_le _, rfl, rfl, rfl, rfl, Below.refl _ _⟩
  case round =>
    obtain ⟨k, q, r, hk, rfl, rfl, rfl, hall, hb⟩ := hrel
    have hq := swF_bd xs k
    rw [hall] at hq
    have hq0 : 0 ≤ q := hq.1
    have hq1 : q ≤ k := hq.2
    have Ha := hd hall
    clear hall hq
    by_cases hlt : k < n
    · obtain ⟨b, o, f0, f1, rfl, hbl, hx, hc0, hc1⟩ := getHour (hr.below hb) hlt
      have Hx := hd hx
      clear hx
      cases f1 <;> cases r
      all_goals
        go_wp2_with fail
        go_roundw
        case rel => exact ⟨k + 1, _, _, by omega, by go_num, rfl, rfl, by rw [swF_next Hx.out, Ha.out]; simp [swS], hb.alloc hb.size _⟩
        case measure => simp [intOf]; omega
    · go_wp2_with fail
      go_ret
      exact ⟨ret_int (by unfold swN; rw [← List.take_of_length_le (l := xs) (i := k) (by rw [Hl.out]; omega), Ha.out]), hb⟩
theorem l14Switches_calls (a : Option Addr) (n c : Nat) (xs : List (Int × Bool)) (w : World) (hr : RdHour w a n xs) (hn : n ≤ 1048576) :
    Calls Try.prog 54 #[.slice a n c] w fun e w' => e = .returned (.int .i64 (swN xs)) ∧ Below w.heap.size w w' := by
  have Hl := hd hr.len
  go_enter Try.func54, Try.ntmps54
  go_wp2_with fail
  go_loopw [3, 4, 5] (fun s l i wr => ∃ k : Nat, ∃ q : Int, ∃ r : Bool, k ≤ n ∧ i = .int .i64 k ∧ s = .int .i64 q ∧ l = .bool r ∧ swF (xs.take k) = (q, r) ∧ Below w.heap.size w wr) (fun _ _ i _ => n - (intOf i).toNat)
  case atStart => exact ⟨0, 0, false, Nat.zero_le _, rfl, rfl, rfl, rfl, Below.refl _ _⟩
  case round =>
    obtain ⟨k, q, r, hk, rfl, rfl, rfl, hall, hb⟩ := hrel
    have hq := swF_bd xs k
    rw [hall] at hq
    have hq0 : 0 ≤ q := hq.1
    have hq1 : q ≤ k := hq.2
    have Ha := hd hall
    clear hall hq
    by_cases hlt : k < n
    · obtain ⟨b, o, f0, f1, rfl, hbl, hx, hc0, hc1⟩ := getHour (hr.below hb) hlt
      have Hx := hd hx
      clear hx
      cases f1 <;> cases r
      all_goals
        go_wp2_with fail
        go_roundw
        case rel => exact ⟨k + 1, _, _, by omega, by go_num, rfl, rfl, by rw [swF_next Hx.out, Ha.out]; simp [swS], hb⟩
        case measure => simp [intOf]; omega
    · go_wp2_with fail
      go_ret
      exact ⟨ret_int (by unfold swN; rw [← List.take_of_length_le (l := xs) (i := k) (by rw [Hl.out]; omega), Ha.out]), hb⟩
/-- What CountSwitches answers. -/
def countSw (xs : List (Int × Bool)) : Int × Int := if hoursB xs then (swN xs, 0) else (0, 2)
theorem CountSwitches_calls (a : Option Addr) (n c : Nat) (xs : List (Int × Bool)) (w : World) (hr : RdHour w a n xs) (hn : n ≤ 1048576) :
    Calls Try.prog 26 #[.slice a n c] w fun e w' => e = .returned (.tuple #[.int .i64 (countSw xs).1, .int .i64 (countSw xs).2]) ∧ Below w.heap.size w w' := by
  go_enter Try.func26, Try.ntmps26
  go_wp2_with fail
  refine (areHours_calls _ _ _ _ _ hr hn).mono ?_
  rintro e w1 ⟨rfl, b1⟩
  cases hh : hoursB xs
  · have Hh := hd hh
    clear hh
    go_wp2_with fail
    go_ret2
    exact ⟨ret_ints (by simp [countSw, Hh.out]) (by simp [countSw, Hh.out]), b1⟩
  · have Hh := hd hh
    clear hh
    go_wp2_with fail
    refine (switches_calls _ _ _ _ _ (hr.below b1) hn).mono ?_
    rintro e w2 ⟨rfl, b2⟩
    go_wp2_with fail
    go_ret2
    exact ⟨ret_ints (by simp [countSw, Hh.out]) (by simp [countSw, Hh.out]), bnext b1 b2 (Nat.le_refl _)⟩
theorem specCountSwitches_calls (a : Option Addr) (n c : Nat) (xs : List (Int × Bool)) (w : World) (hr : RdHour w a n xs) (hn : n ≤ 1048576) :
    Calls Try.prog 25 #[.slice a n c] w fun e w' => e = .returned (.tuple #[.int .i64 (countSw xs).1, .int .i64 (countSw xs).2]) ∧ Below w.heap.size w w' := by
  go_enter Try.func25, Try.ntmps25
  go_wp2_with fail
  refine (l14Hours_calls _ _ _ _ _ hr hn).mono ?_
  rintro e w1 ⟨rfl, b1⟩
  cases hh : hoursB xs
  · have Hh := hd hh
    clear hh
    go_wp2_with fail
    go_ret2
    exact ⟨ret_ints (by simp [countSw, Hh.out]) (by simp [countSw, Hh.out]), b1⟩
  · have Hh := hd hh
    clear hh
    go_wp2_with fail
    refine (l14Switches_calls _ _ _ _ _ (hr.below b1) hn).mono ?_
    rintro e w2 ⟨rfl, b2⟩
    go_wp2_with fail
    go_ret2
    exact ⟨ret_ints (by simp [countSw, Hh.out]) (by simp [countSw, Hh.out]), bnext b1 b2 (Nat.le_refl _)⟩
end Go.Proofs.Ytppkljhnmifilaa
