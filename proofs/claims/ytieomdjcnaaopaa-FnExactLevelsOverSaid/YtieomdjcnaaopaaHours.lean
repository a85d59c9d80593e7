/- Lists of hours: range, counts. -/
import Derived.Test.YtieomdjcnaaopaaTyHour
import Derived.Test.YtieomdjcnaaopaaIdx
namespace Go.Proofs.Ytieomdjcnaaopaa
open Go.RowKit
set_option linter.unusedVariables false

def hoursB (xs : List (Int × Bool)) : Bool := decide (xs.length ≤ 200) && xs.all (fun x => lvB x.1)
theorem hoursB_len {xs : List (Int × Bool)} (h : hoursB xs = true) : xs.length ≤ 200 := by simp [hoursB] at h; exact h.1


/-- How often a pump is switched, and whether it ran last. -/
def swS (s : Int × Bool) (h : Int × Bool) : Int × Bool := (if h.2 = s.2 then s.1 else s.1 + 1, h.2)
def swF (xs : List (Int × Bool)) : Int × Bool := xs.foldl swS (0, false)
theorem swF_next {xs : List (Int × Bool)} {k : Nat} {x : Int × Bool} (h : xs[k]? = some x) : swF (xs.take (k + 1)) = swS (swF (xs.take k)) x := by
  rw [take_next h]; unfold swF; rw [List.foldl_append]; rfl
theorem swF_bd (xs : List (Int × Bool)) (k : Nat) : 0 ≤ (swF (xs.take k)).1 ∧ (swF (xs.take k)).1 ≤ k := by
  induction k with
  | zero => simp [swF]
  | succ k ih =>
    by_cases hk : k < xs.length
    · rw [swF_next (List.getElem?_eq_getElem hk)]
      unfold swS
      split <;> simp <;> omega
    · rw [List.take_of_length_le (by omega)] at ih ⊢
      omega
def swN (xs : List (Int × Bool)) : Int := (swF xs).1
theorem switches_calls (a : Option Addr) (n c : Nat) (xs : List (Int × Bool)) (w : World) (hr : RdHour w a n xs) (hn : n ≤ 1048576) :
    Calls Try.prog 111 #[.slice a n c] w fun e w' => e = .returned (.int .i64 (swN xs)) ∧ Below w.heap.size w w' := by
  have Hl := hd hr.len
  go_enter Try.func111, Try.ntmps111
  go_wp2_with fail
  go_loopw [3, 4, 9] (fun s l i wr => ∃ k : Nat, ∃ q : Int, ∃ r : Bool, k ≤ n ∧ i = .int .i64 k ∧ s = .int .i64 q ∧ l = .bool r ∧ swF (xs.take k) = (q, r) ∧ Below w.heap.size w wr) (fun _ _ i _ => n - (intOf i).toNat)
  case atStart => exact ⟨0, 0, false, Nat.zero_le _, rfl, rfl, rfl, rfl, Below.refl _ _⟩
  case round =>
    obtain ⟨k, q, r, hk, rfl, rfl, rfl, hall, hb⟩ := hrel
    have hq := swF_bd xs k
    rw [hall] at hq
    have hq0 : 0 ≤ q := hq.1
    have hq1 : q ≤ k := hq.2
    have Ha := hd hall
    clear hall hq
    by_cases hlt : k < n
    · obtain ⟨b, o, f0, f1, rfl, hbl, hx, hc0, hc1⟩ := getHour (hr.below hb) hlt
      have Hx := hd hx
      clear hx
      cases f1 <;> cases r
      all_goals
        go_wp2_with fail
        go_roundw
        case rel => exact ⟨k + 1, _, _, by omega, by go_num, rfl, rfl, by rw [swF_next Hx.out, Ha.out]; simp [swS], hb.alloc hb.size _⟩
        case measure => simp [intOf]; omega
    · go_wp2_with fail
      go_ret
      exact ⟨ret_int (by unfold swN; rw [← List.take_of_length_le (l := xs) (i := k) (by rw [Hl.out]; omega), Ha.out]), hb⟩
theorem l14Switches_calls (a : Option Addr) (n c : Nat) (xs : List (Int × Bool)) (w : World) (hr : RdHour w a n xs) (hn : n ≤ 1048576) :
    Calls Try.prog 110 #[.slice a n c] w fun e w' => e = .returned (.int .i64 (swN xs)) ∧ Below w.heap.size w w' := by
  have Hl := hd hr.len
  go_enter Try.func110, Try.ntmps110
  go_wp2_with fail
  go_loopw [3, 4, 5] (fun s l i wr => ∃ k : Nat, ∃ q : Int, ∃ r : Bool, k ≤ n ∧ i = .int .i64 k ∧ s = .int .i64 q ∧ l = .bool r ∧ swF (xs.take k) = (q, r) ∧ Below w.heap.size w wr) (fun _ _ i _ => n - (intOf i).toNat)
  case atStart => exact ⟨0, 0, false, Nat.zero_le _, rfl, rfl, rfl, rfl, Below.refl _ _⟩
  case round =>
    obtain ⟨k, q, r, hk, rfl, rfl, rfl, hall, hb⟩ := hrel
    have hq := swF_bd xs k
    rw [hall] at hq
    have hq0 : 0 ≤ q := hq.1
    have hq1 : q ≤ k := hq.2
    have Ha := hd hall
    clear hall hq
    by_cases hlt : k < n
    · obtain ⟨b, o, f0, f1, rfl, hbl, hx, hc0, hc1⟩ := getHour (hr.below hb) hlt
      have Hx := hd hx
      clear hx
      cases f1 <;> cases r
      all_goals
        go_wp2_with fail
        go_roundw
        case rel => exact ⟨k + 1, _, _, by omega, by go_num, rfl, rfl, by rw [swF_next Hx.out, Ha.out]; simp [swS], hb⟩
        case measure => simp [intOf]; omega
    · go_wp2_with fail
      go_ret
      exact ⟨ret_int (by unfold swN; rw [← List.take_of_length_le (l := xs) (i := k) (by rw [Hl.out]; omega), Ha.out]), hb⟩
/-- What CountSwitches answers. -/
def countSw (xs : List (Int × Bool)) : Int × Int := if hoursB xs then (swN xs, 0) else (0, 2)
end Go.Proofs.Ytieomdjcnaaopaa
