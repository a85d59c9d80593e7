/- Levels of alarms. -/
import Derived.Test.YtmbonkklfnhkdaaRises
import Derived.Test.YtmbonkklfnhkdaaIdx
namespace Go.Proofs.Ytmbonkklfnhkdaa
open Go.RowKit
set_option linter.unusedVariables false

def alarmsB (xs : List Int) : Bool := inB xs.length 1 5 && risesB xs (-2000) 2000
theorem ValidAlarms_calls (a : Option Addr) (n c : Nat) (xs : List Int) (w : World) (ha : RdInt64 w a n xs) (hn : n ≤ 1048576) :
    Calls Try.prog 13 #[.slice a n c] w fun e w' => e = .returned (.bool (alarmsB xs)) ∧ Below w.heap.size w w' := by
  have Ha := hd ha.len
  cases h : inB (n : Int) 1 5
  · have H : Hid (alarmsB xs = false) := hd (by unfold alarmsB; rw [ha.len, h]; rfl)
    go_enter Try.func13, Try.ntmps13
    go_wp2_with (first | (go_at_call 39; refine (sizeInt64_calls _ _ _ _ (by omega)).mono ?_; rintro e w' ⟨rfl, rfl⟩) | (go_at_call 38; refine (in_calls _ _ _ _).mono ?_; rintro e w' ⟨rfl, rfl⟩))
    go_ret
    exact ⟨ret_bool (by rw [H.out]), Below.refl _ _⟩
  · have H : Hid (alarmsB xs = risesB xs (-2000) 2000) := hd (by unfold alarmsB; rw [ha.len, h]; rfl)
    go_enter Try.func13, Try.ntmps13
    go_wp2_with (first | (go_at_call 39; refine (sizeInt64_calls _ _ _ _ (by omega)).mono ?_; rintro e w' ⟨rfl, rfl⟩) | (go_at_call 38; refine (in_calls _ _ _ _).mono ?_; rintro e w' ⟨rfl, rfl⟩))
    refine (rises_calls _ _ _ xs _ _ _ ha hn).mono ?_
    rintro e w1 ⟨rfl, b1⟩
    go_wp2_with fail
    go_ret
    exact ⟨ret_bool (by rw [H.out]), b1⟩
theorem l16Ok_calls (a : Option Addr) (n c : Nat) (xs : List Int) (w : World) (ha : RdInt64 w a n xs) (hn : n ≤ 1048576) :
    Calls Try.prog 37 #[.slice a n c] w fun e w' => e = .returned (.bool (alarmsB xs)) ∧ Below w.heap.size w w' := by
  have Ha := hd ha.len
  cases h : inB (n : Int) 1 5
  · have H : Hid (alarmsB xs = false) := hd (by unfold alarmsB; rw [ha.len, h]; rfl)
    go_enter Try.func37, Try.ntmps37
    go_wp2_with (go_at_call 56; refine (l00In_calls _ _ _ _).mono ?_; rintro e w' ⟨rfl, rfl⟩)
    go_ret
    exact ⟨ret_bool (by rw [H.out]), Below.refl _ _⟩
  · have H : Hid (alarmsB xs = risesB xs (-2000) 2000) := hd (by unfold alarmsB; rw [ha.len, h]; rfl)
    go_enter Try.func37, Try.ntmps37
    go_wp2_with (go_at_call 56; refine (l00In_calls _ _ _ _).mono ?_; rintro e w' ⟨rfl, rfl⟩)
    refine (l00Rises_calls _ _ _ xs _ _ _ ha hn).mono ?_
    rintro e w1 ⟨rfl, b1⟩
    go_wp2_with fail
    go_ret
    exact ⟨ret_bool (by rw [H.out]), b1⟩
theorem specValidAlarms_calls (a : Option Addr) (n c : Nat) (xs : List Int) (w : World) (ha : RdInt64 w a n xs) (hn : n ≤ 1048576) :
    Calls Try.prog 11 #[.slice a n c] w fun e w' => e = .returned (.bool (alarmsB xs)) ∧ Below w.heap.size w w' := by
  go_enter Try.func11, Try.ntmps11
  go_wp2_with fail
  refine (l16Ok_calls _ _ _ xs _ ha hn).mono ?_
  rintro e w1 ⟨rfl, b1⟩
  go_wp2_with fail
  go_ret
  exact ⟨rfl, b1⟩
end Go.Proofs.Ytmbonkklfnhkdaa
