/- Rising numbers within bounds. -/
import Derived.Test.YtieomdjcnaaopaaLev
import Derived.Deep.QuietTactic
import Derived.BigQuiet
import Derived.IntWalk
namespace Go.Proofs.Ytieomdjcnaaopaa
open Go.RowKit
set_option linter.unusedVariables false

def okAt (xs : List Int) (lo hi : Int) (i : Nat) : Bool := inB (xs.getD i 0) lo hi && (i == 0 || decide (xs.getD (i - 1) 0 < xs.getD i 0))
def risesB (xs : List Int) (lo hi : Int) : Bool := (List.range xs.length).all (okAt xs lo hi)
theorem rises_stop {xs : List Int} {lo hi : Int} {k : Nat} (hk : k < xs.length) (h : okAt xs lo hi k = false) : risesB xs lo hi = false := by
  apply Bool.eq_false_iff.2
  intro h2
  have := List.all_eq_true.1 h2 k (List.mem_range.2 hk)
  rw [h] at this
  cases this
theorem rises_next {xs : List Int} {lo hi : Int} {k : Nat} (h : (List.range k).all (okAt xs lo hi) = true) (h2 : okAt xs lo hi k = true) : (List.range (k + 1)).all (okAt xs lo hi) = true := by
  rw [List.range_succ, List.all_append, h]
  simp [h2]
theorem getD_of {xs : List Int} {k : Nat} {x : Int} (h : xs[k]? = some x) : xs.getD k 0 = x := by simp [List.getD, h]
theorem okAt_in {xs : List Int} {lo hi : Int} {k : Nat} {x : Int} (h : xs[k]? = some x) (h2 : inB x lo hi = false) : okAt xs lo hi k = false := by
  unfold okAt; rw [getD_of h, h2]; rfl
theorem okAt_zero {xs : List Int} {lo hi : Int} {x : Int} (h : xs[0]? = some x) (h2 : inB x lo hi = true) : okAt xs lo hi 0 = true := by
  unfold okAt; rw [getD_of h, h2]; rfl
theorem okAt_succ {xs : List Int} {lo hi : Int} {k : Nat} {x y : Int} (h : xs[k]? = some x) (hy : xs[k + 1]? = some y) (h2 : inB y lo hi = true) : okAt xs lo hi (k + 1) = decide (x < y) := by
  unfold okAt; rw [getD_of hy, h2, Nat.add_sub_cancel, getD_of h]; simp
theorem rises_calls (a : Option Addr) (n c : Nat) (xs : List Int) (lo hi : Int) (w : World) (ha : RdInt64 w a n xs) (hn : n ≤ 1048576) :
    Calls Try.prog 137 #[.slice a n c, .int .i64 lo, .int .i64 hi] w fun e w' => e = .returned (.bool (risesB xs lo hi)) ∧ Below w.heap.size w w' := by
  have Ha := hd ha.len
  go_enter Try.func137, Try.ntmps137
  go_wp2_with fail
  go_loopw [11] (fun i wr => ∃ k : Nat, k ≤ n ∧ i = .int .i64 k ∧ (List.range k).all (okAt xs lo hi) = true ∧ Below w.heap.size w wr) (fun i _ => n - (intOf i).toNat)
  case atStart => exact ⟨0, Nat.zero_le _, rfl, rfl, Below.refl _ _⟩
  case round =>
    obtain ⟨k, hk, rfl, hp, hb'⟩ := hrel
    have Hp := hd hp
    clear hp
    by_cases hlt : k < n
    · obtain ⟨b1, o1, f0, rfl, hbl, hx, hc0⟩ := getInt64 (ha.below hb') hlt
      have Hx := hd hx
      clear hx
      cases h3 : inB f0 lo hi
      · have H3 := hd h3
        go_wp2_with (go_at_call 125; refine (in_calls _ _ _ _).mono ?_; rintro e w' ⟨rfl, rfl⟩)
        go_ret
        exact ⟨ret_bool (by rw [rises_stop (by rw [Ha.out]; exact hlt) (okAt_in Hx.out H3.out)]), hb'⟩
      · have H3 := hd h3
        cases k with
        | zero =>
          simp only [Nat.add_zero] at hc0
          go_wp2_with (go_at_call 125; refine (in_calls _ _ _ _).mono ?_; rintro e w' ⟨rfl, rfl⟩)
          go_roundw
          case rel => exact ⟨0 + 1, by omega, by go_num, rises_next Hp.out (okAt_zero Hx.out H3.out), hb'⟩
          case measure => simp [intOf]; omega
        | succ j =>
          obtain ⟨b2, o2, g0, hab, hbl2, hy, hc1⟩ := getInt64 (ha.below hb') (show j < n by omega)
          obtain ⟨rfl, rfl⟩ : b1 = b2 ∧ o1 = o2 := by simpa using hab
          have hok := okAt_succ hy Hx.out H3.out
          have Hok := hd hok
          clear hy hab hok
          have j1 : ((j + 1 : Nat) : Int) - 1 = (j : Int) := by omega
          by_cases hg : g0 < f0
          · go_wp2_with (go_at_call 125; refine (in_calls _ _ _ _).mono ?_; rintro e w' ⟨rfl, rfl⟩)
            go_roundw
            case rel => exact ⟨j + 1 + 1, by omega, by go_num, rises_next Hp.out (by rw [Hok.out]; simpa using hg), hb'⟩
            case measure => simp [intOf]; omega
          · go_wp2_with (go_at_call 125; refine (in_calls _ _ _ _).mono ?_; rintro e w' ⟨rfl, rfl⟩)
            go_ret
            exact ⟨ret_bool (by rw [rises_stop (by rw [Ha.out]; exact hlt) (by rw [Hok.out]; simp; omega)]), hb'⟩
    · obtain rfl : k = n := by omega
      go_wp2_with fail
      go_ret
      exact ⟨ret_bool (by unfold risesB; rw [Ha.out, Hp.out]), hb'⟩
theorem l00Rises_calls (a : Option Addr) (n c : Nat) (xs : List Int) (lo hi : Int) (w : World) (ha : RdInt64 w a n xs) (hn : n ≤ 1048576) :
    Calls Try.prog 143 #[.slice a n c, .int .i64 lo, .int .i64 hi] w fun e w' => e = .returned (.bool (risesB xs lo hi)) ∧ Below w.heap.size w w' := by
  have Ha := hd ha.len
  go_enter Try.func143, Try.ntmps143
  go_wp2_with fail
  go_loopw [7] (fun i wr => ∃ k : Nat, k ≤ n ∧ i = .int .i64 k ∧ (List.range k).all (okAt xs lo hi) = true ∧ Below w.heap.size w wr) (fun i _ => n - (intOf i).toNat)
  case atStart => exact ⟨0, Nat.zero_le _, rfl, rfl, Below.refl _ _⟩
  case round =>
    obtain ⟨k, hk, rfl, hp, hb'⟩ := hrel
    have Hp := hd hp
    clear hp
    by_cases hlt : k < n
    · obtain ⟨b1, o1, f0, rfl, hbl, hx, hc0⟩ := getInt64 (ha.below hb') hlt
      have Hx := hd hx
      clear hx
      have i0 : (0 : Int) ≤ (k : Int) := by omega
      have i1 : (k : Int) < (n : Int) := by omega
      cases h3 : inB f0 lo hi
      · have H3 := hd h3
        go_wp2_with fail
        go_quiet ((go_at_call 121; exact Calls.quiet_of_same ((l00In_calls _ _ _ _).mono (fun _ _ h => ⟨h.1, h.2.symm⟩))))
        go_wp2_with fail
        go_ret
        exact ⟨ret_bool (by rw [rises_stop (by rw [Ha.out]; exact hlt) (okAt_in Hx.out H3.out)]), bdrewN hb' _⟩
      · have H3 := hd h3
        cases k with
        | zero =>
          simp only [Nat.add_zero] at hc0
          go_wp2_with fail
          go_quiet ((go_at_call 121; exact Calls.quiet_of_same ((l00In_calls _ _ _ _).mono (fun _ _ h => ⟨h.1, h.2.symm⟩))))
          go_wp2_with fail
          go_roundw
          case rel => exact ⟨0 + 1, by omega, by go_num, rises_next Hp.out (okAt_zero Hx.out H3.out), bdrewN hb' _⟩
          case measure => simp [intOf]; omega
        | succ j =>
          obtain ⟨b2, o2, g0, hab, hbl2, hy, hc1⟩ := getInt64 (ha.below hb') (show j < n by omega)
          obtain ⟨rfl, rfl⟩ : b1 = b2 ∧ o1 = o2 := by simpa using hab
          have hok := okAt_succ hy Hx.out H3.out
          have Hok := hd hok
          clear hy hab hok
          have j0 : (0 : Int) < ((j + 1 : Nat) : Int) := by omega
          have j1 : ((j + 1 : Nat) : Int) - 1 = (j : Int) := by omega
          have j2 : IntKind.i64.wrap (((j + 1 : Nat) : Int) - 1) = (j : Int) := by rw [IntWalk.i64_in _ (by omega)]; omega
          by_cases hg : g0 < f0
          · go_wp2_with fail
            go_quiet ((go_at_call 121; exact Calls.quiet_of_same ((l00In_calls _ _ _ _).mono (fun _ _ h => ⟨h.1, h.2.symm⟩))))
            go_wp2_with fail
            go_roundw
            case rel => exact ⟨j + 1 + 1, by omega, by go_num, rises_next Hp.out (by rw [Hok.out]; simpa using hg), bdrewN hb' _⟩
            case measure => simp [intOf]; omega
          · go_wp2_with fail
            go_quiet ((go_at_call 121; exact Calls.quiet_of_same ((l00In_calls _ _ _ _).mono (fun _ _ h => ⟨h.1, h.2.symm⟩))))
            go_wp2_with fail
            go_ret
            exact ⟨ret_bool (by rw [rises_stop (by rw [Ha.out]; exact hlt) (by rw [Hok.out]; simp; omega)]), bdrewN hb' _⟩
    · obtain rfl : k = n := by omega
      go_wp2_with fail
      go_ret
      exact ⟨ret_bool (by unfold risesB; rw [Ha.out, Hp.out]), hb'⟩
end Go.Proofs.Ytieomdjcnaaopaa
