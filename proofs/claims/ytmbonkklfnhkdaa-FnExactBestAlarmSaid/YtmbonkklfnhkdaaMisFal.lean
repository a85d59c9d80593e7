/- MissedAndFalse. -/
import Derived.Test.YtmbonkklfnhkdaaPast
namespace Go.Proofs.Ytmbonkklfnhkdaa
open Go.RowKit
set_option linter.unusedVariables false

theorem ret_ints3 {a b c a' b' c' : Int} (h1 : a = a') (h2 : b = b') (h3 : c = c') : Ending.returned (.tuple #[.int .i64 a, .int .i64 b, .int .i64 c]) = .returned (.tuple #[.int .i64 a', .int .i64 b', .int .i64 c']) := by rw [h1, h2, h3]
def misFal (xs : List P2) (al : Int) : Int × Int × Int := if casesB xs && lvB al then ((misN xs al : Nat), (wroN xs al : Nat), 0) else (0, 0, 2)
theorem areCases1_calls (f0 : Int) (f1 : Bool) (w : World) : Calls Try.prog 76 #[.agg #[.int .i64 f0, .bool f1]] w fun e w' => e = .returned (.bool (lvB f0)) ∧ Below w.heap.size w w' := by
  go_enter Try.func76, Try.ntmps76
  go_wp2_with (go_at_call 53; refine (ValidLevel_calls _ _).mono ?_; rintro e w' ⟨rfl, rfl⟩)
  go_ret
  exact ⟨rfl, by go_grown⟩
theorem areCases_calls (a : Option Addr) (n c : Nat) (xs : List P2) (w : World) (ha : RdPast w a n xs) (hn : n ≤ 1048576) :
    Calls Try.prog 52 #[.slice a n c] w fun e w' => e = .returned (.bool (casesB xs)) ∧ Below w.heap.size w w' := by
  have he1 := ent Try.func76 (by kernel_rfl) rfl
  have Ha := hd ha.len
  by_cases h : n ≤ 60
  · go_enter Try.func52, Try.ntmps52
    go_wp2_with fail
    refine (allPast_calls 76 #[] (fun x => lvB x.1) _ _ _ xs _ ha (by omega) he1 (fun f0 f1 W _ => by rw [Array.append_empty]; exact areCases1_calls f0 f1 W)).mono ?_
    rintro e w1 ⟨rfl, b1⟩
    go_wp2_with fail
    go_ret
    exact ⟨ret_bool (by unfold casesB; rw [Ha.out, decide_eq_true h, Bool.and_true]), b1⟩
  · go_enter Try.func52, Try.ntmps52
    go_wp2_with fail
    go_ret
    exact ⟨ret_bool (by unfold casesB; rw [Ha.out, decide_eq_false h, Bool.and_false]), Below.refl _ _⟩
theorem l16Cases_calls (a : Option Addr) (n c : Nat) (xs : List P2) (w : World) (ha : RdPast w a n xs) (hn : n ≤ 1048576) :
    Calls Try.prog 49 #[.slice a n c] w fun e w' => e = .returned (.bool (casesB xs)) ∧ Below w.heap.size w w' := by
  have Ha := hd ha.len
  go_enter Try.func49, Try.ntmps49
  go_wp2_with fail
  go_loopw [3] (fun i wr => ∃ k : Nat, k ≤ n ∧ i = .int .i64 k ∧ (xs.take k).all (fun x => lvB x.1) = true ∧ Below w.heap.size w wr) (fun i _ => n - (intOf i).toNat)
  case atStart => exact ⟨0, Nat.zero_le _, rfl, rfl, Below.refl _ _⟩
  case round =>
    obtain ⟨k, hk, rfl, hp, hb'⟩ := hrel
    have Hp := hd hp
    clear hp
    by_cases hlt : k < n
    · obtain ⟨b1, o1, f0, f1, rfl, hbl, hx, hc0, hc1⟩ := getPast (ha.below hb') hlt
      have Hx := hd hx
      clear hx
      cases h3 : lvB f0
      · have H3 := hd h3
        go_wp2_with (go_at_call 45; refine (l02Level_calls _ _).mono ?_; rintro e w' ⟨rfl, rfl⟩)
        go_ret
        exact ⟨ret_bool (by unfold casesB; rw [all_stop' Hx.out H3.out]; rfl), hb'⟩
      · have H3 := hd h3
        go_wp2_with (go_at_call 45; refine (l02Level_calls _ _).mono ?_; rintro e w' ⟨rfl, rfl⟩)
        go_roundw
        case rel => exact ⟨k + 1, by omega, by go_num, all_take_next Hx.out H3.out Hp.out, hb'⟩
        case measure => simp [intOf]; omega
    · have e1 := all_take_done (by rw [Ha.out]; omega) Hp.out
      have E1 := hd e1
      clear e1
      go_wp2_with fail
      go_ret
      exact ⟨ret_bool (by unfold casesB; rw [E1.out, Ha.out, Bool.true_and]; exact decide_eq_decide.2 (by omega)), hb'⟩
theorem MissedAndFalse_calls (a : Option Addr) (n c : Nat) (xs : List P2) (al : Int) (w : World) (ha : RdPast w a n xs) (hn : n ≤ 1048576) :
    Calls Try.prog 24 #[.slice a n c, .int .i64 al] w fun e w' => e = .returned (.tuple #[.int .i64 (misFal xs al).1, .int .i64 (misFal xs al).2.1, .int .i64 (misFal xs al).2.2]) ∧ Below w.heap.size w w' := by
  go_enter Try.func24, Try.ntmps24
  go_wp2_with fail
  refine (areCases_calls _ _ _ xs _ ha hn).mono ?_
  rintro e w1 ⟨rfl, b1⟩
  cases hv : casesB xs
  · have K : Hid (misFal xs al = (0, 0, 2)) := hd (by simp [misFal, hv])
    clear hv
    go_wp2_with fail
    go_ret3
    exact ⟨ret_ints3 (by rw [K.out]) (by rw [K.out]) (by rw [K.out]), b1⟩
  · cases hl : lvB al
    · have K : Hid (misFal xs al = (0, 0, 2)) := hd (by simp [misFal, hl])
      clear hv
      go_wp2_with (go_at_call 53; refine (ValidLevel_calls _ _).mono ?_; rintro e w' ⟨rfl, rfl⟩)
      go_ret3
      exact ⟨ret_ints3 (by rw [K.out]) (by rw [K.out]) (by rw [K.out]), b1⟩
    · have K : Hid (misFal xs al = (((misN xs al : Nat) : Int), ((wroN xs al : Nat) : Int), 0)) := hd (by simp [misFal, hl, hv])
      clear hv
      go_wp2_with (go_at_call 53; refine (ValidLevel_calls _ _).mono ?_; rintro e w' ⟨rfl, rfl⟩)
      refine (missed_calls _ _ _ xs al _ (ha.below b1) hn).mono ?_
      rintro e w2 ⟨rfl, b2⟩
      go_wp2_with fail
      go_ret3
      exact ⟨ret_ints3 (by rw [K.out]) (by rw [K.out]) (by rw [K.out]), bnext b1 b2 (Nat.le_refl _)⟩
theorem specMissedAndFalse_calls (a : Option Addr) (n c : Nat) (xs : List P2) (al : Int) (w : World) (ha : RdPast w a n xs) (hn : n ≤ 1048576) :
    Calls Try.prog 22 #[.slice a n c, .int .i64 al] w fun e w' => e = .returned (.tuple #[.int .i64 (misFal xs al).1, .int .i64 (misFal xs al).2.1, .int .i64 (misFal xs al).2.2]) ∧ Below w.heap.size w w' := by
  go_enter Try.func22, Try.ntmps22
  go_wp2_with fail
  refine (l16Cases_calls _ _ _ xs _ ha hn).mono ?_
  rintro e w1 ⟨rfl, b1⟩
  cases hv : casesB xs
  · have K : Hid (misFal xs al = (0, 0, 2)) := hd (by simp [misFal, hv])
    clear hv
    go_wp2_with fail
    go_ret3
    exact ⟨ret_ints3 (by rw [K.out]) (by rw [K.out]) (by rw [K.out]), b1⟩
  · cases hl : lvB al
    · have K : Hid (misFal xs al = (0, 0, 2)) := hd (by simp [misFal, hl])
      clear hv
      go_wp2_with (go_at_call 45; refine (l02Level_calls _ _).mono ?_; rintro e w' ⟨rfl, rfl⟩)
      go_ret3
      exact ⟨ret_ints3 (by rw [K.out]) (by rw [K.out]) (by rw [K.out]), b1⟩
    · have K : Hid (misFal xs al = (((misN xs al : Nat) : Int), ((wroN xs al : Nat) : Int), 0)) := hd (by simp [misFal, hl, hv])
      clear hv
      go_wp2_with (go_at_call 45; refine (l02Level_calls _ _).mono ?_; rintro e w' ⟨rfl, rfl⟩)
      refine (l16Count_calls _ _ _ xs al _ (ha.below b1) hn).mono ?_
      rintro e w2 ⟨rfl, b2⟩
      go_wp2_with fail
      go_ret3
      exact ⟨ret_ints3 (by rw [K.out]) (by rw [K.out]) (by rw [K.out]), bnext b1 b2 (Nat.le_refl _)⟩
end Go.Proofs.Ytmbonkklfnhkdaa
