/- The law on ShiftForecast, walked out of the contracts of what it calls. -/
import Derived.Test.YtmbonkklfnhkdaaShift
namespace Go.Proofs.Ytmbonkklfnhkdaa
open Go.RowKit
set_option linter.unusedVariables false

set_option maxHeartbeats 2000000 in
theorem FnExactShiftForecast_calls (aaForecast : Option Addr) (naForecast caForecast : Nat) (xaForecast : List (Int)) (aaSeen : Option Addr) (naSeen caSeen : Nat) (xaSeen : List (Int)) (aaNext : Option Addr) (naNext caNext : Nat) (xaNext : List (Int)) (w : World)
    (raForecast : RdInt64 w aaForecast naForecast xaForecast) (_laForecast : naForecast ≤ caForecast) (_maForecast : caForecast ≤ maxLen) (_oaForecast : ∀ z ∈ xaForecast, OkInt64 z) (raSeen : RdInt64 w aaSeen naSeen xaSeen) (_laSeen : naSeen ≤ caSeen) (_maSeen : caSeen ≤ maxLen) (_oaSeen : ∀ z ∈ xaSeen, OkInt64 z) (raNext : RdInt64 w aaNext naNext xaNext) (_laNext : naNext ≤ caNext) (_maNext : caNext ≤ maxLen) (_oaNext : ∀ z ∈ xaNext, OkInt64 z) :
    Calls Try.prog 9 #[.slice aaForecast naForecast caForecast, .slice aaSeen naSeen caSeen, .slice aaNext naNext caNext] w fun e w' => e = .returned (.bool true) ∧ Below w.heap.size w w' := by
  by_cases haForecast : naForecast ≤ 1048576
  case neg =>
    have haForecast' : (1048576 : Int) < naForecast := by omega
    have _zaForecast := _maForecast
    unfold maxLen at _zaForecast
    go_enter Try.func9, Try.ntmps9
    go_wp2
    go_ret
    exact ⟨rfl, (Below.refl _ _)⟩
  by_cases haSeen : naSeen ≤ 1048576
  case neg =>
    have haSeen' : (1048576 : Int) < naSeen := by omega
    have _zaSeen := _maSeen
    unfold maxLen at _zaSeen
    go_enter Try.func9, Try.ntmps9
    go_wp2
    go_ret
    exact ⟨rfl, (Below.refl _ _)⟩
  by_cases haNext : naNext ≤ 1048576
  case neg =>
    have haNext' : (1048576 : Int) < naNext := by omega
    have _zaNext := _maNext
    unfold maxLen at _zaNext
    go_enter Try.func9, Try.ntmps9
    go_wp2
    go_ret
    exact ⟨rfl, (Below.refl _ _)⟩
  go_enter Try.func9, Try.ntmps9
  go_wp2_with fail
  refine (toInt64S_calls _ _ _ _ _ raForecast haForecast).mono ?_
  rintro e w1 ⟨A1, rfl, o1, b1⟩
  have c1 := b1
  have d1 := b1
  have s1 := b1.size
  clear b1
  go_wp2_with fail
  refine (toInt64S_calls _ _ _ _ _ (raSeen.below d1) haSeen).mono ?_
  rintro e w2 ⟨A2, rfl, o2, b2⟩
  have c2 := bnext c1 b2 (Nat.le_refl _)
  have d2 := c2
  have s2 := b2.size
  replace o1 := o1.below b2
  clear d1
  clear c1
  clear b2
  go_wp2_with fail
  refine (toInt64S_calls _ _ _ _ _ (raNext.below d2) haNext).mono ?_
  rintro e w3 ⟨A3, rfl, o3, b3⟩
  have c3 := bnext c2 b3 (Nat.le_refl _)
  have d3 := c3
  have s3 := b3.size
  replace o1 := o1.below b3
  replace o2 := o2.below b3
  clear d2
  clear c2
  clear b3
  go_wp2_with fail
  refine (specShiftForecast_calls _ _ _ _ _ _ _ _ _ _ _ _ _ (o1.rd len_cInt64) haForecast (o2.rd len_cInt64) haSeen (o3.rd len_cInt64) haNext).mono ?_
  rintro e w4 ⟨A4w0, n4w0, q4w0, rfl, o4w0, h4w0, b4⟩
  clear o1
  clear o2
  clear o3
  have c4 := bnext c3 b4 (Nat.le_refl _)
  have d4 := c4
  have s4 := b4.size
  clear d3
  clear c3
  clear b4
  go_wp2_with fail
  refine (toInt64S_calls _ _ _ _ _ (raForecast.below d4) haForecast).mono ?_
  rintro e w5 ⟨A5, rfl, o5, b5⟩
  have c5 := bnext c4 b5 (Nat.le_refl _)
  have d5 := c5
  have s5 := b5.size
  replace o4w0 := o4w0.below b5
  clear d4
  clear c4
  clear b5
  go_wp2_with fail
  refine (toInt64S_calls _ _ _ _ _ (raSeen.below d5) haSeen).mono ?_
  rintro e w6 ⟨A6, rfl, o6, b6⟩
  have c6 := bnext c5 b6 (Nat.le_refl _)
  have d6 := c6
  have s6 := b6.size
  replace o4w0 := o4w0.below b6
  replace o5 := o5.below b6
  clear d5
  clear c5
  clear b6
  go_wp2_with fail
  refine (toInt64S_calls _ _ _ _ _ (raNext.below d6) haNext).mono ?_
  rintro e w7 ⟨A7, rfl, o7, b7⟩
  have c7 := bnext c6 b7 (Nat.le_refl _)
  have d7 := c7
  have s7 := b7.size
  replace o4w0 := o4w0.below b7
  replace o5 := o5.below b7
  replace o6 := o6.below b7
  clear d6
  clear c6
  clear b7
  go_wp2_with fail
  refine (ShiftForecast_calls _ _ _ _ _ _ _ _ _ _ _ _ _ (o5.rd len_cInt64) haForecast (o6.rd len_cInt64) haSeen (o7.rd len_cInt64) haNext).mono ?_
  rintro e w8 ⟨A8g0, n8g0, q8g0, rfl, o8g0, h8g0, b8⟩
  have c8 := bnext c7 b8 (Nat.le_refl _)
  have d8 := c8
  have s8 := b8.size
  replace o4w0 := o4w0.below b8
  replace o5 := o5.below b8
  replace o6 := o6.below b8
  replace o7 := o7.below b8
  clear d7
  clear c7
  clear b8
  go_wp2_with fail
  refine (eqInt64S_calls _ _ _ _ _ _ _ _ _ (o8g0.rd len_cInt64) (o4w0.rd len_cInt64) h8g0 h4w0).mono ?_
  rintro e w9 ⟨rfl, b9⟩
  have c9 := bnext c8 b9 (Nat.le_refl _)
  have d9 := c9
  have s9 := b9.size
  replace o4w0 := o4w0.below b9
  replace o5 := o5.below b9
  replace o6 := o6.below b9
  replace o7 := o7.below b9
  replace o8g0 := o8g0.below b9
  clear d8
  clear c8
  clear b9
  go_wp2_with fail
  refine (toInt64S_calls _ _ _ _ _ (raForecast.below d9) haForecast).mono ?_
  rintro e w10 ⟨A10, rfl, o10, b10⟩
  have c10 := bnext c9 b10 (Nat.le_refl _)
  have d10 := c10
  have s10 := b10.size
  replace o4w0 := o4w0.below b10
  replace o5 := o5.below b10
  replace o6 := o6.below b10
  replace o7 := o7.below b10
  replace o8g0 := o8g0.below b10
  clear d9
  clear c9
  clear b10
  go_wp2_with fail
  refine (eqInt64S_calls _ _ _ _ _ _ _ _ _ (o5.rd len_cInt64) (o10.rd len_cInt64) haForecast haForecast).mono ?_
  rintro e w11 ⟨rfl, b11⟩
  clear o10
  have c11 := bnext c10 b11 (Nat.le_refl _)
  have d11 := c11
  have s11 := b11.size
  replace o4w0 := o4w0.below b11
  replace o5 := o5.below b11
  replace o6 := o6.below b11
  replace o7 := o7.below b11
  replace o8g0 := o8g0.below b11
  clear d10
  clear c10
  clear b11
  go_wp2_with fail
  refine (toInt64S_calls _ _ _ _ _ (raSeen.below d11) haSeen).mono ?_
  rintro e w12 ⟨A12, rfl, o12, b12⟩
  have c12 := bnext c11 b12 (Nat.le_refl _)
  have d12 := c12
  have s12 := b12.size
  replace o4w0 := o4w0.below b12
  replace o5 := o5.below b12
  replace o6 := o6.below b12
  replace o7 := o7.below b12
  replace o8g0 := o8g0.below b12
  clear d11
  clear c11
  clear b12
  go_wp2_with fail
  refine (eqInt64S_calls _ _ _ _ _ _ _ _ _ (o6.rd len_cInt64) (o12.rd len_cInt64) haSeen haSeen).mono ?_
  rintro e w13 ⟨rfl, b13⟩
  clear o12
  have c13 := bnext c12 b13 (Nat.le_refl _)
  have d13 := c13
  have s13 := b13.size
  replace o4w0 := o4w0.below b13
  replace o5 := o5.below b13
  replace o6 := o6.below b13
  replace o7 := o7.below b13
  replace o8g0 := o8g0.below b13
  clear d12
  clear c12
  clear b13
  go_wp2_with fail
  refine (toInt64S_calls _ _ _ _ _ (raNext.below d13) haNext).mono ?_
  rintro e w14 ⟨A14, rfl, o14, b14⟩
  have c14 := bnext c13 b14 (Nat.le_refl _)
  have d14 := c14
  have s14 := b14.size
  replace o4w0 := o4w0.below b14
  replace o5 := o5.below b14
  replace o6 := o6.below b14
  replace o7 := o7.below b14
  replace o8g0 := o8g0.below b14
  clear d13
  clear c13
  clear b14
  go_wp2_with fail
  refine (eqInt64S_calls _ _ _ _ _ _ _ _ _ (o7.rd len_cInt64) (o14.rd len_cInt64) haNext haNext).mono ?_
  rintro e w15 ⟨rfl, b15⟩
  clear o14
  have c15 := bnext c14 b15 (Nat.le_refl _)
  have d15 := c15
  have s15 := b15.size
  replace o4w0 := o4w0.below b15
  replace o5 := o5.below b15
  replace o6 := o6.below b15
  replace o7 := o7.below b15
  replace o8g0 := o8g0.below b15
  clear d14
  clear c14
  clear b15
  go_wp2_with fail
  refine (markInt64S_calls _ _ _ _ _ _ _ _ o5 haForecast (by omega) (by omega)).mono ?_
  rintro e w16 ⟨rfl, p16, g16⟩
  have c16 := below_only c15 g16 (Nat.le_refl _) (fun g hg => by have := o5.row hg; have := c15.size; omega)
  have d16 := c16
  have s16 := g16.size
  replace o4w0 := o4w0.only g16 (fun g hg => by have := o5.row hg; omega)
  replace o6 := o6.only g16 (fun g hg => by have := o5.row hg; omega)
  replace o7 := o7.only g16 (fun g hg => by have := o5.row hg; omega)
  replace o8g0 := o8g0.only g16 (fun g hg => by have := o5.row hg; omega)
  clear o5
  clear d15
  clear c15
  clear g16
  go_wp2_with fail
  refine (markInt64S_calls _ _ _ _ _ _ _ _ o6 haSeen (by omega) (by omega)).mono ?_
  rintro e w17 ⟨rfl, p17, g17⟩
  have c17 := below_only c16 g17 (Nat.le_refl _) (fun g hg => by have := o6.row hg; have := c16.size; omega)
  have d17 := c17
  have s17 := g17.size
  replace o4w0 := o4w0.only g17 (fun g hg => by have := o6.row hg; omega)
  replace p16 := p16.only g17 (fun g hg => by have := o6.row hg; omega)
  replace o7 := o7.only g17 (fun g hg => by have := o6.row hg; omega)
  replace o8g0 := o8g0.only g17 (fun g hg => by have := o6.row hg; omega)
  clear o6
  clear d16
  clear c16
  clear g17
  go_wp2_with fail
  refine (markInt64S_calls _ _ _ _ _ _ _ _ o7 haNext (by omega) (by omega)).mono ?_
  rintro e w18 ⟨rfl, p18, g18⟩
  have c18 := below_only c17 g18 (Nat.le_refl _) (fun g hg => by have := o7.row hg; have := c17.size; omega)
  have d18 := c18
  have s18 := g18.size
  replace o4w0 := o4w0.only g18 (fun g hg => by have := o7.row hg; omega)
  replace p16 := p16.only g18 (fun g hg => by have := o7.row hg; omega)
  replace p17 := p17.only g18 (fun g hg => by have := o7.row hg; omega)
  replace o8g0 := o8g0.only g18 (fun g hg => by have := o7.row hg; omega)
  clear o7
  clear d17
  clear c17
  clear g18
  go_wp2_with fail
  refine (eqInt64S_calls _ _ _ _ _ _ _ _ _ (o8g0.rd len_cInt64) (o4w0.rd len_cInt64) h8g0 h4w0).mono ?_
  rintro e w19 ⟨rfl, b19⟩
  have c19 := bnext c18 b19 (Nat.le_refl _)
  have d19 := c19
  have s19 := b19.size
  replace o4w0 := o4w0.below b19
  replace p16 := p16.below b19
  replace p17 := p17.below b19
  replace p18 := p18.below b19
  replace o8g0 := o8g0.below b19
  clear d18
  clear c18
  clear b19
  go_wp2_with fail
  refine (markInt64S_calls _ _ _ _ _ _ _ _ o8g0 h8g0 (by omega) (by omega)).mono ?_
  rintro e w20 ⟨rfl, p20, g20⟩
  have c20 := below_only c19 g20 (Nat.le_refl _) (fun g hg => by have := o8g0.row hg; have := c19.size; omega)
  have d20 := c20
  have s20 := g20.size
  replace o4w0 := o4w0.only g20 (fun g hg => by have := o8g0.row hg; omega)
  replace p16 := p16.only g20 (fun g hg => by have := o8g0.row hg; omega)
  replace p17 := p17.only g20 (fun g hg => by have := o8g0.row hg; omega)
  replace p18 := p18.only g20 (fun g hg => by have := o8g0.row hg; omega)
  clear o8g0
  clear d19
  clear c19
  clear g20
  go_wp2_with fail
  refine (heldInt64S_calls _ _ _ _ _ (p20.rd len_cInt64) h8g0 (by omega) (by omega)).mono ?_
  rintro e w21 ⟨rfl, b21⟩
  have c21 := bnext c20 b21 (Nat.le_refl _)
  have d21 := c21
  have s21 := b21.size
  replace o4w0 := o4w0.below b21
  replace p16 := p16.below b21
  replace p17 := p17.below b21
  replace p18 := p18.below b21
  replace p20 := p20.below b21
  clear d20
  clear c20
  clear b21
  go_wp2_with fail
  refine (toInt64S_calls _ _ _ _ _ (raForecast.below d21) haForecast).mono ?_
  rintro e w22 ⟨A22, rfl, o22, b22⟩
  have c22 := bnext c21 b22 (Nat.le_refl _)
  have d22 := c22
  have s22 := b22.size
  replace o4w0 := o4w0.below b22
  replace p16 := p16.below b22
  replace p17 := p17.below b22
  replace p18 := p18.below b22
  replace p20 := p20.below b22
  clear d21
  clear c21
  clear b22
  go_wp2_with fail
  refine (toInt64S_calls _ _ _ _ _ (raSeen.below d22) haSeen).mono ?_
  rintro e w23 ⟨A23, rfl, o23, b23⟩
  have c23 := bnext c22 b23 (Nat.le_refl _)
  have d23 := c23
  have s23 := b23.size
  replace o4w0 := o4w0.below b23
  replace p16 := p16.below b23
  replace p17 := p17.below b23
  replace p18 := p18.below b23
  replace p20 := p20.below b23
  replace o22 := o22.below b23
  clear d22
  clear c22
  clear b23
  go_wp2_with fail
  refine (toInt64S_calls _ _ _ _ _ (raNext.below d23) haNext).mono ?_
  rintro e w24 ⟨A24, rfl, o24, b24⟩
  have c24 := bnext c23 b24 (Nat.le_refl _)
  have d24 := c24
  have s24 := b24.size
  replace o4w0 := o4w0.below b24
  replace p16 := p16.below b24
  replace p17 := p17.below b24
  replace p18 := p18.below b24
  replace p20 := p20.below b24
  replace o22 := o22.below b24
  replace o23 := o23.below b24
  clear d23
  clear c23
  clear b24
  go_wp2_with fail
  refine (ShiftForecast_calls _ _ _ _ _ _ _ _ _ _ _ _ _ (o22.rd len_cInt64) haForecast (o23.rd len_cInt64) haSeen (o24.rd len_cInt64) haNext).mono ?_
  rintro e w25 ⟨A25h0, n25h0, q25h0, rfl, o25h0, h25h0, b25⟩
  clear o22
  clear o23
  clear o24
  have c25 := bnext c24 b25 (Nat.le_refl _)
  have d25 := c25
  have s25 := b25.size
  replace o4w0 := o4w0.below b25
  replace p16 := p16.below b25
  replace p17 := p17.below b25
  replace p18 := p18.below b25
  replace p20 := p20.below b25
  clear d24
  clear c24
  clear b25
  go_wp2_with fail
  refine (eqInt64S_calls _ _ _ _ _ _ _ _ _ (o25h0.rd len_cInt64) (o4w0.rd len_cInt64) h25h0 h4w0).mono ?_
  rintro e w26 ⟨rfl, b26⟩
  have c26 := bnext c25 b26 (Nat.le_refl _)
  have d26 := c26
  have s26 := b26.size
  replace o4w0 := o4w0.below b26
  replace p16 := p16.below b26
  replace p17 := p17.below b26
  replace p18 := p18.below b26
  replace p20 := p20.below b26
  replace o25h0 := o25h0.below b26
  clear d25
  clear c25
  clear b26
  go_wp2_with fail
  refine (heldInt64S_calls _ _ _ _ _ (p20.rd len_cInt64) h8g0 (by omega) (by omega)).mono ?_
  rintro e w27 ⟨rfl, b27⟩
  have c27 := bnext c26 b27 (Nat.le_refl _)
  have d27 := c27
  have s27 := b27.size
  replace o4w0 := o4w0.below b27
  replace p16 := p16.below b27
  replace p17 := p17.below b27
  replace p18 := p18.below b27
  replace p20 := p20.below b27
  replace o25h0 := o25h0.below b27
  clear d26
  clear c26
  clear b27
  go_wp2_with fail
  go_ret
  exact ⟨rfl, d27⟩
end Go.Proofs.Ytmbonkklfnhkdaa
