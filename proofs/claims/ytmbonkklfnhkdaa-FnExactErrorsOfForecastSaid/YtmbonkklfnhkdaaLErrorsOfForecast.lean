/- The law on ErrorsOfForecast, walked out of the contracts of what it calls. -/
import Derived.Test.YtmbonkklfnhkdaaErr
namespace Go.Proofs.Ytmbonkklfnhkdaa
open Go.RowKit
set_option linter.unusedVariables false

set_option maxHeartbeats 2000000 in
theorem FnExactErrorsOfForecast_calls (aaForecast : Option Addr) (naForecast caForecast : Nat) (xaForecast : List (Int)) (aaSeen : Option Addr) (naSeen caSeen : Nat) (xaSeen : List (Int)) (w : World)
    (raForecast : RdInt64 w aaForecast naForecast xaForecast) (_laForecast : naForecast ≤ caForecast) (_maForecast : caForecast ≤ maxLen) (_oaForecast : ∀ z ∈ xaForecast, OkInt64 z) (raSeen : RdInt64 w aaSeen naSeen xaSeen) (_laSeen : naSeen ≤ caSeen) (_maSeen : caSeen ≤ maxLen) (_oaSeen : ∀ z ∈ xaSeen, OkInt64 z) :
    Calls Try.prog 4 #[.slice aaForecast naForecast caForecast, .slice aaSeen naSeen caSeen] w fun e w' => e = .returned (.bool true) ∧ Below w.heap.size w w' := by
  by_cases haForecast : naForecast ≤ 1048576
  case neg =>
    have haForecast' : (1048576 : Int) < naForecast := by omega
    have _zaForecast := _maForecast
    unfold maxLen at _zaForecast
    go_enter Try.func4, Try.ntmps4
    go_wp2
    go_ret
    exact ⟨rfl, (Below.refl _ _)⟩
  by_cases haSeen : naSeen ≤ 1048576
  case neg =>
    have haSeen' : (1048576 : Int) < naSeen := by omega
    have _zaSeen := _maSeen
    unfold maxLen at _zaSeen
    go_enter Try.func4, Try.ntmps4
    go_wp2
    go_ret
    exact ⟨rfl, (Below.refl _ _)⟩
  go_enter Try.func4, Try.ntmps4
  go_wp2_with fail
  refine (toInt64S_calls _ _ _ _ _ raForecast haForecast).mono ?_
  rintro e w1 ⟨A1, rfl, o1, b1⟩
  have c1 := b1
  have d1 := b1
  have s1 := b1.size
  clear b1
  go_wp2_with fail
  refine (toInt64S_calls _ _ _ _ _ (raSeen.below d1) haSeen).mono ?_
  rintro e w2 ⟨A2, rfl, o2, b2⟩
  have c2 := bnext c1 b2 (Nat.le_refl _)
  have d2 := c2
  have s2 := b2.size
  replace o1 := o1.below b2
  clear d1
  clear c1
  clear b2
  go_wp2_with fail
  refine (specErrorsOfForecast_calls _ _ _ _ _ _ _ _ _ (o1.rd len_cInt64) haForecast (o2.rd len_cInt64) haSeen).mono ?_
  rintro e w3 ⟨A3w0, n3w0, q3w0, rfl, o3w0, h3w0, b3⟩
  clear o1
  clear o2
  have c3 := bnext c2 b3 (Nat.le_refl _)
  have d3 := c3
  have s3 := b3.size
  clear d2
  clear c2
  clear b3
  go_wp2_with fail
  refine (toInt64S_calls _ _ _ _ _ (raForecast.below d3) haForecast).mono ?_
  rintro e w4 ⟨A4, rfl, o4, b4⟩
  have c4 := bnext c3 b4 (Nat.le_refl _)
  have d4 := c4
  have s4 := b4.size
  replace o3w0 := o3w0.below b4
  clear d3
  clear c3
  clear b4
  go_wp2_with fail
  refine (toInt64S_calls _ _ _ _ _ (raSeen.below d4) haSeen).mono ?_
  rintro e w5 ⟨A5, rfl, o5, b5⟩
  have c5 := bnext c4 b5 (Nat.le_refl _)
  have d5 := c5
  have s5 := b5.size
  replace o3w0 := o3w0.below b5
  replace o4 := o4.below b5
  clear d4
  clear c4
  clear b5
  go_wp2_with fail
  refine (ErrorsOfForecast_calls _ _ _ _ _ _ _ _ _ (o4.rd len_cInt64) haForecast (o5.rd len_cInt64) haSeen).mono ?_
  rintro e w6 ⟨A6g0, n6g0, q6g0, rfl, o6g0, h6g0, b6⟩
  have c6 := bnext c5 b6 (Nat.le_refl _)
  have d6 := c6
  have s6 := b6.size
  replace o3w0 := o3w0.below b6
  replace o4 := o4.below b6
  replace o5 := o5.below b6
  clear d5
  clear c5
  clear b6
  go_wp2_with fail
  refine (eqInt64S_calls _ _ _ _ _ _ _ _ _ (o6g0.rd len_cInt64) (o3w0.rd len_cInt64) h6g0 h3w0).mono ?_
  rintro e w7 ⟨rfl, b7⟩
  have c7 := bnext c6 b7 (Nat.le_refl _)
  have d7 := c7
  have s7 := b7.size
  replace o3w0 := o3w0.below b7
  replace o4 := o4.below b7
  replace o5 := o5.below b7
  replace o6g0 := o6g0.below b7
  clear d6
  clear c6
  clear b7
  go_wp2_with fail
  refine (toInt64S_calls _ _ _ _ _ (raForecast.below d7) haForecast).mono ?_
  rintro e w8 ⟨A8, rfl, o8, b8⟩
  have c8 := bnext c7 b8 (Nat.le_refl _)
  have d8 := c8
  have s8 := b8.size
  replace o3w0 := o3w0.below b8
  replace o4 := o4.below b8
  replace o5 := o5.below b8
  replace o6g0 := o6g0.below b8
  clear d7
  clear c7
  clear b8
  go_wp2_with fail
  refine (eqInt64S_calls _ _ _ _ _ _ _ _ _ (o4.rd len_cInt64) (o8.rd len_cInt64) haForecast haForecast).mono ?_
  rintro e w9 ⟨rfl, b9⟩
  clear o8
  have c9 := bnext c8 b9 (Nat.le_refl _)
  have d9 := c9
  have s9 := b9.size
  replace o3w0 := o3w0.below b9
  replace o4 := o4.below b9
  replace o5 := o5.below b9
  replace o6g0 := o6g0.below b9
  clear d8
  clear c8
  clear b9
  go_wp2_with fail
  refine (toInt64S_calls _ _ _ _ _ (raSeen.below d9) haSeen).mono ?_
  rintro e w10 ⟨A10, rfl, o10, b10⟩
  have c10 := bnext c9 b10 (Nat.le_refl _)
  have d10 := c10
  have s10 := b10.size
  replace o3w0 := o3w0.below b10
  replace o4 := o4.below b10
  replace o5 := o5.below b10
  replace o6g0 := o6g0.below b10
  clear d9
  clear c9
  clear b10
  go_wp2_with fail
  refine (eqInt64S_calls _ _ _ _ _ _ _ _ _ (o5.rd len_cInt64) (o10.rd len_cInt64) haSeen haSeen).mono ?_
  rintro e w11 ⟨rfl, b11⟩
  clear o10
  have c11 := bnext c10 b11 (Nat.le_refl _)
  have d11 := c11
  have s11 := b11.size
  replace o3w0 := o3w0.below b11
  replace o4 := o4.below b11
  replace o5 := o5.below b11
  replace o6g0 := o6g0.below b11
  clear d10
  clear c10
  clear b11
  go_wp2_with fail
  refine (markInt64S_calls _ _ _ _ _ _ _ _ o4 haForecast (by omega) (by omega)).mono ?_
  rintro e w12 ⟨rfl, p12, g12⟩
  have c12 := below_only c11 g12 (Nat.le_refl _) (fun g hg => by have := o4.row hg; have := c11.size; omega)
  have d12 := c12
  have s12 := g12.size
  replace o3w0 := o3w0.only g12 (fun g hg => by have := o4.row hg; omega)
  replace o5 := o5.only g12 (fun g hg => by have := o4.row hg; omega)
  replace o6g0 := o6g0.only g12 (fun g hg => by have := o4.row hg; omega)
  clear o4
  clear d11
  clear c11
  clear g12
  go_wp2_with fail
  refine (markInt64S_calls _ _ _ _ _ _ _ _ o5 haSeen (by omega) (by omega)).mono ?_
  rintro e w13 ⟨rfl, p13, g13⟩
  have c13 := below_only c12 g13 (Nat.le_refl _) (fun g hg => by have := o5.row hg; have := c12.size; omega)
  have d13 := c13
  have s13 := g13.size
  replace o3w0 := o3w0.only g13 (fun g hg => by have := o5.row hg; omega)
  replace p12 := p12.only g13 (fun g hg => by have := o5.row hg; omega)
  replace o6g0 := o6g0.only g13 (fun g hg => by have := o5.row hg; omega)
  clear o5
  clear d12
  clear c12
  clear g13
  go_wp2_with fail
  refine (eqInt64S_calls _ _ _ _ _ _ _ _ _ (o6g0.rd len_cInt64) (o3w0.rd len_cInt64) h6g0 h3w0).mono ?_
  rintro e w14 ⟨rfl, b14⟩
  have c14 := bnext c13 b14 (Nat.le_refl _)
  have d14 := c14
  have s14 := b14.size
  replace o3w0 := o3w0.below b14
  replace p12 := p12.below b14
  replace p13 := p13.below b14
  replace o6g0 := o6g0.below b14
  clear d13
  clear c13
  clear b14
  go_wp2_with fail
  refine (markInt64S_calls _ _ _ _ _ _ _ _ o6g0 h6g0 (by omega) (by omega)).mono ?_
  rintro e w15 ⟨rfl, p15, g15⟩
  have c15 := below_only c14 g15 (Nat.le_refl _) (fun g hg => by have := o6g0.row hg; have := c14.size; omega)
  have d15 := c15
  have s15 := g15.size
  replace o3w0 := o3w0.only g15 (fun g hg => by have := o6g0.row hg; omega)
  replace p12 := p12.only g15 (fun g hg => by have := o6g0.row hg; omega)
  replace p13 := p13.only g15 (fun g hg => by have := o6g0.row hg; omega)
  clear o6g0
  clear d14
  clear c14
  clear g15
  go_wp2_with fail
  refine (heldInt64S_calls _ _ _ _ _ (p15.rd len_cInt64) h6g0 (by omega) (by omega)).mono ?_
  rintro e w16 ⟨rfl, b16⟩
  have c16 := bnext c15 b16 (Nat.le_refl _)
  have d16 := c16
  have s16 := b16.size
  replace o3w0 := o3w0.below b16
  replace p12 := p12.below b16
  replace p13 := p13.below b16
  replace p15 := p15.below b16
  clear d15
  clear c15
  clear b16
  go_wp2_with fail
  refine (toInt64S_calls _ _ _ _ _ (raForecast.below d16) haForecast).mono ?_
  rintro e w17 ⟨A17, rfl, o17, b17⟩
  have c17 := bnext c16 b17 (Nat.le_refl _)
  have d17 := c17
  have s17 := b17.size
  replace o3w0 := o3w0.below b17
  replace p12 := p12.below b17
  replace p13 := p13.below b17
  replace p15 := p15.below b17
  clear d16
  clear c16
  clear b17
  go_wp2_with fail
  refine (toInt64S_calls _ _ _ _ _ (raSeen.below d17) haSeen).mono ?_
  rintro e w18 ⟨A18, rfl, o18, b18⟩
  have c18 := bnext c17 b18 (Nat.le_refl _)
  have d18 := c18
  have s18 := b18.size
  replace o3w0 := o3w0.below b18
  replace p12 := p12.below b18
  replace p13 := p13.below b18
  replace p15 := p15.below b18
  replace o17 := o17.below b18
  clear d17
  clear c17
  clear b18
  go_wp2_with fail
  refine (ErrorsOfForecast_calls _ _ _ _ _ _ _ _ _ (o17.rd len_cInt64) haForecast (o18.rd len_cInt64) haSeen).mono ?_
  rintro e w19 ⟨A19h0, n19h0, q19h0, rfl, o19h0, h19h0, b19⟩
  clear o17
  clear o18
  have c19 := bnext c18 b19 (Nat.le_refl _)
  have d19 := c19
  have s19 := b19.size
  replace o3w0 := o3w0.below b19
  replace p12 := p12.below b19
  replace p13 := p13.below b19
  replace p15 := p15.below b19
  clear d18
  clear c18
  clear b19
  go_wp2_with fail
  refine (eqInt64S_calls _ _ _ _ _ _ _ _ _ (o19h0.rd len_cInt64) (o3w0.rd len_cInt64) h19h0 h3w0).mono ?_
  rintro e w20 ⟨rfl, b20⟩
  have c20 := bnext c19 b20 (Nat.le_refl _)
  have d20 := c20
  have s20 := b20.size
  replace o3w0 := o3w0.below b20
  replace p12 := p12.below b20
  replace p13 := p13.below b20
  replace p15 := p15.below b20
  replace o19h0 := o19h0.below b20
  clear d19
  clear c19
  clear b20
  go_wp2_with fail
  refine (heldInt64S_calls _ _ _ _ _ (p15.rd len_cInt64) h6g0 (by omega) (by omega)).mono ?_
  rintro e w21 ⟨rfl, b21⟩
  have c21 := bnext c20 b21 (Nat.le_refl _)
  have d21 := c21
  have s21 := b21.size
  replace o3w0 := o3w0.below b21
  replace p12 := p12.below b21
  replace p13 := p13.below b21
  replace p15 := p15.below b21
  replace o19h0 := o19h0.below b21
  clear d20
  clear c20
  clear b21
  go_wp2_with fail
  go_ret
  exact ⟨rfl, d21⟩
end Go.Proofs.Ytmbonkklfnhkdaa
