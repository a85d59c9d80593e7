/- The law on RunSluice, walked out of the contracts of what it calls. -/
import Derived.Test.YtppkljhnmifilaaRun
namespace Go.Proofs.Ytppkljhnmifilaa
open Go.RowKit
set_option linter.unusedVariables false

set_option maxHeartbeats 8000000 in
theorem FnExactRunSluice_calls (aS0 : Int) (aS1 : Int) (aaOrders : Option Addr) (naOrders caOrders : Nat) (xaOrders : List (Int)) (aaInside : Option Addr) (naInside caInside : Nat) (xaInside : List (Int)) (aaOutside : Option Addr) (naOutside caOutside : Nat) (xaOutside : List (Int)) (w : World)
    (_waS0 : (Lit.int .i64 aS0).wf = true) (_waS1 : (Lit.int .i64 aS1).wf = true) (raOrders : RdInt64 w aaOrders naOrders xaOrders) (_laOrders : naOrders ≤ caOrders) (_maOrders : caOrders ≤ maxLen) (_oaOrders : ∀ z ∈ xaOrders, OkInt64 z) (raInside : RdInt64 w aaInside naInside xaInside) (_laInside : naInside ≤ caInside) (_maInside : caInside ≤ maxLen) (_oaInside : ∀ z ∈ xaInside, OkInt64 z) (raOutside : RdInt64 w aaOutside naOutside xaOutside) (_laOutside : naOutside ≤ caOutside) (_maOutside : caOutside ≤ maxLen) (_oaOutside : ∀ z ∈ xaOutside, OkInt64 z) :
    Calls Try.prog 10 #[.agg #[.int .i64 aS0, .int .i64 aS1], .slice aaOrders naOrders caOrders, .slice aaInside naInside caInside, .slice aaOutside naOutside caOutside] w fun e w' => e = .returned (.bool true) ∧ Below w.heap.size w w' := by
  by_cases haOrders : naOrders ≤ 1048576
  case neg =>
    have haOrders' : (1048576 : Int) < naOrders := by omega
    have _zaOrders := _maOrders
    unfold maxLen at _zaOrders
    go_enter Try.func10, Try.ntmps10
    go_wp2
    go_ret
    exact ⟨rfl, ((Below.refl _ _).alloc (Nat.le_refl _) _)⟩
  by_cases haInside : naInside ≤ 1048576
  case neg =>
    have haInside' : (1048576 : Int) < naInside := by omega
    have _zaInside := _maInside
    unfold maxLen at _zaInside
    go_enter Try.func10, Try.ntmps10
    go_wp2
    go_ret
    exact ⟨rfl, ((Below.refl _ _).alloc (Nat.le_refl _) _)⟩
  by_cases haOutside : naOutside ≤ 1048576
  case neg =>
    have haOutside' : (1048576 : Int) < naOutside := by omega
    have _zaOutside := _maOutside
    unfold maxLen at _zaOutside
    go_enter Try.func10, Try.ntmps10
    go_wp2
    go_ret
    exact ⟨rfl, ((Below.refl _ _).alloc (Nat.le_refl _) _)⟩
  go_enter Try.func10, Try.ntmps10
  go_wp2_with fail
  refine (toSluice_calls _ _ _).mono ?_
  rintro e w1 ⟨rfl, b1⟩
  have c1 := b1
  have d1 := bbox1 b1
  have s1 := b1.size
  clear b1
  obtain ⟨k1, f1⟩ := bcell c1
  go_wp2_with fail
  refine (toInt64S_calls _ _ _ _ _ (raOrders.below d1) haOrders).mono ?_
  rintro e w2 ⟨A2, rfl, o2, b2⟩
  have c2 := bnext c1 b2 (Nat.le_refl _)
  have d2 := bbox1 c2
  have s2 := b2.size
  clear d1
  clear c1
  clear b2
  obtain ⟨k2, f2⟩ := bcell c2
  clear k1 f1
  go_wp2_with fail
  refine (toInt64S_calls _ _ _ _ _ (raInside.below d2) haInside).mono ?_
  rintro e w3 ⟨A3, rfl, o3, b3⟩
  have c3 := bnext c2 b3 (Nat.le_refl _)
  have d3 := bbox1 c3
  have s3 := b3.size
  replace o2 := o2.below b3
  clear d2
  clear c2
  clear b3
  obtain ⟨k3, f3⟩ := bcell c3
  clear k2 f2
  go_wp2_with fail
  refine (toInt64S_calls _ _ _ _ _ (raOutside.below d3) haOutside).mono ?_
  rintro e w4 ⟨A4, rfl, o4, b4⟩
  have c4 := bnext c3 b4 (Nat.le_refl _)
  have d4 := bbox1 c4
  have s4 := b4.size
  replace o2 := o2.below b4
  replace o3 := o3.below b4
  clear d3
  clear c3
  clear b4
  obtain ⟨k4, f4⟩ := bcell c4
  clear k3 f3
  go_wp2_with fail
  refine (specRunSluice_calls _ _ _ _ _ _ _ _ _ _ _ _ _ _ _ (o2.rd len_cInt64) (o3.rd len_cInt64) (o4.rd len_cInt64) haOrders haInside haOutside).mono ?_
  rintro e w5 ⟨A5w0, n5w0, q5w0, rfl, o5w0, h5w0, b5⟩
  clear o2
  clear o3
  clear o4
  have c5 := bnext c4 b5 (Nat.le_refl _)
  have d5 := bbox1 c5
  have s5 := b5.size
  clear d4
  clear c4
  clear b5
  obtain ⟨k5, f5⟩ := bcell c5
  clear k4 f4
  go_wp2_with fail
  refine (toInt64S_calls _ _ _ _ _ (raOrders.below d5) haOrders).mono ?_
  rintro e w6 ⟨A6, rfl, o6, b6⟩
  have c6 := bnext c5 b6 (Nat.le_refl _)
  have d6 := bbox1 c6
  have s6 := b6.size
  replace o5w0 := o5w0.below b6
  clear d5
  clear c5
  clear b6
  obtain ⟨k6, f6⟩ := bcell c6
  clear k5 f5
  go_wp2_with fail
  refine (toInt64S_calls _ _ _ _ _ (raInside.below d6) haInside).mono ?_
  rintro e w7 ⟨A7, rfl, o7, b7⟩
  have c7 := bnext c6 b7 (Nat.le_refl _)
  have d7 := bbox1 c7
  have s7 := b7.size
  replace o5w0 := o5w0.below b7
  replace o6 := o6.below b7
  clear d6
  clear c6
  clear b7
  obtain ⟨k7, f7⟩ := bcell c7
  clear k6 f6
  go_wp2_with fail
  refine (toInt64S_calls _ _ _ _ _ (raOutside.below d7) haOutside).mono ?_
  rintro e w8 ⟨A8, rfl, o8, b8⟩
  have c8 := bnext c7 b8 (Nat.le_refl _)
  have d8 := bbox1 c8
  have s8 := b8.size
  replace o5w0 := o5w0.below b8
  replace o6 := o6.below b8
  replace o7 := o7.below b8
  clear d7
  clear c7
  clear b8
  obtain ⟨k8, f8⟩ := bcell c8
  clear k7 f7
  go_wp2_with fail
  refine (toSluice_calls _ _ _).mono ?_
  rintro e w9 ⟨rfl, b9⟩
  have c9 := bnext c8 b9 (Nat.le_refl _)
  have d9 := bbox1 c9
  have s9 := b9.size
  replace o5w0 := o5w0.below b9
  replace o6 := o6.below b9
  replace o7 := o7.below b9
  replace o8 := o8.below b9
  clear d8
  clear c8
  clear b9
  obtain ⟨k9, f9⟩ := bcell c9
  clear k8 f8
  go_wp2_with fail
  refine (RunSluice_calls _ _ _ _ _ _ _ _ _ _ _ _ _ _ _ (o6.rd len_cInt64) (o7.rd len_cInt64) (o8.rd len_cInt64) haOrders haInside haOutside).mono ?_
  rintro e w10 ⟨A10g0, n10g0, q10g0, rfl, o10g0, h10g0, b10⟩
  have c10 := bnext c9 b10 (Nat.le_refl _)
  have d10 := bbox1 c10
  have s10 := b10.size
  replace o5w0 := o5w0.below b10
  replace o6 := o6.below b10
  replace o7 := o7.below b10
  replace o8 := o8.below b10
  clear d9
  clear c9
  clear b10
  obtain ⟨k10, f10⟩ := bcell c10
  clear k9 f9
  go_wp2_with fail
  refine (eqGateS_calls _ _ _ _ _ _ _ _ _ (o10g0.rd len_cGate) (o5w0.rd len_cGate) h10g0 h5w0).mono ?_
  rintro e w11 ⟨rfl, b11⟩
  have c11 := bnext c10 b11 (Nat.le_refl _)
  have d11 := bbox1 c11
  have s11 := b11.size
  replace o5w0 := o5w0.below b11
  replace o6 := o6.below b11
  replace o7 := o7.below b11
  replace o8 := o8.below b11
  replace o10g0 := o10g0.below b11
  clear d10
  clear c10
  clear b11
  obtain ⟨k11, f11⟩ := bcell c11
  clear k10 f10
  go_wp2_with fail
  refine (toInt64S_calls _ _ _ _ _ (raOrders.below d11) haOrders).mono ?_
  rintro e w12 ⟨A12, rfl, o12, b12⟩
  have c12 := bnext c11 b12 (Nat.le_refl _)
  have d12 := bbox1 c12
  have s12 := b12.size
  replace o5w0 := o5w0.below b12
  replace o6 := o6.below b12
  replace o7 := o7.below b12
  replace o8 := o8.below b12
  replace o10g0 := o10g0.below b12
  clear d11
  clear c11
  clear b12
  obtain ⟨k12, f12⟩ := bcell c12
  clear k11 f11
  go_wp2_with fail
  refine (eqInt64S_calls _ _ _ _ _ _ _ _ _ (o6.rd len_cInt64) (o12.rd len_cInt64) haOrders haOrders).mono ?_
  rintro e w13 ⟨rfl, b13⟩
  clear o12
  have c13 := bnext c12 b13 (Nat.le_refl _)
  have d13 := bbox1 c13
  have s13 := b13.size
  replace o5w0 := o5w0.below b13
  replace o6 := o6.below b13
  replace o7 := o7.below b13
  replace o8 := o8.below b13
  replace o10g0 := o10g0.below b13
  clear d12
  clear c12
  clear b13
  obtain ⟨k13, f13⟩ := bcell c13
  clear k12 f12
  go_wp2_with fail
  refine (toInt64S_calls _ _ _ _ _ (raInside.below d13) haInside).mono ?_
  rintro e w14 ⟨A14, rfl, o14, b14⟩
  have c14 := bnext c13 b14 (Nat.le_refl _)
  have d14 := bbox1 c14
  have s14 := b14.size
  replace o5w0 := o5w0.below b14
  replace o6 := o6.below b14
  replace o7 := o7.below b14
  replace o8 := o8.below b14
  replace o10g0 := o10g0.below b14
  clear d13
  clear c13
  clear b14
  obtain ⟨k14, f14⟩ := bcell c14
  clear k13 f13
  go_wp2_with fail
  refine (eqInt64S_calls _ _ _ _ _ _ _ _ _ (o7.rd len_cInt64) (o14.rd len_cInt64) haInside haInside).mono ?_
  rintro e w15 ⟨rfl, b15⟩
  clear o14
  have c15 := bnext c14 b15 (Nat.le_refl _)
  have d15 := bbox1 c15
  have s15 := b15.size
  replace o5w0 := o5w0.below b15
  replace o6 := o6.below b15
  replace o7 := o7.below b15
  replace o8 := o8.below b15
  replace o10g0 := o10g0.below b15
  clear d14
  clear c14
  clear b15
  obtain ⟨k15, f15⟩ := bcell c15
  clear k14 f14
  go_wp2_with fail
  refine (toInt64S_calls _ _ _ _ _ (raOutside.below d15) haOutside).mono ?_
  rintro e w16 ⟨A16, rfl, o16, b16⟩
  have c16 := bnext c15 b16 (Nat.le_refl _)
  have d16 := bbox1 c16
  have s16 := b16.size
  replace o5w0 := o5w0.below b16
  replace o6 := o6.below b16
  replace o7 := o7.below b16
  replace o8 := o8.below b16
  replace o10g0 := o10g0.below b16
  clear d15
  clear c15
  clear b16
  obtain ⟨k16, f16⟩ := bcell c16
  clear k15 f15
  go_wp2_with fail
  refine (eqInt64S_calls _ _ _ _ _ _ _ _ _ (o8.rd len_cInt64) (o16.rd len_cInt64) haOutside haOutside).mono ?_
  rintro e w17 ⟨rfl, b17⟩
  clear o16
  have c17 := bnext c16 b17 (Nat.le_refl _)
  have d17 := bbox1 c17
  have s17 := b17.size
  replace o5w0 := o5w0.below b17
  replace o6 := o6.below b17
  replace o7 := o7.below b17
  replace o8 := o8.below b17
  replace o10g0 := o10g0.below b17
  clear d16
  clear c16
  clear b17
  obtain ⟨k17, f17⟩ := bcell c17
  clear k16 f16
  go_wp2_with fail
  refine (markInt64S_calls _ _ _ _ _ _ _ _ o6 haOrders (by omega) (by omega)).mono ?_
  rintro e w18 ⟨rfl, p18, g18⟩
  have c18 := below_only c17 g18 (Nat.le_refl _) (fun g hg => by have := o6.row hg; have := c17.size; omega)
  have d18 := bbox1 c18
  have s18 := g18.size
  replace o5w0 := o5w0.only g18 (fun g hg => by have := o6.row hg; omega)
  replace o7 := o7.only g18 (fun g hg => by have := o6.row hg; omega)
  replace o8 := o8.only g18 (fun g hg => by have := o6.row hg; omega)
  replace o10g0 := o10g0.only g18 (fun g hg => by have := o6.row hg; omega)
  clear o6
  clear d17
  clear c17
  clear g18
  obtain ⟨k18, f18⟩ := bcell c18
  clear k17 f17
  go_wp2_with fail
  refine (markInt64S_calls _ _ _ _ _ _ _ _ o7 haInside (by omega) (by omega)).mono ?_
  rintro e w19 ⟨rfl, p19, g19⟩
  have c19 := below_only c18 g19 (Nat.le_refl _) (fun g hg => by have := o7.row hg; have := c18.size; omega)
  have d19 := bbox1 c19
  have s19 := g19.size
  replace o5w0 := o5w0.only g19 (fun g hg => by have := o7.row hg; omega)
  replace p18 := p18.only g19 (fun g hg => by have := o7.row hg; omega)
  replace o8 := o8.only g19 (fun g hg => by have := o7.row hg; omega)
  replace o10g0 := o10g0.only g19 (fun g hg => by have := o7.row hg; omega)
  clear o7
  clear d18
  clear c18
  clear g19
  obtain ⟨k19, f19⟩ := bcell c19
  clear k18 f18
  go_wp2_with fail
  refine (markInt64S_calls _ _ _ _ _ _ _ _ o8 haOutside (by omega) (by omega)).mono ?_
  rintro e w20 ⟨rfl, p20, g20⟩
  have c20 := below_only c19 g20 (Nat.le_refl _) (fun g hg => by have := o8.row hg; have := c19.size; omega)
  have d20 := bbox1 c20
  have s20 := g20.size
  replace o5w0 := o5w0.only g20 (fun g hg => by have := o8.row hg; omega)
  replace p18 := p18.only g20 (fun g hg => by have := o8.row hg; omega)
  replace p19 := p19.only g20 (fun g hg => by have := o8.row hg; omega)
  replace o10g0 := o10g0.only g20 (fun g hg => by have := o8.row hg; omega)
  clear o8
  clear d19
  clear c19
  clear g20
  obtain ⟨k20, f20⟩ := bcell c20
  clear k19 f19
  go_wp2_with fail
  refine (eqGateS_calls _ _ _ _ _ _ _ _ _ (o10g0.rd len_cGate) (o5w0.rd len_cGate) h10g0 h5w0).mono ?_
  rintro e w21 ⟨rfl, b21⟩
  have c21 := bnext c20 b21 (Nat.le_refl _)
  have d21 := bbox1 c21
  have s21 := b21.size
  replace o5w0 := o5w0.below b21
  replace p18 := p18.below b21
  replace p19 := p19.below b21
  replace p20 := p20.below b21
  replace o10g0 := o10g0.below b21
  clear d20
  clear c20
  clear b21
  obtain ⟨k21, f21⟩ := bcell c21
  clear k20 f20
  go_wp2_with fail
  refine (markGateS_calls _ _ _ _ _ _ _ _ o10g0 h10g0 (by omega) (by omega)).mono ?_
  rintro e w22 ⟨rfl, p22, g22⟩
  have c22 := below_only c21 g22 (Nat.le_refl _) (fun g hg => by have := o10g0.row hg; have := c21.size; omega)
  have d22 := bbox1 c22
  have s22 := g22.size
  replace o5w0 := o5w0.only g22 (fun g hg => by have := o10g0.row hg; omega)
  replace p18 := p18.only g22 (fun g hg => by have := o10g0.row hg; omega)
  replace p19 := p19.only g22 (fun g hg => by have := o10g0.row hg; omega)
  replace p20 := p20.only g22 (fun g hg => by have := o10g0.row hg; omega)
  clear o10g0
  clear d21
  clear c21
  clear g22
  obtain ⟨k22, f22⟩ := bcell c22
  clear k21 f21
  go_wp2_with fail
  refine (heldGateS_calls _ _ _ _ _ (p22.rd len_cGate) h10g0 (by omega) (by omega)).mono ?_
  rintro e w23 ⟨rfl, b23⟩
  have c23 := bnext c22 b23 (Nat.le_refl _)
  have d23 := bbox1 c23
  have s23 := b23.size
  replace o5w0 := o5w0.below b23
  replace p18 := p18.below b23
  replace p19 := p19.below b23
  replace p20 := p20.below b23
  replace p22 := p22.below b23
  clear d22
  clear c22
  clear b23
  obtain ⟨k23, f23⟩ := bcell c23
  clear k22 f22
  go_wp2_with fail
  refine (toSluice_calls _ _ _).mono ?_
  rintro e w24 ⟨rfl, b24⟩
  have c24 := bnext c23 b24 (Nat.le_refl _)
  have d24 := bbox1 c24
  have s24 := b24.size
  replace o5w0 := o5w0.below b24
  replace p18 := p18.below b24
  replace p19 := p19.below b24
  replace p20 := p20.below b24
  replace p22 := p22.below b24
  clear d23
  clear c23
  clear b24
  obtain ⟨k24, f24⟩ := bcell c24
  clear k23 f23
  go_wp2_with fail
  refine (toInt64S_calls _ _ _ _ _ (raOrders.below d24) haOrders).mono ?_
  rintro e w25 ⟨A25, rfl, o25, b25⟩
  have c25 := bnext c24 b25 (Nat.le_refl _)
  have d25 := bbox1 c25
  have s25 := b25.size
  replace o5w0 := o5w0.below b25
  replace p18 := p18.below b25
  replace p19 := p19.below b25
  replace p20 := p20.below b25
  replace p22 := p22.below b25
  clear d24
  clear c24
  clear b25
  obtain ⟨k25, f25⟩ := bcell c25
  clear k24 f24
  go_wp2_with fail
  refine (toInt64S_calls _ _ _ _ _ (raInside.below d25) haInside).mono ?_
  rintro e w26 ⟨A26, rfl, o26, b26⟩
  have c26 := bnext c25 b26 (Nat.le_refl _)
  have d26 := bbox1 c26
  have s26 := b26.size
  replace o5w0 := o5w0.below b26
  replace p18 := p18.below b26
  replace p19 := p19.below b26
  replace p20 := p20.below b26
  replace p22 := p22.below b26
  replace o25 := o25.below b26
  clear d25
  clear c25
  clear b26
  obtain ⟨k26, f26⟩ := bcell c26
  clear k25 f25
  go_wp2_with fail
  refine (toInt64S_calls _ _ _ _ _ (raOutside.below d26) haOutside).mono ?_
  rintro e w27 ⟨A27, rfl, o27, b27⟩
  have c27 := bnext c26 b27 (Nat.le_refl _)
  have d27 := bbox1 c27
  have s27 := b27.size
  replace o5w0 := o5w0.below b27
  replace p18 := p18.below b27
  replace p19 := p19.below b27
  replace p20 := p20.below b27
  replace p22 := p22.below b27
  replace o25 := o25.below b27
  replace o26 := o26.below b27
  clear d26
  clear c26
  clear b27
  obtain ⟨k27, f27⟩ := bcell c27
  clear k26 f26
  go_wp2_with fail
  refine (RunSluice_calls _ _ _ _ _ _ _ _ _ _ _ _ _ _ _ (o25.rd len_cInt64) (o26.rd len_cInt64) (o27.rd len_cInt64) haOrders haInside haOutside).mono ?_
  rintro e w28 ⟨A28h0, n28h0, q28h0, rfl, o28h0, h28h0, b28⟩
  clear o25
  clear o26
  clear o27
  have c28 := bnext c27 b28 (Nat.le_refl _)
  have d28 := bbox1 c28
  have s28 := b28.size
  replace o5w0 := o5w0.below b28
  replace p18 := p18.below b28
  replace p19 := p19.below b28
  replace p20 := p20.below b28
  replace p22 := p22.below b28
  clear d27
  clear c27
  clear b28
  obtain ⟨k28, f28⟩ := bcell c28
  clear k27 f27
  go_wp2_with fail
  refine (eqGateS_calls _ _ _ _ _ _ _ _ _ (o28h0.rd len_cGate) (o5w0.rd len_cGate) h28h0 h5w0).mono ?_
  rintro e w29 ⟨rfl, b29⟩
  have c29 := bnext c28 b29 (Nat.le_refl _)
  have d29 := bbox1 c29
  have s29 := b29.size
  replace o5w0 := o5w0.below b29
  replace p18 := p18.below b29
  replace p19 := p19.below b29
  replace p20 := p20.below b29
  replace p22 := p22.below b29
  replace o28h0 := o28h0.below b29
  clear d28
  clear c28
  clear b29
  obtain ⟨k29, f29⟩ := bcell c29
  clear k28 f28
  go_wp2_with fail
  refine (heldGateS_calls _ _ _ _ _ (p22.rd len_cGate) h10g0 (by omega) (by omega)).mono ?_
  rintro e w30 ⟨rfl, b30⟩
  have c30 := bnext c29 b30 (Nat.le_refl _)
  have d30 := bbox1 c30
  have s30 := b30.size
  replace o5w0 := o5w0.below b30
  replace p18 := p18.below b30
  replace p19 := p19.below b30
  replace p20 := p20.below b30
  replace p22 := p22.below b30
  replace o28h0 := o28h0.below b30
  clear d29
  clear c29
  clear b30
  obtain ⟨k30, f30⟩ := bcell c30
  clear k29 f29
  go_wp2_with fail
  go_ret
  exact ⟨rfl, d30⟩
end Go.Proofs.Ytppkljhnmifilaa
