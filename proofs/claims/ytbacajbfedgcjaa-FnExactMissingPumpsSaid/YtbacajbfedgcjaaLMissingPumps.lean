/- The law on MissingPumps, walked out of the contracts of what it calls. -/
import Derived.Test.YtbacajbfedgcjaaMiss
namespace Go.Proofs.Ytbacajbfedgcjaa
open Go.RowKit
set_option linter.unusedVariables false

set_option maxHeartbeats 2000000 in
theorem FnExactMissingPumps_calls (aStart : Int) (aaList : Option Addr) (naList caList : Nat) (xaList : List (Int × Int × Int × Int × Int)) (aMost : Int) (w : World)
    (_waStart : (Lit.int .i64 aStart).wf = true) (raList : RdWater w aaList naList xaList) (_laList : naList ≤ caList) (_maList : caList ≤ maxLen) (_oaList : ∀ z ∈ xaList, OkWater z) (_waMost : (Lit.int .i64 aMost).wf = true) :
    Calls Try.prog 12 #[.int .i64 aStart, .slice aaList naList caList, .int .i64 aMost] w fun e w' => e = .returned (.bool true) ∧ Below w.heap.size w w' := by
  go_enter Try.func12, Try.ntmps12
  go_wp2_with fail
  have _zaList := _maList
  unfold maxLen at _zaList
  refine (szWaterS_calls _ _ _ _ _ (by omega) (by omega) (by omega)).mono ?_
  rintro e w' ⟨l1, rfl, hs1, rfl⟩
  rcases hs1 with ⟨hs1, rfl⟩ | ⟨hs1, rfl⟩
  case inl =>
    go_wp2_with fail
    go_ret
    exact ⟨rfl, (Below.refl _ _)⟩
  have haList : naList ≤ 1048576 := by omega
  clear _zaList
  go_wp2_with fail
  refine (toWaterS_calls _ _ _ _ _ raList haList).mono ?_
  rintro e w1 ⟨A2, rfl, o2, b2⟩
  have c1 := b2
  have d1 := b2
  have s1 := b2.size
  clear b2
  go_wp2_with fail
  refine (specMissingPumps_calls _ _ _ _ _ _ _ (o2.rd len_cWater) haList).mono ?_
  rintro e w2 ⟨A3w0, n3w0, q3w0, rfl, o3w0, h3w0, b3⟩
  clear o2
  have c2 := bnext c1 b3 (Nat.le_refl _)
  have d2 := c2
  have s2 := b3.size
  clear d1
  clear c1
  clear b3
  go_wp2_with fail
  refine (toWaterS_calls _ _ _ _ _ (raList.below d2) haList).mono ?_
  rintro e w3 ⟨A4, rfl, o4, b4⟩
  have c3 := bnext c2 b4 (Nat.le_refl _)
  have d3 := c3
  have s3 := b4.size
  replace o3w0 := o3w0.below b4
  clear d2
  clear c2
  clear b4
  go_wp2_with fail
  refine (MissingPumps_calls _ _ _ _ _ _ _ (o4.rd len_cWater) haList).mono ?_
  rintro e w4 ⟨A5g0, n5g0, q5g0, rfl, o5g0, h5g0, b5⟩
  have c4 := bnext c3 b5 (Nat.le_refl _)
  have d4 := c4
  have s4 := b5.size
  replace o3w0 := o3w0.below b5
  replace o4 := o4.below b5
  clear d3
  clear c3
  clear b5
  go_wp2_with fail
  refine (eqInt64S_calls _ _ _ _ _ _ _ _ _ (o5g0.rd len_cInt64) (o3w0.rd len_cInt64) h5g0 h3w0).mono ?_
  rintro e w5 ⟨rfl, b6⟩
  have c5 := bnext c4 b6 (Nat.le_refl _)
  have d5 := c5
  have s5 := b6.size
  replace o3w0 := o3w0.below b6
  replace o4 := o4.below b6
  replace o5g0 := o5g0.below b6
  clear d4
  clear c4
  clear b6
  go_wp2_with fail
  refine (toWaterS_calls _ _ _ _ _ (raList.below d5) haList).mono ?_
  rintro e w6 ⟨A7, rfl, o7, b7⟩
  have c6 := bnext c5 b7 (Nat.le_refl _)
  have d6 := c6
  have s6 := b7.size
  replace o3w0 := o3w0.below b7
  replace o4 := o4.below b7
  replace o5g0 := o5g0.below b7
  clear d5
  clear c5
  clear b7
  go_wp2_with fail
  refine (eqWaterS_calls _ _ _ _ _ _ _ _ _ (o4.rd len_cWater) (o7.rd len_cWater) haList haList).mono ?_
  rintro e w7 ⟨rfl, b8⟩
  clear o7
  have c7 := bnext c6 b8 (Nat.le_refl _)
  have d7 := c7
  have s7 := b8.size
  replace o3w0 := o3w0.below b8
  replace o4 := o4.below b8
  replace o5g0 := o5g0.below b8
  clear d6
  clear c6
  clear b8
  go_wp2_with fail
  refine (markWaterS_calls _ _ _ _ _ _ _ _ o4 haList (by omega) (by omega)).mono ?_
  rintro e w8 ⟨rfl, p9, g9⟩
  have c8 := below_only c7 g9 (Nat.le_refl _) (fun g hg => by have := o4.row hg; have := c7.size; omega)
  have d8 := c8
  have s8 := g9.size
  replace o3w0 := o3w0.only g9 (fun g hg => by have := o4.row hg; omega)
  replace o5g0 := o5g0.only g9 (fun g hg => by have := o4.row hg; omega)
  clear o4
  clear d7
  clear c7
  clear g9
  go_wp2_with fail
  refine (eqInt64S_calls _ _ _ _ _ _ _ _ _ (o5g0.rd len_cInt64) (o3w0.rd len_cInt64) h5g0 h3w0).mono ?_
  rintro e w9 ⟨rfl, b10⟩
  have c9 := bnext c8 b10 (Nat.le_refl _)
  have d9 := c9
  have s9 := b10.size
  replace o3w0 := o3w0.below b10
  replace p9 := p9.below b10
  replace o5g0 := o5g0.below b10
  clear d8
  clear c8
  clear b10
  go_wp2_with fail
  refine (markInt64S_calls _ _ _ _ _ _ _ _ o5g0 h5g0 (by omega) (by omega)).mono ?_
  rintro e w10 ⟨rfl, p11, g11⟩
  have c10 := below_only c9 g11 (Nat.le_refl _) (fun g hg => by have := o5g0.row hg; have := c9.size; omega)
  have d10 := c10
  have s10 := g11.size
  replace o3w0 := o3w0.only g11 (fun g hg => by have := o5g0.row hg; omega)
  replace p9 := p9.only g11 (fun g hg => by have := o5g0.row hg; omega)
  clear o5g0
  clear d9
  clear c9
  clear g11
  go_wp2_with fail
  refine (heldInt64S_calls _ _ _ _ _ (p11.rd len_cInt64) h5g0 (by omega) (by omega)).mono ?_
  rintro e w11 ⟨rfl, b12⟩
  have c11 := bnext c10 b12 (Nat.le_refl _)
  have d11 := c11
  have s11 := b12.size
  replace o3w0 := o3w0.below b12
  replace p9 := p9.below b12
  replace p11 := p11.below b12
  clear d10
  clear c10
  clear b12
  go_wp2_with fail
  refine (toWaterS_calls _ _ _ _ _ (raList.below d11) haList).mono ?_
  rintro e w12 ⟨A13, rfl, o13, b13⟩
  have c12 := bnext c11 b13 (Nat.le_refl _)
  have d12 := c12
  have s12 := b13.size
  replace o3w0 := o3w0.below b13
  replace p9 := p9.below b13
  replace p11 := p11.below b13
  clear d11
  clear c11
  clear b13
  go_wp2_with fail
  refine (MissingPumps_calls _ _ _ _ _ _ _ (o13.rd len_cWater) haList).mono ?_
  rintro e w13 ⟨A14h0, n14h0, q14h0, rfl, o14h0, h14h0, b14⟩
  clear o13
  have c13 := bnext c12 b14 (Nat.le_refl _)
  have d13 := c13
  have s13 := b14.size
  replace o3w0 := o3w0.below b14
  replace p9 := p9.below b14
  replace p11 := p11.below b14
  clear d12
  clear c12
  clear b14
  go_wp2_with fail
  refine (eqInt64S_calls _ _ _ _ _ _ _ _ _ (o14h0.rd len_cInt64) (o3w0.rd len_cInt64) h14h0 h3w0).mono ?_
  rintro e w14 ⟨rfl, b15⟩
  have c14 := bnext c13 b15 (Nat.le_refl _)
  have d14 := c14
  have s14 := b15.size
  replace o3w0 := o3w0.below b15
  replace p9 := p9.below b15
  replace p11 := p11.below b15
  replace o14h0 := o14h0.below b15
  clear d13
  clear c13
  clear b15
  go_wp2_with fail
  refine (heldInt64S_calls _ _ _ _ _ (p11.rd len_cInt64) h5g0 (by omega) (by omega)).mono ?_
  rintro e w15 ⟨rfl, b16⟩
  have c15 := bnext c14 b16 (Nat.le_refl _)
  have d15 := c15
  have s15 := b16.size
  replace o3w0 := o3w0.below b16
  replace p9 := p9.below b16
  replace p11 := p11.below b16
  replace o14h0 := o14h0.below b16
  clear d14
  clear c14
  clear b16
  go_wp2_with fail
  go_ret
  exact ⟨rfl, d15⟩
end Go.Proofs.Ytbacajbfedgcjaa
