/- ValidWater, NetOf. -/
import Derived.Test.YtbacajbfedgcjaaWater
namespace Go.Proofs.Ytbacajbfedgcjaa
open Go.RowKit
set_option linter.unusedVariables false

theorem specValidWater_calls (r s e p q : Int) (w : World) :
    Calls Try.prog 13 #[.agg #[.int .i64 r, .int .i64 s, .int .i64 e, .int .i64 p, .int .i64 q]] w fun e' w' => e' = .returned (.bool (waB (r, s, e, p, q))) ∧ Below w.heap.size w w' := by
  go_enter Try.func13, Try.ntmps13
  go_wp2_with fail
  refine (l13Ok_calls _ _ r s e p q _ ?_ ?_ ?_ ?_ ?_).mono ?_
  iterate 5 exact World.cell?_alloc_new _ _ _ _
  rintro e' w' ⟨rfl, rfl⟩
  go_wp2_with fail
  go_ret
  exact ⟨rfl, by go_grown⟩
def netOf (x : W5) : Int × Int := if waB x then (netW x, 0) else (0, 1)
theorem specNetOf_calls (r s e p q : Int) (w : World) :
    Calls Try.prog 16 #[.agg #[.int .i64 r, .int .i64 s, .int .i64 e, .int .i64 p, .int .i64 q]] w fun e' w' =>
      e' = .returned (.tuple #[.int .i64 (netOf (r, s, e, p, q)).1, .int .i64 (netOf (r, s, e, p, q)).2]) ∧ Below w.heap.size w w' := by
  go_enter Try.func16, Try.ntmps16
  go_wp2_with fail
  refine (l13Ok_calls _ _ r s e p q _ ?_ ?_ ?_ ?_ ?_).mono ?_
  iterate 5 exact World.cell?_alloc_new _ _ _ _
  rintro e' w' ⟨rfl, rfl⟩
  cases hv : waB (r, s, e, p, q)
  · have Hv := hd hv
    clear hv
    go_wp2_with fail
    go_ret2
    exact ⟨ret_ints (by simp [netOf, Hv.out]) (by simp [netOf, Hv.out]), by go_grown⟩
  · have Hv := hd hv
    clear hv
    go_wp2_with fail
    refine (l13Net_calls _ _ r s e p q _ (waB_nb Hv.out) ?_ ?_ ?_ ?_ ?_).mono ?_
    iterate 5 exact World.cell?_alloc_new _ _ _ _
    rintro e' w1 ⟨rfl, b1⟩
    go_wp2_with fail
    go_ret2
    exact ⟨ret_ints (by simp [netOf, Hv.out]) (by simp [netOf, Hv.out]), bbox1 b1⟩
theorem NetOf_calls (r s e p q : Int) (w : World) :
    Calls Try.prog 17 #[.agg #[.int .i64 r, .int .i64 s, .int .i64 e, .int .i64 p, .int .i64 q]] w fun e' w' =>
      e' = .returned (.tuple #[.int .i64 (netOf (r, s, e, p, q)).1, .int .i64 (netOf (r, s, e, p, q)).2]) ∧ Below w.heap.size w w' := by
  go_enter Try.func17, Try.ntmps17
  go_wp2_with fail
  refine (ValidWater_calls r s e p q _).mono ?_
  rintro e' w1 ⟨rfl, b1⟩
  obtain ⟨k1, f1⟩ := bcell b1
  have d1 := bbox1 b1
  clear b1
  cases hv : waB (r, s, e, p, q)
  · have Hv := hd hv
    clear hv
    go_wp2_with fail
    go_ret2
    exact ⟨ret_ints (by simp [netOf, Hv.out]) (by simp [netOf, Hv.out]), d1⟩
  · have Hv := hd hv
    clear hv
    go_wp2_with fail
    refine (net_calls r s e p q _ (waB_nb Hv.out)).mono ?_
    rintro e' w2 ⟨rfl, b2⟩
    go_wp2_with fail
    go_ret2
    exact ⟨ret_ints (by simp [netOf, Hv.out]) (by simp [netOf, Hv.out]), bnext d1 b2 (Nat.le_refl _)⟩
end Go.Proofs.Ytbacajbfedgcjaa
