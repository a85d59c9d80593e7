/- StepSluice. -/
import Derived.Test.YtppkljhnmifilaaStep
namespace Go.Proofs.Ytppkljhnmifilaa
open Go.RowKit
set_option linter.unusedVariables false

def stepSl (wd sill : Int) (g : G3) (order i o : Int) : G3 × Int :=
  if slB wd sill && gaB g.2.1 g.2.2 then (if orB order && (lvB i && lvB o) then stepG wd sill g order i o else ((false, 0, 0), 2)) else ((false, 0, 0), 1)
theorem StepSluice_calls (wd sill : Int) (op : Bool) (p m order i o : Int) (w : World) :
    Calls Try.prog 30 #[.agg #[.int .i64 wd, .int .i64 sill], .agg #[.bool op, .int .i64 p, .int .i64 m], .int .i64 order, .int .i64 i, .int .i64 o] w fun e w' => e = .returned (.tuple #[.agg #[.bool (stepSl wd sill (op, p, m) order i o).1.1, .int .i64 (stepSl wd sill (op, p, m) order i o).1.2.1, .int .i64 (stepSl wd sill (op, p, m) order i o).1.2.2], .int .i64 (stepSl wd sill (op, p, m) order i o).2]) ∧ Below w.heap.size w w' := by
  go_enter Try.func30, Try.ntmps30
  go_wp2_with fail
  refine (ValidSluice_calls _ _ _).mono ?_
  rintro e w1 ⟨rfl, b1⟩
  obtain ⟨g0, g1, g2, d0⟩ := three_blk w (Obj.cells #[Value.int IntKind.i64 wd, Value.int IntKind.i64 sill] 47) (Obj.cells #[Value.bool op, Value.int IntKind.i64 (p), Value.int IntKind.i64 (m)] 44) (Obj.cells #[Value.bool false, Value.int IntKind.i64 (0), Value.int IntKind.i64 (0)] 44)
  have q0 := blk_below g0 b1 (blk_lt g0)
  have q1 := blk_below g1 b1 (blk_lt g1)
  have q2 := blk_below g2 b1 (blk_lt g2)
  have d := bnext d0 b1 (Nat.le_refl _)
  clear b1 g0 g1 g2 d0
  have c00 := blk_cell q0 0
  have c01 := blk_cell q0 1
  have c10 := blk_cell q1 0
  have c11 := blk_cell q1 1
  have c12 := blk_cell q1 2
  have y0 := blk_cell q2 0
  have y1 := blk_cell q2 1
  have y2 := blk_cell q2 2
  have z0 := blk_free q2 0
  have z1 := blk_free q2 1
  have z2 := blk_free q2 2
  have Q0 := hd q0
  have Q1 := hd q1
  have Q2 := hd q2
  clear q0 q1 q2
  cases hs : slB wd sill
  · have K : Hid (stepSl wd sill (op, p, m) order i o = ((false, 0, 0), 1)) := hd (by simp [stepSl, hs])
    go_wp2_with fail
    exact bodyPost_ret (results_cell_tmp rfl _ _ _ _ _ _ _ rfl (blk_set3 Q2.out _ _ _) Try.underlying44 rfl (by kernel_rfl)) rfl ⟨by rw [K.out]; rfl, below_set3 d (by omega) _ _ _⟩
  · have Hs := hd hs
    clear hs
    go_wp2_with fail
    refine (ValidGate_calls _ _ _ _).mono ?_
    rintro e w2 ⟨rfl, b2⟩
    have q0 := blk_below Q0.out b2 (blk_lt Q0.out)
    have q1 := blk_below Q1.out b2 (blk_lt Q1.out)
    have q2 := blk_below Q2.out b2 (blk_lt Q2.out)
    have d := bnext d b2 (Nat.le_refl _)
    clear b2 c00 c01 c10 c11 c12 y0 y1 y2 z0 z1 z2 Q0 Q1 Q2
    have c00 := blk_cell q0 0
    have c01 := blk_cell q0 1
    have c10 := blk_cell q1 0
    have c11 := blk_cell q1 1
    have c12 := blk_cell q1 2
    have y0 := blk_cell q2 0
    have y1 := blk_cell q2 1
    have y2 := blk_cell q2 2
    have z0 := blk_free q2 0
    have z1 := blk_free q2 1
    have z2 := blk_free q2 2
    have Q0 := hd q0
    have Q1 := hd q1
    have Q2 := hd q2
    clear q0 q1 q2
    cases hg : gaB p m
    · have K : Hid (stepSl wd sill (op, p, m) order i o = ((false, 0, 0), 1)) := hd (by simp [stepSl, Hs.out, hg])
      go_wp2_with fail
      exact bodyPost_ret (results_cell_tmp rfl _ _ _ _ _ _ _ rfl (blk_set3 Q2.out _ _ _) Try.underlying44 rfl (by kernel_rfl)) rfl ⟨by rw [K.out]; rfl, below_set3 d (by omega) _ _ _⟩
    · have Hg := hd hg
      clear hg
      cases ho : orB order
      · have K : Hid (stepSl wd sill (op, p, m) order i o = ((false, 0, 0), 2)) := hd (by simp [stepSl, Hs.out, Hg.out, ho])
        skip
        go_wp2_with (first | (go_at_call 62; refine (isOrder_calls _ _).mono ?_; rintro e w' ⟨rfl, rfl⟩) | (go_at_call 41; refine (ValidLevel_calls _ _).mono ?_; rintro e w' ⟨rfl, rfl⟩))
        exact bodyPost_ret (results_cell_tmp rfl _ _ _ _ _ _ _ rfl (blk_set3 Q2.out _ _ _) Try.underlying44 rfl (by kernel_rfl)) rfl ⟨by rw [K.out]; rfl, below_set3 d (by omega) _ _ _⟩
      · have Ho := hd ho
        cases hi : lvB i
        · have K : Hid (stepSl wd sill (op, p, m) order i o = ((false, 0, 0), 2)) := hd (by simp [stepSl, Hs.out, Hg.out, Ho.out, hi])
          skip
          go_wp2_with (first | (go_at_call 62; refine (isOrder_calls _ _).mono ?_; rintro e w' ⟨rfl, rfl⟩) | (go_at_call 41; refine (ValidLevel_calls _ _).mono ?_; rintro e w' ⟨rfl, rfl⟩))
          exact bodyPost_ret (results_cell_tmp rfl _ _ _ _ _ _ _ rfl (blk_set3 Q2.out _ _ _) Try.underlying44 rfl (by kernel_rfl)) rfl ⟨by rw [K.out]; rfl, below_set3 d (by omega) _ _ _⟩
        · have Hi := hd hi
          cases hk : lvB o
          · have K : Hid (stepSl wd sill (op, p, m) order i o = ((false, 0, 0), 2)) := hd (by simp [stepSl, Hs.out, Hg.out, Ho.out, Hi.out, hk])
            skip
            go_wp2_with (first | (go_at_call 62; refine (isOrder_calls _ _).mono ?_; rintro e w' ⟨rfl, rfl⟩) | (go_at_call 41; refine (ValidLevel_calls _ _).mono ?_; rintro e w' ⟨rfl, rfl⟩))
            exact bodyPost_ret (results_cell_tmp rfl _ _ _ _ _ _ _ rfl (blk_set3 Q2.out _ _ _) Try.underlying44 rfl (by kernel_rfl)) rfl ⟨by rw [K.out]; rfl, below_set3 d (by omega) _ _ _⟩
          · have Hk := hd hk
            have K0 : Hid (stepSl wd sill (op, p, m) order i o = stepG wd sill (op, p, m) order i o) := hd (by simp [stepSl, Hs.out, Hg.out, Ho.out, Hi.out, hk])
            skip
            go_wp2_with (first | (go_at_call 62; refine (isOrder_calls _ _).mono ?_; rintro e w' ⟨rfl, rfl⟩) | (go_at_call 41; refine (ValidLevel_calls _ _).mono ?_; rintro e w' ⟨rfl, rfl⟩))
            refine (step_calls _ _ _ _ _ _ _ _ _ Hs.out Hg.out Ho.out Hi.out Hk.out).mono ?_
            rintro e w3 ⟨he, b3⟩
            obtain ⟨r, hr⟩ : ∃ r, stepG wd sill (op, p, m) order i o = r := ⟨_, rfl⟩
            rw [hr] at he
            have K : Hid (stepSl wd sill (op, p, m) order i o = r) := hd (K0.out.trans hr)
            obtain ⟨⟨ra, rb, rc⟩, rd⟩ := r
            simp only [aggG] at he
            subst he
            have q2 := blk_below Q2.out b3 (blk_lt Q2.out)
            have d := bnext d b3 (Nat.le_refl _)
            clear b3 c00 c01 c10 c11 c12 y0 y1 y2 z0 z1 z2 Q0 Q1 Q2 hr ho hi hk
            have y0 := blk_cell q2 0
            have y1 := blk_cell q2 1
            have y2 := blk_cell q2 2
            have z0 := blk_free q2 0
            have z1 := blk_free q2 1
            have z2 := blk_free q2 2
            have Q2 := hd q2
            clear q2
            go_wp2_with fail
            exact bodyPost_ret (results_cell_tmp rfl _ _ _ _ _ _ _ rfl (blk_set3 Q2.out _ _ _) Try.underlying44 rfl (by kernel_rfl)) rfl ⟨by rw [K.out]; rfl, below_set3 d (by omega) _ _ _⟩
theorem specStepSluice_calls (wd sill : Int) (op : Bool) (p m order i o : Int) (w : World) :
    Calls Try.prog 27 #[.agg #[.int .i64 wd, .int .i64 sill], .agg #[.bool op, .int .i64 p, .int .i64 m], .int .i64 order, .int .i64 i, .int .i64 o] w fun e w' => e = .returned (.tuple #[.agg #[.bool (stepSl wd sill (op, p, m) order i o).1.1, .int .i64 (stepSl wd sill (op, p, m) order i o).1.2.1, .int .i64 (stepSl wd sill (op, p, m) order i o).1.2.2], .int .i64 (stepSl wd sill (op, p, m) order i o).2]) ∧ Below w.heap.size w w' := by
  go_enter Try.func27, Try.ntmps27
  go_wp2_with fail
  refine (l09Ok_calls _ _ _).mono ?_
  rintro e w1 ⟨rfl, b1⟩
  obtain ⟨g0, g1, g2, d0⟩ := three_blk w (Obj.cells #[Value.int IntKind.i64 wd, Value.int IntKind.i64 sill] 47) (Obj.cells #[Value.bool op, Value.int IntKind.i64 (p), Value.int IntKind.i64 (m)] 44) (Obj.cells #[Value.bool false, Value.int IntKind.i64 (0), Value.int IntKind.i64 (0)] 44)
  have q0 := blk_below g0 b1 (blk_lt g0)
  have q1 := blk_below g1 b1 (blk_lt g1)
  have q2 := blk_below g2 b1 (blk_lt g2)
  have d := bnext d0 b1 (Nat.le_refl _)
  clear b1 g0 g1 g2 d0
  have c00 := blk_cell q0 0
  have c01 := blk_cell q0 1
  have c10 := blk_cell q1 0
  have c11 := blk_cell q1 1
  have c12 := blk_cell q1 2
  have y0 := blk_cell q2 0
  have y1 := blk_cell q2 1
  have y2 := blk_cell q2 2
  have z0 := blk_free q2 0
  have z1 := blk_free q2 1
  have z2 := blk_free q2 2
  have Q0 := hd q0
  have Q1 := hd q1
  have Q2 := hd q2
  clear q0 q1 q2
  cases hs : slB wd sill
  · have K : Hid (stepSl wd sill (op, p, m) order i o = ((false, 0, 0), 1)) := hd (by simp [stepSl, hs])
    go_wp2_with fail
    exact bodyPost_ret (results_cell_tmp rfl _ _ _ _ _ _ _ rfl (blk_set3 Q2.out _ _ _) Try.underlying44 rfl (by kernel_rfl)) rfl ⟨by rw [K.out]; rfl, below_set3 d (by omega) _ _ _⟩
  · have Hs := hd hs
    clear hs
    go_wp2_with fail
    refine (l09Gate_calls _ _ _ _).mono ?_
    rintro e w2 ⟨rfl, b2⟩
    have q0 := blk_below Q0.out b2 (blk_lt Q0.out)
    have q1 := blk_below Q1.out b2 (blk_lt Q1.out)
    have q2 := blk_below Q2.out b2 (blk_lt Q2.out)
    have d := bnext d b2 (Nat.le_refl _)
    clear b2 c00 c01 c10 c11 c12 y0 y1 y2 z0 z1 z2 Q0 Q1 Q2
    have c00 := blk_cell q0 0
    have c01 := blk_cell q0 1
    have c10 := blk_cell q1 0
    have c11 := blk_cell q1 1
    have c12 := blk_cell q1 2
    have y0 := blk_cell q2 0
    have y1 := blk_cell q2 1
    have y2 := blk_cell q2 2
    have z0 := blk_free q2 0
    have z1 := blk_free q2 1
    have z2 := blk_free q2 2
    have Q0 := hd q0
    have Q1 := hd q1
    have Q2 := hd q2
    clear q0 q1 q2
    cases hg : gaB p m
    · have K : Hid (stepSl wd sill (op, p, m) order i o = ((false, 0, 0), 1)) := hd (by simp [stepSl, Hs.out, hg])
      go_wp2_with fail
      exact bodyPost_ret (results_cell_tmp rfl _ _ _ _ _ _ _ rfl (blk_set3 Q2.out _ _ _) Try.underlying44 rfl (by kernel_rfl)) rfl ⟨by rw [K.out]; rfl, below_set3 d (by omega) _ _ _⟩
    · have Hg := hd hg
      clear hg
      cases ho : orB order
      · have K : Hid (stepSl wd sill (op, p, m) order i o = ((false, 0, 0), 2)) := hd (by simp [stepSl, Hs.out, Hg.out, ho])
        unfold orB at ho
        go_wp2_with (first | (go_at_call 58; refine (l00In_calls _ _ _ _).mono ?_; rintro e w' ⟨rfl, rfl⟩) | (go_at_call 42; refine (l02Level_calls _ _).mono ?_; rintro e w' ⟨rfl, rfl⟩))
        exact bodyPost_ret (results_cell_tmp rfl _ _ _ _ _ _ _ rfl (blk_set3 Q2.out _ _ _) Try.underlying44 rfl (by kernel_rfl)) rfl ⟨by rw [K.out]; rfl, below_set3 d (by omega) _ _ _⟩
      · have Ho := hd ho
        cases hi : lvB i
        · have K : Hid (stepSl wd sill (op, p, m) order i o = ((false, 0, 0), 2)) := hd (by simp [stepSl, Hs.out, Hg.out, Ho.out, hi])
          unfold orB at ho
          go_wp2_with (first | (go_at_call 58; refine (l00In_calls _ _ _ _).mono ?_; rintro e w' ⟨rfl, rfl⟩) | (go_at_call 42; refine (l02Level_calls _ _).mono ?_; rintro e w' ⟨rfl, rfl⟩))
          exact bodyPost_ret (results_cell_tmp rfl _ _ _ _ _ _ _ rfl (blk_set3 Q2.out _ _ _) Try.underlying44 rfl (by kernel_rfl)) rfl ⟨by rw [K.out]; rfl, below_set3 d (by omega) _ _ _⟩
        · have Hi := hd hi
          cases hk : lvB o
          · have K : Hid (stepSl wd sill (op, p, m) order i o = ((false, 0, 0), 2)) := hd (by simp [stepSl, Hs.out, Hg.out, Ho.out, Hi.out, hk])
            unfold orB at ho
            go_wp2_with (first | (go_at_call 58; refine (l00In_calls _ _ _ _).mono ?_; rintro e w' ⟨rfl, rfl⟩) | (go_at_call 42; refine (l02Level_calls _ _).mono ?_; rintro e w' ⟨rfl, rfl⟩))
            exact bodyPost_ret (results_cell_tmp rfl _ _ _ _ _ _ _ rfl (blk_set3 Q2.out _ _ _) Try.underlying44 rfl (by kernel_rfl)) rfl ⟨by rw [K.out]; rfl, below_set3 d (by omega) _ _ _⟩
          · have Hk := hd hk
            have K0 : Hid (stepSl wd sill (op, p, m) order i o = stepG wd sill (op, p, m) order i o) := hd (by simp [stepSl, Hs.out, Hg.out, Ho.out, Hi.out, hk])
            unfold orB at ho
            go_wp2_with (first | (go_at_call 58; refine (l00In_calls _ _ _ _).mono ?_; rintro e w' ⟨rfl, rfl⟩) | (go_at_call 42; refine (l02Level_calls _ _).mono ?_; rintro e w' ⟨rfl, rfl⟩))
            refine (l09Step_calls _ _ _ _ _ _ _ _ _ Hs.out Hg.out Ho.out Hi.out Hk.out).mono ?_
            rintro e w3 ⟨he, b3⟩
            obtain ⟨r, hr⟩ : ∃ r, stepG wd sill (op, p, m) order i o = r := ⟨_, rfl⟩
            rw [hr] at he
            have K : Hid (stepSl wd sill (op, p, m) order i o = r) := hd (K0.out.trans hr)
            obtain ⟨⟨ra, rb, rc⟩, rd⟩ := r
            simp only [aggG] at he
            subst he
            have q2 := blk_below Q2.out b3 (blk_lt Q2.out)
            have d := bnext d b3 (Nat.le_refl _)
            clear b3 c00 c01 c10 c11 c12 y0 y1 y2 z0 z1 z2 Q0 Q1 Q2 hr ho hi hk
            have y0 := blk_cell q2 0
            have y1 := blk_cell q2 1
            have y2 := blk_cell q2 2
            have z0 := blk_free q2 0
            have z1 := blk_free q2 1
            have z2 := blk_free q2 2
            have Q2 := hd q2
            clear q2
            go_wp2_with fail
            exact bodyPost_ret (results_cell_tmp rfl _ _ _ _ _ _ _ rfl (blk_set3 Q2.out _ _ _) Try.underlying44 rfl (by kernel_rfl)) rfl ⟨by rw [K.out]; rfl, below_set3 d (by omega) _ _ _⟩
end Go.Proofs.Ytppkljhnmifilaa
