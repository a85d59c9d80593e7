/- AlarmOf. -/
import Derived.Test.YtmbonkklfnhkdaaStage
namespace Go.Proofs.Ytmbonkklfnhkdaa
open Go.RowKit
set_option linter.unusedVariables false

/-- The code of alarms and levels. -/
def alC (xs ys : List Int) : Int := if alarmsB xs then (if levB ys then 0 else 2) else 1
def alarmOf (xs : List Int) (lv : Int) : Int × Int := if alarmsB xs then (if lvB lv then (stageN xs lv, 0) else (0, 2)) else (0, 1)
theorem one_rd (w : World) (lv : Int) (E : TypeId) : RdInt64 (w.alloc (.cells #[.int .i64 lv] E)) (some ⟨w.heap.size, 0, none⟩) 1 [lv] := by
  refine ⟨rfl, fun _ => ⟨_, _, rfl, fun i x hx j v hv => ?_⟩⟩
  have hi : i = 0 := by have := lt_of_get hx; simp at this; omega
  subst hi
  have hj : j = 0 := by have := lt_of_get hv; simp [ci] at this; omega
  subst hj
  simp at hx
  subst hx
  simp [ci] at hv
  subst hv
  simp
theorem alC_bd (xs ys : List Int) : 0 ≤ alC xs ys ∧ alC xs ys ≤ 2 := by unfold alC; split <;> (try split) <;> omega
theorem alarmCode_calls (a : Option Addr) (n c : Nat) (xs : List Int) (b : Option Addr) (m d : Nat) (ys : List Int) (w : World) (ha : RdInt64 w a n xs) (hn : n ≤ 1048576) (hb : RdInt64 w b m ys) (hm : m ≤ 1048576) :
    Calls Try.prog 47 #[.slice a n c, .slice b m d] w fun e w' => e = .returned (.int .i64 (alC xs ys)) ∧ Below w.heap.size w w' := by
  have Hb := hd hb.len
  go_enter Try.func47, Try.ntmps47
  go_wp2_with fail
  refine (ValidAlarms_calls _ _ _ xs _ ha hn).mono ?_
  rintro e w1 ⟨rfl, b1⟩
  cases hv : alarmsB xs
  · have Hv := hd hv
    clear hv
    go_wp2_with fail
    go_ret
    exact ⟨ret_int (by simp [alC, Hv.out]), b1⟩
  · have Hv := hd hv
    clear hv
    go_wp2_with fail
    refine (areLevels_calls _ _ _ ys _ (hb.below b1) hm).mono ?_
    rintro e w2 ⟨rfl, b2⟩
    have d2 := bnext b1 b2 (Nat.le_refl _)
    cases hl : ys.all lvB
    · have Hl := hd hl
      clear hl
      go_wp2_with fail
      go_ret
      exact ⟨ret_int (by unfold alC levB; rw [Hv.out, Hl.out]; rfl), d2⟩
    · have Hl := hd hl
      clear hl
      by_cases h2 : m ≤ 200
      · go_wp2_with fail
        go_ret
        exact ⟨ret_int (by unfold alC levB; rw [Hv.out, Hl.out, Hb.out, decide_eq_true h2]; rfl), d2⟩
      · go_wp2_with fail
        go_ret
        exact ⟨ret_int (by unfold alC levB; rw [Hv.out, Hl.out, Hb.out, decide_eq_false h2]; rfl), d2⟩
theorem AlarmOf_calls (a : Option Addr) (n c : Nat) (xs : List Int) (lv : Int) (w : World) (ha : RdInt64 w a n xs) (hn : n ≤ 1048576) :
    Calls Try.prog 20 #[.slice a n c, .int .i64 lv] w fun e w' => e = .returned (.tuple #[.int .i64 (alarmOf xs lv).1, .int .i64 (alarmOf xs lv).2]) ∧ Below w.heap.size w w' := by
  have hz : alC xs [lv] = (if alarmsB xs then (if lvB lv then 0 else 2) else 1) := by simp [alC, levB]
  have hzb := alC_bd xs [lv]
  obtain ⟨z, hz'⟩ : ∃ z, alC xs [lv] = z := ⟨_, rfl⟩
  rw [hz'] at hz hzb
  have Hz' := hd hz'
  have Hz := hd hz
  clear hz hz'
  go_enter Try.func20, Try.ntmps20
  go_wp2_with fail
  refine (alarmCode_calls _ _ _ xs _ _ _ [lv] _ (ha.alloc _) hn (one_rd w lv _) (by omega)).mono ?_
  rintro e w1 ⟨he, b1⟩
  rw [Hz'.out] at he
  subst he
  have d1 := bbox1 b1
  clear b1
  by_cases h0 : z = 0
  · subst h0
    have K : Hid (alarmOf xs lv = (((stageN xs lv : Nat) : Int), 0)) := hd (by
      have h := Hz.out
      unfold alarmOf
      cases h1 : alarmsB xs
      · rw [h1] at h; simp at h
      · cases h2 : lvB lv
        · rw [h1, h2] at h; simp at h
        · rfl)
    go_wp2_with fail
    refine (stageOf_calls _ _ _ xs lv _ (ha.below d1) hn).mono ?_
    rintro e w2 ⟨rfl, b2⟩
    go_wp2_with fail
    go_ret2
    exact ⟨ret_ints (by rw [K.out]) (by rw [K.out]), bnext d1 b2 (Nat.le_refl _)⟩
  · have h0' : (z != 0) = true := by simpa using h0
    have K : Hid (alarmOf xs lv = (0, z)) := hd (by
      have h := Hz.out
      unfold alarmOf
      cases h1 : alarmsB xs
      · rw [h1] at h; simp at h; simp [h]
      · cases h2 : lvB lv
        · rw [h1, h2] at h; simp at h; simp [h]
        · rw [h1, h2] at h; simp at h; exact absurd h h0)
    go_wp2_with fail
    go_ret2
    exact ⟨ret_ints (by rw [K.out]) (by rw [K.out]), d1⟩
theorem specAlarmOf_calls (a : Option Addr) (n c : Nat) (xs : List Int) (lv : Int) (w : World) (ha : RdInt64 w a n xs) (hn : n ≤ 1048576) :
    Calls Try.prog 19 #[.slice a n c, .int .i64 lv] w fun e w' => e = .returned (.tuple #[.int .i64 (alarmOf xs lv).1, .int .i64 (alarmOf xs lv).2]) ∧ Below w.heap.size w w' := by
  go_enter Try.func19, Try.ntmps19
  go_wp2_with fail
  refine (l16Ok_calls _ _ _ xs _ ha hn).mono ?_
  rintro e w1 ⟨rfl, b1⟩
  cases hv : alarmsB xs
  · have K : Hid (alarmOf xs lv = (0, 1)) := hd (by simp [alarmOf, hv])
    clear hv
    go_wp2_with fail
    go_ret2
    exact ⟨ret_ints (by rw [K.out]) (by rw [K.out]), b1⟩
  · cases hl : lvB lv
    · have K : Hid (alarmOf xs lv = (0, 2)) := hd (by simp [alarmOf, hv, hl])
      clear hv
      go_wp2_with (go_at_call 45; refine (l02Level_calls _ _).mono ?_; rintro e w' ⟨rfl, rfl⟩)
      go_ret2
      exact ⟨ret_ints (by rw [K.out]) (by rw [K.out]), b1⟩
    · have K : Hid (alarmOf xs lv = (((stageN xs lv : Nat) : Int), 0)) := hd (by simp [alarmOf, hv, hl])
      clear hv
      go_wp2_with (go_at_call 45; refine (l02Level_calls _ _).mono ?_; rintro e w' ⟨rfl, rfl⟩)
      refine (l16Stage_calls _ _ _ xs lv _ (ha.below b1) hn).mono ?_
      rintro e w2 ⟨rfl, rfl⟩
      go_wp2_with fail
      go_ret2
      exact ⟨ret_ints (by rw [K.out]) (by rw [K.out]), b1⟩
end Go.Proofs.Ytmbonkklfnhkdaa
