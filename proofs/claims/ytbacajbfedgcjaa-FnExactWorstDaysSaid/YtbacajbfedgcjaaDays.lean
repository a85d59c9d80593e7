/- Lists of days: the codes, the sums. -/
import Derived.Test.YtbacajbfedgcjaaWater2
namespace Go.Proofs.Ytbacajbfedgcjaa
open Go.RowKit
set_option linter.unusedVariables false

def voB (n : Int) : Bool := inB n 0 1000000000
theorem voB_iff {n : Int} : voB n = true ↔ 0 ≤ n ∧ n ≤ 1000000000 := inB_iff
/-- The code of a list of days. -/
def lstC (xs : List W5) : Int := if xs.all waB then (if xs.length ≤ 100 then 0 else 2) else 1
/-- The code of days and a volume. -/
def runC (xs : List W5) (v : Int) : Int := if xs.all waB then (if xs.length ≤ 100 ∧ voB v = true then 0 else 2) else 1
theorem lstC_bd (xs : List W5) : 0 ≤ lstC xs ∧ lstC xs ≤ 2 := by unfold lstC; split <;> (try split) <;> omega
theorem runC_bd (xs : List W5) (v : Int) : 0 ≤ runC xs v ∧ runC xs v ≤ 2 := by unfold runC; split <;> (try split) <;> omega
theorem lstC_ok {xs : List W5} (h : lstC xs = 0) : xs.all waB = true ∧ xs.length ≤ 100 := by
  unfold lstC at h
  split at h
  · rename_i ha
    split at h
    · exact ⟨ha, by assumption⟩
    · cases h
  · cases h
theorem runC_ok {xs : List W5} {v : Int} (h : runC xs v = 0) : xs.all waB = true ∧ xs.length ≤ 100 ∧ voB v = true := by
  unfold runC at h
  split at h
  · rename_i ha
    split at h
    · rename_i hb; exact ⟨ha, hb.1, hb.2⟩
    · cases h
  · cases h
theorem runC_zero (xs : List W5) : runC xs 0 = lstC xs := by
  have h : voB 0 = true := by decide
  unfold runC lstC; rw [h]; simp
theorem runC_lst (xs : List W5) (v : Int) : runC xs v = if lstC xs = 0 ∧ voB v = false then 2 else lstC xs := by
  unfold runC lstC
  cases xs.all waB <;> cases voB v <;> by_cases h : xs.length ≤ 100 <;> simp [h]

theorem isVolume_calls (n : Int) (w : World) : Calls Try.prog 65 #[.int .i64 n] w fun e w' => e = .returned (.bool (voB n)) ∧ w = w' := by
  go_enter Try.func65, Try.ntmps65
  go_wp2_with (go_at_call 63; refine (in_calls _ _ _ _).mono ?_; rintro e w' ⟨rfl, rfl⟩)
  go_ret
  exact ⟨rfl, rfl⟩
theorem runCode_calls (a : Option Addr) (n c : Nat) (xs : List W5) (v : Int) (w : World) (hr : RdWater w a n xs) (hn : n ≤ 1048576) :
    Calls Try.prog 52 #[.slice a n c, .int .i64 v] w fun e w' => e = .returned (.int .i64 (runC xs v)) ∧ Below w.heap.size w w' := by
  have Hl := hd hr.len
  have he := ent Try.func15 (by kernel_rfl) rfl
  go_enter Try.func52, Try.ntmps52
  go_wp2_with fail
  refine (allWater_calls 15 #[] waB _ _ _ _ _ hr (by omega) he (fun f0 f1 f2 f3 f4 W _ => by rw [Array.append_empty]; exact ValidWater_calls f0 f1 f2 f3 f4 W)).mono ?_
  rintro e w1 ⟨rfl, b1⟩
  cases ha : xs.all waB
  · have Ha := hd ha
    clear ha
    go_wp2_with fail
    go_ret
    exact ⟨ret_int (by simp [runC, Ha.out]), b1⟩
  · have Ha := hd ha
    clear ha
    by_cases hk : n ≤ 100
    · cases hv : voB v
      · have Hv := hd hv
        go_wp2_with (go_at_call 65; refine (isVolume_calls _ _).mono ?_; rintro e w' ⟨rfl, rfl⟩)
        go_ret
        exact ⟨ret_int (by simp [runC, Ha.out, Hv.out]), b1⟩
      · have Hv := hd hv
        go_wp2_with (go_at_call 65; refine (isVolume_calls _ _).mono ?_; rintro e w' ⟨rfl, rfl⟩)
        go_ret
        exact ⟨ret_int (by simp [runC, Ha.out, Hv.out, Hl.out, hk]), b1⟩
    · have hk' : (100 : Int) < n := by omega
      go_wp2_with fail
      go_ret
      exact ⟨ret_int (by simp [runC, Ha.out, Hl.out, hk]), b1⟩
theorem l13List_calls (a : Option Addr) (n c : Nat) (xs : List W5) (w : World) (hr : RdWater w a n xs) (hn : n ≤ 1048576) :
    Calls Try.prog 50 #[.slice a n c] w fun e w' => e = .returned (.int .i64 (lstC xs)) ∧ Below w.heap.size w w' := by
  have Hl := hd hr.len
  go_enter Try.func50, Try.ntmps50
  go_wp2_with fail
  go_loopw [3] (fun i wr => ∃ k : Nat, k ≤ n ∧ i = .int .i64 k ∧ (xs.take k).all waB = true ∧ Below w.heap.size w wr) (fun i _ => n - (intOf i).toNat)
  case atStart => exact ⟨0, Nat.zero_le _, rfl, rfl, Below.refl _ _⟩
  case round =>
    obtain ⟨k, hk, rfl, hall, hb⟩ := hrel
    have Ha := hd hall
    clear hall
    by_cases hlt : k < n
    · obtain ⟨b, o, f0, f1, f2, f3, f4, rfl, hbl, hx, hc0, hc1, hc2, hc3, hc4⟩ := getWater (hr.below hb) hlt
      have Hx := hd hx
      clear hx
      go_wp2_with fail
      refine (l13Ok_calls _ _ f0 f1 f2 f3 f4 _ hc0 hc1 hc2 hc3 hc4).mono ?_
      rintro e w1 ⟨rfl, rfl⟩
      cases hp : waB (f0, f1, f2, f3, f4)
      · have Hp := hd hp
        clear hp
        go_wp2_with fail
        go_ret
        exact ⟨ret_int (by unfold lstC; rw [all_stop Hx.out Hp.out]; rfl), hb⟩
      · have Hp := hd hp
        clear hp
        go_wp2_with fail
        go_roundw
        case rel => exact ⟨k + 1, by omega, by go_num, all_next Hx.out Ha.out Hp.out, hb⟩
        case measure => simp [intOf]; omega
    · have hall : xs.all waB = true := all_done Hl.out (by omega) Ha.out
      have Hall := hd hall
      clear hall
      by_cases hk2 : n ≤ 100
      · have hk3 : (n : Int) ≤ 100 := by omega
        go_wp2_with fail
        go_ret
        exact ⟨ret_int (by unfold lstC; rw [Hall.out, Hl.out]; simp [hk2]), hb⟩
      · have hk3 : (100 : Int) < n := by omega
        go_wp2_with fail
        go_ret
        exact ⟨ret_int (by unfold lstC; rw [Hall.out, Hl.out]; simp [hk2]), hb⟩
theorem l13Start_calls (v : Int) (a : Option Addr) (n c : Nat) (xs : List W5) (w : World) (hr : RdWater w a n xs) (hn : n ≤ 1048576) :
    Calls Try.prog 54 #[.int .i64 v, .slice a n c] w fun e w' => e = .returned (.int .i64 (runC xs v)) ∧ Below w.heap.size w w' := by
  rw [runC_lst]
  have h0 := lstC_bd xs
  obtain ⟨z, hz⟩ : ∃ z, lstC xs = z := ⟨_, rfl⟩
  rw [hz] at h0 ⊢
  have Hz := hd hz
  clear hz
  go_enter Try.func54, Try.ntmps54
  go_wp2_with fail
  refine (l13List_calls _ _ _ _ _ hr hn).mono ?_
  rintro e w1 ⟨he, b1⟩
  rw [Hz.out] at he
  subst he
  by_cases hz : z = 0
  · subst hz
    cases hv : voB v
    all_goals
      have hv2 := hv
      unfold voB at hv2
      go_wp2_with (go_at_call 55; refine (l00In_calls _ _ _ _).mono ?_; rintro e w' ⟨rfl, rfl⟩)
      go_ret
      exact ⟨rfl, b1⟩
  · have hz' : (z == 0) = false := by simpa using hz
    go_wp2_with fail
    go_ret
    exact ⟨rfl, b1⟩
end Go.Proofs.Ytbacajbfedgcjaa
