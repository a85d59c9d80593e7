/- Names. -/
import Derived.Test.YtomobdajnlfphaaStr
import Derived.WalkSpells
namespace Go.Proofs.Ytomobdajnlfphaa
open Go.RowKit
set_option linter.unusedVariables false

def bt (s : ByteArray) (i : Nat) : Nat := if h : i < s.size then (s[i]'h).toNat else 0
theorem bt_at {s : ByteArray} {i : Nat} (h : i < s.size) : (s[i]'h).toNat = bt s i := by unfold bt; rw [dif_pos h]
def smB (c : Nat) : Bool := decide (97 ≤ c ∧ c ≤ 122)
def dgB (c : Nat) : Bool := decide (48 ≤ c ∧ c ≤ 57)
def okI (i c : Nat) : Bool := smB c || ((dgB c || decide (c = 45)) && decide (i ≠ 0))
def nameB (s : ByteArray) : Bool := (List.range s.size).all (fun i => okI i (bt s i)) && inB (s.size : Int) 1 12
theorem nameB_stop {s : ByteArray} {k : Nat} (hk : k < s.size) (h : okI k (bt s k) = false) : nameB s = false := by
  unfold nameB
  rw [List.all_eq_false.2 ⟨k, List.mem_range.2 hk, by simp [h]⟩]
  rfl
theorem nameB_len {s : ByteArray} (h : inB (s.size : Int) 1 12 = false) : nameB s = false := by unfold nameB; rw [h, Bool.and_false]
theorem nameB_all {s : ByteArray} (h : ∀ i, i < s.size → okI i (bt s i) = true) : nameB s = inB (s.size : Int) 1 12 := by
  unfold nameB
  rw [List.all_eq_true.2 (fun i hi => h i (List.mem_range.1 hi)), Bool.true_and]
theorem cls (c : Nat) : c < 45 ∨ c = 45 ∨ (45 < c ∧ c < 48) ∨ (48 ≤ c ∧ c ≤ 57) ∨ (57 < c ∧ c < 97) ∨ (97 ≤ c ∧ c ≤ 122) ∨ 122 < c := by omega
theorem ok_next {s : ByteArray} {k : Nat} (h : ∀ i, i < k → okI i (bt s i) = true) (hk : okI k (bt s k) = true) : ∀ i, i < k + 1 → okI i (bt s i) = true := by
  intro i hi
  rcases Nat.lt_or_eq_of_le (Nat.le_of_lt_succ hi) with hl | rfl
  · exact h i hl
  · exact hk
theorem l01Small_calls (c : Nat) (w : World) : Calls Try.prog 17 #[.int .u8 (c : Int)] w fun e w' => e = .returned (.bool (smB c)) ∧ w = w' := by
  by_cases h1 : 97 ≤ c
  · by_cases h2 : c ≤ 122
    · have e1 : (97 : Int) ≤ (c : Int) := by omega
      have e2 : (c : Int) ≤ 122 := by omega
      have K : Hid (smB c = true) := hd (by unfold smB; simp [h1, h2])
      go_enter Try.func17, Try.ntmps17
      go_wp2_with fail
      go_ret
      exact ⟨ret_bool (by rw [K.out]), rfl⟩
    · have e1 : (97 : Int) ≤ (c : Int) := by omega
      have e2 : decide ((c : Int) ≤ 122) = false := by simp; omega
      have K : Hid (smB c = false) := hd (by unfold smB; simp [h1, h2])
      go_enter Try.func17, Try.ntmps17
      go_wp2_with fail
      go_ret
      exact ⟨ret_bool (by rw [K.out]), rfl⟩
  · have e1 : decide ((97 : Int) ≤ (c : Int)) = false := by simp; omega
    have K : Hid (smB c = false) := hd (by unfold smB; simp [h1])
    go_enter Try.func17, Try.ntmps17
    go_wp2_with fail
    go_ret
    exact ⟨ret_bool (by rw [K.out]), rfl⟩
theorem l01Digit_calls (c : Nat) (w : World) : Calls Try.prog 18 #[.int .u8 (c : Int)] w fun e w' => e = .returned (.bool (dgB c)) ∧ w = w' := by
  by_cases h1 : 48 ≤ c
  · by_cases h2 : c ≤ 57
    · have e1 : (48 : Int) ≤ (c : Int) := by omega
      have e2 : (c : Int) ≤ 57 := by omega
      have K : Hid (dgB c = true) := hd (by unfold dgB; simp [h1, h2])
      go_enter Try.func18, Try.ntmps18
      go_wp2_with fail
      go_ret
      exact ⟨ret_bool (by rw [K.out]), rfl⟩
    · have e1 : (48 : Int) ≤ (c : Int) := by omega
      have e2 : decide ((c : Int) ≤ 57) = false := by simp; omega
      have K : Hid (dgB c = false) := hd (by unfold dgB; simp [h1, h2])
      go_enter Try.func18, Try.ntmps18
      go_wp2_with fail
      go_ret
      exact ⟨ret_bool (by rw [K.out]), rfl⟩
  · have e1 : decide ((48 : Int) ≤ (c : Int)) = false := by simp; omega
    have K : Hid (dgB c = false) := hd (by unfold dgB; simp [h1])
    go_enter Try.func18, Try.ntmps18
    go_wp2_with fail
    go_ret
    exact ⟨ret_bool (by rw [K.out]), rfl⟩
set_option maxHeartbeats 1000000 in
theorem IsName_calls (s : ByteArray) (w : World) (hs : s.size ≤ 1048576) :
    Calls Try.prog 14 #[.string s] w fun e w' => e = .returned (.bool (nameB s)) ∧ Below w.heap.size w w' := by
  obtain ⟨R, hR⟩ : ∃ b, nameB s = b := ⟨_, rfl⟩
  have HR := hd hR
  rw [hR]
  clear hR
  go_enter Try.func14, Try.ntmps14
  go_wp2_with fail
  go_loopw [3] (fun i wr => ∃ k : Nat, k ≤ s.size ∧ i = .int .i64 k ∧ (∀ i, i < k → okI i (bt s i) = true) ∧ Below w.heap.size w wr) (fun i _ => s.size - (intOf i).toNat)
  case atStart => exact ⟨0, Nat.zero_le _, rfl, fun i hi => absurd hi (Nat.not_lt_zero _), Below.refl _ _⟩
  case round =>
    obtain ⟨k, hk, rfl, hok, hb⟩ := hrel
    have HOK := hd hok
    clear hok
    by_cases hlt : k < s.size
    · have i1 : (0 : Int) ≤ (k : Int) := by omega
      have i2 : (k : Int) < (s.size : Int) := by omega
      obtain ⟨c, hc⟩ : ∃ c, bt s k = c := ⟨_, rfl⟩
      have HC := hd hc
      have hcc := bt_at hlt
      rw [hc] at hcc
      clear hc
      rcases cls c with h | h | h | h | h | h | h
      · have d1 : decide ((97 : Int) ≤ (c : Int)) = false := by simp; omega
        have d2 : decide ((c : Int) ≤ 122) = true := by simp; omega
        have d3 : decide ((48 : Int) ≤ (c : Int)) = false := by simp; omega
        have d4 : decide ((c : Int) ≤ 57) = true := by simp; omega
        have d5 : ((c : Int) == 45) = false := by simp; omega
        have FF : Hid (R = false) := hd (HR.out.symm.trans (nameB_stop hlt (by rw [HC.out]; unfold okI smB dgB; simp; omega)))
        clear h
        go_wp2_with fail
        go_ret
        exact ⟨ret_bool (by rw [FF.out]), hb⟩
      · have d1 : decide ((97 : Int) ≤ (c : Int)) = false := by simp; omega
        have d2 : decide ((c : Int) ≤ 122) = true := by simp; omega
        have d3 : decide ((48 : Int) ≤ (c : Int)) = false := by simp; omega
        have d4 : decide ((c : Int) ≤ 57) = true := by simp; omega
        have d5 : ((c : Int) == 45) = true := by simp; omega
        by_cases hk0 : k = 0
        · have FF : Hid (R = false) := hd (HR.out.symm.trans (nameB_stop hlt (by rw [HC.out]; unfold okI smB dgB; simp [hk0]; omega)))
          have d6 : ((k : Int) == 0) = true := by simp; omega
          clear h hk0
          go_wp2_with fail
          go_ret
          exact ⟨ret_bool (by rw [FF.out]), hb⟩
        · have HN := hd (ok_next HOK.out (by rw [HC.out]; unfold okI smB dgB; simp [hk0]; omega))
          have d6 : ((k : Int) == 0) = false := by simp; omega
          clear h hk0
          go_wp2_with fail
          go_roundw
          case rel => exact ⟨k + 1, by omega, by go_num, HN.out, hb⟩
          case measure => simp [intOf]; omega
      · have d1 : decide ((97 : Int) ≤ (c : Int)) = false := by simp; omega
        have d2 : decide ((c : Int) ≤ 122) = true := by simp; omega
        have d3 : decide ((48 : Int) ≤ (c : Int)) = false := by simp; omega
        have d4 : decide ((c : Int) ≤ 57) = true := by simp; omega
        have d5 : ((c : Int) == 45) = false := by simp; omega
        have FF : Hid (R = false) := hd (HR.out.symm.trans (nameB_stop hlt (by rw [HC.out]; unfold okI smB dgB; simp; omega)))
        clear h
        go_wp2_with fail
        go_ret
        exact ⟨ret_bool (by rw [FF.out]), hb⟩
      · have d1 : decide ((97 : Int) ≤ (c : Int)) = false := by simp; omega
        have d2 : decide ((c : Int) ≤ 122) = true := by simp; omega
        have d3 : decide ((48 : Int) ≤ (c : Int)) = true := by simp; omega
        have d4 : decide ((c : Int) ≤ 57) = true := by simp; omega
        have d5 : ((c : Int) == 45) = false := by simp; omega
        by_cases hk0 : k = 0
        · have FF : Hid (R = false) := hd (HR.out.symm.trans (nameB_stop hlt (by rw [HC.out]; unfold okI smB dgB; simp [hk0]; omega)))
          have d6 : ((k : Int) == 0) = true := by simp; omega
          clear h hk0
          go_wp2_with fail
          go_ret
          exact ⟨ret_bool (by rw [FF.out]), hb⟩
        · have HN := hd (ok_next HOK.out (by rw [HC.out]; unfold okI smB dgB; simp [hk0]; omega))
          have d6 : ((k : Int) == 0) = false := by simp; omega
          clear h hk0
          go_wp2_with fail
          go_roundw
          case rel => exact ⟨k + 1, by omega, by go_num, HN.out, hb⟩
          case measure => simp [intOf]; omega
      · have d1 : decide ((97 : Int) ≤ (c : Int)) = false := by simp; omega
        have d2 : decide ((c : Int) ≤ 122) = true := by simp; omega
        have d3 : decide ((48 : Int) ≤ (c : Int)) = true := by simp; omega
        have d4 : decide ((c : Int) ≤ 57) = false := by simp; omega
        have d5 : ((c : Int) == 45) = false := by simp; omega
        have FF : Hid (R = false) := hd (HR.out.symm.trans (nameB_stop hlt (by rw [HC.out]; unfold okI smB dgB; simp; omega)))
        clear h
        go_wp2_with fail
        go_ret
        exact ⟨ret_bool (by rw [FF.out]), hb⟩
      · have d1 : decide ((97 : Int) ≤ (c : Int)) = true := by simp; omega
        have d2 : decide ((c : Int) ≤ 122) = true := by simp; omega
        have d3 : decide ((48 : Int) ≤ (c : Int)) = true := by simp; omega
        have d4 : decide ((c : Int) ≤ 57) = false := by simp; omega
        have d5 : ((c : Int) == 45) = false := by simp; omega
        have HN := hd (ok_next HOK.out (by rw [HC.out]; unfold okI smB; simp; omega))
        clear h
        go_wp2_with fail
        go_roundw
        case rel => exact ⟨k + 1, by omega, by go_num, HN.out, hb⟩
        case measure => simp [intOf]; omega
      · have d1 : decide ((97 : Int) ≤ (c : Int)) = true := by simp; omega
        have d2 : decide ((c : Int) ≤ 122) = false := by simp; omega
        have d3 : decide ((48 : Int) ≤ (c : Int)) = true := by simp; omega
        have d4 : decide ((c : Int) ≤ 57) = false := by simp; omega
        have d5 : ((c : Int) == 45) = false := by simp; omega
        have FF : Hid (R = false) := hd (HR.out.symm.trans (nameB_stop hlt (by rw [HC.out]; unfold okI smB dgB; simp; omega)))
        clear h
        go_wp2_with fail
        go_ret
        exact ⟨ret_bool (by rw [FF.out]), hb⟩
    · obtain rfl : k = s.size := by omega
      have FF : Hid (R = inB (s.size : Int) 1 12) := hd (HR.out.symm.trans (nameB_all HOK.out))
      go_wp2_with fail
      refine (in_calls _ _ _ _).mono ?_
      rintro e w' ⟨rfl, rfl⟩
      go_wp2_with fail
      go_ret
      exact ⟨ret_bool (by rw [FF.out]), hb⟩
set_option maxHeartbeats 1000000 in
theorem specIsName_calls (s : ByteArray) (w : World) (hs : s.size ≤ 1048576) :
    Calls Try.prog 11 #[.string s] w fun e w' => e = .returned (.bool (nameB s)) ∧ Below w.heap.size w w' := by
  obtain ⟨R, hR⟩ : ∃ b, nameB s = b := ⟨_, rfl⟩
  have HR := hd hR
  rw [hR]
  clear hR
  by_cases hz : s.size = 0
  · have FF : Hid (R = false) := hd (HR.out.symm.trans (nameB_len (by rw [hz]; rfl)))
    have e0 : s = ByteArray.empty := by
      apply ByteArray.ext
      apply Array.eq_empty_of_size_eq_zero
      exact hz
    subst e0
    clear HR
    go_enter Try.func11, Try.ntmps11
    go_wp2_with fail
    go_ret
    exact ⟨ret_bool (by rw [FF.out]), Below.refl _ _⟩
  · have hemp : s.toList.isEmpty = false := by
      have h1 : s.data.toList.length = s.size := by simp
      rw [ByteArray.toList_eq]
      cases hl : s.data.toList with
      | nil => rw [hl] at h1; exact absurd h1.symm hz
      | cons a l => rfl
    by_cases h12 : (s.size : Int) ≤ 12
    · have i1 : (0 : Int) < (s.size : Int) := by omega
      obtain ⟨c, hc⟩ : ∃ c, bt s 0 = c := ⟨_, rfl⟩
      have HC := hd hc
      have hcc := bt_at (s := s) (i := 0) (by omega)
      rw [hc] at hcc
      clear hc
      obtain ⟨sm, hsm⟩ : ∃ b, smB c = b := ⟨_, rfl⟩
      have HSM := hd hsm
      clear hsm
      go_enter Try.func11, Try.ntmps11
      go_wp2_with fail
      refine (l01Small_calls c _).mono ?_
      rintro e w' ⟨he, rfl⟩
      rw [HSM.out] at he
      subst he
      cases sm
      · have FF : Hid (R = false) := hd (HR.out.symm.trans (nameB_stop (k := 0) (by omega) (by rw [HC.out]; unfold okI; rw [HSM.out]; simp)))
        go_wp2_with fail
        go_ret
        exact ⟨ret_bool (by rw [FF.out]), Below.refl _ _⟩
      · clear hcc
        go_wp2_with fail
        go_loopw [3] (fun i wr => ∃ k : Nat, k ≤ s.size ∧ i = .int .i64 k ∧ (∀ i, i < k → okI i (bt s i) = true) ∧ Below w.heap.size w wr) (fun i _ => s.size - (intOf i).toNat)
        case atStart => exact ⟨0, Nat.zero_le _, rfl, fun i hi => absurd hi (Nat.not_lt_zero _), Below.refl _ _⟩
        case round =>
          obtain ⟨k, hk, rfl, hok, hb⟩ := hrel
          have HOK := hd hok
          clear hok
          by_cases hlt : k < s.size
          · have j1 : (0 : Int) ≤ (k : Int) := by omega
            have j2 : (k : Int) < (s.size : Int) := by omega
            obtain ⟨d, hdd⟩ : ∃ c, bt s k = c := ⟨_, rfl⟩
            have HD := hd hdd
            have hcc := bt_at hlt
            rw [hdd] at hcc
            clear hdd
            obtain ⟨b1, hb1⟩ : ∃ b, smB d = b := ⟨_, rfl⟩
            have HB1 := hd hb1
            obtain ⟨b2, hb2⟩ : ∃ b, dgB d = b := ⟨_, rfl⟩
            have HB2 := hd hb2
            clear hb1 hb2
            have arm1 : Hid (∀ w', Calls Try.prog 17 #[.int .u8 (d : Int)] w' fun e w'' => e = .returned (.bool b1) ∧ w' = w'') := hd (fun w' => HB1.out ▸ l01Small_calls d w')
            have arm2 : Hid (∀ w', Calls Try.prog 18 #[.int .u8 (d : Int)] w' fun e w'' => e = .returned (.bool b2) ∧ w' = w'') := hd (fun w' => HB2.out ▸ l01Digit_calls d w')
            cases b1
            · cases b2
              · by_cases h45 : d = 45
                · have d5 : ((d : Int) == 45) = true := by simp; omega
                  have d6 : ((d : Int) != 45) = false := by simp; omega
                  have HN := hd (ok_next HOK.out (by
                    rw [HD.out]
                    unfold okI
                    rw [HB1.out, HB2.out]
                    by_cases hk0 : k = 0
                    · subst hk0; rw [← HD.out, HC.out] at HB1; have := HSM.out; rw [HB1.out] at this; cases this
                    · simp [hk0, h45]))
                  clear h45
                  go_wp2_with (first | (go_at_call 17; refine (arm1.out _).mono ?_; rintro e w' ⟨rfl, rfl⟩) | (go_at_call 18; refine (arm2.out _).mono ?_; rintro e w' ⟨rfl, rfl⟩))
                  go_roundw
                  case rel => exact ⟨k + 1, by omega, by go_num, HN.out, hb⟩
                  case measure => simp [intOf]; omega
                · have d5 : ((d : Int) == 45) = false := by simp; omega
                  have d6 : ((d : Int) != 45) = true := by simp; omega
                  have FF : Hid (R = false) := hd (HR.out.symm.trans (nameB_stop hlt (by rw [HD.out]; unfold okI; rw [HB1.out, HB2.out]; simp [h45])))
                  clear h45
                  go_wp2_with (first | (go_at_call 17; refine (arm1.out _).mono ?_; rintro e w' ⟨rfl, rfl⟩) | (go_at_call 18; refine (arm2.out _).mono ?_; rintro e w' ⟨rfl, rfl⟩))
                  go_ret
                  exact ⟨ret_bool (by rw [FF.out]), hb⟩
              · have HN := hd (ok_next HOK.out (by
                  rw [HD.out]
                  unfold okI
                  rw [HB1.out, HB2.out]
                  by_cases hk0 : k = 0
                  · subst hk0; rw [← HD.out, HC.out] at HB1; have := HSM.out; rw [HB1.out] at this; cases this
                  · simp [hk0]))
                go_wp2_with (first | (go_at_call 17; refine (arm1.out _).mono ?_; rintro e w' ⟨rfl, rfl⟩) | (go_at_call 18; refine (arm2.out _).mono ?_; rintro e w' ⟨rfl, rfl⟩))
                go_roundw
                case rel => exact ⟨k + 1, by omega, by go_num, HN.out, hb⟩
                case measure => simp [intOf]; omega
            · have HN := hd (ok_next HOK.out (by rw [HD.out]; unfold okI; rw [HB1.out]; rfl))
              go_wp2_with (first | (go_at_call 17; refine (arm1.out _).mono ?_; rintro e w' ⟨rfl, rfl⟩) | (go_at_call 18; refine (arm2.out _).mono ?_; rintro e w' ⟨rfl, rfl⟩))
              go_roundw
              case rel => exact ⟨k + 1, by omega, by go_num, HN.out, hb⟩
              case measure => simp [intOf]; omega
          · have FF : Hid (R = true) := hd (by
              obtain rfl : k = s.size := by omega
              rw [← HR.out, nameB_all HOK.out]
              exact inB_iff.2 (by omega))
            go_wp2_with fail
            go_ret
            exact ⟨ret_bool (by rw [FF.out]), hb⟩
    · have FF : Hid (R = false) := hd (HR.out.symm.trans (nameB_len (by simp [inB]; omega)))
      have h12' : (12 : Int) < (s.size : Int) := by omega
      go_enter Try.func11, Try.ntmps11
      go_wp2_with fail
      go_ret
      exact ⟨ret_bool (by rw [FF.out]), Below.refl _ _⟩
end Go.Proofs.Ytomobdajnlfphaa
