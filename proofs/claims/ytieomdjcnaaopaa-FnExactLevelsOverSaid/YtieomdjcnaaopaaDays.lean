/- Lists of days: the codes, the sums. -/
import Derived.Test.YtieomdjcnaaopaaWater2
namespace Go.Proofs.Ytieomdjcnaaopaa
open Go.RowKit
set_option linter.unusedVariables false

def voB (n : Int) : Bool := inB n 0 1000000000
theorem voB_iff {n : Int} : voB n = true ↔ 0 ≤ n ∧ n ≤ 1000000000 := inB_iff
/-- The code of a list of days. -/
def lstC (xs : List W5) : Int := if xs.all waB then (if xs.length ≤ 100 then 0 else 2) else 1
/-- The code of days and a volume. -/
def runC (xs : List W5) (v : Int) : Int := if xs.all waB then (if xs.length ≤ 100 ∧ voB v = true then 0 else 2) else 1
theorem lstC_bd (xs : List W5) : 0 ≤ lstC xs ∧ lstC xs ≤ 2 := by unfold lstC; split <;> (try split) <;> omega
theorem runC_bd (xs : List W5) (v : Int) : 0 ≤ runC xs v ∧ runC xs v ≤ 2 := by unfold runC; split <;> (try split) <;> omega
theorem lstC_ok {xs : List W5} (h : lstC xs = 0) : xs.all waB = true ∧ xs.length ≤ 100 := by
  unfold lstC at h
  split at h
  · rename_i ha
    split at h
    · exact ⟨ha, by assumption⟩
    · cases h
  · cases h
theorem runC_ok {xs : List W5} {v : Int} (h : runC xs v = 0) : xs.all waB = true ∧ xs.length ≤ 100 ∧ voB v = true := by
  unfold runC at h
  split at h
  · rename_i ha
    split at h
    · rename_i hb; exact ⟨ha, hb.1, hb.2⟩
    · cases h
  · cases h
theorem runC_zero (xs : List W5) : runC xs 0 = lstC xs := by
  have h : voB 0 = true := by decide
  unfold runC lstC; rw [h]; simp
theorem runC_lst (xs : List W5) (v : Int) : runC xs v = if lstC xs = 0 ∧ voB v = false then 2 else lstC xs := by
  unfold runC lstC
  cases xs.all waB <;> cases voB v <;> by_cases h : xs.length ≤ 100 <;> simp [h]

theorem l13List_calls (a : Option Addr) (n c : Nat) (xs : List W5) (w : World) (hr : RdWater w a n xs) (hn : n ≤ 1048576) :
    Calls Try.prog 91 #[.slice a n c] w fun e w' => e = .returned (.int .i64 (lstC xs)) ∧ Below w.heap.size w w' := by
  have Hl := hd hr.len
  go_enter Try.func91, Try.ntmps91
  go_wp2_with fail
  go_loopw [3] (fun i wr => ∃ k : Nat, k ≤ n ∧ i = .int .i64 k ∧ (xs.take k).all waB = true ∧ Below w.heap.size w wr) (fun i _ => n - (intOf i).toNat)
  case atStart => exact ⟨0, Nat.zero_le _, rfl, rfl, Below.refl _ _⟩
  case round =>
    obtain ⟨k, hk, rfl, hall, hb⟩ := hrel
    have Ha := hd hall
    clear hall
    by_cases hlt : k < n
    · obtain ⟨b, o, f0, f1, f2, f3, f4, rfl, hbl, hx, hc0, hc1, hc2, hc3, hc4⟩ := getWater (hr.below hb) hlt
      have Hx := hd hx
      clear hx
      go_wp2_with fail
      refine (l13Ok_calls _ _ f0 f1 f2 f3 f4 _ hc0 hc1 hc2 hc3 hc4).mono ?_
      rintro e w1 ⟨rfl, rfl⟩
      cases hp : waB (f0, f1, f2, f3, f4)
      · have Hp := hd hp
        clear hp
        go_wp2_with fail
        go_ret
        exact ⟨ret_int (by unfold lstC; rw [all_stop Hx.out Hp.out]; rfl), hb⟩
      · have Hp := hd hp
        clear hp
        go_wp2_with fail
        go_roundw
        case rel => exact ⟨k + 1, by omega, by go_num, all_next Hx.out Ha.out Hp.out, hb⟩
        case measure => simp [intOf]; omega
    · have hall : xs.all waB = true := all_done Hl.out (by omega) Ha.out
      have Hall := hd hall
      clear hall
      by_cases hk2 : n ≤ 100
      · have hk3 : (n : Int) ≤ 100 := by omega
        go_wp2_with fail
        go_ret
        exact ⟨ret_int (by unfold lstC; rw [Hall.out, Hl.out]; simp [hk2]), hb⟩
      · have hk3 : (100 : Int) < n := by omega
        go_wp2_with fail
        go_ret
        exact ⟨ret_int (by unfold lstC; rw [Hall.out, Hl.out]; simp [hk2]), hb⟩
end Go.Proofs.Ytieomdjcnaaopaa
