/- The text of a plan: the reference's side. -/
import Derived.Test.YtbbnjddgioaoeaaDoorWat
import Derived.Test.YtbbnjddgioaoeaaDoorTyInt64
namespace Go.Proofs.YtbbnjddgioaoeaaDoor
open Go.RowKit
set_option linter.unusedVariables false

/-- How much a pump may give in an hour. -/
def unB (n : Int) : Bool := inB n 0 40
theorem unB_iff {n : Int} : unB n = true ↔ 0 ≤ n ∧ n ≤ 40 := inB_iff
/-- The text of the first k numbers. -/
def pt (xs : List Int) : Nat → List UInt8
  | 0 => []
  | k + 1 => (if k = 0 then [] else pt xs k ++ [32]) ++ Lib.itoa (xs.getD k 0)
theorem pt_first {xs : List Int} {z : Int} (h : xs[0]? = some z) : pt xs 1 = Lib.itoa z := by
  simp [pt, h]
theorem pt_first' {xs : List Int} {k : Nat} {z : Int} (hk : k = 0) (h : xs[k]? = some z) : pt xs (k + 1) = Lib.itoa z := by
  subst hk
  exact pt_first h
theorem pt_next {xs : List Int} {k : Nat} {z : Int} (hk : k ≠ 0) (h : xs[k]? = some z) : pt xs (k + 1) = pt xs k ++ [32] ++ Lib.itoa z := by
  simp [pt, hk, h]
def plT (xs : List Int) : ByteArray := if xs.all unB && decide (xs.length ≤ 48) then ⟨(pt xs xs.length).toArray⟩ else ⟨#[]⟩
theorem plT_out {xs : List Int} (h : xs.all unB = false) : plT xs = ⟨#[]⟩ := by unfold plT; rw [h]; rfl
theorem plT_long {xs : List Int} {n : Nat} (hn : xs.length = n) (h : 48 < n) : plT xs = ⟨#[]⟩ := by unfold plT; rw [decide_eq_false (by omega), Bool.and_false]; rfl
theorem plT_ok {xs : List Int} {n : Nat} (hn : xs.length = n) (h : xs.all unB = true) (h48 : n ≤ 48) : plT xs = ⟨(pt xs n).toArray⟩ := by unfold plT; rw [h, decide_eq_true (by omega), hn]; rfl
set_option maxRecDepth 100000 in
set_option maxHeartbeats 1000000 in
theorem specPlanText_calls (a : Option Addr) (n c : Nat) (xs : List Int) (w : World) (ha : RdInt64 w a n xs) (hn : n ≤ 1048576) :
    Calls Tryd.prog 28 #[.slice a n c] w fun e w' => e = .returned (.string (plT xs)) ∧ Below w.heap.size w w' := by
  have HLEN := hd ha.len
  go_enter Tryd.func28, Tryd.ntmps28
  go_wp2_with fail
  go_loopw [3, 4] (fun s3 s4 wr => ∃ k : Nat, ∃ t : List UInt8, k ≤ n ∧ s4 = .int .i64 k ∧ s3 = .string ⟨t.toArray⟩ ∧ t.length ≤ 22 * k ∧ t = pt xs k ∧ (xs.take k).all unB = true ∧ Below w.heap.size w wr) (fun _ i _ => n - (intOf i).toNat)
  case atStart => exact ⟨0, [], by omega, rfl, rfl, by simp, rfl, rfl, Below.refl _ _⟩
  case round =>
    obtain ⟨k, t, hk, rfl, rfl, hl, ht, hall, hb⟩ := hrel
    have HT := hd ht
    have HA := hd hall
    clear ht hall
    by_cases hlt : k < n
    · obtain ⟨bo, oo, z, rfl, hbl, hx, hc⟩ := getInt64 (ha.below hb) hlt
      have HX := hd hx
      clear hx
      have i1 : (0 : Int) ≤ (k : Int) := by omega
      cases hu : unB z
      · have HU := hd hu
        have hu' : inB z 0 40 = false := hu
        clear hu
        go_wp2_with (go_at_call 48; refine (l00In_calls _ _ _ _).mono ?_; rw [hu']; rintro e w' ⟨rfl, rfl⟩)
        go_ret
        exact ⟨ret_str (by rw [plT_out (all_stop HX.out HU.out)]), hb⟩
      · have HU := hd hu
        obtain ⟨z0, z1⟩ := unB_iff.1 hu
        have hu' : inB z 0 40 = true := hu
        clear hu
        obtain ⟨l, hl'⟩ : ∃ l, Lib.itoa z = l := ⟨_, rfl⟩
        have hll := Lib.itoa_length_le z (by omega) (by omega)
        rw [hl'] at hll
        have HL := hd hl'
        clear hl'
        have e1 : ¬ (9223372036854775807 < t.length + 1) := by omega
        have e2 : ¬ (9223372036854775807 < t.length + 1 + l.length) := by omega
        have e3 : ¬ (9223372036854775807 < t.length + l.length) := by omega
        by_cases hk0 : k = 0
        · have HK0 := hd hk0
          have hkp : ¬ ((0 : Int) < (k : Int)) := by omega
          clear hk0
          go_wp2_with (first | (go_at_call 48; refine (l00In_calls _ _ _ _).mono ?_; rw [hu']; rintro e w' ⟨rfl, rfl⟩))
          refine (l01Dec_calls z _ (by omega) (by omega)).mono ?_
          rintro e w5 ⟨he, b5⟩
          rw [HL.out] at he
          subst he
          have hb5 := bnext hb b5 (Nat.le_refl _)
          clear hc b5 hb
          go_wp2_with fail
          go_roundw
          case rel => exact ⟨k + 1, pt xs (k + 1), by omega, by go_num, by rw [cat, pt_first' HK0.out HX.out, HT.out, HK0.out, HL.out]; rfl, by rw [pt_first' HK0.out HX.out, HL.out]; omega, rfl, all_next HX.out HA.out HU.out, hb5⟩
          case measure => simp [intOf]; omega
        · have hkp : (0 : Int) < (k : Int) := by omega
          have HK0 := hd hk0
          clear hk0
          go_wp2_with (first | (go_at_call 48; refine (l00In_calls _ _ _ _).mono ?_; rw [hu']; rintro e w' ⟨rfl, rfl⟩))
          refine (l01Dec_calls z _ (by omega) (by omega)).mono ?_
          rintro e w5 ⟨he, b5⟩
          rw [HL.out] at he
          subst he
          have hb5 := bnext hb b5 (Nat.le_refl _)
          clear hc b5 hb
          go_wp2_with fail
          go_roundw
          case rel => exact ⟨k + 1, pt xs (k + 1), by omega, by go_num, by rw [show (⟨#[32]⟩ : ByteArray) = ⟨[32].toArray⟩ from rfl, cat, cat, HT.out, pt_next HK0.out HX.out, HL.out], by rw [pt_next HK0.out HX.out, HL.out, ← HT.out]; simp; omega, rfl, all_next HX.out HA.out HU.out, hb5⟩
          case measure => simp [intOf]; omega
    · obtain rfl : k = n := by omega
      by_cases h48 : k ≤ 48
      · have h48' : ¬ (48 : Int) < (k : Int) := by omega
        go_wp2_with fail
        go_ret
        exact ⟨ret_str (by rw [HT.out, plT_ok HLEN.out (all_done HLEN.out (Nat.le_refl _) HA.out) h48]), hb⟩
      · have h48' : (48 : Int) < (k : Int) := by omega
        go_wp2_with fail
        go_ret
        exact ⟨ret_str (by rw [plT_long HLEN.out (by omega)]), hb⟩
end Go.Proofs.YtbbnjddgioaoeaaDoor
