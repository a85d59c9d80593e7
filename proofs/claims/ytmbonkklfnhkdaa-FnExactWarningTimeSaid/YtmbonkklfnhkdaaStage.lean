/- The stage of a level. -/
import Derived.Test.YtmbonkklfnhkdaaAlarms
namespace Go.Proofs.Ytmbonkklfnhkdaa
open Go.RowKit
set_option linter.unusedVariables false

/-- How many alarms are not above a level. -/
def stageN (xs : List Int) (lv : Int) : Nat := (xs.filter (fun x => decide (x ≤ lv))).length
def stAt (xs : List Int) (lv : Int) (i : Nat) : Bool := decide (xs.getD i 0 ≤ lv)
theorem take_next' {α : Type} {xs : List α} {k : Nat} {x : α} (h : xs[k]? = some x) : xs.take (k + 1) = xs.take k ++ [x] := by
  obtain ⟨hk, e⟩ := List.getElem?_eq_some_iff.1 h
  rw [List.take_succ_eq_append_getElem hk, e]
theorem stageN_next {xs : List Int} {lv : Int} {k : Nat} {x : Int} (h : xs[k]? = some x) : stageN (xs.take (k + 1)) lv = stageN (xs.take k) lv + if x ≤ lv then 1 else 0 := by
  unfold stageN
  rw [take_next' h, List.filter_append, List.length_append]
  by_cases hx : x ≤ lv <;> simp [hx]
theorem stageN_le (xs : List Int) (lv : Int) : stageN xs lv ≤ xs.length := List.length_filter_le _ _
theorem idx_stage (xs : List Int) (lv : Int) : ∀ k, k ≤ xs.length → (idx (stAt xs lv) k).length = stageN (xs.take k) lv := by
  intro k
  induction k with
  | zero => intro _; rfl
  | succ k ih =>
    intro hk
    have hx := List.getElem?_eq_getElem (show k < xs.length by omega)
    rw [idx_succ, List.length_append, ih (by omega), stageN_next hx]
    unfold stAt
    rw [getD_of hx]
    by_cases h : xs[k] ≤ lv <;> simp [h]
theorem stageOf1_calls (g g' : Nat) (a : Option Addr) (n c i : Nat) (xs : List Int) (lv : Int) (w : World) (hr : RdInt64 w a n xs) (hn : n ≤ 1048576) (hi : i < n) (hg : w.cell? ⟨g, 0, none⟩ = some (.slice a n c)) (hg' : w.cell? ⟨g', 0, none⟩ = some (.int .i64 lv)) :
    Calls Try.prog 74 #[.int .i64 i, .pointer (some ⟨g, 0, none⟩), .pointer (some ⟨g', 0, none⟩)] w fun e w' => e = .returned (.bool (stAt xs lv i)) ∧ Below w.heap.size w w' := by
  obtain ⟨b, o, f0, rfl, hbl, hx, hc0⟩ := getInt64 hr hi
  have hst : stAt xs lv i = decide (f0 ≤ lv) := by unfold stAt; rw [getD_of hx]
  rw [hst]
  clear hx hst
  have i0 : (0 : Int) ≤ (i : Int) := by omega
  have i1 : (i : Int) < (n : Int) := by omega
  go_enter Try.func74, Try.ntmps74
  go_wp2_with fail
  go_quiet (fail)
  go_wp2_with fail
  go_ret
  exact ⟨rfl, bdrewN (Below.refl _ _) _⟩
theorem stageOf_calls (a : Option Addr) (n c : Nat) (xs : List Int) (lv : Int) (w : World) (hr : RdInt64 w a n xs) (hn : n ≤ 1048576) :
    Calls Try.prog 48 #[.slice a n c, .int .i64 lv] w fun e w' => e = .returned (.int .i64 (stageN xs lv)) ∧ Below w.heap.size w w' := by
  have he := ent Try.func74 (by kernel_rfl) rfl
  have Hl := hd hr.len
  go_enter Try.func48, Try.ntmps48
  go_wp2_with (go_at_call 39; refine (sizeInt64_calls _ _ _ _ (by omega)).mono ?_; rintro e w' ⟨rfl, rfl⟩)
  refine (indicesWhere_calls 74 #[.pointer (some ⟨w.heap.size, 0, none⟩), .pointer (some ⟨w.heap.size + 1, 0, none⟩)] (stAt xs lv) n _ hn he (fun i W hi hb => ?_)).mono ?_
  · have e1 : ((w.alloc (Obj.cells #[Value.slice a n c] 22)).alloc (Obj.cells #[Value.int IntKind.i64 lv] 2)).cell? ⟨w.heap.size, 0, none⟩ = some (.slice a n c) := by
      simp
    have e2 : ((w.alloc (Obj.cells #[Value.slice a n c] 22)).alloc (Obj.cells #[Value.int IntKind.i64 lv] 2)).cell? ⟨w.heap.size + 1, 0, none⟩ = some (.int .i64 lv) := by
      simp
    refine stageOf1_calls _ _ a n c i xs lv W (((hr.alloc _).alloc _).below hb) hn hi ?_ ?_
    · rw [hb.cell (p := ⟨w.heap.size, 0, none⟩) (by simp; omega)]; exact e1
    · rw [hb.cell (p := ⟨w.heap.size + 1, 0, none⟩) (by simp)]; exact e2
  rintro e w2 ⟨A, m, c', rfl, ho, b2⟩
  have hm : m = stageN xs lv := by
    rw [← ho.len, idx_stage xs lv n (by rw [Hl.out]; exact Nat.le_refl _), List.take_of_length_le (by rw [Hl.out]; exact Nat.le_refl _)]
  have Hm := hd hm
  have hm2 : m ≤ 1048576 := by rw [← ho.len]; exact Nat.le_trans (idx_len _ _) hn
  clear ho hm
  go_wp2_with (go_at_call 39; refine (sizeInt64_calls _ _ _ _ (by omega)).mono ?_; rintro e w' ⟨rfl, rfl⟩)
  go_ret
  exact ⟨ret_int (by rw [Hm.out]), bbox2 b2⟩
theorem l16Stage_calls (a : Option Addr) (n c : Nat) (xs : List Int) (lv : Int) (w : World) (hr : RdInt64 w a n xs) (hn : n ≤ 1048576) :
    Calls Try.prog 46 #[.slice a n c, .int .i64 lv] w fun e w' => e = .returned (.int .i64 (stageN xs lv)) ∧ w = w' := by
  have Hl := hd hr.len
  go_enter Try.func46, Try.ntmps46
  go_wp2_with fail
  go_loopw [5, 6] (fun v i wr => ∃ k z : Nat, k ≤ n ∧ z ≤ k ∧ i = .int .i64 k ∧ v = .int .i64 z ∧ z = stageN (xs.take k) lv ∧ w = wr) (fun _ i _ => n - (intOf i).toNat)
  case atStart => exact ⟨0, 0, Nat.zero_le _, Nat.zero_le _, rfl, rfl, rfl, rfl⟩
  case round =>
    obtain ⟨k, z, hk, hzk, rfl, rfl, hz, hw⟩ := hrel
    subst hw
    have Hz := hd hz
    clear hz
    by_cases hlt : k < n
    · obtain ⟨b, o, f0, rfl, hbl, hx, hc0⟩ := getInt64 hr hlt
      have Hn := hd (stageN_next (lv := lv) hx)
      clear hx
      by_cases hf : f0 ≤ lv
      · go_wp2_with fail
        go_roundw
        case rel => exact ⟨k + 1, z + 1, by omega, by omega, by go_num, by go_num, by have h1 := Hn.out; have h2 := Hz.out; rw [if_pos (by omega)] at h1; omega, trivial⟩
        case measure => simp [intOf]; omega
      · go_wp2_with fail
        go_roundw
        case rel => exact ⟨k + 1, z, by omega, by omega, by go_num, rfl, by have h1 := Hn.out; have h2 := Hz.out; rw [if_neg (by omega)] at h1; omega, trivial⟩
        case measure => simp [intOf]; omega
    · obtain rfl : k = n := by omega
      go_wp2_with fail
      go_ret
      exact ⟨ret_int (by rw [Hz.out, List.take_of_length_le (by rw [Hl.out]; exact Nat.le_refl _)]), rfl⟩
end Go.Proofs.Ytmbonkklfnhkdaa
