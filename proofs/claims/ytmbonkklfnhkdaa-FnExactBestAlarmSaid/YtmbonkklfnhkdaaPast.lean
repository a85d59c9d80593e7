/- Cases from the past. -/
import Derived.Test.YtmbonkklfnhkdaaLev
import Derived.Test.YtmbonkklfnhkdaaTyPast
namespace Go.Proofs.Ytmbonkklfnhkdaa
open Go.RowKit
set_option linter.unusedVariables false

abbrev P2 := Int × Bool
def misN (xs : List P2) (al : Int) : Nat := (xs.filter (fun x => x.2 && decide (x.1 < al))).length
def wroN (xs : List P2) (al : Int) : Nat := (xs.filter (fun x => !x.2 && decide (al ≤ x.1))).length
theorem misN_next {xs : List P2} {al : Int} {k : Nat} {l : Int} {f : Bool} (h : xs[k]? = some (l, f)) : misN (xs.take (k + 1)) al = misN (xs.take k) al + if f && decide (l < al) then 1 else 0 := by
  obtain ⟨hk, e⟩ := List.getElem?_eq_some_iff.1 h
  unfold misN
  rw [List.take_succ_eq_append_getElem hk, e, List.filter_append, List.length_append]
  cases hx : (f && decide (l < al)) <;> simp [hx]
theorem wroN_next {xs : List P2} {al : Int} {k : Nat} {l : Int} {f : Bool} (h : xs[k]? = some (l, f)) : wroN (xs.take (k + 1)) al = wroN (xs.take k) al + if !f && decide (al ≤ l) then 1 else 0 := by
  obtain ⟨hk, e⟩ := List.getElem?_eq_some_iff.1 h
  unfold wroN
  rw [List.take_succ_eq_append_getElem hk, e, List.filter_append, List.length_append]
  cases hx : (!f && decide (al ≤ l)) <;> simp [hx]
def casesB (xs : List P2) : Bool := xs.all (fun x => lvB x.1) && decide (xs.length ≤ 60)
theorem missed_calls (a : Option Addr) (n c : Nat) (xs : List P2) (al : Int) (w : World) (ha : RdPast w a n xs) (hn : n ≤ 1048576) :
    Calls Try.prog 54 #[.slice a n c, .int .i64 al] w fun e w' => e = .returned (.tuple #[.int .i64 (misN xs al), .int .i64 (wroN xs al)]) ∧ Below w.heap.size w w' := by
  have Ha := hd ha.len
  go_enter Try.func54, Try.ntmps54
  go_wp2_with fail
  go_loopw [6, 7, 12] (fun v u i wr => ∃ k x y : Nat, k ≤ n ∧ x ≤ k ∧ y ≤ k ∧ i = .int .i64 k ∧ v = .int .i64 x ∧ u = .int .i64 y ∧ x = misN (xs.take k) al ∧ y = wroN (xs.take k) al ∧ Below w.heap.size w wr) (fun _ _ i _ => n - (intOf i).toNat)
  case atStart => exact ⟨0, 0, 0, Nat.zero_le _, Nat.zero_le _, Nat.zero_le _, rfl, rfl, rfl, rfl, rfl, Below.refl _ _⟩
  case round =>
    obtain ⟨k, x, y, hk, hxk, hyk, rfl, rfl, rfl, hx, hy, hb⟩ := hrel
    have Hx := hd hx
    have Hy := hd hy
    clear hx hy
    by_cases hlt : k < n
    · obtain ⟨b, o, f0, f1, rfl, hbl, hg, hc0, hc1⟩ := getPast (ha.below hb) hlt
      have M := hd (misN_next (al := al) hg)
      have W := hd (wroN_next (al := al) hg)
      clear hg
      by_cases hp : f0 < al
      · cases f1
        · go_wp2_with fail
          go_roundw
          case rel => exact ⟨k + 1, x, y, by omega, by omega, by omega, by go_num, rfl, rfl, by have := M.out; have := Hx.out; simp at *; omega, by have h1 := W.out; have h2 := Hy.out; rw [show (decide (al ≤ f0)) = false by simp; omega] at h1; simp at h1; omega, by first | exact hb | exact hb.alloc hb.size _⟩
          case measure => simp [intOf]; omega
        · go_wp2_with fail
          go_roundw
          case rel => exact ⟨k + 1, x + 1, y, by omega, by omega, by omega, by go_num, by go_num, rfl, by have h1 := M.out; have h2 := Hx.out; rw [show (decide (f0 < al)) = true by simp [hp]] at h1; simp at h1; omega, by have h1 := W.out; have h2 := Hy.out; simp at h1; omega, by first | exact hb | exact hb.alloc hb.size _⟩
          case measure => simp [intOf]; omega
      · cases f1
        · go_wp2_with fail
          go_roundw
          case rel => exact ⟨k + 1, x, y + 1, by omega, by omega, by omega, by go_num, rfl, by go_num, by have h1 := M.out; have h2 := Hx.out; simp at h1; omega, by have h1 := W.out; have h2 := Hy.out; rw [show (decide (al ≤ f0)) = true by simp; omega] at h1; simp at h1; omega, by first | exact hb | exact hb.alloc hb.size _⟩
          case measure => simp [intOf]; omega
        · go_wp2_with fail
          go_roundw
          case rel => exact ⟨k + 1, x, y, by omega, by omega, by omega, by go_num, rfl, rfl, by have h1 := M.out; have h2 := Hx.out; rw [show (decide (f0 < al)) = false by simp; omega] at h1; simp at h1; omega, by have h1 := W.out; have h2 := Hy.out; simp at h1; omega, by first | exact hb | exact hb.alloc hb.size _⟩
          case measure => simp [intOf]; omega
    · obtain rfl : k = n := by omega
      go_wp2_with fail
      go_ret2
      have e : xs.take k = xs := List.take_of_length_le (by rw [Ha.out]; exact Nat.le_refl _)
      exact ⟨ret_ints (by have := Hx.out; rw [e] at this; rw [this]) (by have := Hy.out; rw [e] at this; rw [this]), hb⟩
theorem l16Count_calls (a : Option Addr) (n c : Nat) (xs : List P2) (al : Int) (w : World) (ha : RdPast w a n xs) (hn : n ≤ 1048576) :
    Calls Try.prog 50 #[.slice a n c, .int .i64 al] w fun e w' => e = .returned (.tuple #[.int .i64 (misN xs al), .int .i64 (wroN xs al)]) ∧ Below w.heap.size w w' := by
  have Ha := hd ha.len
  go_enter Try.func50, Try.ntmps50
  go_wp2_with fail
  go_loopw [6, 7, 8] (fun v u i wr => ∃ k x y : Nat, k ≤ n ∧ x ≤ k ∧ y ≤ k ∧ i = .int .i64 k ∧ v = .int .i64 x ∧ u = .int .i64 y ∧ x = misN (xs.take k) al ∧ y = wroN (xs.take k) al ∧ Below w.heap.size w wr) (fun _ _ i _ => n - (intOf i).toNat)
  case atStart => exact ⟨0, 0, 0, Nat.zero_le _, Nat.zero_le _, Nat.zero_le _, rfl, rfl, rfl, rfl, rfl, Below.refl _ _⟩
  case round =>
    obtain ⟨k, x, y, hk, hxk, hyk, rfl, rfl, rfl, hx, hy, hb⟩ := hrel
    have Hx := hd hx
    have Hy := hd hy
    clear hx hy
    by_cases hlt : k < n
    · obtain ⟨b, o, f0, f1, rfl, hbl, hg, hc0, hc1⟩ := getPast (ha.below hb) hlt
      have M := hd (misN_next (al := al) hg)
      have W := hd (wroN_next (al := al) hg)
      clear hg
      by_cases hp : f0 < al
      · cases f1
        · go_wp2_with fail
          go_roundw
          case rel => exact ⟨k + 1, x, y, by omega, by omega, by omega, by go_num, rfl, rfl, by have := M.out; have := Hx.out; simp at *; omega, by have h1 := W.out; have h2 := Hy.out; rw [show (decide (al ≤ f0)) = false by simp; omega] at h1; simp at h1; omega, by first | exact hb | exact hb.alloc hb.size _⟩
          case measure => simp [intOf]; omega
        · go_wp2_with fail
          go_roundw
          case rel => exact ⟨k + 1, x + 1, y, by omega, by omega, by omega, by go_num, by go_num, rfl, by have h1 := M.out; have h2 := Hx.out; rw [show (decide (f0 < al)) = true by simp [hp]] at h1; simp at h1; omega, by have h1 := W.out; have h2 := Hy.out; simp at h1; omega, by first | exact hb | exact hb.alloc hb.size _⟩
          case measure => simp [intOf]; omega
      · cases f1
        · go_wp2_with fail
          go_roundw
          case rel => exact ⟨k + 1, x, y + 1, by omega, by omega, by omega, by go_num, rfl, by go_num, by have h1 := M.out; have h2 := Hx.out; simp at h1; omega, by have h1 := W.out; have h2 := Hy.out; rw [show (decide (al ≤ f0)) = true by simp; omega] at h1; simp at h1; omega, by first | exact hb | exact hb.alloc hb.size _⟩
          case measure => simp [intOf]; omega
        · go_wp2_with fail
          go_roundw
          case rel => exact ⟨k + 1, x, y, by omega, by omega, by omega, by go_num, rfl, rfl, by have h1 := M.out; have h2 := Hx.out; rw [show (decide (f0 < al)) = false by simp; omega] at h1; simp at h1; omega, by have h1 := W.out; have h2 := Hy.out; simp at h1; omega, by first | exact hb | exact hb.alloc hb.size _⟩
          case measure => simp [intOf]; omega
    · obtain rfl : k = n := by omega
      go_wp2_with fail
      go_ret2
      have e : xs.take k = xs := List.take_of_length_le (by rw [Ha.out]; exact Nat.le_refl _)
      exact ⟨ret_ints (by have := Hx.out; rw [e] at this; rw [this]) (by have := Hy.out; rw [e] at this; rw [this]), hb⟩
end Go.Proofs.Ytmbonkklfnhkdaa
