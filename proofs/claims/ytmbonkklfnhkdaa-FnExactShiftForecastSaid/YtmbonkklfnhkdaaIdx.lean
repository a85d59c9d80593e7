/- indicesWhere, size. -/
import Derived.Test.YtmbonkklfnhkdaaTyInt64
namespace Go.Proofs.Ytmbonkklfnhkdaa
open Go.RowKit
set_option linter.unusedVariables false

/-- The numbers below n for which p holds. -/
def idx (p : Nat → Bool) (n : Nat) : List Int := ((List.range n).filter p).map Int.ofNat
theorem idx_succ (p : Nat → Bool) (n : Nat) : idx p (n + 1) = idx p n ++ if p n then [(n : Int)] else [] := by
  unfold idx
  rw [List.range_succ, List.filter_append, List.map_append]
  cases h : p n <;> simp [h]
theorem idx_len (p : Nat → Bool) (n : Nat) : (idx p n).length ≤ n := by
  unfold idx
  rw [List.length_map]
  have := List.length_filter_le p (List.range n)
  simpa using this

theorem indicesWhere_calls (f : Nat) (caps : Array Value) (p : Nat → Bool) (n : Nat) (w : World) (hn : n ≤ 1048576)
    (hf : ∀ args w, (callFunc f args).run Try.prog w = .ok (.enter f args) w)
    (H : ∀ (i : Nat) W, i < n → Below w.heap.size w W → Calls Try.prog f (#[.int .i64 i] ++ caps) W fun e w' => e = .returned (.bool (p i)) ∧ Below W.heap.size W w') :
    Calls Try.prog 73 #[.int .i64 n, .func (.func f) #[] caps] w fun e w' => ∃ A m c, e = .returned (.slice A m c) ∧ Own 1 ci 2 w' w.heap.size w'.heap.size A m c (idx p n) ∧ Below w.heap.size w w' := by
  obtain ⟨i0, hi, hz0, hz1, hz2⟩ := info_parts infoInt64
  go_enter Try.func73, Try.ntmps73
  go_wp2_with fail
  go_loopw [5, 6] (fun v i wr => ∃ k : Nat, k ≤ n ∧ i = .int .i64 k ∧ ∃ A m c, v = .slice A m c ∧ Own 1 ci 2 wr w.heap.size wr.heap.size A m c (idx p k) ∧ Below w.heap.size w wr) (fun _ i _ => n - (intOf i).toNat)
  case atStart => exact ⟨0, Nat.zero_le _, rfl, _, 0, 0, rfl, Own.empty w _ rfl (Nat.le_refl _) (by simp), (Below.refl _ _).alloc (Nat.le_refl _) _⟩
  case round =>
    obtain ⟨k, hk, rfl, A, m, c, rfl, hown, hb⟩ := hrel
    by_cases hlt : k < n
    · have Ho := hd hown
      clear hown
      go_wp2_with fail
      refine (H k _ hlt hb).mono ?_
      rintro e w1 ⟨rfl, b1⟩
      have Ho1 := hd (Ho.out.below b1)
      have hb1 := bnext hb b1 (Nat.le_refl _)
      cases hp : p k
      · go_wp2_with fail
        go_roundw
        case rel => exact ⟨k + 1, by omega, by go_num, A, m, c, rfl, by rw [idx_succ, hp]; simpa using Ho1.out.mono (Nat.le_refl _) b1.size, hb1⟩
        case measure => simp [intOf]; omega
      · have hml : m ≤ k := by rw [← Ho.out.len]; exact idx_len p k
        go_wp2_with (at_builtin; refine wpList_app _ rfl _ _ 22 rfl 2 i0 _ 1 8 Try.underlying22 hi hz0 hz1 hz2 rfl (by decide) len_ci one_ci w.heap.size w1.heap.size A m c (idx p k) rfl ((Ho1.out.mono (Nat.le_refl _) b1.size).alloc _) w1.heap.size (k : Int) rfl (app_new _ _ _) (by omega) (by unfold maxLen; omega) (by have := hb1.size; simp; omega) ?_)
        intro A' c' w2 ho2 hg2
        have Ho2 := hd ho2
        have hb2 := below_app (hb1.alloc hb1.size _) ((Ho1.out.mono (Nat.le_refl _) (Nat.le_refl _)).alloc _) hg2 (Nat.le_refl _) (Nat.le_refl _)
        clear ho2 hg2
        go_wp2_with fail
        go_roundw
        case rel => exact ⟨k + 1, by omega, by go_num, A', m + 1, c', rfl, by rw [idx_succ, hp]; exact Ho2.out, hb2⟩
        case measure => simp [intOf]; omega
    · obtain rfl : k = n := by omega
      have Ho := hd hown
      clear hown
      go_wp2_with fail
      go_ret
      exact ⟨A, m, c, rfl, Ho.out, hb⟩
theorem sizeInt64_calls (a : Option Addr) (n c : Nat) (w : World) (hn : n ≤ 9223372036854775807) :
    Calls Try.prog 39 #[.slice a n c] w fun e w' => e = .returned (.int .i64 n) ∧ w = w' := by
  go_enter Try.func39, Try.ntmps39
  go_wp2
  go_ret
  exact ⟨rfl, rfl⟩
end Go.Proofs.Ytmbonkklfnhkdaa
