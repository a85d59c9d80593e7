/- ErrorsOfForecast. -/
import Derived.Test.YtmbonkklfnhkdaaLev
import Derived.Test.YtmbonkklfnhkdaaStepApp
import Derived.IntWalk
namespace Go.Proofs.Ytmbonkklfnhkdaa
open Go.RowKit
set_option linter.unusedVariables false

def errF (xs ys : List Int) : List Int := List.zipWith (fun a b => a - b) xs ys
theorem errF_next {xs ys : List Int} {k : Nat} {x y : Int} (hx : xs[k]? = some x) (hy : ys[k]? = some y) : (errF xs ys).take (k + 1) = (errF xs ys).take k ++ [x - y] := by
  have : (errF xs ys)[k]? = some (x - y) := by simp [errF, List.getElem?_zipWith, hx, hy]
  obtain ⟨hk, e⟩ := List.getElem?_eq_some_iff.1 this
  rw [List.take_succ_eq_append_getElem hk, e]
theorem errF_len {xs ys : List Int} {n : Nat} (hx : xs.length = n) (hy : ys.length = n) : (errF xs ys).length = n := by simp [errF, hx, hy]
def errsOf (xs ys : List Int) : List Int × Int := if bothB xs ys then (errF xs ys, 0) else ([], 2)
theorem both_ok {xs ys : List Int} (h : bothB xs ys = true) : xs.all lvB = true ∧ ys.all lvB = true ∧ xs.length ≤ 200 ∧ xs.length = ys.length := by
  simp only [bothB, levB, Bool.and_eq_true, decide_eq_true_eq] at h
  exact ⟨h.1.1.1, h.1.2.1, h.1.1.2, h.2⟩
theorem errorsOf_calls (a : Option Addr) (n c : Nat) (xs : List Int) (b : Option Addr) (m d : Nat) (ys : List Int) (w : World) (ha : RdInt64 w a n xs) (hn : n ≤ 1048576) (hb : RdInt64 w b m ys) (hm : m ≤ 1048576) (hv : bothB xs ys = true) :
    Calls Try.prog 44 #[.slice a n c, .slice b m d] w fun e w' => ∃ A c, e = .returned (.slice A n c) ∧ Own 1 ci 2 w' w.heap.size w'.heap.size A n c (errF xs ys) ∧ Below w.heap.size w w' := by
  have Ha := hd ha.len
  have Hb := hd hb.len
  have hbb := hb
  clear hb
  obtain ⟨v1, v2, v3, v4⟩ := both_ok hv
  rw [Ha.out] at v3 v4
  rw [Hb.out] at v4
  subst v4
  have V1 := hd v1
  have V2 := hd v2
  clear v1 v2 hv
  obtain ⟨i0, hi, hz0, hz1, hz2⟩ := info_parts infoInt64
  go_enter Try.func44, Try.ntmps44
  go_wp2_with fail
  go_loopw [5, 11] (fun v i wr => ∃ k : Nat, k ≤ n ∧ i = .int .i64 k ∧ ∃ A c, v = .slice A k c ∧ Own 1 ci 2 wr w.heap.size wr.heap.size A k c ((errF xs ys).take k) ∧ Below w.heap.size w wr) (fun _ i _ => n - (intOf i).toNat)
  case atStart => exact ⟨0, Nat.zero_le _, rfl, _, 0, rfl, Own.empty w _ rfl (Nat.le_refl _) (by simp), (Below.refl _ _).alloc (Nat.le_refl _) _⟩
  case round =>
    obtain ⟨k, hk, rfl, A, c', rfl, ho, hb⟩ := hrel
    have Ho := hd ho
    clear ho
    by_cases hlt : k < n
    · obtain ⟨b1, o1, f0, rfl, hbl, hx, hc0⟩ := getInt64 (ha.below hb) hlt
      obtain ⟨b2, o2, g0, rfl, hbl2, hy, hc1⟩ := getInt64 (hbb.below hb) hlt
      have m1 := lvB_iff.1 (all_at V1.out hx)
      have m2 := lvB_iff.1 (all_at V2.out hy)
      obtain ⟨m1, m3⟩ := m1
      obtain ⟨m2, m4⟩ := m2
      have Hn : Hid ((errF xs ys).take (k + 1) = (errF xs ys).take k ++ [f0 - g0]) := hd (errF_next hx hy)
      clear hx hy
      obtain ⟨W1, hW⟩ : ∃ W, W = wr := ⟨_, rfl⟩
      subst hW
      have hb1 := hb
      have Ho1 := Ho
      go_wp2_with (at_builtin; refine wpList_app _ rfl _ _ 22 rfl 2 i0 _ 1 8 Try.underlying22 hi hz0 hz1 hz2 rfl (by decide) len_ci one_ci w.heap.size W1.heap.size A k c' _ rfl (Ho1.out.alloc _) W1.heap.size (f0 - g0 : Int) rfl (app_new _ _ _) (by omega) (by unfold maxLen; omega) (by have := hb1.size; simp; omega) ?_)
      intro A' c'' w2 ho2 hg2
      have hb2 := below_app (hb1.alloc hb1.size _) (Ho1.out.alloc _) hg2 (Nat.le_refl _) (Nat.le_refl _)
      have Ho2 := hd ho2
      clear ho2 hg2
      go_wp2_with fail
      go_roundw
      case rel => exact ⟨k + 1, by omega, by go_num, A', c'', rfl, by rw [Hn.out]; exact Ho2.out, hb2⟩
      case measure => simp [intOf]; omega
    · obtain rfl : k = n := by omega
      go_wp2_with fail
      go_ret
      exact ⟨A, c', rfl, by have e := Ho.out; rw [List.take_of_length_le (by rw [errF_len Ha.out Hb.out]; exact Nat.le_refl _)] at e; exact e, hb⟩
theorem l16Errors_calls (a : Option Addr) (n c : Nat) (xs : List Int) (b : Option Addr) (m d : Nat) (ys : List Int) (w : World) (ha : RdInt64 w a n xs) (hn : n ≤ 1048576) (hb : RdInt64 w b m ys) (hm : m ≤ 1048576) (hv : bothB xs ys = true) :
    Calls Try.prog 42 #[.slice a n c, .slice b m d] w fun e w' => ∃ A c, e = .returned (.slice A n c) ∧ Own 1 ci 2 w' w.heap.size w'.heap.size A n c (errF xs ys) ∧ Below w.heap.size w w' := by
  have Ha := hd ha.len
  have Hb := hd hb.len
  have hbb := hb
  clear hb
  obtain ⟨v1, v2, v3, v4⟩ := both_ok hv
  rw [Ha.out] at v3 v4
  rw [Hb.out] at v4
  subst v4
  have V1 := hd v1
  have V2 := hd v2
  clear v1 v2 hv
  obtain ⟨i0, hi, hz0, hz1, hz2⟩ := info_parts infoInt64
  go_enter Try.func42, Try.ntmps42
  go_wp2_with fail
  go_loopw [5, 6] (fun v i wr => ∃ k : Nat, k ≤ n ∧ i = .int .i64 k ∧ ∃ A c, v = .slice A k c ∧ Own 1 ci 2 wr w.heap.size wr.heap.size A k c ((errF xs ys).take k) ∧ Below w.heap.size w wr) (fun _ i _ => n - (intOf i).toNat)
  case atStart => exact ⟨0, Nat.zero_le _, rfl, _, 0, rfl, Own.empty w _ rfl (Nat.le_refl _) (by simp), (Below.refl _ _).alloc (Nat.le_refl _) _⟩
  case round =>
    obtain ⟨k, hk, rfl, A, c', rfl, ho, hb⟩ := hrel
    have Ho := hd ho
    clear ho
    by_cases hlt : k < n
    · obtain ⟨b1, o1, f0, rfl, hbl, hx, hcw0⟩ := getInt64 ha hlt
      obtain ⟨b2, o2, g0, rfl, hbl2, hy, hcw1⟩ := getInt64 hbb hlt
      have hc0 := (hb.cell (p := ⟨b1, o1 + k, none⟩) hbl).trans hcw0
      have hc1 := (hb.cell (p := ⟨b2, o2 + k, none⟩) hbl2).trans hcw1
      have HC0 := hd hcw0
      have HC1 := hd hcw1
      clear hcw0 hcw1
      have n0 := World.new_ne wr _ hc0
      have n1 := World.new_ne wr _ hc1
      have m1 := lvB_iff.1 (all_at V1.out hx)
      have m2 := lvB_iff.1 (all_at V2.out hy)
      obtain ⟨m1, m3⟩ := m1
      obtain ⟨m2, m4⟩ := m2
      have Hn : Hid ((errF xs ys).take (k + 1) = (errF xs ys).take k ++ [f0 - g0]) := hd (errF_next hx hy)
      clear hx hy
      have k0 : (0 : Int) ≤ (k : Int) := by omega
      have k1 : (k : Int) < (n : Int) := by omega
      have s1 : IntKind.i64.wrap (f0 - g0) = f0 - g0 := IntWalk.i64_in _ (by omega)
      have S1 := hd s1
      clear s1
      go_wp2_with fail
      go_region_held3 (fun w' => w'.cell? ⟨b1, o1 + k, none⟩ = some (.int .i64 f0) ∧ w'.cell? ⟨b2, o2 + k, none⟩ = some (.int .i64 g0)) (first | exact ⟨x0, x1⟩ | go_keep)
        ((refine step_app _ (by rfl) _ _ _ (by rfl) 2 i0 _ 1 8 Try.underlying22 hi hz0 hz1 hz2 rfl (by decide) len_ci one_ci w.heap.size wr.heap.size A k c' _ (by rfl) ((Ho.out.alloc _).drew) wr.heap.size (IntKind.i64.wrap (f0 - g0)) (by rfl) (fun j v hv => app_new wr _ _ j v hv) (by omega) (by unfold maxLen; omega) (by have := hb.size; simp; omega) ?_; intro A' c'' w2 ho2 hg2; have hb2 := below_app ((hb.alloc hb.size _).drew) ((Ho.out.alloc _).drew) hg2 (Nat.le_refl _) (Nat.le_refl _); have x0 := (hb2.cell (p := ⟨b1, o1 + k, none⟩) hbl).trans HC0.out; have x1 := (hb2.cell (p := ⟨b2, o2 + k, none⟩) hbl2).trans HC1.out))
      rw [S1.out] at ho2
      have Ho2 := hd ho2
      clear ho2 hg2
      go_wp2_with fail
      go_roundw
      case rel => exact ⟨k + 1, by omega, by go_num, A', c'', rfl, by rw [Hn.out]; exact Ho2.out, hb2⟩
      case measure => simp [intOf]; omega
    · obtain rfl : k = n := by omega
      go_wp2_with fail
      go_ret
      exact ⟨A, c', rfl, by have e := Ho.out; rw [List.take_of_length_le (by rw [errF_len Ha.out Hb.out]; exact Nat.le_refl _)] at e; exact e, hb⟩
theorem ErrorsOfForecast_calls (a : Option Addr) (n c : Nat) (xs : List Int) (b : Option Addr) (m d : Nat) (ys : List Int) (w : World) (ha : RdInt64 w a n xs) (hn : n ≤ 1048576) (hb : RdInt64 w b m ys) (hm : m ≤ 1048576) :
    Calls Try.prog 16 #[.slice a n c, .slice b m d] w fun e w' => ∃ A m c, e = .returned (.tuple #[.slice A m c, .int .i64 (errsOf xs ys).2]) ∧ Own 1 ci 2 w' w.heap.size w'.heap.size A m c (errsOf xs ys).1 ∧ m ≤ 1048576 ∧ Below w.heap.size w w' := by
  go_enter Try.func16, Try.ntmps16
  go_wp2_with fail
  refine (areForecasts_calls _ _ _ xs _ _ _ ys _ ha hn hb hm).mono ?_
  rintro e w1 ⟨rfl, b1⟩
  cases hv : bothB xs ys
  · have Hv := hd hv
    clear hv
    go_wp2_with fail
    go_ret2
    exact ⟨_, 0, 0, ret_sli (by simp [errsOf, Hv.out]), by simp only [errsOf, Hv.out]; exact Own.empty w1 _ rfl b1.size (by simp), by omega, b1.alloc b1.size _⟩
  · have Hv := hd hv
    clear hv
    go_wp2_with fail
    refine (errorsOf_calls _ _ _ xs _ _ _ ys _ (ha.below b1) hn (hb.below b1) hm Hv.out).mono ?_
    rintro e w2 ⟨A, c', rfl, ho, b2⟩
    go_wp2_with fail
    go_ret2
    exact ⟨A, n, c', ret_sli (by simp [errsOf, Hv.out]), by simp only [errsOf, Hv.out]; exact ho.mono b1.size (Nat.le_refl _), hn, bnext b1 b2 (Nat.le_refl _)⟩
theorem specErrorsOfForecast_calls (a : Option Addr) (n c : Nat) (xs : List Int) (b : Option Addr) (m d : Nat) (ys : List Int) (w : World) (ha : RdInt64 w a n xs) (hn : n ≤ 1048576) (hb : RdInt64 w b m ys) (hm : m ≤ 1048576) :
    Calls Try.prog 15 #[.slice a n c, .slice b m d] w fun e w' => ∃ A m c, e = .returned (.tuple #[.slice A m c, .int .i64 (errsOf xs ys).2]) ∧ Own 1 ci 2 w' w.heap.size w'.heap.size A m c (errsOf xs ys).1 ∧ m ≤ 1048576 ∧ Below w.heap.size w w' := by
  go_enter Try.func15, Try.ntmps15
  go_wp2_with fail
  refine (l16Both_calls _ _ _ xs _ _ _ ys _ ha hn hb hm).mono ?_
  rintro e w1 ⟨rfl, b1⟩
  cases hv : bothB xs ys
  · have Hv := hd hv
    clear hv
    go_wp2_with fail
    go_ret2
    exact ⟨none, 0, 0, ret_sli (by simp [errsOf, Hv.out]), by simp only [errsOf, Hv.out]; exact Own.nil_, by omega, b1⟩
  · have Hv := hd hv
    clear hv
    go_wp2_with fail
    refine (l16Errors_calls _ _ _ xs _ _ _ ys _ (ha.below b1) hn (hb.below b1) hm Hv.out).mono ?_
    rintro e w2 ⟨A, c', rfl, ho, b2⟩
    go_wp2_with fail
    go_ret2
    exact ⟨A, n, c', ret_sli (by simp [errsOf, Hv.out]), by simp only [errsOf, Hv.out]; exact ho.mono b1.size (Nat.le_refl _), hn, bnext b1 b2 (Nat.le_refl _)⟩
end Go.Proofs.Ytmbonkklfnhkdaa
