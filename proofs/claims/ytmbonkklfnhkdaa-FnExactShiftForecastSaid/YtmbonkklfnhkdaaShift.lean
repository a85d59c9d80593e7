/- ShiftForecast. -/
import Derived.Test.YtmbonkklfnhkdaaErr
import Derived.Test.YtmbonkklfnhkdaaFloor
import Derived.Test.YtmbonkklfnhkdaaIdx
namespace Go.Proofs.Ytmbonkklfnhkdaa
open Go.RowKit
set_option linter.unusedVariables false

/-- A number of at most 4000 either way. -/
def fkB (x : Int) : Bool := decide (-4000 ≤ x) && decide (x ≤ 4000)
theorem fkB_iff {x : Int} : fkB x = true ↔ -4000 ≤ x ∧ x ≤ 4000 := by simp [fkB]
theorem sum_next {xs : List Int} {k : Nat} {x : Int} (h : xs[k]? = some x) : (xs.take (k + 1)).sum = (xs.take k).sum + x := by
  obtain ⟨hk, e⟩ := List.getElem?_eq_some_iff.1 h
  rw [List.take_succ_eq_append_getElem hk, e, List.sum_append]
  simp
theorem sum_bd {xs : List Int} (h : xs.all fkB = true) : ∀ k, k ≤ xs.length → -(k * 4000) ≤ (xs.take k).sum ∧ (xs.take k).sum ≤ k * 4000 := by
  intro k
  induction k with
  | zero => intro _; simp
  | succ k ih =>
    intro hk
    have hx := List.getElem?_eq_getElem (show k < xs.length by omega)
    have hb := fkB_iff.1 (all_at h hx)
    have hi := ih (by omega)
    rw [sum_next hx]
    omega
theorem errF_fk {xs ys : List Int} (hx : xs.all lvB = true) (hy : ys.all lvB = true) : (errF xs ys).all fkB = true := by
  rw [List.all_eq_true]
  intro z hz
  obtain ⟨i, hi⟩ := List.mem_iff_getElem?.1 hz
  simp only [errF, List.getElem?_zipWith] at hi
  cases h1 : xs[i]? with
  | none => rw [h1] at hi; simp at hi
  | some a =>
    cases h2 : ys[i]? with
    | none => rw [h1, h2] at hi; simp at hi
    | some b =>
      rw [h1, h2] at hi
      simp at hi
      have m1 := lvB_iff.1 (all_at hx h1)
      have m2 := lvB_iff.1 (all_at hy h2)
      rw [fkB_iff]
      omega
theorem sum_calls (a : Option Addr) (n c : Nat) (xs : List Int) (w : World) (ha : RdInt64 w a n xs) (hn : n ≤ 1048576) (hv : xs.all fkB = true) :
    Calls Try.prog 63 #[.slice a n c] w fun e w' => e = .returned (.int .i64 xs.sum) ∧ Below w.heap.size w w' := by
  have Ha := hd ha.len
  have Hv := hd hv
  clear hv
  go_enter Try.func63, Try.ntmps63
  go_wp2_with fail
  go_loopw [3, 8] (fun v i wr => ∃ k : Nat, ∃ s : Int, k ≤ n ∧ i = .int .i64 k ∧ v = .int .i64 s ∧ s = (xs.take k).sum ∧ Below w.heap.size w wr) (fun _ i _ => n - (intOf i).toNat)
  case atStart => exact ⟨0, 0, Nat.zero_le _, rfl, rfl, rfl, Below.refl _ _⟩
  case round =>
    obtain ⟨k, s, hk, rfl, rfl, hs, hb⟩ := hrel
    have hbd := sum_bd Hv.out k (by rw [Ha.out]; exact hk)
    rw [← hs] at hbd
    obtain ⟨q1, q2⟩ := hbd
    have Hs := hd hs
    clear hs
    by_cases hlt : k < n
    · obtain ⟨b, o, f0, rfl, hbl, hx, hc0⟩ := getInt64 (ha.below hb) hlt
      obtain ⟨m1, m2⟩ := fkB_iff.1 (all_at Hv.out hx)
      have Hn := hd (sum_next hx)
      clear hx
      go_wp2_with fail
      go_roundw
      case rel => exact ⟨k + 1, s + f0, by omega, by go_num, rfl, by rw [Hn.out, ← Hs.out], hb⟩
      case measure => simp [intOf]; omega
    · obtain rfl : k = n := by omega
      go_wp2_with fail
      go_ret
      exact ⟨ret_int (by rw [Hs.out, List.take_of_length_le (by rw [Ha.out]; exact Nat.le_refl _)]), hb⟩
theorem l02Sum_calls (a : Option Addr) (n c : Nat) (xs : List Int) (w : World) (ha : RdInt64 w a n xs) (hn : n ≤ 1048576) (hv : xs.all fkB = true) :
    Calls Try.prog 60 #[.slice a n c] w fun e w' => e = .returned (.int .i64 xs.sum) ∧ Below w.heap.size w w' := by
  have Ha := hd ha.len
  have Hv := hd hv
  clear hv
  go_enter Try.func60, Try.ntmps60
  go_wp2_with fail
  go_loopw [3, 4] (fun v i wr => ∃ k : Nat, ∃ s : Int, k ≤ n ∧ i = .int .i64 k ∧ v = .int .i64 s ∧ s = (xs.take k).sum ∧ Below w.heap.size w wr) (fun _ i _ => n - (intOf i).toNat)
  case atStart => exact ⟨0, 0, Nat.zero_le _, rfl, rfl, rfl, Below.refl _ _⟩
  case round =>
    obtain ⟨k, s, hk, rfl, rfl, hs, hb⟩ := hrel
    have hbd := sum_bd Hv.out k (by rw [Ha.out]; exact hk)
    rw [← hs] at hbd
    obtain ⟨q1, q2⟩ := hbd
    have Hs := hd hs
    clear hs
    by_cases hlt : k < n
    · obtain ⟨b, o, f0, rfl, hbl, hx, hc0⟩ := getInt64 (ha.below hb) hlt
      obtain ⟨m1, m2⟩ := fkB_iff.1 (all_at Hv.out hx)
      have Hn := hd (sum_next hx)
      clear hx
      go_wp2_with fail
      go_roundw
      case rel => exact ⟨k + 1, s + f0, by omega, by go_num, rfl, by rw [Hn.out, ← Hs.out], hb⟩
      case measure => simp [intOf]; omega
    · obtain rfl : k = n := by omega
      go_wp2_with fail
      go_ret
      exact ⟨ret_int (by rw [Hs.out, List.take_of_length_le (by rw [Ha.out]; exact Nat.le_refl _)]), hb⟩
def nearZ (s n : Int) : Int := (2 * s + n) / (2 * n)
theorem near_bd {s n : Int} (h0 : 0 < n) (h2 : -800000 ≤ s) (h3 : s ≤ 800000) (h1 : n ≤ 200) : -1000000001 ≤ nearZ s n ∧ nearZ s n ≤ 1000000000 := by
  have hb := tdiv_bd (n := 2 * s + n) (d := 2 * n) (by omega) (by omega)
  unfold nearZ
  by_cases h : (2 * s + n).tmod (2 * n) < 0
  · have := floor_neg (n := 2 * s + n) (d := 2 * n) (by omega) h
    omega
  · have := floor_pos (n := 2 * s + n) (d := 2 * n) (by omega) (by omega)
    omega
theorem nearest_calls (s n : Int) (w : World) (h0 : 0 < n) (h1 : n ≤ 200) (h2 : -800000 ≤ s) (h3 : s ≤ 800000) :
    Calls Try.prog 62 #[.agg #[.int .i64 s, .int .i64 n]] w fun e w' => e = .returned (.int .i64 (nearZ s n)) ∧ Below w.heap.size w w' := by
  go_enter Try.func62, Try.ntmps62
  go_wp2_with fail
  refine (floorDiv_calls (2 * s + n) (2 * n) _ (by omega) (by omega) (by omega) (by omega)).mono ?_
  rintro e w1 ⟨rfl, rfl⟩
  go_wp2_with fail
  go_ret
  exact ⟨rfl, by go_grown⟩
theorem l02Round_calls (s n : Int) (w : World) (h0 : 0 < n) (h1 : n ≤ 200) (h2 : -800000 ≤ s) (h3 : s ≤ 800000) :
    Calls Try.prog 59 #[.int .i64 s, .int .i64 n] w fun e w' => e = .returned (.int .i64 (nearZ s n)) ∧ w = w' := by
  go_enter Try.func59, Try.ntmps59
  go_wp2_with fail
  refine (l02Floor_calls (2 * s + n) (2 * n) _ (by omega) (by omega) (by omega) (by omega)).mono ?_
  rintro e w1 ⟨rfl, rfl⟩
  go_wp2_with fail
  go_ret
  exact ⟨rfl, rfl⟩
def shF (xs ys nx : List Int) : List Int × Int :=
  if bothB xs ys && levB nx then
    if xs.length = 0 then ([], 3) else if (nx.map (fun x => x - nearZ (errF xs ys).sum xs.length)).all lvB then (nx.map (fun x => x - nearZ (errF xs ys).sum xs.length), 0) else ([], 5)
  else ([], 2)
theorem shF_bad {xs ys nx : List Int} (h : (bothB xs ys && levB nx) = false) : shF xs ys nx = ([], 2) := by simp [shF, h]
theorem shF_none {xs ys nx : List Int} (h : (bothB xs ys && levB nx) = true) (h0 : xs.length = 0) : shF xs ys nx = ([], 3) := by
  unfold shF
  rw [h, if_pos rfl, if_pos h0]
theorem shF_full {xs ys nx : List Int} {m : Int} (h : (bothB xs ys && levB nx) = true) (h0 : ¬ xs.length = 0) (hm : nearZ (errF xs ys).sum xs.length = m) (hl : (nx.map (fun x => x - m)).all lvB = false) : shF xs ys nx = ([], 5) := by
  unfold shF
  rw [h, if_pos rfl, if_neg h0, hm, hl, if_neg (by simp)]
theorem shF_ok {xs ys nx : List Int} {m : Int} (h : (bothB xs ys && levB nx) = true) (h0 : ¬ xs.length = 0) (hm : nearZ (errF xs ys).sum xs.length = m) (hl : (nx.map (fun x => x - m)).all lvB = true) : shF xs ys nx = (nx.map (fun x => x - m), 0) := by
  unfold shF
  rw [h, if_pos rfl, if_neg h0, hm, hl, if_pos rfl]
theorem map_next {nx : List Int} {k : Nat} {x m : Int} (h : nx[k]? = some x) : (nx.map (fun x => x - m)).take (k + 1) = (nx.map (fun x => x - m)).take k ++ [x - m] := take_next (by simp [h])
theorem levB_of {nx : List Int} {p : Nat} (hl : nx.length = p) (h1 : nx.all lvB = true) (h2 : p ≤ 200) : levB nx = true := by simp [levB, h1, hl, h2]
theorem sum_all {xs : List Int} {n : Nat} (hl : xs.length = n) (hn : n ≤ 200) (h : xs.all fkB = true) : -800000 ≤ xs.sum ∧ xs.sum ≤ 800000 := by
  have := sum_bd h xs.length (Nat.le_refl _)
  rw [List.take_length] at this
  omega
theorem ShiftForecast_calls (a : Option Addr) (n c : Nat) (xs : List Int) (b : Option Addr) (m d : Nat) (ys : List Int) (e : Option Addr) (p q : Nat) (zs : List Int) (w : World) (ha : RdInt64 w a n xs) (hn : n ≤ 1048576) (hb : RdInt64 w b m ys) (hm : m ≤ 1048576) (hc : RdInt64 w e p zs) (hp : p ≤ 1048576) :
    Calls Try.prog 31 #[.slice a n c, .slice b m d, .slice e p q] w fun e w' => ∃ A m c, e = .returned (.tuple #[.slice A m c, .int .i64 (shF xs ys zs).2]) ∧ Own 1 ci 2 w' w.heap.size w'.heap.size A m c (shF xs ys zs).1 ∧ m ≤ 1048576 ∧ Below w.heap.size w w' := by
  have Ha := hd ha.len
  have Hb := hd hb.len
  have Hc := hd hc.len
  obtain ⟨i0, hi, hz0, hz1, hz2⟩ := info_parts infoInt64
  go_enter Try.func31, Try.ntmps31
  go_wp2_with fail
  refine (areForecasts_calls _ _ _ xs _ _ _ ys _ ha hn hb hm).mono ?_
  rintro e w1 ⟨rfl, b1⟩
  cases hv : bothB xs ys
  · have Hv := hd (shF_bad (nx := zs) (by rw [hv]; rfl))
    clear hv
    go_wp2_with fail
    go_ret2
    exact ⟨_, 0, 0, ret_sli (by rw [Hv.out]), by rw [Hv.out]; exact Own.empty w1 _ rfl b1.size (by simp), by omega, b1.alloc b1.size _⟩
  · have HV := hd hv
    clear hv
    go_wp2_with fail
    refine (areLevels_calls _ _ _ zs _ (hc.below b1) hp).mono ?_
    rintro e w2 ⟨he, b2⟩
    have d2 := bnext b1 b2 (Nat.le_refl _)
    clear b2
    cases hz : zs.all lvB
    · rw [hz] at he
      subst he
      have Hv := hd (shF_bad (xs := xs) (ys := ys) (nx := zs) (by rw [show levB zs = false by simp [levB, hz]]; simp))
      clear hz
      go_wp2_with fail
      go_ret2
      exact ⟨_, 0, 0, ret_sli (by rw [Hv.out]), by rw [Hv.out]; exact Own.empty w2 _ rfl d2.size (by simp), by omega, d2.alloc d2.size _⟩
    · rw [hz] at he
      subst he
      have HZ := hd hz
      clear hz
      by_cases hp2 : p ≤ 200
      case neg =>
        have Hv := hd (shF_bad (xs := xs) (ys := ys) (nx := zs) (by rw [show levB zs = false by simp [levB, Hc.out]; omega]; simp))
        go_wp2_with fail
        go_ret2
        exact ⟨_, 0, 0, ret_sli (by rw [Hv.out]), by rw [Hv.out]; exact Own.empty w2 _ rfl d2.size (by simp), by omega, d2.alloc d2.size _⟩
      case pos =>
        have HB : Hid ((bothB xs ys && levB zs) = true) := hd (by rw [HV.out, levB_of Hc.out HZ.out hp2]; rfl)
        by_cases hn0 : n = 0
        · have Hv := hd (shF_none HB.out (by rw [Ha.out, hn0]))
          subst hn0
          go_wp2_with fail
          go_ret2
          exact ⟨_, 0, 0, ret_sli (by rw [Hv.out]), by rw [Hv.out]; exact Own.empty w2 _ rfl d2.size (by simp), by omega, d2.alloc d2.size _⟩
        · have hn0' : ((n : Int) == 0) = false := by simp; omega
          have HF := hd (errF_fk (both_ok HV.out).1 (both_ok HV.out).2.1)
          have n200 := (both_ok HV.out).2.2.1
          rw [Ha.out] at n200
          go_wp2_with fail
          refine (errorsOf_calls _ _ _ xs _ _ _ ys _ (ha.below d2) hn (hb.below d2) hm HV.out).mono ?_
          rintro e w3 ⟨A1, c1, rfl, ho1, b3⟩
          have d3 := bnext d2 b3 (Nat.le_refl _)
          clear b3
          have L1 := ho1.len
          have r1 := ho1.rd len_ci
          clear ho1
          go_wp2_with fail
          refine (sum_calls _ _ _ (errF xs ys) _ r1 hn HF.out).mono ?_
          rintro e w4 ⟨rfl, b4⟩
          have d4 := bnext d3 b4 (Nat.le_refl _)
          clear b4 r1
          obtain ⟨s1, s2⟩ := sum_all L1 n200 HF.out
          clear L1
          generalize hS : (errF xs ys).sum = S at s1 s2 ⊢
          go_wp2_with fail
          refine (sizeInt64_calls _ _ _ _ (by omega)).mono ?_
          rintro e w5 ⟨rfl, rfl⟩
          go_wp2_with fail
          refine (nearest_calls S (n : Int) _ (by omega) (by omega) s1 s2).mono ?_
          rintro e w6 ⟨rfl, b6⟩
          have d6 := bnext d4 b6 (Nat.le_refl _)
          clear b6
          obtain ⟨q1, q2⟩ := near_bd (s := S) (n := (n : Int)) (by omega) s1 s2 (by omega)
          have HM : Hid (nearZ (errF xs ys).sum xs.length = nearZ S n) := hd (by rw [hS, Ha.out])
          generalize nearZ S n = M at q1 q2 HM ⊢
          clear hS
          have hc6 := hc.below d6
          have hw6 := d6.size
          go_wp2_with fail
          go_loopw [9, 44] (fun v i wr => ∃ k : Nat, k ≤ p ∧ i = .int .i64 k ∧ ∃ A c, v = .slice A k c ∧ Own 1 ci 2 wr w.heap.size wr.heap.size A k c ((zs.map (fun x => x - M)).take k) ∧ Below w.heap.size w wr) (fun _ i _ => p - (intOf i).toNat)
          case atStart => exact ⟨0, Nat.zero_le _, rfl, _, 0, rfl, Own.empty w6 _ rfl hw6 (by simp), d6.alloc hw6 _⟩
          case round =>
            obtain ⟨k, hk, rfl, A, c', rfl, ho, hb⟩ := hrel
            have Ho := hd ho
            clear ho
            by_cases hlt : k < p
            · obtain ⟨b1, o1, f0, rfl, hbl, hx, hc0⟩ := getInt64 (hc.below hb) hlt
              obtain ⟨m1, m3⟩ := lvB_iff.1 (all_at HZ.out hx)
              have Hn := hd (map_next (m := M) hx)
              clear hx
              obtain ⟨W1, hW⟩ : ∃ W, W = wr := ⟨_, rfl⟩
              subst hW
              have hb1 := hb
              have Ho1 := Ho
              go_wp2_with (at_builtin; refine wpList_app _ rfl _ _ 22 rfl 2 i0 _ 1 8 Try.underlying22 hi hz0 hz1 hz2 rfl (by decide) len_ci one_ci w.heap.size W1.heap.size A k c' _ rfl (Ho1.out.alloc _) W1.heap.size (f0 - M : Int) rfl (app_new _ _ _) (by omega) (by unfold maxLen; omega) (by have := hb1.size; simp; omega) ?_)
              intro A' c'' w2 ho2 hg2
              have hb2 := below_app (hb1.alloc hb1.size _) (Ho1.out.alloc _) hg2 (Nat.le_refl _) (Nat.le_refl _)
              have Ho2 := hd ho2
              clear ho2 hg2
              go_wp2_with fail
              go_roundw
              case rel => exact ⟨k + 1, by omega, by go_num, A', c'', rfl, by rw [Hn.out]; exact Ho2.out, hb2⟩
              case measure => simp [intOf]; omega
            · obtain rfl : k = p := by omega
              have ho' : Own 1 ci 2 wr w.heap.size wr.heap.size A k c' (zs.map (fun x => x - M)) := by
                have e := Ho.out
                rw [List.take_of_length_le (by rw [List.length_map, Hc.out]; exact Nat.le_refl _)] at e
                exact e
              clear Ho
              obtain ⟨W1, hW⟩ : ∃ W, W = wr := ⟨_, rfl⟩
              subst hW
              go_wp2_with fail
              refine (areLevels_calls _ _ _ (zs.map (fun x => x - M)) _ (ho'.rd len_ci) hp).mono ?_
              rintro e w7 ⟨he, b7⟩
              have d7 := bnext hb b7 (Nat.le_refl _)
              cases hl : (zs.map (fun x => x - M)).all lvB
              · rw [hl] at he
                subst he
                have Hv := hd (shF_full HB.out (by rw [Ha.out]; exact hn0) HM.out hl)
                clear hl
                go_wp2_with fail
                go_ret2
                exact ⟨_, 0, 0, ret_sli (by rw [Hv.out]), by rw [Hv.out]; exact Own.empty w7 _ rfl d7.size (by simp), by omega, d7.alloc d7.size _⟩
              · rw [hl] at he
                subst he
                have Hv := hd (shF_ok HB.out (by rw [Ha.out]; exact hn0) HM.out hl)
                clear hl
                go_wp2_with fail
                go_ret2
                exact ⟨A, k, c', ret_sli (by rw [Hv.out]), by rw [Hv.out]; exact (ho'.below b7).mono (Nat.le_refl _) b7.size, hp, d7⟩
theorem specShiftForecast_calls (a : Option Addr) (n c : Nat) (xs : List Int) (b : Option Addr) (m d : Nat) (ys : List Int) (e : Option Addr) (p q : Nat) (zs : List Int) (w : World) (ha : RdInt64 w a n xs) (hn : n ≤ 1048576) (hb : RdInt64 w b m ys) (hm : m ≤ 1048576) (hc : RdInt64 w e p zs) (hp : p ≤ 1048576) :
    Calls Try.prog 30 #[.slice a n c, .slice b m d, .slice e p q] w fun e w' => ∃ A m c, e = .returned (.tuple #[.slice A m c, .int .i64 (shF xs ys zs).2]) ∧ Own 1 ci 2 w' w.heap.size w'.heap.size A m c (shF xs ys zs).1 ∧ m ≤ 1048576 ∧ Below w.heap.size w w' := by
  have Ha := hd ha.len
  have Hb := hd hb.len
  have Hc := hd hc.len
  obtain ⟨i0, hi, hz0, hz1, hz2⟩ := info_parts infoInt64
  go_enter Try.func30, Try.ntmps30
  go_wp2_with fail
  refine (l16Both_calls _ _ _ xs _ _ _ ys _ ha hn hb hm).mono ?_
  rintro e w1 ⟨rfl, b1⟩
  cases hv : bothB xs ys
  · have Hv := hd (shF_bad (nx := zs) (by rw [hv]; rfl))
    clear hv
    go_wp2_with fail
    go_ret2
    exact ⟨none, 0, 0, ret_sli (by rw [Hv.out]), by rw [Hv.out]; exact Own.nil_, by omega, b1⟩
  · have HV := hd hv
    clear hv
    go_wp2_with fail
    refine (l16Levels_calls _ _ _ zs _ (hc.below b1) hp).mono ?_
    rintro e w2 ⟨he, b2⟩
    have d2 := bnext b1 b2 (Nat.le_refl _)
    clear b2
    cases hz : levB zs
    · rw [hz] at he
      subst he
      have Hv := hd (shF_bad (xs := xs) (ys := ys) (nx := zs) (by rw [hz]; simp))
      clear hz
      go_wp2_with fail
      go_ret2
      exact ⟨none, 0, 0, ret_sli (by rw [Hv.out]), by rw [Hv.out]; exact Own.nil_, by omega, d2⟩
    · rw [hz] at he
      subst he
      have HB : Hid ((bothB xs ys && levB zs) = true) := hd (by rw [HV.out, hz]; rfl)
      have HZ : Hid (zs.all lvB = true) := hd (by simp only [levB, Bool.and_eq_true] at hz; exact hz.1)
      clear hz
      by_cases hn0 : n = 0
      · have Hv := hd (shF_none HB.out (by rw [Ha.out, hn0]))
        subst hn0
        go_wp2_with fail
        go_ret2
        exact ⟨none, 0, 0, ret_sli (by rw [Hv.out]), by rw [Hv.out]; exact Own.nil_, by omega, d2⟩
      · have hn0' : ((n : Int) == 0) = false := by simp; omega
        have HF := hd (errF_fk (both_ok HV.out).1 (both_ok HV.out).2.1)
        have n200 := (both_ok HV.out).2.2.1
        rw [Ha.out] at n200
        go_wp2_with fail
        refine (l16Errors_calls _ _ _ xs _ _ _ ys _ (ha.below d2) hn (hb.below d2) hm HV.out).mono ?_
        rintro e w3 ⟨A1, c1, rfl, ho1, b3⟩
        have d3 := bnext d2 b3 (Nat.le_refl _)
        clear b3
        have L1 := ho1.len
        have r1 := ho1.rd len_ci
        clear ho1
        go_wp2_with fail
        refine (l02Sum_calls _ _ _ (errF xs ys) _ r1 hn HF.out).mono ?_
        rintro e w4 ⟨rfl, b4⟩
        have d4 := bnext d3 b4 (Nat.le_refl _)
        clear b4 r1
        obtain ⟨s1, s2⟩ := sum_all L1 n200 HF.out
        clear L1
        generalize hS : (errF xs ys).sum = S at s1 s2 ⊢
        go_wp2_with fail
        refine (l02Round_calls S (n : Int) _ (by omega) (by omega) s1 s2).mono ?_
        rintro e w6 ⟨rfl, rfl⟩
        obtain ⟨q1, q2⟩ := near_bd (s := S) (n := (n : Int)) (by omega) s1 s2 (by omega)
        have HM : Hid (nearZ (errF xs ys).sum xs.length = nearZ S n) := hd (by rw [hS, Ha.out])
        generalize nearZ S n = M at q1 q2 HM ⊢
        clear hS
        have hw4 := d4.size
        go_wp2_with fail
        go_loopw [9, 10] (fun v i wr => ∃ k : Nat, k ≤ p ∧ i = .int .i64 k ∧ ∃ A c, v = .slice A k c ∧ Own 1 ci 2 wr w.heap.size wr.heap.size A k c ((zs.map (fun x => x - M)).take k) ∧ Below w.heap.size w wr) (fun _ i _ => p - (intOf i).toNat)
        case atStart => exact ⟨0, Nat.zero_le _, rfl, _, 0, rfl, Own.empty w4 _ rfl hw4 (by simp), d4.alloc hw4 _⟩
        case round =>
          obtain ⟨k, hk, rfl, A, c', rfl, ho, hb⟩ := hrel
          have Ho := hd ho
          clear ho
          by_cases hlt : k < p
          · obtain ⟨b1, o1, f0, rfl, hbl, hx, hc0⟩ := getInt64 (hc.below hb) hlt
            obtain ⟨m1, m3⟩ := lvB_iff.1 (all_at HZ.out hx)
            have Hn := hd (map_next (m := M) hx)
            clear hx
            obtain ⟨W1, hW⟩ : ∃ W, W = wr := ⟨_, rfl⟩
            subst hW
            have hb1 := hb
            have Ho1 := Ho
            go_wp2_with (at_builtin; refine wpList_app _ rfl _ _ 22 rfl 2 i0 _ 1 8 Try.underlying22 hi hz0 hz1 hz2 rfl (by decide) len_ci one_ci w.heap.size W1.heap.size A k c' _ rfl (Ho1.out.alloc _) W1.heap.size (f0 - M : Int) rfl (app_new _ _ _) (by omega) (by unfold maxLen; omega) (by have := hb1.size; simp; omega) ?_)
            intro A' c'' w2 ho2 hg2
            have hb2 := below_app (hb1.alloc hb1.size _) (Ho1.out.alloc _) hg2 (Nat.le_refl _) (Nat.le_refl _)
            have Ho2 := hd ho2
            clear ho2 hg2
            go_wp2_with fail
            go_roundw
            case rel => exact ⟨k + 1, by omega, by go_num, A', c'', rfl, by rw [Hn.out]; exact Ho2.out, hb2⟩
            case measure => simp [intOf]; omega
          · obtain rfl : k = p := by omega
            have ho' : Own 1 ci 2 wr w.heap.size wr.heap.size A k c' (zs.map (fun x => x - M)) := by
              have e := Ho.out
              rw [List.take_of_length_le (by rw [List.length_map, Hc.out]; exact Nat.le_refl _)] at e
              exact e
            clear Ho
            obtain ⟨W1, hW⟩ : ∃ W, W = wr := ⟨_, rfl⟩
            subst hW
            go_wp2_with fail
            refine (l16Levels_calls _ _ _ (zs.map (fun x => x - M)) _ (ho'.rd len_ci) hp).mono ?_
            rintro e w7 ⟨he, b7⟩
            have d7 := bnext hb b7 (Nat.le_refl _)
            have K : levB (zs.map (fun x => x - M)) = (zs.map (fun x => x - M)).all lvB := by
              have e1 := Hc.out
              have e2 := HB.out
              simp only [levB, Bool.and_eq_true, decide_eq_true_eq] at e2
              simp [levB, e2.2.2]
            rw [K] at he
            clear K
            cases hl : (zs.map (fun x => x - M)).all lvB
            · rw [hl] at he
              subst he
              have Hv := hd (shF_full HB.out (by rw [Ha.out]; exact hn0) HM.out hl)
              clear hl
              go_wp2_with fail
              go_ret2
              exact ⟨none, 0, 0, ret_sli (by rw [Hv.out]), by rw [Hv.out]; exact Own.nil_, by omega, d7⟩
            · rw [hl] at he
              subst he
              have Hv := hd (shF_ok HB.out (by rw [Ha.out]; exact hn0) HM.out hl)
              clear hl
              go_wp2_with fail
              go_ret2
              exact ⟨A, k, c', ret_sli (by rw [Hv.out]), by rw [Hv.out]; exact (ho'.below b7).mono (Nat.le_refl _) b7.size, hp, d7⟩
end Go.Proofs.Ytmbonkklfnhkdaa
