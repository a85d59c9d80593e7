/- MissingPumps. -/
import Derived.Test.YtbacajbfedgcjaaFirst
namespace Go.Proofs.Ytbacajbfedgcjaa
open Go.RowKit
set_option linter.unusedVariables false

def moreI (d : Int) : Int := if 0 < d then d else 0
def misS (e : Int) (st : Int × List Int) (x : W5) : Int × List Int := (st.1 + netW x - moreI (st.1 + netW x - e), st.2 ++ [moreI (st.1 + netW x - e)])
def misF (s e : Int) (xs : List W5) : Int × List Int := xs.foldl (misS e) (s, [])
theorem misF_next {s e : Int} {xs : List W5} {k : Nat} {x : W5} (h : xs[k]? = some x) : misF s e (xs.take (k + 1)) = misS e (misF s e (xs.take k)) x := by
  rw [take_next h]; unfold misF; rw [List.foldl_append]; rfl
theorem misF_bd {s e : Int} {xs : List W5} (h : xs.all waB = true) (h0 : 0 ≤ s) (h1 : s ≤ 1000000000) (h2 : 0 ≤ e) (h3 : e ≤ 1000000000) : ∀ k, k ≤ xs.length → -(k * 30000000) ≤ (misF s e (xs.take k)).1 ∧ (misF s e (xs.take k)).1 ≤ 1000000000 + k * 20000000 ∧ (misF s e (xs.take k)).2.length = k := by
  intro k
  induction k with
  | zero => intro _; simp [misF]; omega
  | succ k ih =>
    intro hk
    have hx := List.getElem?_eq_getElem (show k < xs.length by omega)
    have hw := netW_small (all_get h hx)
    rw [misF_next hx]
    have hi := ih (by omega)
    generalize misF s e (xs.take k) = st at hi ⊢
    obtain ⟨v, l⟩ := st
    simp only [misS, moreI, List.length_append, List.length_cons, List.length_nil] at hi ⊢
    split <;> omega
def missP (s : Int) (xs : List W5) (e : Int) : List Int × Int := if bothC xs s e = 0 then ((misF s e xs).2, 0) else ([], bothC xs s e)
theorem l00Max_calls (a b : Int) (w : World) : Calls Try.prog 61 #[.int .i64 a, .int .i64 b] w fun e w' => e = .returned (.int .i64 (if b < a then a else b)) ∧ w = w' := by
  go_enter Try.func61, Try.ntmps61
  by_cases h : b < a
  · go_wp2
    go_ret
    exact ⟨by simp, rfl⟩
  · go_wp2
    go_ret
    exact ⟨by simp, rfl⟩
theorem MissingPumps_calls (s : Int) (a : Option Addr) (n c : Nat) (xs : List W5) (e : Int) (w : World) (hr : RdWater w a n xs) (hn : n ≤ 1048576) :
    Calls Try.prog 42 #[.int .i64 s, .slice a n c, .int .i64 e] w fun e' w' => ∃ A m c, e' = .returned (.tuple #[.slice A m c, .int .i64 (missP s xs e).2]) ∧ Own 1 ci 2 w' w.heap.size w'.heap.size A m c (missP s xs e).1 ∧ m ≤ 1048576 ∧ Below w.heap.size w w' := by
  have Hl := hd hr.len
  obtain ⟨i0, hi, hz0, hz1', hz2⟩ := info_parts infoInt64
  have hmax := max_run xs s e
  have c1 := runC_bd xs s
  have c2 := runC_bd xs e
  obtain ⟨z1, hz1⟩ : ∃ z, runC xs s = z := ⟨_, rfl⟩
  obtain ⟨z2, hz2'⟩ : ∃ z, runC xs e = z := ⟨_, rfl⟩
  rw [hz1] at hmax c1
  rw [hz2'] at hmax c2
  have Hz1 := hd hz1
  have Hz2 := hd hz2'
  have Hm := hd hmax
  clear hz1 hz2' hmax
  go_enter Try.func42, Try.ntmps42
  go_wp2_with fail
  refine (runCode_calls _ _ _ xs s _ hr hn).mono ?_
  rintro e' w1 ⟨he, b1⟩
  rw [Hz1.out] at he
  subst he
  go_wp2_with fail
  refine (runCode_calls _ _ _ xs e _ (hr.below b1) hn).mono ?_
  rintro e' w2 ⟨he, b2⟩
  rw [Hz2.out] at he
  subst he
  have hcase : (z1 < z2 ∧ bothC xs s e = z2) ∨ (z2 ≤ z1 ∧ bothC xs s e = z1) := by have := Hm.out; omega
  have d2 := bnext b1 b2 (Nat.le_refl _)
  rcases hcase with ⟨h12, hm⟩ | ⟨h12, hm⟩
  · have Hb := hd hm
    clear hm
    by_cases h0 : z2 = 0
    · exfalso; omega
    · have h0' : (z2 != 0) = true := by simpa using h0
      go_wp2_with fail
      go_ret2
      exact ⟨_, 0, 0, ret_sli (by simp [missP, Hb.out, h0]), by simp only [missP, Hb.out, h0]; exact Own.empty w2 _ rfl d2.size (by simp), by omega, d2.alloc d2.size _⟩
  · have Hb := hd hm
    clear hm
    by_cases h0 : z1 = 0
    · subst h0
      obtain ⟨hv, hl, h3, h4⟩ := bothC_ok Hb.out
      rw [voB_iff] at h3 h4
      obtain ⟨h5, h6⟩ := h3
      obtain ⟨h7, h8⟩ := h4
      have hl' : n ≤ 100 := by rw [← Hl.out]; exact hl
      have Hv := hd hv
      clear hv hl
      go_wp2_with fail
      go_loopw [0, 9, 27] (fun sv v i wr => ∃ k : Nat, ∃ z : Int, ∃ l : List Int, k ≤ n ∧ i = .int .i64 k ∧ sv = .int .i64 z ∧ misF s e (xs.take k) = (z, l) ∧ ∃ A c, v = .slice A k c ∧ Own 1 ci 2 wr w.heap.size wr.heap.size A k c l ∧ Below w.heap.size w wr) (fun _ _ i _ => n - (intOf i).toNat)
      case atStart => exact ⟨0, s, [], Nat.zero_le _, rfl, rfl, rfl, _, 0, rfl, Own.empty w2 _ rfl d2.size (by simp), d2.alloc d2.size _⟩
      case round =>
        obtain ⟨k, z, l, hk, rfl, rfl, hs, A, c', rfl, hown, hb⟩ := hrel
        have hbd := misF_bd Hv.out h5 h6 h7 h8 k (by rw [Hl.out]; exact hk)
        rw [hs] at hbd
        have q1 := hbd.1
        have q2 := hbd.2.1
        simp only [] at q1 q2
        have Hs := hd hs
        have Ho := hd hown
        clear hs hown hbd
        by_cases hlt : k < n
        · obtain ⟨b, o, f0, f1, f2, f3, f4, rfl, hbl, hx, hc0, hc1, hc2, hc3, hc4⟩ := getWater (hr.below hb) hlt
          have hw := all_get Hv.out hx
          have hsm := netW_small hw
          have hnb := waB_nb hw
          obtain ⟨q, hq⟩ : ∃ q, netW (f0, f1, f2, f3, f4) = q := ⟨_, rfl⟩
          rw [hq] at hsm
          have m1 := hsm.1
          have m2 := hsm.2
          have Hq := hd hq
          have Hx := hd hx
          have Hnb := hd hnb
          have Hnext : Hid (misF s e (xs.take (k + 1)) = (z + q - moreI (z + q - e), l ++ [moreI (z + q - e)])) := by rw [misF_next hx, Hs.out]; unfold misS; rw [hq]; exact rfl
          clear hx hw hsm hq hnb
          go_wp2_with fail
          refine (net_calls _ _ _ _ _ _ Hnb.out).mono ?_
          rintro e' w3 ⟨he, b3⟩
          rw [Hq.out] at he
          subst he
          have b4 := bbox1 b3
          have hb1 := bnext hb b4 (Nat.le_refl _)
          have Ho1 := hd ((Ho.out.below b4).mono (Nat.le_refl _) b4.size)
          clear b3 b4 hc0 hc1 hc2 hc3 hc4
          by_cases hov : 0 < z + q - e
          · have Hm : Hid (moreI (z + q - e) = z + q - e) := by unfold moreI; rw [if_pos hov]; exact rfl
            go_wp2_with (at_builtin; refine wpList_app _ rfl _ _ 51 rfl 2 i0 _ 1 8 Try.underlying51 hi hz0 hz1' hz2 rfl (by decide) len_ci one_ci w.heap.size w3.heap.size A k c' l rfl (Ho1.out.alloc _) w3.heap.size (z + q - e : Int) rfl (app_new _ _ _) (by omega) (by unfold maxLen; omega) (by have := hb1.size; simp; omega) ?_)
            intro A' c'' w5 ho2 hg2
            have hb2 := below_app (hb1.alloc hb1.size _) (Ho1.out.alloc _) hg2 (Nat.le_refl _) (Nat.le_refl _)
            have Ho2 := hd ho2
            clear ho2 hg2
            go_wp2_with fail
            go_roundw
            case rel => exact ⟨k + 1, _, l ++ [z + q - e], by omega, by go_num, rfl, by rw [Hnext.out, Hm.out]; try simp, A', c'', rfl, Ho2.out, hb2⟩
            case measure => simp [intOf]; omega
          · have Hm : Hid (moreI (z + q - e) = 0) := by unfold moreI; rw [if_neg hov]; exact rfl
            go_wp2_with (at_builtin; refine wpList_app _ rfl _ _ 51 rfl 2 i0 _ 1 8 Try.underlying51 hi hz0 hz1' hz2 rfl (by decide) len_ci one_ci w.heap.size w3.heap.size A k c' l rfl (Ho1.out.alloc _) w3.heap.size (0 : Int) rfl (app_new _ _ _) (by omega) (by unfold maxLen; omega) (by have := hb1.size; simp; omega) ?_)
            intro A' c'' w5 ho2 hg2
            have hb2 := below_app (hb1.alloc hb1.size _) (Ho1.out.alloc _) hg2 (Nat.le_refl _) (Nat.le_refl _)
            have Ho2 := hd ho2
            clear ho2 hg2
            go_wp2_with fail
            go_roundw
            case rel => exact ⟨k + 1, _, l ++ [0], by omega, by go_num, rfl, by rw [Hnext.out, Hm.out]; try simp, A', c'', rfl, Ho2.out, hb2⟩
            case measure => simp [intOf]; omega
        · obtain rfl : k = n := by omega
          have e1 := Hs.out
          rw [List.take_of_length_le (by rw [Hl.out]; exact Nat.le_refl _)] at e1
          have E1 := hd e1
          clear e1
          go_wp2_with fail
          go_ret2
          exact ⟨A, k, c', ret_sli (by simp [missP, Hb.out]), by simp only [missP, Hb.out, E1.out]; exact Ho.out, by omega, hb⟩
    · have h0' : (z1 != 0) = true := by simpa using h0
      go_wp2_with fail
      go_ret2
      exact ⟨_, 0, 0, ret_sli (by simp [missP, Hb.out, h0]), by simp only [missP, Hb.out, h0]; exact Own.empty w2 _ rfl d2.size (by simp), by omega, d2.alloc d2.size _⟩
theorem specMissingPumps_calls (s : Int) (a : Option Addr) (n c : Nat) (xs : List W5) (e : Int) (w : World) (hr : RdWater w a n xs) (hn : n ≤ 1048576) :
    Calls Try.prog 41 #[.int .i64 s, .slice a n c, .int .i64 e] w fun e' w' => ∃ A m c, e' = .returned (.tuple #[.slice A m c, .int .i64 (missP s xs e).2]) ∧ Own 1 ci 2 w' w.heap.size w'.heap.size A m c (missP s xs e).1 ∧ m ≤ 1048576 ∧ Below w.heap.size w w' := by
  have Hl := hd hr.len
  obtain ⟨i0, hi, hz0, hz1', hz2⟩ := info_parts infoInt64
  obtain ⟨z1, hz1⟩ : ∃ z, bothC xs s e = z := ⟨_, rfl⟩
  have b0 := bothC_bd xs s e
  rw [hz1] at b0
  have Hb := hd hz1
  clear hz1
  go_enter Try.func41, Try.ntmps41
  go_wp2_with fail
  refine (l13Most_calls s _ _ _ xs e _ hr hn).mono ?_
  rintro e' w1 ⟨he, b1⟩
  rw [Hb.out] at he
  subst he
  by_cases h0 : z1 = 0
  · subst h0
    obtain ⟨hv, hl, h3, h4⟩ := bothC_ok Hb.out
    rw [voB_iff] at h3 h4
    obtain ⟨h5, h6⟩ := h3
    obtain ⟨h7, h8⟩ := h4
    have hl' : n ≤ 100 := by rw [← Hl.out]; exact hl
    have Hv := hd hv
    clear hv hl
    go_wp2_with fail
    go_loopw [0, 9, 10] (fun sv v i wr => ∃ k : Nat, ∃ z : Int, ∃ l : List Int, k ≤ n ∧ i = .int .i64 k ∧ sv = .int .i64 z ∧ misF s e (xs.take k) = (z, l) ∧ ∃ A c, v = .slice A k c ∧ Own 1 ci 2 wr w.heap.size wr.heap.size A k c l ∧ Below w.heap.size w wr) (fun _ _ i _ => n - (intOf i).toNat)
    case atStart => exact ⟨0, s, [], Nat.zero_le _, rfl, rfl, rfl, _, 0, rfl, Own.empty w1 _ rfl b1.size (by simp), b1.alloc b1.size _⟩
    case round =>
      obtain ⟨k, z, l, hk, rfl, rfl, hs, A, c', rfl, hown, hb⟩ := hrel
      have hbd := misF_bd Hv.out h5 h6 h7 h8 k (by rw [Hl.out]; exact hk)
      rw [hs] at hbd
      have q1 := hbd.1
      have q2 := hbd.2.1
      simp only [] at q1 q2
      have Hs := hd hs
      have Ho := hd hown
      clear hs hown hbd
      by_cases hlt : k < n
      · obtain ⟨b, o, f0, f1, f2, f3, f4, rfl, hbl, hx, hc0, hc1, hc2, hc3, hc4⟩ := getWater (hr.below hb) hlt
        have hw := all_get Hv.out hx
        have hsm := netW_small hw
        have hnb := waB_nb hw
        obtain ⟨q, hq⟩ : ∃ q, netW (f0, f1, f2, f3, f4) = q := ⟨_, rfl⟩
        rw [hq] at hsm
        have m1 := hsm.1
        have m2 := hsm.2
        have Hq := hd hq
        have Hx := hd hx
        have Hnb := hd hnb
        have Hnext : Hid (misF s e (xs.take (k + 1)) = (z + q - moreI (z + q - e), l ++ [moreI (z + q - e)])) := by rw [misF_next hx, Hs.out]; unfold misS; rw [hq]; exact rfl
        clear hx hw hsm hq hnb
        go_wp2_with fail
        refine (l13Net_calls _ _ f0 f1 f2 f3 f4 _ Hnb.out hc0 hc1 hc2 hc3 hc4).mono ?_
        rintro e' w3 ⟨he, b3⟩
        rw [Hq.out] at he
        subst he
        have b4 := b3
        have hb1 := bnext hb b4 (Nat.le_refl _)
        have Ho1 := hd ((Ho.out.below b4).mono (Nat.le_refl _) b4.size)
        clear b3 b4 hc0 hc1 hc2 hc3 hc4
        by_cases hov : 0 < z + q - e
        · have Hm : Hid (moreI (z + q - e) = z + q - e) := by unfold moreI; rw [if_pos hov]; exact rfl
          go_wp2_with fail
          refine (l00Max_calls _ _ _).mono ?_
          rintro e' w4 ⟨he, rfl⟩
          rw [if_neg (show ¬ (z + q - e < 0) by omega)] at he
          subst he
          go_wp2_with (at_builtin; refine wpList_app _ rfl _ _ 51 rfl 2 i0 _ 1 8 Try.underlying51 hi hz0 hz1' hz2 rfl (by decide) len_ci one_ci w.heap.size w3.heap.size A k c' l rfl (Ho1.out.alloc _) w3.heap.size (z + q - e : Int) rfl (app_new _ _ _) (by omega) (by unfold maxLen; omega) (by have := hb1.size; simp; omega) ?_)
          intro A' c'' w5 ho2 hg2
          have hb2 := below_app (hb1.alloc hb1.size _) (Ho1.out.alloc _) hg2 (Nat.le_refl _) (Nat.le_refl _)
          have Ho2 := hd ho2
          clear ho2 hg2
          go_wp2_with fail
          go_roundw
          case rel => exact ⟨k + 1, _, l ++ [z + q - e], by omega, by go_num, rfl, by rw [Hnext.out, Hm.out]; try simp, A', c'', rfl, Ho2.out, hb2⟩
          case measure => simp [intOf]; omega
        · have Hm : Hid (moreI (z + q - e) = 0) := by unfold moreI; rw [if_neg hov]; exact rfl
          go_wp2_with fail
          refine (l00Max_calls _ _ _).mono ?_
          rintro e' w4 ⟨he, rfl⟩
          rw [show (if z + q - e < 0 then 0 else z + q - e) = 0 by omega] at he
          subst he
          go_wp2_with (at_builtin; refine wpList_app _ rfl _ _ 51 rfl 2 i0 _ 1 8 Try.underlying51 hi hz0 hz1' hz2 rfl (by decide) len_ci one_ci w.heap.size w3.heap.size A k c' l rfl (Ho1.out.alloc _) w3.heap.size (0 : Int) rfl (app_new _ _ _) (by omega) (by unfold maxLen; omega) (by have := hb1.size; simp; omega) ?_)
          intro A' c'' w5 ho2 hg2
          have hb2 := below_app (hb1.alloc hb1.size _) (Ho1.out.alloc _) hg2 (Nat.le_refl _) (Nat.le_refl _)
          have Ho2 := hd ho2
          clear ho2 hg2
          go_wp2_with fail
          go_roundw
          case rel => exact ⟨k + 1, _, l ++ [0], by omega, by go_num, rfl, by rw [Hnext.out, Hm.out]; try simp, A', c'', rfl, Ho2.out, hb2⟩
          case measure => simp [intOf]; omega
      · obtain rfl : k = n := by omega
        have e1 := Hs.out
        rw [List.take_of_length_le (by rw [Hl.out]; exact Nat.le_refl _)] at e1
        have E1 := hd e1
        clear e1
        go_wp2_with fail
        go_ret2
        exact ⟨A, k, c', ret_sli (by simp [missP, Hb.out]), by simp only [missP, Hb.out, E1.out]; exact Ho.out, by omega, hb⟩
  · have h0' : (z1 != 0) = true := by simpa using h0
    go_wp2_with fail
    go_ret2
    exact ⟨none, 0, 0, ret_sli (by simp [missP, Hb.out, h0]), by simp only [missP, Hb.out, h0]; exact Own.nil_, by omega, b1⟩
end Go.Proofs.Ytbacajbfedgcjaa
