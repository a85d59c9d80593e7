/- RunBalance. -/
import Derived.Test.YtbacajbfedgcjaaVols
namespace Go.Proofs.Ytbacajbfedgcjaa
open Go.RowKit
set_option linter.unusedVariables false

def nonneg (v : Int) : Bool := decide (0 ≤ v)
def runBal (s : Int) (xs : List W5) : List Int × Int := if runC xs s = 0 then (if (volF s xs).2.all nonneg then ((volF s xs).2, 0) else ([], 6)) else ([], runC xs s)
theorem RunBalance1_calls (z : Int) (w : World) : Calls Try.prog 60 #[.int .i64 z] w fun e w' => e = .returned (.bool (nonneg z)) ∧ w = w' := by
  go_enter Try.func60, Try.ntmps60
  go_wp2
  go_ret
  exact ⟨rfl, rfl⟩
theorem RunBalance_calls (s : Int) (a : Option Addr) (n c : Nat) (xs : List W5) (w : World) (hr : RdWater w a n xs) (hn : n ≤ 1048576) :
    Calls Try.prog 36 #[.int .i64 s, .slice a n c] w fun e w' => ∃ A m c, e = .returned (.tuple #[.slice A m c, .int .i64 (runBal s xs).2]) ∧ Own 1 ci 2 w' w.heap.size w'.heap.size A m c (runBal s xs).1 ∧ m ≤ 1048576 ∧ Below w.heap.size w w' := by
  have Hl := hd hr.len
  have he1 := ent Try.func60 (by kernel_rfl) rfl
  obtain ⟨z1, hz1⟩ : ∃ z, runC xs s = z := ⟨_, rfl⟩
  have hbd := runC_bd xs s
  rw [hz1] at hbd
  have Hz1 := hd hz1
  clear hz1
  go_enter Try.func36, Try.ntmps36
  go_wp2_with fail
  refine (runCode_calls _ _ _ xs s _ hr hn).mono ?_
  rintro e w1 ⟨he, b1⟩
  rw [Hz1.out] at he
  subst he
  by_cases h0 : z1 = 0
  · subst h0
    obtain ⟨hv, hl, h3⟩ := runC_ok Hz1.out
    rw [voB_iff] at h3
    obtain ⟨h5, h6⟩ := h3
    have Hv := hd hv
    clear hv
    go_wp2_with fail
    refine (volumes_calls s _ _ _ xs _ (hr.below b1) Hv.out (by rw [← Hl.out]; exact hl) h5 h6).mono ?_
    rintro e w2 ⟨A, m, c', rfl, ho, b2⟩
    have hm : m = n := by rw [← ho.len, volF_len, Hl.out]
    subst hm
    have d2 := bnext b1 b2 (Nat.le_refl _)
    have Ho := hd ho
    clear ho
    go_wp2_with fail
    refine (allInt64_calls 60 #[] nonneg _ _ _ _ _ (Ho.out.rd len_ci) (by omega) he1 (fun z W _ => by rw [Array.append_empty]; exact (RunBalance1_calls z W).mono fun e w' ⟨h1, h2⟩ => ⟨h1, h2 ▸ Below.refl _ _⟩)).mono ?_
    rintro e w3 ⟨rfl, b3⟩
    have d3 := bnext d2 b3 (Nat.le_refl _)
    cases ha : (volF s xs).2.all nonneg
    · have Ha := hd ha
      clear ha
      go_wp2_with fail
      go_ret2
      exact ⟨_, 0, 0, ret_sli (by simp [runBal, Hz1.out, Ha.out]), by simp only [runBal, Hz1.out, Ha.out]; exact Own.empty w3 _ rfl d3.size (by simp), by omega, d3.alloc d3.size _⟩
    · have Ha := hd ha
      clear ha
      go_wp2_with fail
      go_ret2
      exact ⟨A, m, c', ret_sli (by simp [runBal, Hz1.out, Ha.out]), by simp only [runBal, Hz1.out, Ha.out]; exact (Ho.out.below b3).mono b1.size b3.size, hn, d3⟩
  · have h0' : (z1 != 0) = true := by simpa using h0
    go_wp2_with fail
    go_ret2
    exact ⟨_, 0, 0, ret_sli (by simp [runBal, Hz1.out, h0]), by simp only [runBal, Hz1.out, h0]; exact Own.empty w1 _ rfl b1.size (by simp), by omega, b1.alloc b1.size _⟩
theorem specRunBalance_calls (s : Int) (a : Option Addr) (n c : Nat) (xs : List W5) (w : World) (hr : RdWater w a n xs) (hn : n ≤ 1048576) :
    Calls Try.prog 35 #[.int .i64 s, .slice a n c] w fun e w' => ∃ A m c, e = .returned (.tuple #[.slice A m c, .int .i64 (runBal s xs).2]) ∧ Own 1 ci 2 w' w.heap.size w'.heap.size A m c (runBal s xs).1 ∧ m ≤ 1048576 ∧ Below w.heap.size w w' := by
  have Hl := hd hr.len
  obtain ⟨i0, hi, hz0, hz1', hz2⟩ := info_parts infoInt64
  obtain ⟨z1, hz1⟩ : ∃ z, runC xs s = z := ⟨_, rfl⟩
  have hbd := runC_bd xs s
  rw [hz1] at hbd
  have Hz1 := hd hz1
  clear hz1
  go_enter Try.func35, Try.ntmps35
  go_wp2_with fail
  refine (l13Start_calls s _ _ _ xs _ hr hn).mono ?_
  rintro e w1 ⟨he, b1⟩
  rw [Hz1.out] at he
  subst he
  by_cases h0 : z1 = 0
  · subst h0
    obtain ⟨hv, hl, h3⟩ := runC_ok Hz1.out
    rw [voB_iff] at h3
    obtain ⟨h5, h6⟩ := h3
    have hn' : n ≤ 100 := by rw [← Hl.out]; exact hl
    have Hv := hd hv
    clear hv hl
    go_wp2_with fail
    go_loopw [0, 7, 8] (fun sv v i wr => ∃ k : Nat, ∃ z : Int, ∃ l : List Int, k ≤ n ∧ i = .int .i64 k ∧ sv = .int .i64 z ∧ volF s (xs.take k) = (z, l) ∧ l.all nonneg = true ∧ ∃ A c, v = .slice A k c ∧ Own 1 ci 2 wr w.heap.size wr.heap.size A k c l ∧ Below w.heap.size w wr) (fun _ _ i _ => n - (intOf i).toNat)
    case atStart => exact ⟨0, s, [], Nat.zero_le _, rfl, rfl, rfl, rfl, _, 0, rfl, Own.empty w1 _ rfl b1.size (by simp), b1.alloc b1.size _⟩
    case round =>
      obtain ⟨k, z, l, hk, rfl, rfl, hs, hall, A, c', rfl, hown, hb⟩ := hrel
      have hbd := volF_bd Hv.out h5 h6 k (by rw [Hl.out]; exact hk)
      rw [hs] at hbd
      have q1 := hbd.1
      have q2 := hbd.2.1
      have q3 := hbd.2.2
      simp only [] at q1 q2 q3
      have Hs := hd hs
      have Ho := hd hown
      have Hall := hd hall
      have Hk := hd q3
      clear hs hown hbd hall q3
      by_cases hlt : k < n
      · obtain ⟨b, o, f0, f1, f2, f3, f4, rfl, hbl, hx, hc0, hc1, hc2, hc3, hc4⟩ := getWater (hr.below hb) hlt
        have hw := all_get Hv.out hx
        have hsm := netW_small hw
        have hnb := waB_nb hw
        obtain ⟨q, hq⟩ : ∃ q, netW (f0, f1, f2, f3, f4) = q := ⟨_, rfl⟩
        rw [hq] at hsm
        have m1 := hsm.1
        have m2 := hsm.2
        have Hq := hd hq
        have Hx := hd hx
        have Hnb := hd hnb
        have Hnext : Hid (volF s (xs.take (k + 1)) = (z + q, l ++ [z + q])) := by rw [volF_next hx, Hs.out]; unfold volS; rw [hq]; exact rfl
        clear hx hw hsm hq hnb
        go_wp2_with fail
        refine (l13Net_calls _ _ f0 f1 f2 f3 f4 _ Hnb.out hc0 hc1 hc2 hc3 hc4).mono ?_
        rintro e w2 ⟨he, b2⟩
        rw [Hq.out] at he
        subst he
        have hb1 := bnext hb b2 (Nat.le_refl _)
        have Ho1 := hd ((Ho.out.below b2).mono (Nat.le_refl _) b2.size)
        clear b2 hc0 hc1 hc2 hc3 hc4
        by_cases hneg : z + q < 0
        · have ha : (volF s xs).2.all nonneg = false := by
            obtain ⟨r, hr'⟩ := volF_pre s xs (k + 1)
            rw [hr', Hnext.out]
            simp [nonneg]
            intro h
            omega
          have Ha := hd ha
          clear ha
          go_wp2_with fail
          go_ret2
          exact ⟨none, 0, 0, ret_sli (by simp [runBal, Hz1.out, Ha.out]), by simp only [runBal, Hz1.out, Ha.out]; exact Own.nil_, by omega, hb1⟩
        · go_wp2_with (at_builtin; refine wpList_app _ rfl _ _ 51 rfl 2 i0 _ 1 8 Try.underlying51 hi hz0 hz1' hz2 rfl (by decide) len_ci one_ci w.heap.size w2.heap.size A k c' l rfl (Ho1.out.alloc _) w2.heap.size (z + q : Int) rfl (app_new _ _ _) (by omega) (by unfold maxLen; omega) (by have := hb1.size; simp; omega) ?_)
          intro A' c'' w3 ho2 hg2
          have hb2 := below_app (hb1.alloc hb1.size _) (Ho1.out.alloc _) hg2 (Nat.le_refl _) (Nat.le_refl _)
          have Ho2 := hd ho2
          clear ho2 hg2
          go_wp2_with fail
          go_roundw
          case rel => exact ⟨k + 1, z + q, l ++ [z + q], by omega, by go_num, rfl, Hnext.out, by rw [List.all_append, Hall.out]; simp [nonneg]; omega, A', c'', rfl, Ho2.out, hb2⟩
          case measure => simp [intOf]; omega
      · obtain rfl : k = n := by omega
        go_wp2_with fail
        go_ret2
        have e := Hs.out
        rw [List.take_of_length_le (by rw [Hl.out]; exact Nat.le_refl _)] at e
        exact ⟨A, k, c', ret_sli (by simp [runBal, Hz1.out, e, Hall.out]), by simp only [runBal, Hz1.out, e, Hall.out]; exact Ho.out, by omega, hb⟩
  · have h0' : (z1 != 0) = true := by simpa using h0
    go_wp2_with fail
    go_ret2
    exact ⟨none, 0, 0, ret_sli (by simp [runBal, Hz1.out, h0]), by simp only [runBal, Hz1.out, h0]; exact Own.nil_, by omega, b1⟩
end Go.Proofs.Ytbacajbfedgcjaa
