/- WorstDays. -/
import Derived.Test.YtbacajbfedgcjaaVols
namespace Go.Proofs.Ytbacajbfedgcjaa
open Go.RowKit
set_option linter.unusedVariables false

def netAt (xs : List W5) (k : Nat) : Int := (xs[k]?.map netW).getD 0
theorem netAt_of {xs : List W5} {k : Nat} {x : W5} (h : xs[k]? = some x) : netAt xs k = netW x := by unfold netAt; rw [h]; rfl
def worS (i : Nat) (st : Int × Nat × Nat × Int) (k : Nat) (q : Int) : Int × Nat × Nat × Int :=
  if st.2.2.2 < st.1 + q then (st.1 + q, i, k, st.1 + q) else (st.1 + q, st.2)
def inF (xs : List W5) (i : Nat) (st : Nat × Nat × Int) : Nat → Int × Nat × Nat × Int
  | 0 => (0, st)
  | j + 1 => worS i (inF xs i st j) (i + j) (netAt xs (i + j))
def outF (xs : List W5) : Nat → Nat × Nat × Int
  | 0 => (0, 0, netAt xs 0)
  | i + 1 => (inF xs i (outF xs i) (xs.length - i)).2
theorem netAt_small {xs : List W5} (h : xs.all waB = true) (k : Nat) : -30000000 ≤ netAt xs k ∧ netAt xs k ≤ 20000000 := by
  unfold netAt
  cases hx : xs[k]? with
  | none => simp
  | some x => simpa using netW_small (all_get h hx)
theorem inF_bd {xs : List W5} (h : xs.all waB = true) (i : Nat) (st : Nat × Nat × Int) : ∀ j, -(j * 30000000) ≤ (inF xs i st j).1 ∧ (inF xs i st j).1 ≤ j * 20000000 := by
  intro j
  induction j with
  | zero => simp [inF]
  | succ j ih =>
    have hw := netAt_small h (i + j)
    unfold inF
    generalize inF xs i st j = s at ih ⊢
    obtain ⟨v, l⟩ := s
    simp only [worS] at ih ⊢
    split <;> (simp only []; omega)
def worst (xs : List W5) : Int × Int × Int × Int :=
  if lstC xs = 0 then (if xs.length = 0 then (0, 0, 0, 3) else ((outF xs xs.length).1, (outF xs xs.length).2.1, (outF xs xs.length).2.2, 0)) else (0, 0, 0, lstC xs)
theorem ret_ints4 {a b c d a' b' c' d' : Int} (h1 : a = a') (h2 : b = b') (h3 : c = c') (h4 : d = d') : Ending.returned (.tuple #[.int .i64 a, .int .i64 b, .int .i64 c, .int .i64 d]) = .returned (.tuple #[.int .i64 a', .int .i64 b', .int .i64 c', .int .i64 d']) := by rw [h1, h2, h3, h4]
theorem WorstDays_calls (a : Option Addr) (n c : Nat) (xs : List W5) (w : World) (hr : RdWater w a n xs) (hn : n ≤ 1048576) :
    Calls Try.prog 29 #[.slice a n c] w fun e w' => e = .returned (.tuple #[.int .i64 (worst xs).1, .int .i64 (worst xs).2.1, .int .i64 (worst xs).2.2.1, .int .i64 (worst xs).2.2.2]) ∧ Below w.heap.size w w' := by
  have Hl := hd hr.len
  obtain ⟨z1, hz1⟩ : ∃ z, lstC xs = z := ⟨_, rfl⟩
  have hbd := lstC_bd xs
  rw [hz1] at hbd
  have Hz1 := hd hz1
  clear hz1
  go_enter Try.func29, Try.ntmps29
  go_wp2_with fail
  refine (runCode_calls _ _ _ xs _ _ hr hn).mono ?_
  rintro e w1 ⟨he, b1⟩
  rw [runC_zero] at he
  rw [Hz1.out] at he
  subst he
  by_cases h0 : z1 = 0
  · subst h0
    obtain ⟨hv, hl⟩ := lstC_ok Hz1.out
    have hl' : n ≤ 100 := by rw [← Hl.out]; exact hl
    have Hv := hd hv
    clear hv hl
    by_cases hn0 : n = 0
    · subst hn0
      go_wp2_with fail
      refine bodyPost_ret (results_tmp4 rfl _ _) rfl ?_
      exact ⟨ret_ints4 (by simp [worst, Hz1.out, Hl.out]) (by simp [worst, Hz1.out, Hl.out]) (by simp [worst, Hz1.out, Hl.out]) (by simp [worst, Hz1.out, Hl.out]), b1⟩
    · have hn0' : ((n : Int) == 0) = false := by simp; omega
      obtain ⟨b, o, f0, f1, f2, f3, f4, rfl, hbl, hx, hc0, hc1, hc2, hc3, hc4⟩ := getWater (hr.below b1) (show 0 < n by omega)
      simp only [Nat.zero_mul, Nat.add_zero] at hc0 hc1 hc2 hc3 hc4
      have hw := all_get Hv.out hx
      have hsm := netW_small hw
      have hnb := waB_nb hw
      have hq := netAt_of hx
      obtain ⟨q, hq'⟩ : ∃ q, netW (f0, f1, f2, f3, f4) = q := ⟨_, rfl⟩
      rw [hq'] at hq
      have Hq := hd hq'
      have Hq0 := hd hq
      have Hnb := hd hnb
      clear hx hw hsm hq hq' hnb
      go_wp2_with fail
      refine (net_calls _ _ _ _ _ _ Hnb.out).mono ?_
      rintro e w2 ⟨he, b2⟩
      rw [Hq.out] at he
      subst he
      have d2 := bnext b1 b2 (Nat.le_refl _)
      clear b2 hc0 hc1 hc2 hc3 hc4 Hnb Hq
      go_wp2_with fail
      go_loopw [7, 8, 9, 27] (fun v1 v2 v3 i wr => ∃ k f g : Nat, ∃ m : Int, k ≤ n ∧ i = .int .i64 k ∧ v1 = .int .i64 f ∧ v2 = .int .i64 g ∧ v3 = .int .i64 m ∧ outF xs k = (f, g, m) ∧ Below w.heap.size w wr) (fun _ _ _ i _ => n - (intOf i).toNat)
      case atStart => exact ⟨0, 0, 0, q, Nat.zero_le _, rfl, rfl, rfl, rfl, by unfold outF; rw [Hq0.out], d2⟩
      case round =>
        obtain ⟨k, f, g, m, hk, rfl, rfl, rfl, rfl, ho, hb⟩ := hrel
        have Ho := hd ho
        clear ho
        by_cases hlt : k < n
        · go_wp2_with fail
          go_loopw [7, 8, 9, 11, 12] (fun v1 v2 v3 v4 i wr' => ∃ j f' g' : Nat, ∃ m' s' : Int, k + j ≤ n ∧ i = .int .i64 (k + j : Nat) ∧ v1 = .int .i64 f' ∧ v2 = .int .i64 g' ∧ v3 = .int .i64 m' ∧ v4 = .int .i64 s' ∧ inF xs k (f, g, m) j = (s', f', g', m') ∧ Below w.heap.size w wr') (fun _ _ _ _ i _ => n - (intOf i).toNat)
          case atStart => exact ⟨0, f, g, m, 0, by omega, rfl, rfl, rfl, rfl, rfl, by unfold inF; rfl, hb⟩
          case round =>
            obtain ⟨j, f', g', m', s', hj, rfl, rfl, rfl, rfl, rfl, hi, hb'⟩ := hrel
            have hbi := inF_bd Hv.out k (f, g, m) j
            rw [hi] at hbi
            have q1 := hbi.1
            have q2 := hbi.2
            simp only [] at q1 q2
            have Hi := hd hi
            clear hi hbi
            by_cases hlj : k + j < n
            · obtain ⟨b', o', f0, f1, f2, f3, f4, hab, hbl', hx, hc0, hc1, hc2, hc3, hc4⟩ := getWater (hr.below hb') hlj
              obtain ⟨rfl, rfl⟩ : b = b' ∧ o = o' := by simpa using hab
              have hw := all_get Hv.out hx
              have hsm := netW_small hw
              have hnb := waB_nb hw
              have hq := netAt_of hx
              obtain ⟨q', hq'⟩ : ∃ q, netW (f0, f1, f2, f3, f4) = q := ⟨_, rfl⟩
              rw [hq'] at hq hsm
              have m1 := hsm.1
              have m2 := hsm.2
              have Hq := hd hq'
              have Hqk := hd hq
              have Hnb := hd hnb
              clear hx hw hsm hq hq' hnb hab
              go_wp2_with fail
              refine (net_calls _ _ _ _ _ _ Hnb.out).mono ?_
              rintro e w3 ⟨he, b3⟩
              rw [Hq.out] at he
              subst he
              have d3 := bnext hb' b3 (Nat.le_refl _)
              clear b3 hc0 hc1 hc2 hc3 hc4 Hnb Hq
              by_cases hov : m' < s' + q'
              · go_wp2_with fail
                go_roundw
                case rel => exact ⟨j + 1, k, k + j, s' + q', s' + q', by omega, by go_num, rfl, rfl, rfl, rfl, by unfold inF; rw [Hi.out, Hqk.out]; simp [worS, hov], d3⟩
                case measure => simp [intOf]; omega
              · go_wp2_with fail
                go_roundw
                case rel => exact ⟨j + 1, f', g', m', s' + q', by omega, by go_num, rfl, rfl, rfl, rfl, by unfold inF; rw [Hi.out, Hqk.out]; simp only [worS]; rw [if_neg (by omega)], d3⟩
                case measure => simp [intOf]; omega
            · have hjn : j = n - k := by omega
              go_wp2_with fail
              go_roundw
              case rel => exact ⟨k + 1, f', g', m', by omega, by go_num, rfl, rfl, rfl, by unfold outF; rw [Ho.out, Hl.out, ← hjn, Hi.out], hb'⟩
              case measure => simp [intOf]; omega
        · obtain rfl : k = n := by omega
          go_wp2_with fail
          refine bodyPost_ret (results_tmp4 rfl _ _) rfl ?_
          exact ⟨ret_ints4 (by simp [worst, Hz1.out, Hl.out, hn0, Ho.out]) (by simp [worst, Hz1.out, Hl.out, hn0, Ho.out]) (by simp [worst, Hz1.out, Hl.out, hn0, Ho.out]) (by simp [worst, Hz1.out, Hl.out, hn0]), hb⟩
  · have h0' : (z1 != 0) = true := by simpa using h0
    have h0'' : (z1 == 0) = false := by simpa using h0
    go_wp2_with fail
    refine bodyPost_ret (results_tmp4 rfl _ _) rfl ?_
    exact ⟨ret_ints4 (by simp [worst, Hz1.out, h0]) (by simp [worst, Hz1.out, h0]) (by simp [worst, Hz1.out, h0]) (by simp [worst, Hz1.out, h0]), b1⟩
theorem specWorstDays_calls (a : Option Addr) (n c : Nat) (xs : List W5) (w : World) (hr : RdWater w a n xs) (hn : n ≤ 1048576) :
    Calls Try.prog 28 #[.slice a n c] w fun e w' => e = .returned (.tuple #[.int .i64 (worst xs).1, .int .i64 (worst xs).2.1, .int .i64 (worst xs).2.2.1, .int .i64 (worst xs).2.2.2]) ∧ Below w.heap.size w w' := by
  have Hl := hd hr.len
  obtain ⟨z1, hz1⟩ : ∃ z, lstC xs = z := ⟨_, rfl⟩
  have hbd := lstC_bd xs
  rw [hz1] at hbd
  have Hz1 := hd hz1
  clear hz1
  go_enter Try.func28, Try.ntmps28
  go_wp2_with fail
  refine (l13List_calls _ _ _ xs _ hr hn).mono ?_
  rintro e w1 ⟨he, b1⟩
  skip
  rw [Hz1.out] at he
  subst he
  by_cases h0 : z1 = 0
  · subst h0
    obtain ⟨hv, hl⟩ := lstC_ok Hz1.out
    have hl' : n ≤ 100 := by rw [← Hl.out]; exact hl
    have Hv := hd hv
    clear hv hl
    by_cases hn0 : n = 0
    · subst hn0
      go_wp2_with fail
      refine bodyPost_ret (results_tmp4 rfl _ _) rfl ?_
      exact ⟨ret_ints4 (by simp [worst, Hz1.out, Hl.out]) (by simp [worst, Hz1.out, Hl.out]) (by simp [worst, Hz1.out, Hl.out]) (by simp [worst, Hz1.out, Hl.out]), b1⟩
    · have hn0' : ((n : Int) == 0) = false := by simp; omega
      obtain ⟨b, o, f0, f1, f2, f3, f4, rfl, hbl, hx, hc0, hc1, hc2, hc3, hc4⟩ := getWater (hr.below b1) (show 0 < n by omega)
      simp only [Nat.zero_mul, Nat.add_zero] at hc0 hc1 hc2 hc3 hc4
      have hw := all_get Hv.out hx
      have hsm := netW_small hw
      have hnb := waB_nb hw
      have hq := netAt_of hx
      obtain ⟨q, hq'⟩ : ∃ q, netW (f0, f1, f2, f3, f4) = q := ⟨_, rfl⟩
      rw [hq'] at hq
      have Hq := hd hq'
      have Hq0 := hd hq
      have Hnb := hd hnb
      clear hx hw hsm hq hq' hnb
      go_wp2_with fail
      refine (l13Net_calls _ _ f0 f1 f2 f3 f4 _ Hnb.out hc0 hc1 hc2 hc3 hc4).mono ?_
      rintro e w2 ⟨he, b2⟩
      rw [Hq.out] at he
      subst he
      have d2 := bnext b1 b2 (Nat.le_refl _)
      clear b2 hc0 hc1 hc2 hc3 hc4 Hnb Hq
      go_wp2_with fail
      go_loopw [7, 8, 9, 10] (fun v1 v2 v3 i wr => ∃ k f g : Nat, ∃ m : Int, k ≤ n ∧ i = .int .i64 k ∧ v1 = .int .i64 f ∧ v2 = .int .i64 g ∧ v3 = .int .i64 m ∧ outF xs k = (f, g, m) ∧ Below w.heap.size w wr) (fun _ _ _ i _ => n - (intOf i).toNat)
      case atStart => exact ⟨0, 0, 0, q, Nat.zero_le _, rfl, rfl, rfl, rfl, by unfold outF; rw [Hq0.out], d2⟩
      case round =>
        obtain ⟨k, f, g, m, hk, rfl, rfl, rfl, rfl, ho, hb⟩ := hrel
        have Ho := hd ho
        clear ho
        by_cases hlt : k < n
        · go_wp2_with fail
          go_loopw [7, 8, 9, 11, 12] (fun v1 v2 v3 v4 i wr' => ∃ j f' g' : Nat, ∃ m' s' : Int, k + j ≤ n ∧ i = .int .i64 (k + j : Nat) ∧ v1 = .int .i64 f' ∧ v2 = .int .i64 g' ∧ v3 = .int .i64 m' ∧ v4 = .int .i64 s' ∧ inF xs k (f, g, m) j = (s', f', g', m') ∧ Below w.heap.size w wr') (fun _ _ _ _ i _ => n - (intOf i).toNat)
          case atStart => exact ⟨0, f, g, m, 0, by omega, rfl, rfl, rfl, rfl, rfl, by unfold inF; rfl, hb⟩
          case round =>
            obtain ⟨j, f', g', m', s', hj, rfl, rfl, rfl, rfl, rfl, hi, hb'⟩ := hrel
            have hbi := inF_bd Hv.out k (f, g, m) j
            rw [hi] at hbi
            have q1 := hbi.1
            have q2 := hbi.2
            simp only [] at q1 q2
            have Hi := hd hi
            clear hi hbi
            by_cases hlj : k + j < n
            · obtain ⟨b', o', f0, f1, f2, f3, f4, hab, hbl', hx, hc0, hc1, hc2, hc3, hc4⟩ := getWater (hr.below hb') hlj
              obtain ⟨rfl, rfl⟩ : b = b' ∧ o = o' := by simpa using hab
              have hw := all_get Hv.out hx
              have hsm := netW_small hw
              have hnb := waB_nb hw
              have hq := netAt_of hx
              obtain ⟨q', hq'⟩ : ∃ q, netW (f0, f1, f2, f3, f4) = q := ⟨_, rfl⟩
              rw [hq'] at hq hsm
              have m1 := hsm.1
              have m2 := hsm.2
              have Hq := hd hq'
              have Hqk := hd hq
              have Hnb := hd hnb
              clear hx hw hsm hq hq' hnb hab
              go_wp2_with fail
              refine (l13Net_calls _ _ f0 f1 f2 f3 f4 _ Hnb.out hc0 hc1 hc2 hc3 hc4).mono ?_
              rintro e w3 ⟨he, b3⟩
              rw [Hq.out] at he
              subst he
              have d3 := bnext hb' b3 (Nat.le_refl _)
              clear b3 hc0 hc1 hc2 hc3 hc4 Hnb Hq
              by_cases hov : m' < s' + q'
              · go_wp2_with fail
                go_roundw
                case rel => exact ⟨j + 1, k, k + j, s' + q', s' + q', by omega, by go_num, rfl, rfl, rfl, rfl, by unfold inF; rw [Hi.out, Hqk.out]; simp [worS, hov], d3⟩
                case measure => simp [intOf]; omega
              · go_wp2_with fail
                go_roundw
                case rel => exact ⟨j + 1, f', g', m', s' + q', by omega, by go_num, rfl, rfl, rfl, rfl, by unfold inF; rw [Hi.out, Hqk.out]; simp only [worS]; rw [if_neg (by omega)], d3⟩
                case measure => simp [intOf]; omega
            · have hjn : j = n - k := by omega
              go_wp2_with fail
              go_roundw
              case rel => exact ⟨k + 1, f', g', m', by omega, by go_num, rfl, rfl, rfl, by unfold outF; rw [Ho.out, Hl.out, ← hjn, Hi.out], hb'⟩
              case measure => simp [intOf]; omega
        · obtain rfl : k = n := by omega
          go_wp2_with fail
          refine bodyPost_ret (results_tmp4 rfl _ _) rfl ?_
          exact ⟨ret_ints4 (by simp [worst, Hz1.out, Hl.out, hn0, Ho.out]) (by simp [worst, Hz1.out, Hl.out, hn0, Ho.out]) (by simp [worst, Hz1.out, Hl.out, hn0, Ho.out]) (by simp [worst, Hz1.out, Hl.out, hn0]), hb⟩
  · have h0' : (z1 != 0) = true := by simpa using h0
    have h0'' : (z1 == 0) = false := by simpa using h0
    go_wp2_with fail
    refine bodyPost_ret (results_tmp4 rfl _ _) rfl ?_
    exact ⟨ret_ints4 (by simp [worst, Hz1.out, h0]) (by simp [worst, Hz1.out, h0]) (by simp [worst, Hz1.out, h0]) (by simp [worst, Hz1.out, h0]), b1⟩
end Go.Proofs.Ytbacajbfedgcjaa
