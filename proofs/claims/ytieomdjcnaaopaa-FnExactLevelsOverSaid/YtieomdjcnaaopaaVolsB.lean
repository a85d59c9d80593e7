/- The volumes after each of the days. -/
import Derived.Test.YtieomdjcnaaopaaDays
import Derived.Test.YtieomdjcnaaopaaAux2
import Derived.Test.YtieomdjcnaaopaaStepApp
import Derived.Test.YtieomdjcnaaopaaLev
import Derived.RegionTactic
namespace Go.Proofs.Ytieomdjcnaaopaa
open Go.RowKit
set_option linter.unusedVariables false

def volS (st : Int × List Int) (x : W5) : Int × List Int := (st.1 + netW x, st.2 ++ [st.1 + netW x])
def volF (s : Int) (xs : List W5) : Int × List Int := xs.foldl volS (s, [])
theorem volF_next {s : Int} {xs : List W5} {k : Nat} {x : W5} (h : xs[k]? = some x) : volF s (xs.take (k + 1)) = volS (volF s (xs.take k)) x := by
  rw [take_next h]; unfold volF; rw [List.foldl_append]; rfl
theorem volS_app (ys : List W5) : ∀ v l, (ys.foldl volS (v, l)).2 = l ++ (ys.foldl volS (v, [])).2 := by
  induction ys with
  | nil => intro v l; simp
  | cons y ys ih =>
    intro v l
    simp only [List.foldl_cons, volS]
    rw [ih _ (l ++ _), ih _ ([] ++ _)]
    simp
theorem volF_pre (s : Int) (xs : List W5) (k : Nat) : ∃ r, (volF s xs).2 = (volF s (xs.take k)).2 ++ r := by
  unfold volF
  conv => arg 1; ext r; lhs; rw [← List.take_append_drop k xs, List.foldl_append]
  generalize (xs.take k).foldl volS (s, []) = st
  obtain ⟨v, l⟩ := st
  exact ⟨_, volS_app _ v l⟩
theorem netW_small {x : W5} (h : waB x = true) : -30000000 ≤ netW x ∧ netW x ≤ 20000000 := by
  obtain ⟨r, s, e, p, q⟩ := x
  have := waB_bd h
  simp only [netW]
  omega
theorem volF_bd {s : Int} {xs : List W5} (h : xs.all waB = true) (h0 : 0 ≤ s) (h1 : s ≤ 1000000000) : ∀ k, k ≤ xs.length → -(k * 30000000) ≤ (volF s (xs.take k)).1 ∧ (volF s (xs.take k)).1 ≤ 1000000000 + k * 20000000 ∧ (volF s (xs.take k)).2.length = k := by
  intro k
  induction k with
  | zero => intro _; simp [volF]; omega
  | succ k ih =>
    intro hk
    have hx := List.getElem?_eq_getElem (show k < xs.length by omega)
    have hw := netW_small (all_at h hx)
    rw [volF_next hx]
    have hi := ih (by omega)
    generalize volF s (xs.take k) = st at hi ⊢
    obtain ⟨v, l⟩ := st
    simp only [volS, List.length_append, List.length_cons, List.length_nil] at hi ⊢
    omega
theorem volF_len {s : Int} {xs : List W5} : (volF s xs).2.length = xs.length := by
  have : ∀ (ys : List W5) v l, (ys.foldl volS (v, l)).2.length = l.length + ys.length := by
    intro ys
    induction ys with
    | nil => intro v l; simp
    | cons y ys ih => intro v l; simp only [List.foldl_cons, volS, ih, List.length_append, List.length_cons, List.length_nil]; omega
  have := this xs s []
  simpa [volF] using this

theorem volumes_calls (s : Int) (a : Option Addr) (n c : Nat) (xs : List W5) (w : World) (hr : RdWater w a n xs) (hv : xs.all waB = true) (hn : n ≤ 100) (h0 : 0 ≤ s) (h1 : s ≤ 1000000000) :
    Calls Try.prog 100 #[.int .i64 s, .slice a n c] w fun e w' => ∃ A m c, e = .returned (.slice A m c) ∧ Own 1 ci 2 w' w.heap.size w'.heap.size A m c (volF s xs).2 ∧ Below w.heap.size w w' := by
  have Hl := hd hr.len
  have Hv := hd hv
  clear hv
  obtain ⟨i0, hi, hz0, hz1, hz2⟩ := info_parts infoInt64
  go_enter Try.func100, Try.ntmps100
  go_wp2_with fail
  go_loopw [0, 5, 11] (fun sv v i wr => ∃ k : Nat, ∃ z : Int, ∃ l : List Int, k ≤ n ∧ i = .int .i64 k ∧ sv = .int .i64 z ∧ volF s (xs.take k) = (z, l) ∧ ∃ A c, v = .slice A k c ∧ Own 1 ci 2 wr w.heap.size wr.heap.size A k c l ∧ Below w.heap.size w wr) (fun _ _ i _ => n - (intOf i).toNat)
  case atStart => exact ⟨0, s, [], Nat.zero_le _, rfl, rfl, rfl, _, 0, rfl, Own.empty w _ rfl (Nat.le_refl _) (by simp), (Below.refl _ _).alloc (Nat.le_refl _) _⟩
  case round =>
    obtain ⟨k, z, l, hk, rfl, rfl, hs, A, c', rfl, hown, hb⟩ := hrel
    have hbd := volF_bd Hv.out h0 h1 k (by rw [Hl.out]; exact hk)
    rw [hs] at hbd
    have q1 := hbd.1
    have q2 := hbd.2.1
    simp only [] at q1 q2
    have Hs := hd hs
    have Ho := hd hown
    clear hs hown hbd
    by_cases hlt : k < n
    · obtain ⟨b, o, f0, f1, f2, f3, f4, rfl, hbl, hx, hc0, hc1, hc2, hc3, hc4⟩ := getWater (hr.below hb) hlt
      have hw := all_at Hv.out hx
      have hsm := netW_small hw
      have hnb := waB_nb hw
      obtain ⟨q, hq⟩ : ∃ q, netW (f0, f1, f2, f3, f4) = q := ⟨_, rfl⟩
      rw [hq] at hsm
      have m1 := hsm.1
      have m2 := hsm.2
      have Hq := hd hq
      have Hx := hd hx
      have Hnb := hd hnb
      clear hx hw hsm hq hnb
      go_wp2_with fail
      refine (net_calls _ _ _ _ _ _ Hnb.out).mono ?_
      rintro e w1 ⟨he, b1⟩
      rw [Hq.out] at he
      subst he
      have b2 := bbox1 b1
      have hb1 := bnext hb b2 (Nat.le_refl _)
      have Ho1 := hd ((Ho.out.below b2).mono (Nat.le_refl _) b2.size)
      clear b1 b2 hc0 hc1 hc2 hc3 hc4
      go_wp2_with (at_builtin; refine wpList_app _ rfl _ _ 22 rfl 2 i0 _ 1 8 Try.underlying22 hi hz0 hz1 hz2 rfl (by decide) len_ci one_ci w.heap.size w1.heap.size A k c' l rfl (Ho1.out.alloc _) w1.heap.size (z + q : Int) rfl (app_new _ _ _) (by omega) (by unfold maxLen; omega) (by have := hb1.size; simp; omega) ?_)
      intro A' c'' w2 ho2 hg2
      have hb2 := below_app (hb1.alloc hb1.size _) (Ho1.out.alloc _) hg2 (Nat.le_refl _) (Nat.le_refl _)
      have Ho2 := hd ho2
      clear ho2 hg2
      go_wp2_with fail
      go_roundw
      case rel => exact ⟨k + 1, z + q, l ++ [z + q], by omega, by go_num, rfl, by rw [volF_next Hx.out, Hs.out]; unfold volS; rw [Hq.out], A', c'', rfl, Ho2.out, hb2⟩
      case measure => simp [intOf]; omega
    · obtain rfl : k = n := by omega
      go_wp2_with fail
      go_ret
      exact ⟨A, k, c', rfl, by have e := Hs.out; rw [List.take_of_length_le (by rw [Hl.out]; exact Nat.le_refl _)] at e; rw [e]; exact Ho.out, hb⟩
end Go.Proofs.Ytieomdjcnaaopaa
