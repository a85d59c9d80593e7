/- The text of a plan: the program's side, and the law. -/
import Derived.Test.YtbbnjddgioaoeaaDoorPln
import Derived.Test.YtbbnjddgioaoeaaDoorStr
import Derived.Test.YtbbnjddgioaoeaaDoorShJ
namespace Go.Proofs.YtbbnjddgioaoeaaDoor
open Go.RowKit
set_option linter.unusedVariables false

theorem infoStr : (Tryd.prog.info? 9).map (fun i => (i.zero, i.size, i.bytes)) = some (some (.string ⟨#[]⟩), 1, 16) := by kernel_rfl
theorem one_cStr : ∀ y, ∀ u ∈ cStr y, u.oneCell' = true := by intro y u hu; simp [cStr] at hu; subst hu; rfl
def mkS (l : List UInt8) : ByteArray := ⟨l.toArray⟩
def itos (xs : List Int) (k : Nat) : List ByteArray := (xs.take k).map fun z => mkS (Lib.itoa z)
theorem itos_next {xs : List Int} {k : Nat} {z : Int} (h : xs[k]? = some z) : itos xs (k + 1) = itos xs k ++ [mkS (Lib.itoa z)] := by
  unfold itos; rw [take_next h, List.map_append]; rfl
theorem itos_len {xs : List Int} {n : Nat} (hn : xs.length = n) : (itos xs n).length = n := by unfold itos; rw [List.length_map, List.length_take]; omega
theorem join_snoc (xs : List (List UInt8)) (y sep : List UInt8) (h : xs ≠ []) : Lib.join (xs ++ [y]) sep = Lib.join xs sep ++ sep ++ y := by
  cases xs with
  | nil => exact absurd rfl h
  | cons x r =>
    rw [List.cons_append, Lib.join_cons, Lib.join_cons, Lib.joinTail, Lib.joinTail]
    simp
theorem join_pt (xs : List Int) : ∀ k, k ≤ xs.length → Lib.join ((itos xs k).map (·.data.toList)) [32] = pt xs k
  | 0, _ => by simp [itos, pt, Lib.join_nil]
  | k + 1, hk => by
    obtain ⟨z, hz⟩ : ∃ z, xs[k]? = some z := ⟨xs[k], List.getElem?_eq_getElem (by omega)⟩
    have ih := join_pt xs k (by omega)
    rw [itos_next hz, List.map_append]
    by_cases hk0 : k = 0
    · subst hk0
      rw [pt_first hz]
      simp [itos, Lib.join_one, mkS]
    · rw [List.map_cons, List.map_nil, join_snoc _ _ _ (by
        intro e
        have e2 := congrArg List.length e
        rw [List.length_map, itos, List.length_map, List.length_take, List.length_nil] at e2
        omega), ih, pt_next hk0 hz]
      simp [mkS]
theorem pt_len {xs : List Int} (h : xs.all unB = true) : ∀ k, k ≤ xs.length → (pt xs k).length ≤ 22 * k
  | 0, _ => by simp [pt]
  | k + 1, hk => by
    obtain ⟨z, hz⟩ : ∃ z, xs[k]? = some z := ⟨xs[k], List.getElem?_eq_getElem (by omega)⟩
    have ih := pt_len h k (by omega)
    obtain ⟨z0, z1⟩ := unB_iff.1 (List.all_eq_true.1 h z (List.mem_of_getElem? hz))
    have hl := Lib.itoa_length_le z (by omega) (by omega)
    by_cases hk0 : k = 0
    · subst hk0
      rw [pt_first hz]; omega
    · rw [pt_next hk0 hz]; simp; omega
theorem isUnits_calls (n : Int) (w : World) :
    Calls Tryd.prog 51 #[.int .i64 n] w fun e w' => e = .returned (.bool (unB n)) ∧ w = w' := by
  go_enter Tryd.func51, Tryd.ntmps51
  go_wp2_with (go_at_call 44; refine (in_calls _ _ _ _).mono ?_; rintro e w' ⟨rfl, rfl⟩)
  go_ret
  exact ⟨rfl, rfl⟩
set_option maxRecDepth 100000 in
set_option maxHeartbeats 1000000 in
theorem joinNumbers_calls (a : Option Addr) (n c : Nat) (xs : List Int) (w : World) (ha : RdInt64 w a n xs) (hn : n ≤ 1048576) (hv : xs.all unB = true) (htab : Lib.TabIs Tryd.prog w "internal/strconv.uint64pow10" .u64 Lib.pow10Tab) :
    Calls Tryd.prog 52 #[.slice a n c, .string ⟨#[32]⟩] w fun e w' => e = .returned (.string ⟨(pt xs n).toArray⟩) ∧ Below w.heap.size w w' := by
  have HLEN := hd ha.len
  have HV := hd hv
  have HT := hd (Lib.tabBelow_of_tabIs htab)
  clear htab hv
  obtain ⟨i0, hi, hz0, hz1, hz2⟩ := info_parts infoStr
  go_enter Tryd.func52, Tryd.ntmps52
  go_wp2_with fail
  go_loopw [5, 11] (fun v i wr => ∃ k : Nat, k ≤ n ∧ i = .int .i64 k ∧ ∃ A c, v = .slice A k c ∧ Own 1 cStr 9 wr w.heap.size wr.heap.size A k c (itos xs k) ∧ Below w.heap.size w wr) (fun _ i _ => n - (intOf i).toNat)
  case atStart => exact ⟨0, Nat.zero_le _, rfl, _, 0, rfl, Own.empty w _ rfl (Nat.le_refl _) (by simp), (Below.refl _ _).alloc (Nat.le_refl _) _⟩
  case round =>
    obtain ⟨k, hk, rfl, A, c', rfl, ho, hb⟩ := hrel
    have Ho := hd ho
    clear ho
    by_cases hlt : k < n
    · obtain ⟨b1, o1, z, rfl, hbl, hx, hc0⟩ := getInt64 (ha.below hb) hlt
      have HX := hd hx
      obtain ⟨z0, z1⟩ := unB_iff.1 (List.all_eq_true.1 HV.out z (List.mem_of_getElem? hx))
      clear hx
      go_wp2_with fail
      refine (Decimal_calls z _ (by omega) (by omega) (HT.out _ hb)).mono ?_
      rintro e w1 ⟨rfl, b1'⟩
      have Ho1 := hd ((Ho.out.below b1').mono (Nat.le_refl _) b1'.size)
      have hb1 := bnext hb b1' (Nat.le_refl _)
      clear hc0 b1' hb
      go_wp2_with (at_builtin; refine wpList_app _ rfl _ _ 55 rfl 9 i0 _ 1 16 Tryd.underlying55 hi hz0 hz1 hz2 rfl (by decide) len_cStr one_cStr w.heap.size w1.heap.size A k c' _ rfl (Ho1.out.alloc _) w1.heap.size (mkS (Lib.itoa z)) rfl (app_new _ _ _) (by omega) (by unfold maxLen; omega) (by have := hb1.size; simp; omega) ?_)
      intro A' c'' w2 ho2 hg2
      have hb2 := below_app (hb1.alloc hb1.size _) (Ho1.out.alloc _) hg2 (Nat.le_refl _) (Nat.le_refl _)
      have Ho2 := hd ho2
      clear ho2 hg2
      go_wp2_with fail
      go_roundw
      case rel => exact ⟨k + 1, by omega, by go_num, A', c'', rfl, by rw [itos_next HX.out]; exact Ho2.out, hb2⟩
      case measure => simp [intOf]; omega
    · obtain rfl : k = n := by omega
      by_cases hk0 : k = 0
      · subst hk0
        have HO := hd hb
        go_wp2_with fail
        refine (Tryd.strings_Join_none _ _ _ _).mono ?_
        rintro e w9 ⟨rfl, rfl⟩
        go_wp2_with fail
        go_ret
        exact ⟨rfl, HO.out⟩
      · have hrd := Ho.out.rd len_cStr
        obtain ⟨g, cur, rfl, hBg, hgb, hsz, hkc, hcm, hhas⟩ := own_block len_cStr Ho.out.2.1 (by omega)
        have hjl := pt_len HV.out k (by rw [HLEN.out]; exact Nat.le_refl _)
        have hj := join_pt xs k (by rw [HLEN.out]; exact Nat.le_refl _)
        have hln := itos_len HLEN.out
        have hJ := Tryd.strings_Join g 0 c' (itos xs k) ⟨#[32]⟩ wr (fun j x hx => by
          have h1 := hhas j x (by have := lt_of_get hx; rw [hln] at this; exact this) hx 0 (.string x) rfl
          rw [Nat.zero_add, blk_cell hgb]
          simpa using h1) (blk_lt hgb) (by rw [hln]; omega) (by rw [hln]; exact hkc) (by
          rw [show (⟨#[32]⟩ : ByteArray).data.toList = [32] from rfl, hj]; omega)
        rw [show (⟨#[32]⟩ : ByteArray).data.toList = [32] from rfl, hj, hln] at hJ
        have HJ := hd hJ
        have HB := hd hb
        clear hJ hj hln hhas hrd hgb hsz hjl hkc hcm hb
        go_wp2_with fail
        refine HJ.out.mono ?_
        rintro e w9 ⟨rfl, b9⟩
        go_wp2_with fail
        go_ret
        exact ⟨rfl, bnext HB.out b9 (Nat.le_refl _)⟩
set_option maxRecDepth 100000 in
set_option maxHeartbeats 1000000 in
theorem PlanText_calls (a : Option Addr) (n c : Nat) (xs : List Int) (w : World) (ha : RdInt64 w a n xs) (hn : n ≤ 1048576) (htab : Lib.TabIs Tryd.prog w "internal/strconv.uint64pow10" .u64 Lib.pow10Tab) :
    Calls Tryd.prog 30 #[.slice a n c] w fun e w' => e = .returned (.string (plT xs)) ∧ Below w.heap.size w w' := by
  have HLEN := hd ha.len
  have HT := hd (Lib.tabBelow_of_tabIs htab)
  have HA := hd ha
  have he1 := ent Tryd.func51 (by kernel_rfl) rfl
  clear htab ha
  by_cases h48 : n ≤ 48
  · have h48' : ¬ (48 : Int) < (n : Int) := by omega
    go_enter Tryd.func30, Tryd.ntmps30
    go_wp2_with fail
    refine (allInt64_calls 51 #[] unB _ _ _ xs _ HA.out (by omega) he1 (fun z W _ => by rw [Array.append_empty]; exact (isUnits_calls z W).mono fun e w' ⟨h1, h2⟩ => ⟨h1, h2 ▸ Below.refl _ _⟩)).mono ?_
    rintro e w1 ⟨he, b1⟩
    cases hu : xs.all unB
    · rw [hu] at he
      subst he
      have HU := hd hu
      clear hu
      go_wp2_with fail
      go_ret
      exact ⟨ret_str (by rw [plT_out HU.out]), b1⟩
    · rw [hu] at he
      subst he
      have HU := hd hu
      clear hu
      go_wp2_with fail
      refine (joinNumbers_calls _ _ _ xs _ (HA.out.below b1) hn HU.out (HT.out _ b1)).mono ?_
      rintro e w2 ⟨rfl, b2⟩
      go_wp2_with fail
      go_ret
      exact ⟨ret_str (by rw [plT_ok HLEN.out HU.out h48]), bnext b1 b2 (Nat.le_refl _)⟩
  · have h48' : (48 : Int) < (n : Int) := by omega
    go_enter Tryd.func30, Tryd.ntmps30
    go_wp2_with fail
    go_ret
    exact ⟨ret_str (by rw [plT_long HLEN.out (by omega)]), Below.refl _ _⟩
set_option maxRecDepth 100000 in
set_option maxHeartbeats 1000000 in
theorem FnExactPlanText_calls (a : Option Addr) (n c : Nat) (xs : List Int) (w : World) (ha : RdInt64 w a n xs) (ln : n ≤ c) (mx : c ≤ maxLen) (ho : ∀ x ∈ xs, OkInt64 x) (htab : Lib.TabIs Tryd.prog w "internal/strconv.uint64pow10" .u64 Lib.pow10Tab) :
    Calls Tryd.prog 9 #[.slice a n c] w fun e w' => e = .returned (.bool true) ∧ Below w.heap.size w w' := by
  have HT := hd (Lib.tabBelow_of_tabIs htab)
  have HA := hd ha
  unfold maxLen at mx
  obtain ⟨R, hR⟩ : ∃ R, plT xs = R := ⟨_, rfl⟩
  have HR := hd hR
  have hqq : (R.toList == R.toList) = true := by simp
  clear htab ha ho hR
  by_cases h20 : n ≤ 1048576
  · have h20' : ¬ (1048576 : Int) < (n : Int) := by omega
    go_enter Tryd.func9, Tryd.ntmps9
    go_wp2_with fail
    refine (toInt64S_calls _ _ _ xs _ HA.out h20).mono ?_
    rintro e w1 ⟨A1, rfl, o1, b1⟩
    go_wp2_with fail
    refine (specPlanText_calls _ _ _ xs _ (o1.rd len_ci) h20).mono ?_
    rintro e w2 ⟨he, b2⟩
    rw [HR.out] at he
    subst he
    have d2 := bnext b1 b2 (Nat.le_refl _)
    clear o1 b1 b2
    go_wp2_with fail
    refine (toInt64S_calls _ _ _ xs _ (HA.out.below d2) h20).mono ?_
    rintro e w3 ⟨A3, rfl, o3, b3⟩
    have r3 := hd (o3.rd len_ci)
    have d3 := bnext d2 b3 (Nat.le_refl _)
    clear o3 b3 d2
    go_wp2_with fail
    refine (PlanText_calls _ _ _ xs _ r3.out h20 (HT.out _ d3)).mono ?_
    rintro e w4 ⟨he, b4⟩
    rw [HR.out] at he
    subst he
    have r4 := hd (r3.out.below b4)
    have d4 := bnext d3 b4 (Nat.le_refl _)
    clear r3 b4 d3
    go_wp2_with fail
    refine (toInt64S_calls _ _ _ xs _ (HA.out.below d4) h20).mono ?_
    rintro e w5 ⟨A5, rfl, o5, b5⟩
    have r5 := hd (o5.rd len_ci)
    have r45 := hd (r4.out.below b5)
    have d5 := bnext d4 b5 (Nat.le_refl _)
    clear o5 b5 d4 r4
    go_wp2_with fail
    refine (eqInt64S_calls _ _ _ _ _ _ xs xs _ r45.out r5.out h20 h20).mono ?_
    rintro e w6 ⟨he, b6⟩
    rw [show (xs == xs) = true by simp] at he
    subst he
    have d6 := bnext d5 b6 (Nat.le_refl _)
    go_wp2_with fail
    go_ret
    exact ⟨rfl, d6⟩
  · have h20' : (1048576 : Int) < (n : Int) := by omega
    go_enter Tryd.func9, Tryd.ntmps9
    go_wp2_with fail
    go_ret
    exact ⟨rfl, Below.refl _ _⟩
end Go.Proofs.YtbbnjddgioaoeaaDoor
