/- The texts of water: the program's side and the law. -/
import Derived.Test.YtbbnjddgioaoeaaDoorWat
namespace Go.Proofs.YtbbnjddgioaoeaaDoor
open Go.RowKit
set_option linter.unusedVariables false

abbrev J64 (z : Int) : Prop := -9223372036854775808 ≤ z ∧ z ≤ 9223372036854775807
set_option maxRecDepth 100000 in
set_option maxHeartbeats 1000000 in
theorem WaterText_calls (r s e p q : Int) (w : World) (hr : J64 r) (hs : J64 s) (he : J64 e) (hp : J64 p) (hq : J64 q) (htab : Lib.TabIs Tryd.prog w "internal/strconv.uint64pow10" .u64 Lib.pow10Tab) :
    Calls Tryd.prog 27 #[.agg #[.int .i64 r, .int .i64 s, .int .i64 e, .int .i64 p, .int .i64 q]] w fun e' w' => e' = .returned (.string (waT r s e p q)) ∧ Below w.heap.size w w' := by
  have HT := hd (Lib.tabBelow_of_tabIs htab)
  have HN : Hid (∀ k, J64 (numL r s e p q k)) := hd (numL_P hr hs he hp hq)
  have HLN : Hid (∀ k, (Lib.itoa (numL r s e p q k)).length ≤ 21) := hd (fun k => Lib.itoa_length_le _ (HN.out k).1 (HN.out k).2)
  have hg := heap_alloc_new w (.cells #[.int .i64 r, .int .i64 s, .int .i64 e, .int .i64 p, .int .i64 q] 29)
  have dd := (Below.refl w.heap.size w).alloc (Nat.le_refl _) (.cells #[.int .i64 r, .int .i64 s, .int .i64 e, .int .i64 p, .int .i64 q] 29)
  clear htab hr hs he hp hq
  go_enter Tryd.func27, Tryd.ntmps27
  go_upto_region 1 with fail
  generalize w.alloc (.cells #[.int .i64 r, .int .i64 s, .int .i64 e, .int .i64 p, .int .i64 q] 29) = W1 at dd hg ⊢
  have k0 := blk_cell hg 0
  have k1 := blk_cell hg 1
  have k2 := blk_cell hg 2
  have k3 := blk_cell hg 3
  have k4 := blk_cell hg 4
  go_wp2_with fail
  refine (ValidWater_calls r s e p q _).mono ?_
  rintro e' w1 ⟨hee, b1⟩
  have d1 := bnext dd b1 (Nat.le_refl _)
  have g1 := blk_below hg b1 (blk_lt hg)
  clear k0 k1 k2 k3 k4 hg dd b1
  cases hb : waB (r, s, e, p, q)
  · rw [hb] at hee
    subst hee
    have HB := hd hb
    clear hb
    go_wp2_with fail
    go_ret
    exact ⟨ret_str (by rw [waT_no HB.out]), d1⟩
  rw [hb] at hee
  subst hee
  have HB := hd hb
  clear hb
  have hw := heap_alloc_new w1 (.cells wordsC 9)
  have g2 := blk_alloc g1 (.cells wordsC 9)
  have d2 := d1.alloc d1.size (.cells wordsC 9)
  have GW := hd hw
  have G2 := hd g2
  have hlt := blk_lt g1
  clear hw g2 g1
  go_wp2_with fail
  go_loopw [3, 11] (fun s3 s11 wr => ∃ k : Nat, ∃ t : List UInt8, k ≤ 5 ∧ s11 = .int .i64 k ∧ s3 = .string ⟨t.toArray⟩ ∧ t = tk r s e p q k ∧ wr.heap[w.heap.size]? = some (.cells #[.int .i64 r, .int .i64 s, .int .i64 e, .int .i64 p, .int .i64 q] 29) ∧ wr.heap[w1.heap.size]? = some (.cells wordsC 9) ∧ Below w.heap.size w wr) (fun _ i _ => 5 - (intOf i).toNat)
  case atStart => exact ⟨0, [], by omega, rfl, rfl, rfl, G2.out, GW.out, d2⟩
  case round =>
    clear d2 GW G2
    obtain ⟨k, t, hk, rfl, rfl, ht, hg, hw, hb⟩ := hrel
    have HTK := hd ht
    have hl := tk_len HLN.out k
    rw [← ht] at hl
    clear ht
    by_cases hk5 : k < 5
    · have hcw := (blk_cell hw k).trans (words_at hk5)
      have HW := hd hw
      have HG := hd hg
      have k0 := blk_cell hg 0
      have k1 := blk_cell hg 1
      have k2 := blk_cell hg 2
      have k3 := blk_cell hg 3
      have k4 := blk_cell hg 4
      have i1 : (0 : Int) ≤ (k : Int) := by omega
      have i2 : (k : Int) < 5 := by omega
      have wl := word_len k
      have e1 : ¬ (9223372036854775807 < t.length + 1) := by omega
      have e2 : ¬ (9223372036854775807 < (wordL k).length + 1) := by omega
      clear hg hw
      by_cases hk0 : k = 0
      · have HK0 := hd hk0
        have hkp : ¬ ((0 : Int) < (k : Int)) := by omega
        clear hk0
        go_wp2_with fail
        refine (amounts_calls r s e p q _).mono ?_
        rintro e' w5 ⟨a, rfl, ra, b5⟩
        have hb5 := bnext hb b5 (Nat.le_refl _)
        have HG5 := hd (blk_below HG.out b5 (blk_lt HG.out))
        have HW5 := hd (blk_below HW.out b5 (blk_lt HW.out))
        obtain ⟨bo, oo, f, rfl, hbl, hx, hc⟩ := getInt64 ra hk5
        have hf := numL_at hx
        have HF := hd hf
        have HFB : Hid (J64 f) := hd (by rw [hf]; exact HN.out k)
        have hfl : (Lib.itoa f).length ≤ 21 := by rw [hf]; exact HLN.out k
        clear hf hx k0 k1 k2 k3 k4 hcw b5 HG HW
        go_wp2_with fail
        refine (Decimal_calls f _ HFB.out.1 HFB.out.2 (HT.out _ hb5)).mono ?_
        rintro e' w6 ⟨he, b6⟩
        obtain ⟨l, hl'⟩ : ∃ l, Lib.itoa f = l := ⟨_, rfl⟩
        rw [hl'] at he hfl
        subst he
        have HL := hd hl'
        have hb6 := bnext hb5 b6 (Nat.le_refl _)
        have HG6 := hd (blk_below HG5.out b6 (blk_lt HG5.out))
        have HW6 := hd (blk_below HW5.out b6 (blk_lt HW5.out))
        have e3 : ¬ (9223372036854775807 < (wordL k).length + 1 + l.length) := by omega
        have e4 : ¬ (9223372036854775807 < t.length + ((wordL k).length + 1 + l.length)) := by omega
        clear hl' hc b6 hb5 HG5 HW5
        go_wp2_with fail
        go_roundw
        case rel => exact ⟨k + 1, tk r s e p q (k + 1), by omega, by go_num, by
          rw [show (⟨#[32]⟩ : ByteArray) = ⟨[32].toArray⟩ from rfl]
          simp only [cat]
          rw [HTK.out, ← HL.out, HF.out, tk, if_pos HK0.out], rfl, HG6.out, HW6.out, hb6⟩
        case measure => simp [intOf]; omega
      · have hkp : (0 : Int) < (k : Int) := by omega
        go_wp2_with fail
        refine (amounts_calls r s e p q _).mono ?_
        rintro e' w5 ⟨a, rfl, ra, b5⟩
        have hb5 := bnext hb b5 (Nat.le_refl _)
        have HG5 := hd (blk_below HG.out b5 (blk_lt HG.out))
        have HW5 := hd (blk_below HW.out b5 (blk_lt HW.out))
        obtain ⟨bo, oo, f, rfl, hbl, hx, hc⟩ := getInt64 ra hk5
        have hf := numL_at hx
        have HF := hd hf
        have HFB : Hid (J64 f) := hd (by rw [hf]; exact HN.out k)
        have hfl : (Lib.itoa f).length ≤ 21 := by rw [hf]; exact HLN.out k
        clear hf hx k0 k1 k2 k3 k4 hcw b5 HG HW
        go_wp2_with fail
        refine (Decimal_calls f _ HFB.out.1 HFB.out.2 (HT.out _ hb5)).mono ?_
        rintro e' w6 ⟨he, b6⟩
        obtain ⟨l, hl'⟩ : ∃ l, Lib.itoa f = l := ⟨_, rfl⟩
        rw [hl'] at he hfl
        subst he
        have HL := hd hl'
        have hb6 := bnext hb5 b6 (Nat.le_refl _)
        have HG6 := hd (blk_below HG5.out b6 (blk_lt HG5.out))
        have HW6 := hd (blk_below HW5.out b6 (blk_lt HW5.out))
        have e3 : ¬ (9223372036854775807 < (wordL k).length + 1 + l.length) := by omega
        have e4 : ¬ (9223372036854775807 < t.length + 1 + ((wordL k).length + 1 + l.length)) := by omega
        clear hl' hc b6 hb5 HG5 HW5
        go_wp2_with fail
        go_roundw
        case rel => exact ⟨k + 1, tk r s e p q (k + 1), by omega, by go_num, by
          rw [show (⟨#[32]⟩ : ByteArray) = ⟨[32].toArray⟩ from rfl]
          simp only [cat]
          rw [HTK.out, ← HL.out, HF.out, tk, if_neg hk0], rfl, HG6.out, HW6.out, hb6⟩
        case measure => simp [intOf]; omega
    · obtain rfl : k = 5 := by omega
      go_wp2_with fail
      go_ret
      exact ⟨ret_str (by rw [waT_ok HB.out, ← tk_5, HTK.out]), hb⟩
set_option maxRecDepth 100000 in
set_option maxHeartbeats 1000000 in
theorem FnExactWaterText_calls (r s e p q : Int) (w : World) (wr : (Lit.int .i64 r).wf = true) (ws : (Lit.int .i64 s).wf = true) (we : (Lit.int .i64 e).wf = true) (wp : (Lit.int .i64 p).wf = true) (wq : (Lit.int .i64 q).wf = true) (htab : Lib.TabIs Tryd.prog w "internal/strconv.uint64pow10" .u64 Lib.pow10Tab) :
    Calls Tryd.prog 8 #[.agg #[.int .i64 r, .int .i64 s, .int .i64 e, .int .i64 p, .int .i64 q]] w fun e' w' => e' = .returned (.bool true) ∧ Below w.heap.size w w' := by
  have hr := hd (wf_bd wr)
  have hs := hd (wf_bd ws)
  have he := hd (wf_bd we)
  have hp := hd (wf_bd wp)
  have hq := hd (wf_bd wq)
  clear wr ws we wp wq
  have HT := hd (Lib.tabBelow_of_tabIs htab)
  obtain ⟨R, hR⟩ : ∃ R, waT r s e p q = R := ⟨_, rfl⟩
  have HR := hd hR
  have hqq : (R.toList == R.toList) = true := by simp
  clear hR htab
  go_enter Tryd.func8, Tryd.ntmps8
  go_upto_region 1 with fail
  have hg := heap_alloc_new w (.cells #[.int .i64 r, .int .i64 s, .int .i64 e, .int .i64 p, .int .i64 q] 46)
  have dd := (Below.refl w.heap.size w).alloc (Nat.le_refl _) (.cells #[.int .i64 r, .int .i64 s, .int .i64 e, .int .i64 p, .int .i64 q] 46)
  generalize w.alloc (.cells #[.int .i64 r, .int .i64 s, .int .i64 e, .int .i64 p, .int .i64 q] 46) = W1 at dd hg ⊢
  have k0 := blk_cell hg 0
  have k1 := blk_cell hg 1
  have k2 := blk_cell hg 2
  have k3 := blk_cell hg 3
  have k4 := blk_cell hg 4
  go_wp2_with fail
  refine (toWater_calls r s e p q _).mono ?_
  rintro e' w1 ⟨rfl, b1⟩
  have d1 := bnext dd b1 (Nat.le_refl _)
  have g1 := blk_below hg b1 (blk_lt hg)
  clear k0 k1 k2 k3 k4 hg dd b1
  go_wp2_with fail
  refine (specWaterText_calls r s e p q _ hr.out hs.out he.out hp.out hq.out).mono ?_
  rintro e' w2 ⟨hee, b2⟩
  rw [HR.out] at hee
  subst hee
  have d2 := bnext d1 b2 (Nat.le_refl _)
  have g2 := blk_below g1 b2 (blk_lt g1)
  clear g1 d1 b2
  have k0 := blk_cell g2 0
  have k1 := blk_cell g2 1
  have k2 := blk_cell g2 2
  have k3 := blk_cell g2 3
  have k4 := blk_cell g2 4
  go_wp2_with fail
  refine (toWater_calls r s e p q _).mono ?_
  rintro e' w3 ⟨rfl, b3⟩
  have d3 := bnext d2 b3 (Nat.le_refl _)
  clear k0 k1 k2 k3 k4 g2 d2 b3
  go_wp2_with fail
  refine (WaterText_calls r s e p q _ hr.out hs.out he.out hp.out hq.out (HT.out _ d3)).mono ?_
  rintro e' w4 ⟨hee, b4⟩
  rw [HR.out] at hee
  subst hee
  have d4 := bnext d3 b4 (Nat.le_refl _)
  go_wp2_with fail
  go_ret
  exact ⟨rfl, d4⟩
end Go.Proofs.YtbbnjddgioaoeaaDoor
