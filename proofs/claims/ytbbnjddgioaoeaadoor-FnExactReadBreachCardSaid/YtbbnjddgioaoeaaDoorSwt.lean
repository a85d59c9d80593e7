/- The texts of switches. -/
import Derived.Test.YtbbnjddgioaoeaaDoorDec
import Derived.Test.YtbbnjddgioaoeaaDoorSwitch
namespace Go.Proofs.YtbbnjddgioaoeaaDoor
open Go.RowKit
set_option linter.unusedVariables false

def txt2 (a : ByteArray) (x : List UInt8) (b : ByteArray) (y : List UInt8) : ByteArray := ((a ++ ⟨x.toArray⟩) ++ b) ++ ⟨y.toArray⟩
/-- The text of a switch. -/
def swT (on off : Int) : ByteArray := if swB on off then txt2 ⟨#[111, 110, 32]⟩ (Lib.itoa on) ⟨#[32, 111, 102, 102, 32]⟩ (Lib.itoa off) else ⟨#[]⟩
theorem wf_bd {z : Int} (h : (Lit.int .i64 z).wf = true) : -9223372036854775808 ≤ z ∧ z ≤ 9223372036854775807 := by
  have e1 : IntKind.i64.min = -9223372036854775808 := rfl
  have e2 : IntKind.i64.max = 9223372036854775807 := rfl
  simp [Lit.wf, e1, e2] at h
  exact h
theorem ret_str {a b : ByteArray} (h : a = b) : Ending.returned (.string a) = .returned (.string b) := by rw [h]
set_option maxRecDepth 100000 in
set_option maxHeartbeats 1000000 in
theorem l14Text_calls (on off : Int) (w : World) (n0 : -9223372036854775808 ≤ on) (n1 : on ≤ 9223372036854775807) (f0 : -9223372036854775808 ≤ off) (f1 : off ≤ 9223372036854775807) :
    Calls Tryd.prog 41 #[.agg #[.int .i64 on, .int .i64 off]] w fun e w' => e = .returned (.string (txt2 ⟨#[111, 110, 32]⟩ (Lib.itoa on) ⟨#[32, 111, 102, 102, 32]⟩ (Lib.itoa off))) ∧ Below w.heap.size w w' := by
  obtain ⟨l1, hl1⟩ : ∃ l, Lib.itoa on = l := ⟨_, rfl⟩
  obtain ⟨l2, hl2⟩ : ∃ l, Lib.itoa off = l := ⟨_, rfl⟩
  have b1 := Lib.itoa_length_le on n0 n1
  have b2 := Lib.itoa_length_le off f0 f1
  rw [hl1] at b1
  rw [hl2] at b2
  have e1 : ¬ (9223372036854775807 < 3 + l1.length) := by omega
  have e2 : ¬ (9223372036854775807 < 3 + l1.length + 5) := by omega
  have e3 : ¬ (9223372036854775807 < 3 + l1.length + 5 + l2.length) := by omega
  have HL1 := hd hl1
  have HL2 := hd hl2
  clear hl1 hl2
  have hg := heap_alloc_new w (.cells #[.int .i64 on, .int .i64 off] 23)
  have dd := (Below.refl w.heap.size w).alloc (Nat.le_refl _) (.cells #[.int .i64 on, .int .i64 off] 23)
  have k0 := blw_cell (blk_cell hg 0)
  have k1 := blw_cell (blk_cell hg 1)
  go_enter Tryd.func41, Tryd.ntmps41
  go_upto_region 1 with fail
  generalize w.alloc (.cells #[.int .i64 on, .int .i64 off] 23) = W1 at k0 k1 dd hg ⊢
  refine wp_region_blw (by kernel_rfl) (by kernel_rfl) ?_
  repeat (go_big_quiet_step (first | (go_at_call 49; with_reducible exact blw_of ((l01Dec_calls on _ n0 n1).mono fun _ _ h => ⟨h.1.trans (by rw [HL1.out]), h.2⟩)) | (go_at_call 49; with_reducible exact blw_of ((l01Dec_calls off _ f0 f1).mono fun _ _ h => ⟨h.1.trans (by rw [HL2.out]), h.2⟩))))
  refine wpQuiet_nil ?_
  rintro _ ⟨D, rfl⟩
  go_wp2_with fail
  go_ret
  exact ⟨ret_str (by rw [HL1.out, HL2.out]; rfl), bnext dd D.out (Nat.le_refl _)⟩
set_option maxRecDepth 100000 in
set_option maxHeartbeats 1000000 in
theorem specSwitchText_calls (on off : Int) (w : World) (n0 : -9223372036854775808 ≤ on) (n1 : on ≤ 9223372036854775807) (f0 : -9223372036854775808 ≤ off) (f1 : off ≤ 9223372036854775807) :
    Calls Tryd.prog 19 #[.agg #[.int .i64 on, .int .i64 off]] w fun e w' => e = .returned (.string (swT on off)) ∧ Below w.heap.size w w' := by
  have hg := heap_alloc_new w (.cells #[.int .i64 on, .int .i64 off] 23)
  have dd := (Below.refl w.heap.size w).alloc (Nat.le_refl _) (.cells #[.int .i64 on, .int .i64 off] 23)
  have k0 := blk_cell hg 0
  have k1 := blk_cell hg 1
  go_enter Tryd.func19, Tryd.ntmps19
  go_upto_region 1 with fail
  generalize w.alloc (.cells #[.int .i64 on, .int .i64 off] 23) = W1 at k0 k1 dd hg ⊢
  go_wp2_with fail
  refine (l14Ok_calls on off _).mono ?_
  rintro e w1 ⟨he, b1⟩
  have d1 := bnext dd b1 (Nat.le_refl _)
  have g1 := blk_below hg b1 (blk_lt hg)
  clear k0 k1 hg dd b1
  cases hb : swB on off
  · rw [hb] at he
    subst he
    have HB := hd hb
    clear hb
    go_wp2_with fail
    go_ret
    exact ⟨ret_str (by unfold swT; rw [HB.out]; rfl), d1⟩
  · rw [hb] at he
    subst he
    have HB := hd hb
    clear hb
    have k0 := blk_cell g1 0
    have k1 := blk_cell g1 1
    go_wp2_with fail
    refine (l14Text_calls on off _ n0 n1 f0 f1).mono ?_
    rintro e w2 ⟨rfl, b2⟩
    have d2 := bnext d1 b2 (Nat.le_refl _)
    go_wp2_with fail
    go_ret
    exact ⟨ret_str (by unfold swT; rw [HB.out]; rfl), d2⟩
set_option maxRecDepth 100000 in
set_option maxHeartbeats 1000000 in
theorem SwitchText_calls (on off : Int) (w : World) (n0 : -9223372036854775808 ≤ on) (n1 : on ≤ 9223372036854775807) (f0 : -9223372036854775808 ≤ off) (f1 : off ≤ 9223372036854775807) (htab : Lib.TabIs Tryd.prog w "internal/strconv.uint64pow10" .u64 Lib.pow10Tab) :
    Calls Tryd.prog 21 #[.agg #[.int .i64 on, .int .i64 off]] w fun e w' => e = .returned (.string (swT on off)) ∧ Below w.heap.size w w' := by
  obtain ⟨l1, hl1⟩ : ∃ l, Lib.itoa on = l := ⟨_, rfl⟩
  obtain ⟨l2, hl2⟩ : ∃ l, Lib.itoa off = l := ⟨_, rfl⟩
  have b1 := Lib.itoa_length_le on n0 n1
  have b2 := Lib.itoa_length_le off f0 f1
  rw [hl1] at b1
  rw [hl2] at b2
  have e1 : ¬ (9223372036854775807 < 3 + l1.length) := by omega
  have e2 : ¬ (9223372036854775807 < 3 + l1.length + 5) := by omega
  have e3 : ¬ (9223372036854775807 < 3 + l1.length + 5 + l2.length) := by omega
  have HL1 := hd hl1
  have HL2 := hd hl2
  clear hl1 hl2
  have HT := hd (Lib.tabBelow_of_tabIs htab)
  have hg := heap_alloc_new w (.cells #[.int .i64 on, .int .i64 off] 23)
  have dd := (Below.refl w.heap.size w).alloc (Nat.le_refl _) (.cells #[.int .i64 on, .int .i64 off] 23)
  have k0 := blk_cell hg 0
  have k1 := blk_cell hg 1
  clear htab
  go_enter Tryd.func21, Tryd.ntmps21
  go_upto_region 1 with fail
  generalize w.alloc (.cells #[.int .i64 on, .int .i64 off] 23) = W1 at k0 k1 dd hg ⊢
  go_wp2_with fail
  refine (ValidSwitch_calls on off _).mono ?_
  rintro e w1 ⟨he, b1⟩
  have d1 := bnext dd b1 (Nat.le_refl _)
  have g1 := blk_below hg b1 (blk_lt hg)
  clear k0 k1 hg dd b1
  cases hb : swB on off
  · rw [hb] at he
    subst he
    have HB := hd hb
    clear hb
    go_wp2_with fail
    go_ret
    exact ⟨ret_str (by unfold swT; rw [HB.out]; rfl), d1⟩
  · rw [hb] at he
    subst he
    have HB := hd hb
    clear hb
    have T1 := hd (HT.out.on d1)
    have k0 := blw_cell (blk_cell g1 0)
    have k1 := blw_cell (blk_cell g1 1)
    have ht : ∀ d : Blw w1, Lib.TabIs Tryd.prog d.val "internal/strconv.uint64pow10" .u64 Lib.pow10Tab := fun d => T1.out _ (d.out.mono d1.size)
    have HTD := hd ht
    clear ht
    go_upto_region 3 with fail
    refine wp_region_blw (by kernel_rfl) (by kernel_rfl) ?_
    repeat (go_big_quiet_step (first | (go_at_call 42; with_reducible exact blw_of ((Decimal_calls on _ n0 n1 (HTD.out _)).mono fun _ _ h => ⟨h.1.trans (by rw [HL1.out]), h.2⟩)) | (go_at_call 42; with_reducible exact blw_of ((Decimal_calls off _ f0 f1 (HTD.out _)).mono fun _ _ h => ⟨h.1.trans (by rw [HL2.out]), h.2⟩))))
    refine wpQuiet_nil ?_
    rintro _ ⟨D, rfl⟩
    go_wp2_with fail
    go_ret
    exact ⟨ret_str (by unfold swT; rw [HB.out, HL1.out, HL2.out]; rfl), bnext d1 D.out (Nat.le_refl _)⟩
set_option maxRecDepth 100000 in
set_option maxHeartbeats 1000000 in
theorem FnExactSwitchText_calls (on off : Int) (w : World) (wn : (Lit.int .i64 on).wf = true) (wf : (Lit.int .i64 off).wf = true) (htab : Lib.TabIs Tryd.prog w "internal/strconv.uint64pow10" .u64 Lib.pow10Tab) :
    Calls Tryd.prog 6 #[.agg #[.int .i64 on, .int .i64 off]] w fun e w' => e = .returned (.bool true) ∧ Below w.heap.size w w' := by
  obtain ⟨n0, n1⟩ := wf_bd wn
  obtain ⟨f0, f1⟩ := wf_bd wf
  clear wn wf
  have HT := hd (Lib.tabBelow_of_tabIs htab)
  obtain ⟨R, hR⟩ : ∃ R, swT on off = R := ⟨_, rfl⟩
  have HR := hd hR
  have hq : (R.toList == R.toList) = true := by simp
  clear hR htab
  go_enter Tryd.func6, Tryd.ntmps6
  go_upto_region 1 with fail
  have hg := heap_alloc_new w (.cells #[.int .i64 on, .int .i64 off] 38)
  have dd := (Below.refl w.heap.size w).alloc (Nat.le_refl _) (.cells #[.int .i64 on, .int .i64 off] 38)
  generalize w.alloc (.cells #[.int .i64 on, .int .i64 off] 38) = W1 at dd hg ⊢
  have k0 := blk_cell hg 0
  have k1 := blk_cell hg 1
  go_wp2_with fail
  refine (toSwitch_calls on off _).mono ?_
  rintro e w1 ⟨rfl, b1⟩
  have d1 := bnext dd b1 (Nat.le_refl _)
  have g1 := blk_below hg b1 (blk_lt hg)
  clear k0 k1 hg dd b1
  go_wp2_with fail
  refine (specSwitchText_calls on off _ n0 n1 f0 f1).mono ?_
  rintro e w2 ⟨he, b2⟩
  rw [HR.out] at he
  subst he
  have d2 := bnext d1 b2 (Nat.le_refl _)
  have g2 := blk_below g1 b2 (blk_lt g1)
  clear g1 d1 b2
  have k0 := blk_cell g2 0
  have k1 := blk_cell g2 1
  go_wp2_with fail
  refine (toSwitch_calls on off _).mono ?_
  rintro e w3 ⟨rfl, b3⟩
  have d3 := bnext d2 b3 (Nat.le_refl _)
  clear k0 k1 g2 d2 b3
  go_wp2_with fail
  refine (SwitchText_calls on off _ n0 n1 f0 f1 (HT.out _ d3)).mono ?_
  rintro e w4 ⟨he, b4⟩
  rw [HR.out] at he
  subst he
  have d4 := bnext d3 b4 (Nat.le_refl _)
  go_wp2_with fail
  go_ret
  exact ⟨rfl, d4⟩
end Go.Proofs.YtbbnjddgioaoeaaDoor
