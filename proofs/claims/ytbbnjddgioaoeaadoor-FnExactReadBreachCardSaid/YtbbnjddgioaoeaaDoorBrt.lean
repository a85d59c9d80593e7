/- The texts of breaches. -/
import Derived.Test.YtbbnjddgioaoeaaDoorSwt
import Derived.Test.YtbbnjddgioaoeaaDoorTyBreach
namespace Go.Proofs.YtbbnjddgioaoeaaDoor
open Go.RowKit
set_option linter.unusedVariables false

def txt3 (x : List UInt8) (a : ByteArray) (y : List UInt8) (b : ByteArray) (z : List UInt8) : ByteArray := ((((⟨x.toArray⟩ : ByteArray) ++ a) ++ ⟨y.toArray⟩) ++ b) ++ ⟨z.toArray⟩
def brP (wd sl wt : Int) : Bool := inB wd 0 1000 && (lvB sl && inB wt 0 1000000000)
/-- The text of a breach. -/
def brT (wd sl wt : Int) : ByteArray := if brP wd sl wt then txt3 (Lib.itoa wd) ⟨#[109, 32, 115, 105, 108, 108, 32]⟩ (Lib.itoa sl) ⟨#[32, 119, 97, 116, 101, 114, 32]⟩ (Lib.itoa wt) else ⟨#[]⟩
theorem brT_no {wd sl wt : Int} (h : brP wd sl wt = false) : brT wd sl wt = ⟨#[]⟩ := by unfold brT; rw [h]; rfl
theorem brT_ok {wd sl wt : Int} (h : brP wd sl wt = true) : brT wd sl wt = txt3 (Lib.itoa wd) ⟨#[109, 32, 115, 105, 108, 108, 32]⟩ (Lib.itoa sl) ⟨#[32, 119, 97, 116, 101, 114, 32]⟩ (Lib.itoa wt) := by unfold brT; rw [h]; rfl
theorem plain_calls (wd sl wt : Int) (w : World) :
    Calls Tryd.prog 39 #[.agg #[.int .i64 wd, .int .i64 sl, .int .i64 wt]] w fun e w' => e = .returned (.bool (brP wd sl wt)) ∧ Below w.heap.size w w' := by
  go_enter Tryd.func39, Tryd.ntmps39
  go_wp2_with (first | (go_at_call 48; refine (l00In_calls _ _ _ _).mono ?_; rintro e w' ⟨rfl, rfl⟩) | (go_at_call 54; refine (l02Level_calls _ _).mono ?_; rintro e w' ⟨rfl, rfl⟩))
  all_goals (go_ret; exact ⟨by simp [brP, *], by go_grown⟩)
set_option maxRecDepth 100000 in
set_option maxHeartbeats 1000000 in
theorem l12Text_calls (wd sl wt : Int) (w : World) (n0 : -9223372036854775808 ≤ wd) (n1 : wd ≤ 9223372036854775807) (f0 : -9223372036854775808 ≤ sl) (f1 : sl ≤ 9223372036854775807) (t0 : -9223372036854775808 ≤ wt) (t1 : wt ≤ 9223372036854775807) :
    Calls Tryd.prog 43 #[.agg #[.int .i64 wd, .int .i64 sl, .int .i64 wt]] w fun e w' => e = .returned (.string (txt3 (Lib.itoa wd) ⟨#[109, 32, 115, 105, 108, 108, 32]⟩ (Lib.itoa sl) ⟨#[32, 119, 97, 116, 101, 114, 32]⟩ (Lib.itoa wt))) ∧ Below w.heap.size w w' := by
  obtain ⟨l1, hl1⟩ : ∃ l, Lib.itoa wd = l := ⟨_, rfl⟩
  obtain ⟨l2, hl2⟩ : ∃ l, Lib.itoa sl = l := ⟨_, rfl⟩
  obtain ⟨l3, hl3⟩ : ∃ l, Lib.itoa wt = l := ⟨_, rfl⟩
  have b1 := Lib.itoa_length_le wd n0 n1
  have b2 := Lib.itoa_length_le sl f0 f1
  have b3 := Lib.itoa_length_le wt t0 t1
  rw [hl1] at b1
  rw [hl2] at b2
  rw [hl3] at b3
  have e1 : ¬ (9223372036854775807 < l1.length + 7) := by omega
  have e2 : ¬ (9223372036854775807 < l1.length + 7 + l2.length) := by omega
  have e3 : ¬ (9223372036854775807 < l1.length + 7 + l2.length + 7) := by omega
  have e4 : ¬ (9223372036854775807 < l1.length + 7 + l2.length + 7 + l3.length) := by omega
  have HL1 := hd hl1
  have HL2 := hd hl2
  have HL3 := hd hl3
  clear hl1 hl2 hl3
  have hg := heap_alloc_new w (.cells #[.int .i64 wd, .int .i64 sl, .int .i64 wt] 34)
  have dd := (Below.refl w.heap.size w).alloc (Nat.le_refl _) (.cells #[.int .i64 wd, .int .i64 sl, .int .i64 wt] 34)
  have k0 := blw_cell (blk_cell hg 0)
  have k1 := blw_cell (blk_cell hg 1)
  have k2 := blw_cell (blk_cell hg 2)
  go_enter Tryd.func43, Tryd.ntmps43
  go_upto_region 1 with fail
  generalize w.alloc (.cells #[.int .i64 wd, .int .i64 sl, .int .i64 wt] 34) = W1 at k0 k1 k2 dd hg ⊢
  refine wp_region_blw (by kernel_rfl) (by kernel_rfl) ?_
  repeat (go_big_quiet_step (first | (go_at_call 49; with_reducible exact blw_of ((l01Dec_calls wd _ n0 n1).mono fun _ _ h => ⟨h.1.trans (by rw [HL1.out]), h.2⟩)) | (go_at_call 49; with_reducible exact blw_of ((l01Dec_calls sl _ f0 f1).mono fun _ _ h => ⟨h.1.trans (by rw [HL2.out]), h.2⟩)) | (go_at_call 49; with_reducible exact blw_of ((l01Dec_calls wt _ t0 t1).mono fun _ _ h => ⟨h.1.trans (by rw [HL3.out]), h.2⟩))))
  refine wpQuiet_nil ?_
  rintro _ ⟨D, rfl⟩
  go_wp2_with fail
  go_ret
  exact ⟨ret_str (by rw [HL1.out, HL2.out, HL3.out]; rfl), bnext dd D.out (Nat.le_refl _)⟩
set_option maxRecDepth 100000 in
set_option maxHeartbeats 1000000 in
theorem specBreachText_calls (wd sl wt : Int) (w : World) (n0 : -9223372036854775808 ≤ wd) (n1 : wd ≤ 9223372036854775807) (f0 : -9223372036854775808 ≤ sl) (f1 : sl ≤ 9223372036854775807) (t0 : -9223372036854775808 ≤ wt) (t1 : wt ≤ 9223372036854775807) :
    Calls Tryd.prog 22 #[.agg #[.int .i64 wd, .int .i64 sl, .int .i64 wt]] w fun e w' => e = .returned (.string (brT wd sl wt)) ∧ Below w.heap.size w w' := by
  have hg := heap_alloc_new w (.cells #[.int .i64 wd, .int .i64 sl, .int .i64 wt] 34)
  have dd := (Below.refl w.heap.size w).alloc (Nat.le_refl _) (.cells #[.int .i64 wd, .int .i64 sl, .int .i64 wt] 34)
  have k0 := blk_cell hg 0
  have k1 := blk_cell hg 1
  have k2 := blk_cell hg 2
  go_enter Tryd.func22, Tryd.ntmps22
  go_upto_region 1 with fail
  generalize w.alloc (.cells #[.int .i64 wd, .int .i64 sl, .int .i64 wt] 34) = W1 at k0 k1 k2 dd hg ⊢
  go_wp2_with fail
  refine (plain_calls wd sl wt _).mono ?_
  rintro e w1 ⟨he, b1⟩
  have d1 := bnext dd b1 (Nat.le_refl _)
  have g1 := blk_below hg b1 (blk_lt hg)
  clear k0 k1 k2 hg dd b1
  cases hb : brP wd sl wt
  · rw [hb] at he
    subst he
    have HB := hd hb
    clear hb
    go_wp2_with fail
    go_ret
    exact ⟨ret_str (by rw [brT_no HB.out]), d1⟩
  · rw [hb] at he
    subst he
    have HB := hd hb
    clear hb
    have k0 := blk_cell g1 0
    have k1 := blk_cell g1 1
    have k2 := blk_cell g1 2
    go_wp2_with fail
    refine (l12Text_calls wd sl wt _ n0 n1 f0 f1 t0 t1).mono ?_
    rintro e w2 ⟨rfl, b2⟩
    have d2 := bnext d1 b2 (Nat.le_refl _)
    go_wp2_with fail
    go_ret
    exact ⟨ret_str (by rw [brT_ok HB.out]), d2⟩
set_option maxRecDepth 100000 in
set_option maxHeartbeats 1000000 in
theorem BreachText_calls (wd sl wt : Int) (w : World) (n0 : -9223372036854775808 ≤ wd) (n1 : wd ≤ 9223372036854775807) (f0 : -9223372036854775808 ≤ sl) (f1 : sl ≤ 9223372036854775807) (t0 : -9223372036854775808 ≤ wt) (t1 : wt ≤ 9223372036854775807) (htab : Lib.TabIs Tryd.prog w "internal/strconv.uint64pow10" .u64 Lib.pow10Tab) :
    Calls Tryd.prog 24 #[.agg #[.int .i64 wd, .int .i64 sl, .int .i64 wt]] w fun e w' => e = .returned (.string (brT wd sl wt)) ∧ Below w.heap.size w w' := by
  obtain ⟨l1, hl1⟩ : ∃ l, Lib.itoa wd = l := ⟨_, rfl⟩
  obtain ⟨l2, hl2⟩ : ∃ l, Lib.itoa sl = l := ⟨_, rfl⟩
  obtain ⟨l3, hl3⟩ : ∃ l, Lib.itoa wt = l := ⟨_, rfl⟩
  have b1 := Lib.itoa_length_le wd n0 n1
  have b2 := Lib.itoa_length_le sl f0 f1
  have b3 := Lib.itoa_length_le wt t0 t1
  rw [hl1] at b1
  rw [hl2] at b2
  rw [hl3] at b3
  have e1 : ¬ (9223372036854775807 < l1.length + 7) := by omega
  have e2 : ¬ (9223372036854775807 < l1.length + 7 + l2.length) := by omega
  have e3 : ¬ (9223372036854775807 < l1.length + 7 + l2.length + 7) := by omega
  have e4 : ¬ (9223372036854775807 < l1.length + 7 + l2.length + 7 + l3.length) := by omega
  have HL1 := hd hl1
  have HL2 := hd hl2
  have HL3 := hd hl3
  clear hl1 hl2 hl3
  have HT := hd (Lib.tabBelow_of_tabIs htab)
  have hg := heap_alloc_new w (.cells #[.int .i64 wd, .int .i64 sl, .int .i64 wt] 34)
  have dd := (Below.refl w.heap.size w).alloc (Nat.le_refl _) (.cells #[.int .i64 wd, .int .i64 sl, .int .i64 wt] 34)
  have k0 := blk_cell hg 0
  have k1 := blk_cell hg 1
  have k2 := blk_cell hg 2
  clear htab
  cases hb1 : inB wd 0 1000
  · have HB : Hid (brP wd sl wt = false) := hd (by unfold brP; rw [hb1]; rfl)
    go_enter Tryd.func24, Tryd.ntmps24
    go_wp2_with (first | (go_at_call 44; refine (in_calls _ _ _ _).mono ?_; rintro e w' ⟨rfl, rfl⟩) | (go_at_call 45; refine (ValidLevel_calls _ _).mono ?_; rintro e w' ⟨rfl, rfl⟩))
    go_ret
    exact ⟨ret_str (by rw [brT_no HB.out]), dd⟩
  cases hb2 : lvB sl
  · have HB : Hid (brP wd sl wt = false) := hd (by unfold brP; rw [hb1, hb2]; rfl)
    go_enter Tryd.func24, Tryd.ntmps24
    go_wp2_with (first | (go_at_call 44; refine (in_calls _ _ _ _).mono ?_; rintro e w' ⟨rfl, rfl⟩) | (go_at_call 45; refine (ValidLevel_calls _ _).mono ?_; rintro e w' ⟨rfl, rfl⟩))
    go_ret
    exact ⟨ret_str (by rw [brT_no HB.out]), dd⟩
  cases hb3 : inB wt 0 1000000000
  · have HB : Hid (brP wd sl wt = false) := hd (by unfold brP; rw [hb1, hb2, hb3]; rfl)
    go_enter Tryd.func24, Tryd.ntmps24
    go_wp2_with (first | (go_at_call 44; refine (in_calls _ _ _ _).mono ?_; rintro e w' ⟨rfl, rfl⟩) | (go_at_call 45; refine (ValidLevel_calls _ _).mono ?_; rintro e w' ⟨rfl, rfl⟩))
    go_ret
    exact ⟨ret_str (by rw [brT_no HB.out]), dd⟩
  have HB : Hid (brP wd sl wt = true) := hd (by unfold brP; rw [hb1, hb2, hb3]; rfl)
  go_enter Tryd.func24, Tryd.ntmps24
  go_upto_region 1 with fail
  generalize w.alloc (.cells #[.int .i64 wd, .int .i64 sl, .int .i64 wt] 34) = W1 at k0 k1 k2 dd hg ⊢
  go_upto_region 3 with (first | (go_at_call 44; refine (in_calls _ _ _ _).mono ?_; rintro e w' ⟨rfl, rfl⟩) | (go_at_call 45; refine (ValidLevel_calls _ _).mono ?_; rintro e w' ⟨rfl, rfl⟩))
  have T1 := hd (HT.out.on dd)
  have ht : ∀ d : Blw W1, Lib.TabIs Tryd.prog d.val "internal/strconv.uint64pow10" .u64 Lib.pow10Tab := fun d => T1.out _ (d.out.mono dd.size)
  have HTD := hd ht
  have c0 := blw_cell k0
  have c1 := blw_cell k1
  have c2 := blw_cell k2
  clear ht k0 k1 k2
  refine wp_region_blw (by kernel_rfl) (by kernel_rfl) ?_
  repeat (go_big_quiet_step (first | (go_at_call 42; with_reducible exact blw_of ((Decimal_calls wd _ n0 n1 (HTD.out _)).mono fun _ _ h => ⟨h.1.trans (by rw [HL1.out]), h.2⟩)) | (go_at_call 42; with_reducible exact blw_of ((Decimal_calls sl _ f0 f1 (HTD.out _)).mono fun _ _ h => ⟨h.1.trans (by rw [HL2.out]), h.2⟩)) | (go_at_call 42; with_reducible exact blw_of ((Decimal_calls wt _ t0 t1 (HTD.out _)).mono fun _ _ h => ⟨h.1.trans (by rw [HL3.out]), h.2⟩))))
  refine wpQuiet_nil ?_
  rintro _ ⟨D, rfl⟩
  go_wp2_with fail
  go_ret
  exact ⟨ret_str (by rw [brT_ok HB.out, HL1.out, HL2.out, HL3.out]; rfl), bnext dd D.out (Nat.le_refl _)⟩
set_option maxRecDepth 100000 in
set_option maxHeartbeats 1000000 in
theorem FnExactBreachText_calls (wd sl wt : Int) (w : World) (wn : (Lit.int .i64 wd).wf = true) (wf : (Lit.int .i64 sl).wf = true) (wg : (Lit.int .i64 wt).wf = true) (htab : Lib.TabIs Tryd.prog w "internal/strconv.uint64pow10" .u64 Lib.pow10Tab) :
    Calls Tryd.prog 7 #[.agg #[.int .i64 wd, .int .i64 sl, .int .i64 wt]] w fun e w' => e = .returned (.bool true) ∧ Below w.heap.size w w' := by
  obtain ⟨n0, n1⟩ := wf_bd wn
  obtain ⟨f0, f1⟩ := wf_bd wf
  obtain ⟨t0, t1⟩ := wf_bd wg
  clear wn wf wg
  have HT := hd (Lib.tabBelow_of_tabIs htab)
  obtain ⟨R, hR⟩ : ∃ R, brT wd sl wt = R := ⟨_, rfl⟩
  have HR := hd hR
  have hq : (R.toList == R.toList) = true := by simp
  clear hR htab
  go_enter Tryd.func7, Tryd.ntmps7
  go_upto_region 1 with fail
  have hg := heap_alloc_new w (.cells #[.int .i64 wd, .int .i64 sl, .int .i64 wt] 42)
  have dd := (Below.refl w.heap.size w).alloc (Nat.le_refl _) (.cells #[.int .i64 wd, .int .i64 sl, .int .i64 wt] 42)
  generalize w.alloc (.cells #[.int .i64 wd, .int .i64 sl, .int .i64 wt] 42) = W1 at dd hg ⊢
  have k0 := blk_cell hg 0
  have k1 := blk_cell hg 1
  have k2 := blk_cell hg 2
  go_wp2_with fail
  refine (toBreach_calls wd sl wt _).mono ?_
  rintro e w1 ⟨rfl, b1⟩
  have d1 := bnext dd b1 (Nat.le_refl _)
  have g1 := blk_below hg b1 (blk_lt hg)
  clear k0 k1 k2 hg dd b1
  go_wp2_with fail
  refine (specBreachText_calls wd sl wt _ n0 n1 f0 f1 t0 t1).mono ?_
  rintro e w2 ⟨he, b2⟩
  rw [HR.out] at he
  subst he
  have d2 := bnext d1 b2 (Nat.le_refl _)
  have g2 := blk_below g1 b2 (blk_lt g1)
  clear g1 d1 b2
  have k0 := blk_cell g2 0
  have k1 := blk_cell g2 1
  have k2 := blk_cell g2 2
  go_wp2_with fail
  refine (toBreach_calls wd sl wt _).mono ?_
  rintro e w3 ⟨rfl, b3⟩
  have d3 := bnext d2 b3 (Nat.le_refl _)
  clear k0 k1 k2 g2 d2 b3
  go_wp2_with fail
  refine (BreachText_calls wd sl wt _ n0 n1 f0 f1 t0 t1 (HT.out _ d3)).mono ?_
  rintro e w4 ⟨he, b4⟩
  rw [HR.out] at he
  subst he
  have d4 := bnext d3 b4 (Nat.le_refl _)
  go_wp2_with fail
  go_ret
  exact ⟨rfl, d4⟩
end Go.Proofs.YtbbnjddgioaoeaaDoor
