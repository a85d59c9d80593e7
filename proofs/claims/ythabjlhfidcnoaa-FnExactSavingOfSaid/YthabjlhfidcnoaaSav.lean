/- SavingOf. -/
import Derived.Test.YthabjlhfidcnoaaLate3
import Derived.Deep.RegionWith
import Derived.Deep.DeepCutAuto
namespace Go.Proofs.Ythabjlhfidcnoaa
open Go.RowKit
set_option linter.unusedVariables false

/-- A plan that keeps the limits is a way through. -/
theorem keep_fea {L H C : Int} : ∀ (xs ys : List Int) (s : Int), ys.length = xs.length → ys.all (inC C) = true → (∀ k, k < xs.length → inB (s + ((xs.take (k + 1)).sum - (ys.take (k + 1)).sum)) L H = true) → feaP L H C xs s := by
  intro xs
  induction xs with
  | nil => intro ys s _ _ _; trivial
  | cons x xs ih =>
    intro ys s hl hy hk
    cases ys with
    | nil => simp at hl
    | cons y ys =>
      simp only [List.all_cons, Bool.and_eq_true] at hy
      have hy0 := inB_iff.1 hy.1
      have e : ((y.toNat : Nat) : Int) = y := by omega
      refine ⟨y.toNat, by omega, ?_, ?_⟩
      · have := hk 0 (by simp)
        simp at this
        rw [e]
        rwa [show s + x - y = s + (x - y) by omega]
      · rw [e]
        refine ih ys _ (by simpa using hl) hy.2 (fun k hk2 => ?_)
        have := hk (k + 1) (by simp; omega)
        simp only [List.take_succ_cons, List.sum_cons] at this
        rwa [show s + x - y + ((xs.take (k + 1)).sum - (ys.take (k + 1)).sum) = s + (x + (xs.take (k + 1)).sum - (y + (ys.take (k + 1)).sum)) by omega]
theorem keep_tbl {S L H C : Int} {xI xP ys : List Int} (hv : VP S L H C xI xP) (hl : ys.length = xI.length) (hy : ys.all (inC C) = true) (hk : keepB S L H xI ys xI.length = true) : 0 ≤ nx (rowAt L H C xI xP 0) S := by
  refine (tbl_fea hv.l0 hv.c0 xI xP S hv.len hv.pr (by have := hv.l0; have := hv.ls; omega) hv.sh).2 (keep_fea xI ys S hl hy (fun k h => ?_))
  unfold keepB watF at hk
  rw [List.all_map, List.all_eq_true] at hk
  exact hk k (List.mem_range.2 h)
def svF (S L H C : Int) (xI xP ys : List Int) : Int × Int :=
  if pcZ S L H C xI xP ys = 0 then (if keepB S L H xI ys xI.length = true then (costZ xP ys xI.length - nx (rowAt L H C xI xP 0) S, 0) else (0, 6)) else (0, pcZ S L H C xI xP ys)
theorem sv_code {S L H C : Int} {xI xP ys : List Int} {c : Int} (h : pcZ S L H C xI xP ys = c) (k : c ≠ 0) : svF S L H C xI xP ys = (0, c) := by unfold svF; rw [h, if_neg k]
theorem sv_state {S L H C : Int} {xI xP ys : List Int} (h : pcZ S L H C xI xP ys = 0) (k : keepB S L H xI ys xI.length = false) : svF S L H C xI xP ys = (0, 6) := by unfold svF; rw [h, if_pos rfl, k]; rfl
theorem sv_ok {S L H C : Int} {xI xP ys : List Int} (h : pcZ S L H C xI xP ys = 0) (k : keepB S L H xI ys xI.length = true) : svF S L H C xI xP ys = (costZ xP ys xI.length - nx (rowAt L H C xI xP 0) S, 0) := by unfold svF; rw [h, if_pos rfl, k, if_pos rfl]

set_option maxRecDepth 100000 in
set_option maxHeartbeats 2000000 in
theorem SavingOf_calls (S L H C : Int) (aI : Option Addr) (nI cI : Nat) (xI : List Int) (aP : Option Addr) (nP cP : Nat) (xP : List Int) (b : Option Addr) (m d : Nat) (ys : List Int) (w : World) (rI : RdInt64 w aI nI xI) (hI : nI ≤ 1048576) (rP : RdInt64 w aP nP xP) (hP : nP ≤ 1048576) (rY : RdInt64 w b m ys) (hm : m ≤ 1048576) :
    Calls Try.prog 43 #[.agg #[.int .i64 S, .int .i64 L, .int .i64 H, .int .i64 C, .slice aI nI cI, .slice aP nP cP], .slice b m d] w fun e w' => e = .returned (.tuple #[.int .i64 (svF S L H C xI xP ys).1, .int .i64 (svF S L H C xI xP ys).2]) ∧ Below w.heap.size w w' := by
  have LI := hd rI.len
  have LP := hd rP.len
  have LY := hd rY.len
  go_enter Try.func43, Try.ntmps43
  go_wp2_with fail
  refine (planCode_calls S L H C aI nI cI xI aP nP cP xP b m d ys _ (rI.alloc _) hI (rP.alloc _) hP (rY.alloc _) hm).mono ?_
  rintro e w1 ⟨he, b1⟩
  have hq := box_q b1
  have d1 := bbox1 b1
  clear b1
  have k0 := blk_cell hq 0
  have k1 := blk_cell hq 1
  have k2 := blk_cell hq 2
  have k3 := blk_cell hq 3
  have k4 := blk_cell hq 4
  have k5 := blk_cell hq 5
  rcases pcZ_cases S L H C xI xP ys with ⟨hz, hpc⟩ | hz | hz
  case inr.inl =>
    have FF := hd (sv_code hz (by omega))
    rw [hz] at he
    clear hz
    subst he
    go_wp2_with fail
    go_ret2
    exact ⟨by rw [FF.out]; rfl, d1⟩
  case inr.inr =>
    have FF := hd (sv_code hz (by omega))
    rw [hz] at he
    clear hz
    subst he
    go_wp2_with fail
    go_ret2
    exact ⟨by rw [FF.out]; rfl, d1⟩
  case inl =>
  obtain ⟨hv, hl, hy⟩ := hpc.use LY.out LI.out
  have HPC := hd hpc
  have HL := hd hl
  have HZ := hd hz
  have HV := hd hv
  have HY := hd hy
  have e7 : Hid (nP = nI) := hd (by have := hv.len; rw [LI.out, LP.out] at this; exact this)
  have HB := hd (costZ_bd hv.pr hy (by rw [LY.out, LP.out, e7.out, HL.out]) m (by rw [LY.out]; exact Nat.le_refl _))
  have c48 := hv.n48
  rw [LI.out] at c48
  rw [hz] at he
  subst he
  clear hl hz hv hy hpc
  obtain ⟨V, hV⟩ : ∃ V, V = nx (rowAt L H C xI xP 0) S := ⟨_, rfl⟩
  have HVV := hd hV
  clear hV
  have KB : Hid (V ≤ 1920000) := hd (by
    rw [HVV.out]
    unfold nx
    rw [List.getD_eq_getElem?_getD]
    cases hg : (rowAt L H C xI xP 0)[S.toNat]? with
    | none => simp only [Option.getD_none]; omega
    | some y => exact (rowAt_bd HV.out.c1 HV.out.pr HV.out.n48 0 hg).2)
  obtain rfl := e7.out
  go_wp2_with fail
  refine (leastPlan_calls S L H C aI nP cI xI aP nP cP xP aP cP xP _ (rI.below d1) hI (rP.below d1) hP (rP.below d1) HV.out HV.out.pr).mono ?_
  rintro e w2 ⟨A, q, c, he, ho, hm', b2⟩
  have d2 := bnext d1 b2 (Nat.le_refl _)
  have hq2 := blk_below hq b2 (blk_lt hq)
  clear k0 k1 k2 k3 k4 k5 hq
  have k0 := blk_cell hq2 0
  have k1 := blk_cell hq2 1
  have k2 := blk_cell hq2 2
  have k3 := blk_cell hq2 3
  have k4 := blk_cell hq2 4
  have k5 := blk_cell hq2 5
  by_cases hf : 0 ≤ nx (rowAt L H C xI xP 0) S
  · have FL := hd (lp_ok hf)
    rw [lp_ok hf] at he
    rw [← HVV.out] at he
    have hV0 : 0 ≤ V := by rw [HVV.out]; exact hf
    have hV1 := KB.out
    clear hf
    subst he
    go_wp2_with fail
    refine (isPlan_calls S L H C aI nP cI xI aP nP cP xP b m d ys _ (rI.below d2) hI (rP.below d2) hP (rY.below d2) hm HV.out HL.out HY.out).mono ?_
    rintro e w3 ⟨he, b3⟩
    have d3 := bnext d2 b3 (Nat.le_refl _)
    have hq3 := blk_below hq2 b3 (blk_lt hq2)
    clear k0 k1 k2 k3 k4 k5 hq2
    cases hk : keepB S L H xI ys m
    · have FF := hd (sv_state HZ.out (by rw [LI.out, ← HL.out]; exact hk))
      rw [hk] at he
      subst he
      clear hk
      go_wp2_with fail
      go_ret2
      exact ⟨by rw [FF.out]; rfl, d3⟩
    · have FF := hd (sv_ok HZ.out (by rw [LI.out, ← HL.out]; exact hk))
      rw [hk] at he
      subst he
      clear hk
      have k0 := blk_cell hq3 0
      have k1 := blk_cell hq3 1
      have k2 := blk_cell hq3 2
      have k3 := blk_cell hq3 3
      have k4 := blk_cell hq3 4
      have k5 := blk_cell hq3 5
      go_wp2_with fail
      refine (price_calls S L H C aI nP cI xI aP nP cP xP b m d ys _ (rI.below d3) hI (rP.below d3) hP (rY.below d3) hm HV.out HL.out HY.out).mono ?_
      rintro e w4 ⟨rfl, b4⟩
      have d4 := bnext d3 b4 (Nat.le_refl _)
      obtain ⟨p0, p1⟩ := HB.out
      have hmm : (m : Int) ≤ 48 := by have := HL.out; omega
      have p2 : costZ xP ys m ≤ 1920000 := by omega
      have FG : Hid (svF S L H C xI xP ys = (costZ xP ys m - V, 0)) := hd (by rw [FF.out, LI.out, ← HL.out, HVV.out])
      generalize costZ xP ys m = z at p0 p2 FG ⊢
      clear p1
      go_wp2_with fail
      go_ret2
      exact ⟨by rw [FG.out]; rfl, d4⟩
  · have FL := hd (lp_no hf)
    have hkf : keepB S L H xI ys xI.length = false := by
      cases hk : keepB S L H xI ys xI.length
      · rfl
      · exact absurd (keep_tbl HV.out HPC.out.len HPC.out.inn hk) hf
    have FF := hd (sv_state HZ.out hkf)
    rw [lp_no hf] at he
    clear hf hkf
    subst he
    go_wp2_with fail
    go_ret2
    exact ⟨by rw [FF.out]; rfl, d2⟩
set_option maxRecDepth 100000 in
set_option maxHeartbeats 2000000 in
theorem specSavingOf_calls (S L H C : Int) (aI : Option Addr) (nI cI : Nat) (xI : List Int) (aP : Option Addr) (nP cP : Nat) (xP : List Int) (b : Option Addr) (m d : Nat) (ys : List Int) (w : World) (rI : RdInt64 w aI nI xI) (hI : nI ≤ 1048576) (rP : RdInt64 w aP nP xP) (hP : nP ≤ 1048576) (rY : RdInt64 w b m ys) (hm : m ≤ 1048576) :
    Calls Try.prog 42 #[.agg #[.int .i64 S, .int .i64 L, .int .i64 H, .int .i64 C, .slice aI nI cI, .slice aP nP cP], .slice b m d] w fun e w' => e = .returned (.tuple #[.int .i64 (svF S L H C xI xP ys).1, .int .i64 (svF S L H C xI xP ys).2]) ∧ Below w.heap.size w w' := by
  have LI := hd rI.len
  have LP := hd rP.len
  have LY := hd rY.len
  go_enter Try.func42, Try.ntmps42
  go_wp2_with fail
  refine (l15Code_calls _ S L H C aI nI cI xI aP nP cP xP b m d ys _ (heap_alloc_new w _) (rI.alloc _) hI (rP.alloc _) hP (rY.alloc _) hm).mono ?_
  rintro e w1 ⟨he, b1⟩
  have hq := box_q b1
  have d1 := bbox1 b1
  clear b1
  have k0 := blk_cell hq 0
  have k1 := blk_cell hq 1
  have k2 := blk_cell hq 2
  have k3 := blk_cell hq 3
  have k4 := blk_cell hq 4
  have k5 := blk_cell hq 5
  rcases pcZ_cases S L H C xI xP ys with ⟨hz, hpc⟩ | hz | hz
  case inr.inl =>
    have FF := hd (sv_code hz (by omega))
    rw [hz] at he
    clear hz
    subst he
    go_wp2_with fail
    go_ret2
    exact ⟨by rw [FF.out]; rfl, d1⟩
  case inr.inr =>
    have FF := hd (sv_code hz (by omega))
    rw [hz] at he
    clear hz
    subst he
    go_wp2_with fail
    go_ret2
    exact ⟨by rw [FF.out]; rfl, d1⟩
  case inl =>
  obtain ⟨hv, hl, hy⟩ := hpc.use LY.out LI.out
  have HPC := hd hpc
  have HL := hd hl
  have HZ := hd hz
  have HV := hd hv
  have HY := hd hy
  have e7 : Hid (nP = nI) := hd (by have := hv.len; rw [LI.out, LP.out] at this; exact this)
  have HB := hd (costZ_bd hv.pr hy (by rw [LY.out, LP.out, e7.out, HL.out]) m (by rw [LY.out]; exact Nat.le_refl _))
  have c48 := hv.n48
  rw [LI.out] at c48
  rw [hz] at he
  subst he
  clear hl hz hv hy hpc
  obtain ⟨h, rfl⟩ : ∃ h : Nat, H = h := ⟨H.toNat, by have := HV.out.l0; have := HV.out.ls; have := HV.out.sh; omega⟩
  obtain ⟨s, rfl⟩ : ∃ s : Nat, S = s := ⟨S.toNat, by have := HV.out.l0; have := HV.out.ls; omega⟩
  go_wp2_with fail
  refine (l15Keeps_calls _ s L h C aI nI cI xI aP nP cP xP b m d ys _ hq (rI.below d1) hI (rP.below d1) hP (rY.below d1) hm HV.out HL.out HY.out).mono ?_
  rintro e w2 ⟨he, b2⟩
  have d2 := bnext d1 b2 (Nat.le_refl _)
  have hq2 := blk_below hq b2 (blk_lt hq)
  clear k0 k1 k2 k3 k4 k5 hq
  cases hk : keepB s L h xI ys m
  · have FF := hd (sv_state HZ.out (by rw [LI.out, ← HL.out]; exact hk))
    rw [hk] at he
    subst he
    clear hk
    go_wp2_with fail
    go_ret2
    exact ⟨by rw [FF.out]; rfl, d2⟩
  · have FF := hd (sv_ok HZ.out (by rw [LI.out, ← HL.out]; exact hk))
    have hf := keep_tbl HV.out HPC.out.len HPC.out.inn (by rw [LI.out, ← HL.out]; exact hk)
    obtain ⟨V, hV⟩ : ∃ V, V = nx (rowAt L h C xI xP 0) s := ⟨_, rfl⟩
    rw [← hV] at hf FF
    have HVV := hd hV
    clear hV
    have KB : V ≤ 1920000 := by
      rw [HVV.out]
      unfold nx
      rw [List.getD_eq_getElem?_getD]
      cases hg : (rowAt L h C xI xP 0)[(s : Int).toNat]? with
      | none => simp only [Option.getD_none]; omega
      | some y => exact (rowAt_bd HV.out.c1 HV.out.pr HV.out.n48 0 hg).2
    rw [hk] at he
    subst he
    clear hk
    obtain ⟨p0, p1⟩ := HB.out
    have hmm : (m : Int) ≤ 48 := by have := HL.out; omega
    have p2 : costZ xP ys m ≤ 1920000 := by omega
    have FG : Hid (svF s L h C xI xP ys = (costZ xP ys m - V, 0)) := hd (by rw [FF.out, LI.out, ← HL.out])
    obtain ⟨z, hz⟩ : ∃ z, costZ xP ys m = z := ⟨_, rfl⟩
    rw [hz] at p0 p2 FG
    have HCZ := hd hz
    clear p1 hz
    have sh : (s : Int) < (h : Int) + 1 := by have := HV.out.sh; omega
    have shn : s < h + 1 := by omega
    have q1 : (0 : Int) < (nI : Int) + 1 := by omega
    have q2' : (0 : Int) ≤ (s : Int) := by omega
    have HQ2 := hd hq2
    go_upto_region 6 with fail
    have lA := blk_lt hq2
    have k0 : w2.cell? ⟨w.heap.size, 0, none⟩ = some (.int .i64 s) := blk_cell hq2 0
    have n0 := World.new_ne w2 _ k0
    clear hq2
    go_region_with (first
        | (go_at_call 51; refine (l15Cost_calls _ s L h C aI nI cI xI aP nP cP xP b m d ys _ (blk_below HQ2.out (by go_grown) lA) ((rI.below d2).below (by go_grown)) hI ((rP.below d2).below (by go_grown)) hP ((rY.below d2).below (by go_grown)) hm HV.out HL.out HY.out).mono ?_; rintro e v1 ⟨he1, b1⟩; rw [HCZ.out] at he1; subst he1; have q1c : Below w2.heap.size w2 v1 := Below.trans (by go_grown) (b1.mono (by first | exact Nat.le_refl _ | simp)); have x0 := (q1c.cell (p := ⟨w.heap.size, 0, none⟩) lA).trans k0)
        | (go_at_call 51; refine (l15Cost_calls _ s L h C aI nI cI xI aP nP cP xP b m d ys _ (blk_below HQ2.out (Below.trans q2c (Below.mono (B := v2.heap.size) (by go_grown) q2c.size)) lA) ((rI.below d2).below (Below.trans q2c (Below.mono (B := v2.heap.size) (by go_grown) q2c.size))) hI ((rP.below d2).below (Below.trans q2c (Below.mono (B := v2.heap.size) (by go_grown) q2c.size))) hP ((rY.below d2).below (Below.trans q2c (Below.mono (B := v2.heap.size) (by go_grown) q2c.size))) hm HV.out HL.out HY.out).mono ?_; rintro e v1 ⟨he1, b1⟩; rw [HCZ.out] at he1; subst he1; have q1c : Below w2.heap.size w2 v1 := Below.trans (Below.trans q2c (Below.mono (B := v2.heap.size) (by go_grown) q2c.size)) (b1.mono (by have := q2c.size; simp; try omega)); have x0 := (q1c.cell (p := ⟨w.heap.size, 0, none⟩) lA).trans k0; have kU := (b1.cell (p := ⟨g, 0, none⟩) (by simpa using lU)).trans kU; have hcV := (b1.cell (p := ⟨bV, oV + s, none⟩) (by simpa using hblV)).trans hcV)
        | (go_at_call 62; refine (l15Costs_calls _ s L h C aI nI cI xI aP nP cP xP _ (blk_below HQ2.out (Below.trans q1c (Below.mono (B := v1.heap.size) (by go_grown) q1c.size)) lA) ((rI.below d2).below (Below.trans q1c (Below.mono (B := v1.heap.size) (by go_grown) q1c.size))) hI ((rP.below d2).below (Below.trans q1c (Below.mono (B := v1.heap.size) (by go_grown) q1c.size))) hP HV.out).mono ?_; rintro e v2 ⟨g, rfl, hrt, b2⟩; rw [Int.toNat_natCast] at hrt; have q2c : Below w2.heap.size w2 v2 := Below.trans (Below.trans q1c (Below.mono (B := v1.heap.size) (by go_grown) q1c.size)) (b2.mono (by have := q1c.size; simp; try omega)); have y0 := (q2c.cell (p := ⟨w.heap.size, 0, none⟩) lA).trans k0; obtain ⟨AU, cU, kU, rU⟩ := hrt.get (j := 0) (by omega); obtain ⟨bV, oV, zv, hAU, hblV, hzv, hcV⟩ := getInt64 rU shn; subst hAU; have hzV : zv = V := (by rw [HVV.out]; exact (nx_get (nxt := rowAt L h C xI xP 0) (q := (s : Int)) (z := zv) (by rw [Int.toNat_natCast]; exact hzv)).symm); subst hzV; have lU := hrt.1)
        | (go_at_call 62; refine (l15Costs_calls _ s L h C aI nI cI xI aP nP cP xP _ (blk_below HQ2.out (by go_grown) lA) ((rI.below d2).below (by go_grown)) hI ((rP.below d2).below (by go_grown)) hP HV.out).mono ?_; rintro e v2 ⟨g, rfl, hrt, b2⟩; rw [Int.toNat_natCast] at hrt; have q2c : Below w2.heap.size w2 v2 := Below.trans (by go_grown) (b2.mono (by first | exact Nat.le_refl _ | simp)); have y0 := (q2c.cell (p := ⟨w.heap.size, 0, none⟩) lA).trans k0; obtain ⟨AU, cU, kU, rU⟩ := hrt.get (j := 0) (by omega); obtain ⟨bV, oV, zv, hAU, hblV, hzv, hcV⟩ := getInt64 rU shn; subst hAU; have hzV : zv = V := (by rw [HVV.out]; exact (nx_get (nxt := rowAt L h C xI xP 0) (q := (s : Int)) (z := zv) (by rw [Int.toNat_natCast]; exact hzv)).symm); subst hzV; have lU := hrt.1))
    all_goals
      go_wp2_with fail
      go_ret2
      have SW : IntKind.i64.wrap (z - zv) = z - zv := IntWalk.i64_in _ (by omega)
      have FE : Ending.returned (.tuple #[.int .i64 (IntKind.i64.wrap (z - zv)), .int .i64 0]) = .returned (.tuple #[.int .i64 (svF s L h C xI xP ys).1, .int .i64 (svF s L h C xI xP ys).2]) := by rw [FG.out, SW]
      first
      | exact ⟨FE, bnext d2 q1c (Nat.le_refl _)⟩
      | exact ⟨FE, bnext d2 q2c (Nat.le_refl _)⟩
      | (rw [SW] at FE; exact ⟨FE, bnext d2 q1c (Nat.le_refl _)⟩)
      | (rw [SW] at FE; exact ⟨FE, bnext d2 q2c (Nat.le_refl _)⟩)
end Go.Proofs.Ythabjlhfidcnoaa
