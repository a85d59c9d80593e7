/- LatestPlan, LeastPumped, LeastCapacity. -/
import Derived.Test.YthabjlhfidcnoaaLate2
import Derived.Deep.RegionHeld3
import Derived.Deep.DeepCutAuto
namespace Go.Proofs.Ythabjlhfidcnoaa
open Go.RowKit
set_option linter.unusedVariables false

theorem rep_pr (n : Nat) {z : Int} (h : 0 ≤ z) (k : z ≤ 1000) : (List.replicate n z).all prB = true := by
  rw [List.all_eq_true]
  intro x hx
  rw [List.eq_of_mem_replicate hx]
  exact prB_iff.2 ⟨h, k⟩
theorem fea_lt {S L H C : Int} {xI xP : List Int} (hv : VP S L H C xI xP) : feaP L H C xI S ↔ (ltF S L H C xI).isSome = true := by
  rw [feaP_iff hv.l0 hv.c0 xI S hv.un hv.ls hv.sh]
  unfold ltF
  by_cases h : topF H C xI < S
  · rw [if_pos h]
    simp
    omega
  · rw [if_neg h, latF_ok xI S hv.un hv.ls]
    exact ⟨fun k => k.2, fun k => ⟨by omega, k⟩⟩
theorem fea_tbl {S L H C : Int} {xI xP ps : List Int} (hv : VP S L H C xI xP) (hl : ps.length = xI.length) (hp : ps.all prB = true) : 0 ≤ nx (rowAt L H C xI ps 0) S ↔ (ltF S L H C xI).isSome = true := by
  rw [← fea_lt hv]
  exact tbl_fea hv.l0 hv.c0 xI ps S hl hp (by have := hv.l0; have := hv.ls; omega) hv.sh
theorem lt_zero {S L H C : Int} {xI xP l : List Int} (hv : VP S L H C xI xP) (h : ltF S L H C xI = some l) : planF L H C xI (List.replicate xI.length 0) S = l := by
  have hf := (fea_lt hv).2 (by rw [h]; rfl)
  have hz := zero_plan hv.l0 hv.c0 xI S hv.un hv.ls hv.sh hf
  have k := h
  unfold ltF at k
  split at k
  · cases k
  · rw [k] at hz
    exact (Option.some.inj hz).symm
theorem lt_ones {S L H C : Int} {xI xP l : List Int} (hv : VP S L H C xI xP) (h : ltF S L H C xI = some l) : nx (rowAt L H C xI (List.replicate xI.length 1) 0) S = l.sum := by
  have hf := (fea_lt hv).2 (by rw [h]; rfl)
  have ho := ones_tbl hv.l0 hv.c0 xI S hv.un hv.ls hv.sh hf
  have k := h
  unfold ltF at k
  split at k
  · cases k
  · rw [sumF_lat xI S l k]
    exact ho
def laF (S L H C : Int) (xI xP : List Int) : List Int × Int := if vpB S L H C xI xP then (match ltF S L H C xI with | some l => (l, 0) | none => ([], 3)) else ([], 1)
def lqF (S L H C : Int) (xI xP : List Int) : Int × Int := if vpB S L H C xI xP then (match ltF S L H C xI with | some l => (l.sum, 0) | none => (0, 3)) else (0, 1)
def lcP (S L H : Int) (xI : List Int) (n : Nat) : Bool := (ltF S L H (n : Int) xI).isSome
def lcF (S L H C : Int) (xI xP : List Int) : Int × Int := if vpB S L H C xI xP then (match findN (lcP S L H xI) 0 41 with | some n => ((n : Int), 0) | none => (0, 3)) else (0, 1)
theorem la_bad {S L H C : Int} {xI xP : List Int} (h : vpB S L H C xI xP = false) : laF S L H C xI xP = ([], 1) := by unfold laF; rw [h]; rfl
theorem la_some {S L H C : Int} {xI xP l : List Int} (h : vpB S L H C xI xP = true) (k : ltF S L H C xI = some l) : laF S L H C xI xP = (l, 0) := by unfold laF; rw [h, k]; rfl
theorem la_none {S L H C : Int} {xI xP : List Int} (h : vpB S L H C xI xP = true) (k : ltF S L H C xI = none) : laF S L H C xI xP = ([], 3) := by unfold laF; rw [h, k]; rfl
theorem lq_bad {S L H C : Int} {xI xP : List Int} (h : vpB S L H C xI xP = false) : lqF S L H C xI xP = (0, 1) := by unfold lqF; rw [h]; rfl
theorem lq_some {S L H C : Int} {xI xP l : List Int} (h : vpB S L H C xI xP = true) (k : ltF S L H C xI = some l) : lqF S L H C xI xP = (l.sum, 0) := by unfold lqF; rw [h, k]; rfl
theorem lq_none {S L H C : Int} {xI xP : List Int} (h : vpB S L H C xI xP = true) (k : ltF S L H C xI = none) : lqF S L H C xI xP = (0, 3) := by unfold lqF; rw [h, k]; rfl
theorem lc_bad {S L H C : Int} {xI xP : List Int} (h : vpB S L H C xI xP = false) : lcF S L H C xI xP = (0, 1) := by unfold lcF; rw [h]; rfl
theorem lc_some {S L H C : Int} {xI xP : List Int} {n : Nat} (h : vpB S L H C xI xP = true) (k : findN (lcP S L H xI) 0 41 = some n) : lcF S L H C xI xP = ((n : Int), 0) := by unfold lcF; rw [h, k]; rfl
theorem lc_none {S L H C : Int} {xI xP : List Int} (h : vpB S L H C xI xP = true) (k : findN (lcP S L H xI) 0 41 = none) : lcF S L H C xI xP = (0, 3) := by unfold lcF; rw [h, k]; rfl
theorem la_pw {S L H C : Int} {xI xP : List Int} (h : vpB S L H C xI xP = true) : laF S L H C xI xP = pwF S L H C xI (List.replicate xI.length 0) := by
  have hv := vp_iff.1 h
  have hf := fea_tbl hv (ps := List.replicate xI.length 0) (by simp) (rep_pr _ (by omega) (by omega))
  cases k : ltF S L H C xI with
  | none =>
    rw [la_none h k, pw_no (by rw [hf, k]; simp)]
  | some l =>
    rw [la_some h k, pw_ok (by rw [hf, k]; rfl), lt_zero hv k]
theorem VP.cap {S L H C : Int} {xI xP : List Int} (h : VP S L H C xI xP) {n : Int} (h0 : 0 ≤ n) (h1 : n ≤ 40) : VP S L H n xI xP := ⟨h.l0, h.ls, h.sh, h.h1, h0, h1, h.un, h.pr, h.len, h.n48⟩
theorem isS_none {α : Type} {x : Option α} (h : x.isSome = false) : x = none := by cases x <;> simp_all
theorem isS_some {α : Type} {x : Option α} (h : x.isSome = true) : ∃ l, x = some l := by cases x <;> simp_all
theorem ret_int2 {a b c d : Int} (h : a = c) (k : b = d) : Ending.returned (.tuple #[.int .i64 a, .int .i64 b]) = .returned (.tuple #[.int .i64 c, .int .i64 d]) := by rw [h, k]
theorem sumb {xs : List Int} (h : xs.all sB = true) : ∀ k, k ≤ xs.length → 0 ≤ (xs.take k).sum ∧ (xs.take k).sum ≤ ((k * 4000 : Nat) : Int) := sumto_bd (B := 4000) (fun x hx => by have := inB_iff.1 hx; omega) h
theorem l02Sum_calls' (a : Option Addr) (n c : Nat) (xs : List Int) (w : World) (ha : RdInt64 w a n xs) (hn : n ≤ 1048576) (hv : xs.all sB = true) :
    Calls Try.prog 61 #[.slice a n c] w fun e w' => e = .returned (.int .i64 xs.sum) ∧ Below w.heap.size w w' := by
  have Ha := hd ha.len
  have Hv := hd hv
  clear hv
  go_enter Try.func61, Try.ntmps61
  go_wp2_with fail
  go_loopw [3, 4] (fun v i wr => ∃ k : Nat, ∃ s : Int, k ≤ n ∧ i = .int .i64 k ∧ v = .int .i64 s ∧ s = (xs.take k).sum ∧ Below w.heap.size w wr) (fun _ i _ => n - (intOf i).toNat)
  case atStart => exact ⟨0, 0, Nat.zero_le _, rfl, rfl, rfl, Below.refl _ _⟩
  case round =>
    obtain ⟨k, s, hk, rfl, rfl, hs, hb⟩ := hrel
    have hbd := sumb Hv.out k (by rw [Ha.out]; exact hk)
    rw [← hs] at hbd
    obtain ⟨q1, q2⟩ := hbd
    have Hs := hd hs
    clear hs
    by_cases hlt : k < n
    · obtain ⟨b, o, f0, rfl, hbl, hx, hc0⟩ := getInt64 (ha.below hb) hlt
      obtain ⟨m1, m2⟩ := inB_iff.1 (all_at_ Hv.out hx)
      have Hn := hd (sumto_next hx)
      clear hx
      go_wp2_with fail
      go_roundw
      case rel => exact ⟨k + 1, s + f0, by omega, by go_num, rfl, by rw [Hn.out, ← Hs.out], hb⟩
      case measure => simp [intOf]; omega
    · obtain rfl : k = n := by omega
      go_wp2_with fail
      go_ret
      exact ⟨ret_int (by rw [Hs.out, List.take_of_length_le (by rw [Ha.out]; exact Nat.le_refl _)]), hb⟩
set_option maxRecDepth 100000 in
set_option maxHeartbeats 2000000 in
theorem specLatestPlan_calls (S L H C : Int) (aI : Option Addr) (nI cI : Nat) (xI : List Int) (aP : Option Addr) (nP cP : Nat) (xP : List Int) (w : World) (rI : RdInt64 w aI nI xI) (hI : nI ≤ 1048576) (rP : RdInt64 w aP nP xP) (hP : nP ≤ 1048576) :
    Calls Try.prog 40 #[.agg #[.int .i64 S, .int .i64 L, .int .i64 H, .int .i64 C, .slice aI nI cI, .slice aP nP cP]] w fun e w' => ∃ A m c, e = .returned (.tuple #[.slice A m c, .int .i64 (laF S L H C xI xP).2]) ∧ Own 1 ci 2 w' w.heap.size w'.heap.size A m c (laF S L H C xI xP).1 ∧ m ≤ 1048576 ∧ Below w.heap.size w w' := by
  have LI := hd rI.len
  have LP := hd rP.len
  obtain ⟨i0, hi, hz0, hz1, hz2⟩ := info_parts infoInt64
  go_enter Try.func40, Try.ntmps40
  go_wp2_with fail
  refine (l15Ok_calls _ S L H C aI nI cI xI aP nP cP xP _ (heap_alloc_new w _) (rI.alloc _) hI (rP.alloc _) hP).mono ?_
  rintro e w1 ⟨he, b1⟩
  have hq := box_q b1
  have d1 := bbox1 b1
  have z1 := b1.size
  simp only [World.size_alloc] at z1
  clear b1
  cases hv : vpB S L H C xI xP
  · rw [hv] at he
    subst he
    have F := hd (la_bad hv)
    clear hv
    go_wp2_with fail
    go_ret2
    exact ⟨none, 0, 0, ret_sli (by rw [F.out]), by rw [F.out]; exact Own.nil_, by omega, d1⟩
  · rw [hv] at he
    subst he
    have V := hd (vp_iff.1 hv)
    have HV := hd hv
    clear hv
    go_wp2_with fail
    refine (l15Latest_calls _ S L H C aI nI cI xI aP nP cP xP _ hq (rI.below d1) hI (rP.below d1) hP V.out).mono ?_
    rintro e w2 ⟨A, m, c, he, ho, hm, b2⟩
    have d2 := bnext d1 b2 (Nat.le_refl _)
    cases hk : (ltF S L H C xI).isSome
    · have F := hd (la_none HV.out (isS_none hk))
      rw [hk] at he
      subst he
      clear hk
      go_wp2_with fail
      go_ret2
      exact ⟨none, 0, 0, ret_sli (by rw [F.out]), by rw [F.out]; exact Own.nil_, by omega, d2⟩
    · obtain ⟨l, hl⟩ := isS_some hk
      have F := hd (la_some HV.out hl)
      rw [hk] at he
      rw [hl] at ho
      subst he
      clear hk hl
      go_wp2_with fail
      go_ret2
      exact ⟨A, m, c, ret_sli (by rw [F.out]), by rw [F.out]; exact ho.mono d1.size (Nat.le_refl _), hm, d2⟩
set_option maxRecDepth 100000 in
set_option maxHeartbeats 2000000 in
theorem specLeastPumped_calls (S L H C : Int) (aI : Option Addr) (nI cI : Nat) (xI : List Int) (aP : Option Addr) (nP cP : Nat) (xP : List Int) (w : World) (rI : RdInt64 w aI nI xI) (hI : nI ≤ 1048576) (rP : RdInt64 w aP nP xP) (hP : nP ≤ 1048576) :
    Calls Try.prog 36 #[.agg #[.int .i64 S, .int .i64 L, .int .i64 H, .int .i64 C, .slice aI nI cI, .slice aP nP cP]] w fun e w' => e = .returned (.tuple #[.int .i64 (lqF S L H C xI xP).1, .int .i64 (lqF S L H C xI xP).2]) ∧ Below w.heap.size w w' := by
  have LI := hd rI.len
  have LP := hd rP.len
  obtain ⟨i0, hi, hz0, hz1, hz2⟩ := info_parts infoInt64
  go_enter Try.func36, Try.ntmps36
  go_wp2_with fail
  refine (l15Ok_calls _ S L H C aI nI cI xI aP nP cP xP _ (heap_alloc_new w _) (rI.alloc _) hI (rP.alloc _) hP).mono ?_
  rintro e w1 ⟨he, b1⟩
  have hq := box_q b1
  have d1 := bbox1 b1
  have z1 := b1.size
  simp only [World.size_alloc] at z1
  clear b1
  cases hv : vpB S L H C xI xP
  · rw [hv] at he
    subst he
    have F := hd (lq_bad hv)
    clear hv
    go_wp2_with fail
    go_ret2
    exact ⟨by rw [F.out]; rfl, d1⟩
  · rw [hv] at he
    subst he
    have V := hd (vp_iff.1 hv)
    have HV := hd hv
    clear hv
    go_wp2_with fail
    refine (l15Latest_calls _ S L H C aI nI cI xI aP nP cP xP _ hq (rI.below d1) hI (rP.below d1) hP V.out).mono ?_
    rintro e w2 ⟨A, m, c, he, ho, hm, b2⟩
    have d2 := bnext d1 b2 (Nat.le_refl _)
    cases hk : (ltF S L H C xI).isSome
    · have F := hd (lq_none HV.out (isS_none hk))
      rw [hk] at he
      subst he
      clear hk
      go_wp2_with fail
      go_ret2
      exact ⟨by rw [F.out]; rfl, d2⟩
    · obtain ⟨l, hl⟩ := isS_some hk
      have F := hd (lq_some HV.out hl)
      have HB := hd (lt_bd V.out hl)
      rw [hk] at he
      rw [hl] at ho
      subst he
      clear hk hl
      go_wp2_with fail
      refine (l02Sum_calls' _ _ _ l _ (ho.rd len_ci) hm HB.out.1).mono ?_
      rintro e w3 ⟨rfl, b3⟩
      have d3 := bnext d2 b3 (Nat.le_refl _)
      go_wp2_with fail
      go_ret2
      exact ⟨by rw [F.out]; rfl, d3⟩
set_option maxRecDepth 100000 in
set_option maxHeartbeats 2000000 in
theorem specLeastCapacity_calls (S L H C : Int) (aI : Option Addr) (nI cI : Nat) (xI : List Int) (aP : Option Addr) (nP cP : Nat) (xP : List Int) (w : World) (rI : RdInt64 w aI nI xI) (hI : nI ≤ 1048576) (rP : RdInt64 w aP nP xP) (hP : nP ≤ 1048576) :
    Calls Try.prog 34 #[.agg #[.int .i64 S, .int .i64 L, .int .i64 H, .int .i64 C, .slice aI nI cI, .slice aP nP cP]] w fun e w' => e = .returned (.tuple #[.int .i64 (lcF S L H C xI xP).1, .int .i64 (lcF S L H C xI xP).2]) ∧ Below w.heap.size w w' := by
  have LI := hd rI.len
  have LP := hd rP.len
  obtain ⟨i0, hi, hz0, hz1, hz2⟩ := info_parts infoInt64
  go_enter Try.func34, Try.ntmps34
  go_wp2_with fail
  refine (l15Ok_calls _ S L H C aI nI cI xI aP nP cP xP _ (heap_alloc_new w _) (rI.alloc _) hI (rP.alloc _) hP).mono ?_
  rintro e w1 ⟨he, b1⟩
  have hq := box_q b1
  have d1 := bbox1 b1
  have z1 := b1.size
  simp only [World.size_alloc] at z1
  clear b1
  cases hv : vpB S L H C xI xP
  · rw [hv] at he
    subst he
    have F := hd (lc_bad hv)
    clear hv
    go_wp2_with fail
    go_ret2
    exact ⟨by rw [F.out]; rfl, d1⟩
  · rw [hv] at he
    subst he
    have V := hd (vp_iff.1 hv)
    have HV := hd hv
    clear hv
    go_wp2_with fail
    go_loopw [4] (fun i wr => ∃ k : Nat, k ≤ 41 ∧ i = .int .i64 k ∧ findN (lcP S L H xI) 0 41 = findN (lcP S L H xI) k (41 - k) ∧ wr.heap[w.heap.size]? = some (pmC S L H C aI nI cI aP nP cP) ∧ Below w.heap.size w wr) (fun i _ => 41 - (intOf i).toNat)
    case atStart => exact ⟨0, by omega, rfl, rfl, hq, d1⟩
    case round =>
      clear hq d1
      obtain ⟨k, hk, rfl, hF, hg, hb⟩ := hrel
      have HF := hd hF
      have HG := hd hg
      have k0 := blk_cell hg 0
      have k1 := blk_cell hg 1
      have k2 := blk_cell hg 2
      have k3 := blk_cell hg 3
      have k4 := blk_cell hg 4
      have k5 := blk_cell hg 5
      clear hF hg
      obtain ⟨W1, hW⟩ : ∃ W, W = wr := ⟨_, rfl⟩
      subst hW
      by_cases hlt : k < 41
      · have hlt' : (k : Int) ≤ 40 := by omega
        have hgx := heap_alloc_new W1 (pmC S L H (k : Int) aI nI cI aP nP cP)
        have hbx := hb.alloc hb.size (pmC S L H (k : Int) aI nI cI aP nP cP)
        have hg2 := blk_alloc HG.out (pmC S L H (k : Int) aI nI cI aP nP cP)
        go_upto_region 8 with fail
        generalize W1.alloc (pmC S L H (k : Int) aI nI cI aP nP cP) = W2 at hgx hbx hg2 ⊢
        clear k0 k1 k2 k3 k4 k5
        go_wp2_with fail
        refine (l15Latest_calls _ S L H (k : Int) aI nI cI xI aP nP cP xP _ hgx (rI.below hbx) hI (rP.below hbx) hP (V.out.cap (by omega) hlt')).mono ?_
        rintro e w3 ⟨A, m, c, he, ho, hm, b3⟩
        have d3 := bnext hbx b3 (Nat.le_refl _)
        have hg3 := blk_below hg2 b3 (blk_lt hg2)
        cases hc : lcP S L H xI k
        · have hc2 := hc
          unfold lcP at hc2
          rw [hc2] at he
          subst he
          have Hn := hd (findN_miss (m := 41 - k) hc (by omega))
          clear hc hc2
          go_wp2_with fail
          go_roundw
          case rel => exact ⟨k + 1, by omega, by go_num, by rw [HF.out, Hn.out, Nat.sub_sub], hg3, d3⟩
          case measure => simp [intOf]; omega
        · have hc2 := hc
          unfold lcP at hc2
          rw [hc2] at he
          subst he
          have F := hd (lc_some HV.out (HF.out.trans (findN_hit (m := 41 - k) hc (by omega))))
          clear hc hc2
          go_wp2_with fail
          go_ret2
          exact ⟨by rw [F.out]; rfl, d3⟩
      · obtain rfl : k = 41 := by omega
        have F := hd (lc_none HV.out (by rw [HF.out]; rfl))
        go_wp2_with fail
        go_ret2
        exact ⟨by rw [F.out]; rfl, hb⟩
set_option maxRecDepth 100000 in
set_option maxHeartbeats 2000000 in
theorem LatestPlan_calls (S L H C : Int) (aI : Option Addr) (nI cI : Nat) (xI : List Int) (aP : Option Addr) (nP cP : Nat) (xP : List Int) (w : World) (rI : RdInt64 w aI nI xI) (hI : nI ≤ 1048576) (rP : RdInt64 w aP nP xP) (hP : nP ≤ 1048576) :
    Calls Try.prog 41 #[.agg #[.int .i64 S, .int .i64 L, .int .i64 H, .int .i64 C, .slice aI nI cI, .slice aP nP cP]] w fun e w' => ∃ A m c, e = .returned (.tuple #[.slice A m c, .int .i64 (laF S L H C xI xP).2]) ∧ Own 1 ci 2 w' w.heap.size w'.heap.size A m c (laF S L H C xI xP).1 ∧ m ≤ 1048576 ∧ Below w.heap.size w w' := by
  have LI := hd rI.len
  have LP := hd rP.len
  obtain ⟨i0, hi, hz0, hz1, hz2⟩ := info_parts infoInt64
  go_enter Try.func41, Try.ntmps41
  go_wp2_with fail
  refine (ValidPumping_calls S L H C aI nI cI xI aP nP cP xP _ (rI.alloc _) hI (rP.alloc _) hP).mono ?_
  rintro e w1 ⟨he, b1⟩
  have hq := box_q b1
  have d1 := bbox1 b1
  have z1 := b1.size
  simp only [World.size_alloc] at z1
  clear b1
  cases hv : vpB S L H C xI xP
  · rw [hv] at he
    subst he
    have F := hd (la_bad hv)
    clear hv
    go_wp2_with fail
    go_ret2
    exact ⟨_, 0, 0, ret_sli (by rw [F.out]), by rw [F.out]; exact Own.empty w1 _ rfl d1.size (by simp), by omega, d1.alloc d1.size _⟩
  · rw [hv] at he
    subst he
    have VV := hd (vp_iff.1 hv)
    have F := hd (la_pw hv)
    have RI := hd (rI.below d1)
    have RP := hd (rP.below d1)
    rw [LI.out] at F
    clear hv
    go_upto_region 3 with fail
    have lA := blk_lt hq
    have k0 : w1.cell? ⟨w.heap.size, 0, none⟩ = some (.int .i64 S) := blk_cell hq 0
    have k1 : w1.cell? ⟨w.heap.size, 1, none⟩ = some (.int .i64 L) := blk_cell hq 1
    have k2 : w1.cell? ⟨w.heap.size, 2, none⟩ = some (.int .i64 H) := blk_cell hq 2
    have k3 : w1.cell? ⟨w.heap.size, 3, none⟩ = some (.int .i64 C) := blk_cell hq 3
    have k4 : w1.cell? ⟨w.heap.size, 4, none⟩ = some (.slice aI nI cI) := blk_cell hq 4
    have k5 : w1.cell? ⟨w.heap.size, 5, none⟩ = some (.slice aP nP cP) := blk_cell hq 5
    have n0 := World.new_ne w1 _ k0
    have n1 := World.new_ne w1 _ k1
    have n2 := World.new_ne w1 _ k2
    have n3 := World.new_ne w1 _ k3
    have n4 := World.new_ne w1 _ k4
    have n5 := World.new_ne w1 _ k5
    go_region_held3 (fun w' => w'.cell? ⟨w.heap.size, 0, none⟩ = some (.int .i64 S) ∧ w'.cell? ⟨w.heap.size, 1, none⟩ = some (.int .i64 L) ∧ w'.cell? ⟨w.heap.size, 2, none⟩ = some (.int .i64 H) ∧ w'.cell? ⟨w.heap.size, 3, none⟩ = some (.int .i64 C) ∧ w'.cell? ⟨w.heap.size, 4, none⟩ = some (.slice aI nI cI) ∧ w'.cell? ⟨w.heap.size, 5, none⟩ = some (.slice aP nP cP))
      (first | with_reducible exact ⟨x2_0, x2_1, x2_2, x2_3, x2_4, x2_5⟩ | with_reducible exact ⟨x1_0, x1_1, x1_2, x1_3, x1_4, x1_5⟩ | go_keep)
      (first
        | (go_at_call 58; refine (prices_calls S L H C aI nI cI xI aP nP cP xP (0 : Int) _ (RI.out.below (by go_grown)) hI (RP.out.below (by go_grown)) hP).mono ?_; rintro e v1 ⟨A0, c0, rfl, ho0, b1⟩; have q1 : Below w1.heap.size w1 v1 := Below.trans (by go_grown) (b1.mono (by simp)); have x1_0 := (q1.cell (p := ⟨w.heap.size, 0, none⟩) lA).trans k0; have x1_1 := (q1.cell (p := ⟨w.heap.size, 1, none⟩) lA).trans k1; have x1_2 := (q1.cell (p := ⟨w.heap.size, 2, none⟩) lA).trans k2; have x1_3 := (q1.cell (p := ⟨w.heap.size, 3, none⟩) lA).trans k3; have x1_4 := (q1.cell (p := ⟨w.heap.size, 4, none⟩) lA).trans k4; have x1_5 := (q1.cell (p := ⟨w.heap.size, 5, none⟩) lA).trans k5)
        | (go_at_call 64; refine (planWith_calls S L H C aI nI cI xI aP nP cP xP A0 c0 (List.replicate nI 0) _ (RI.out.below (Below.trans q1 (Below.mono (by go_grown) q1.size))) hI (RP.out.below (Below.trans q1 (Below.mono (by go_grown) q1.size))) hP ((ho0.rd len_ci).below (by go_grown)) VV.out (rep_pr _ (by omega) (by omega))).mono ?_; rintro e v2 ⟨A, m, c, he, ho, hm, b2⟩; have q2 : Below w1.heap.size w1 v2 := Below.trans q1 (Below.trans (Below.mono (B := v1.heap.size) (by go_grown) q1.size) (b2.mono (by have := q1.size; simp; try omega))); have x2_0 := (q2.cell (p := ⟨w.heap.size, 0, none⟩) lA).trans k0; have x2_1 := (q2.cell (p := ⟨w.heap.size, 1, none⟩) lA).trans k1; have x2_2 := (q2.cell (p := ⟨w.heap.size, 2, none⟩) lA).trans k2; have x2_3 := (q2.cell (p := ⟨w.heap.size, 3, none⟩) lA).trans k3; have x2_4 := (q2.cell (p := ⟨w.heap.size, 4, none⟩) lA).trans k4; have x2_5 := (q2.cell (p := ⟨w.heap.size, 5, none⟩) lA).trans k5; subst he))
    all_goals
      go_wp2_with fail
      go_ret2
      exact ⟨A, m, c, ret_sli (by rw [F.out]), by rw [F.out]; exact ho.mono (by have := q1.size; have := d1.size; simp <;> omega) (Nat.le_refl _), hm, bnext d1 q2 (Nat.le_refl _)⟩
set_option maxRecDepth 100000 in
set_option maxHeartbeats 2000000 in
theorem LeastPumped_calls (S L H C : Int) (aI : Option Addr) (nI cI : Nat) (xI : List Int) (aP : Option Addr) (nP cP : Nat) (xP : List Int) (w : World) (rI : RdInt64 w aI nI xI) (hI : nI ≤ 1048576) (rP : RdInt64 w aP nP xP) (hP : nP ≤ 1048576) :
    Calls Try.prog 37 #[.agg #[.int .i64 S, .int .i64 L, .int .i64 H, .int .i64 C, .slice aI nI cI, .slice aP nP cP]] w fun e w' => e = .returned (.tuple #[.int .i64 (lqF S L H C xI xP).1, .int .i64 (lqF S L H C xI xP).2]) ∧ Below w.heap.size w w' := by
  have LI := hd rI.len
  have LP := hd rP.len
  obtain ⟨i0, hi, hz0, hz1, hz2⟩ := info_parts infoInt64
  go_enter Try.func37, Try.ntmps37
  go_wp2_with fail
  refine (ValidPumping_calls S L H C aI nI cI xI aP nP cP xP _ (rI.alloc _) hI (rP.alloc _) hP).mono ?_
  rintro e w1 ⟨he, b1⟩
  have hq := box_q b1
  have d1 := bbox1 b1
  have z1 := b1.size
  simp only [World.size_alloc] at z1
  clear b1
  cases hv : vpB S L H C xI xP
  · rw [hv] at he
    subst he
    have F := hd (lq_bad hv)
    clear hv
    go_wp2_with fail
    go_ret2
    exact ⟨by rw [F.out]; rfl, d1⟩
  · rw [hv] at he
    subst he
    have VV := hd (vp_iff.1 hv)
    have RI := hd (rI.below d1)
    have RP := hd (rP.below d1)
    have HFE := hd (fea_tbl VV.out (ps := List.replicate xI.length 1) (by simp) (rep_pr _ (by omega) (by omega)))
    rw [LI.out] at HFE
    cases hk : (ltF S L H C xI).isSome
    · have F := hd (lq_none hv (isS_none hk))
      have FL := hd (lp_no (S := S) (L := L) (H := H) (C := C) (xI := xI) (ys := List.replicate nI 1) (by rw [HFE.out, hk]; simp))
      clear hv hk
      go_upto_region 3 with fail
      have lA := blk_lt hq
      have k0 : w1.cell? ⟨w.heap.size, 0, none⟩ = some (.int .i64 S) := blk_cell hq 0
      have k1 : w1.cell? ⟨w.heap.size, 1, none⟩ = some (.int .i64 L) := blk_cell hq 1
      have k2 : w1.cell? ⟨w.heap.size, 2, none⟩ = some (.int .i64 H) := blk_cell hq 2
      have k3 : w1.cell? ⟨w.heap.size, 3, none⟩ = some (.int .i64 C) := blk_cell hq 3
      have k4 : w1.cell? ⟨w.heap.size, 4, none⟩ = some (.slice aI nI cI) := blk_cell hq 4
      have k5 : w1.cell? ⟨w.heap.size, 5, none⟩ = some (.slice aP nP cP) := blk_cell hq 5
      have n0 := World.new_ne w1 _ k0
      have n1 := World.new_ne w1 _ k1
      have n2 := World.new_ne w1 _ k2
      have n3 := World.new_ne w1 _ k3
      have n4 := World.new_ne w1 _ k4
      have n5 := World.new_ne w1 _ k5
      go_region_held3 (fun w' => w'.cell? ⟨w.heap.size, 0, none⟩ = some (.int .i64 S) ∧ w'.cell? ⟨w.heap.size, 1, none⟩ = some (.int .i64 L) ∧ w'.cell? ⟨w.heap.size, 2, none⟩ = some (.int .i64 H) ∧ w'.cell? ⟨w.heap.size, 3, none⟩ = some (.int .i64 C) ∧ w'.cell? ⟨w.heap.size, 4, none⟩ = some (.slice aI nI cI) ∧ w'.cell? ⟨w.heap.size, 5, none⟩ = some (.slice aP nP cP))
        (first | with_reducible exact ⟨x2_0, x2_1, x2_2, x2_3, x2_4, x2_5⟩ | with_reducible exact ⟨x1_0, x1_1, x1_2, x1_3, x1_4, x1_5⟩ | go_keep)
        (first
          | (go_at_call 58; refine (prices_calls S L H C aI nI cI xI aP nP cP xP (1 : Int) _ (RI.out.below (by go_grown)) hI (RP.out.below (by go_grown)) hP).mono ?_; rintro e v1 ⟨A0, c0, rfl, ho0, b1⟩; have q1 : Below w1.heap.size w1 v1 := Below.trans (by go_grown) (b1.mono (by simp)); have x1_0 := (q1.cell (p := ⟨w.heap.size, 0, none⟩) lA).trans k0; have x1_1 := (q1.cell (p := ⟨w.heap.size, 1, none⟩) lA).trans k1; have x1_2 := (q1.cell (p := ⟨w.heap.size, 2, none⟩) lA).trans k2; have x1_3 := (q1.cell (p := ⟨w.heap.size, 3, none⟩) lA).trans k3; have x1_4 := (q1.cell (p := ⟨w.heap.size, 4, none⟩) lA).trans k4; have x1_5 := (q1.cell (p := ⟨w.heap.size, 5, none⟩) lA).trans k5)
          | (go_at_call 60; refine (leastPlan_calls S L H C aI nI cI xI aP nP cP xP A0 c0 (List.replicate nI 1) _ (RI.out.below (Below.trans q1 (Below.mono (by go_grown) q1.size))) hI (RP.out.below (Below.trans q1 (Below.mono (by go_grown) q1.size))) hP ((ho0.rd len_ci).below (by go_grown)) VV.out (rep_pr _ (by omega) (by omega))).mono ?_; rintro e v2 ⟨A, m, c, he, ho, hm, b2⟩; have q2 : Below w1.heap.size w1 v2 := Below.trans q1 (Below.trans (Below.mono (B := v1.heap.size) (by go_grown) q1.size) (b2.mono (by have := q1.size; simp; try omega))); have x2_0 := (q2.cell (p := ⟨w.heap.size, 0, none⟩) lA).trans k0; have x2_1 := (q2.cell (p := ⟨w.heap.size, 1, none⟩) lA).trans k1; have x2_2 := (q2.cell (p := ⟨w.heap.size, 2, none⟩) lA).trans k2; have x2_3 := (q2.cell (p := ⟨w.heap.size, 3, none⟩) lA).trans k3; have x2_4 := (q2.cell (p := ⟨w.heap.size, 4, none⟩) lA).trans k4; have x2_5 := (q2.cell (p := ⟨w.heap.size, 5, none⟩) lA).trans k5; rw [FL.out] at he; subst he))
      all_goals
        go_wp2_with fail
        go_ret2
        exact ⟨by rw [F.out]; rfl, bnext d1 q2 (Nat.le_refl _)⟩
    · obtain ⟨l, hl⟩ := isS_some hk
      have F := hd (lq_some hv hl)
      have HS := hd (lt_ones VV.out hl)
      rw [LI.out] at HS
      have FL := hd (lp_ok (S := S) (L := L) (H := H) (C := C) (xI := xI) (ys := List.replicate nI 1) (by rw [HFE.out, hk]))
      rw [HS.out] at FL
      clear hv hk hl
      go_upto_region 3 with fail
      have lA := blk_lt hq
      have k0 : w1.cell? ⟨w.heap.size, 0, none⟩ = some (.int .i64 S) := blk_cell hq 0
      have k1 : w1.cell? ⟨w.heap.size, 1, none⟩ = some (.int .i64 L) := blk_cell hq 1
      have k2 : w1.cell? ⟨w.heap.size, 2, none⟩ = some (.int .i64 H) := blk_cell hq 2
      have k3 : w1.cell? ⟨w.heap.size, 3, none⟩ = some (.int .i64 C) := blk_cell hq 3
      have k4 : w1.cell? ⟨w.heap.size, 4, none⟩ = some (.slice aI nI cI) := blk_cell hq 4
      have k5 : w1.cell? ⟨w.heap.size, 5, none⟩ = some (.slice aP nP cP) := blk_cell hq 5
      have n0 := World.new_ne w1 _ k0
      have n1 := World.new_ne w1 _ k1
      have n2 := World.new_ne w1 _ k2
      have n3 := World.new_ne w1 _ k3
      have n4 := World.new_ne w1 _ k4
      have n5 := World.new_ne w1 _ k5
      go_region_held3 (fun w' => w'.cell? ⟨w.heap.size, 0, none⟩ = some (.int .i64 S) ∧ w'.cell? ⟨w.heap.size, 1, none⟩ = some (.int .i64 L) ∧ w'.cell? ⟨w.heap.size, 2, none⟩ = some (.int .i64 H) ∧ w'.cell? ⟨w.heap.size, 3, none⟩ = some (.int .i64 C) ∧ w'.cell? ⟨w.heap.size, 4, none⟩ = some (.slice aI nI cI) ∧ w'.cell? ⟨w.heap.size, 5, none⟩ = some (.slice aP nP cP))
        (first | with_reducible exact ⟨x2_0, x2_1, x2_2, x2_3, x2_4, x2_5⟩ | with_reducible exact ⟨x1_0, x1_1, x1_2, x1_3, x1_4, x1_5⟩ | go_keep)
        (first
          | (go_at_call 58; refine (prices_calls S L H C aI nI cI xI aP nP cP xP (1 : Int) _ (RI.out.below (by go_grown)) hI (RP.out.below (by go_grown)) hP).mono ?_; rintro e v1 ⟨A0, c0, rfl, ho0, b1⟩; have q1 : Below w1.heap.size w1 v1 := Below.trans (by go_grown) (b1.mono (by simp)); have x1_0 := (q1.cell (p := ⟨w.heap.size, 0, none⟩) lA).trans k0; have x1_1 := (q1.cell (p := ⟨w.heap.size, 1, none⟩) lA).trans k1; have x1_2 := (q1.cell (p := ⟨w.heap.size, 2, none⟩) lA).trans k2; have x1_3 := (q1.cell (p := ⟨w.heap.size, 3, none⟩) lA).trans k3; have x1_4 := (q1.cell (p := ⟨w.heap.size, 4, none⟩) lA).trans k4; have x1_5 := (q1.cell (p := ⟨w.heap.size, 5, none⟩) lA).trans k5)
          | (go_at_call 60; refine (leastPlan_calls S L H C aI nI cI xI aP nP cP xP A0 c0 (List.replicate nI 1) _ (RI.out.below (Below.trans q1 (Below.mono (by go_grown) q1.size))) hI (RP.out.below (Below.trans q1 (Below.mono (by go_grown) q1.size))) hP ((ho0.rd len_ci).below (by go_grown)) VV.out (rep_pr _ (by omega) (by omega))).mono ?_; rintro e v2 ⟨A, m, c, he, ho, hm, b2⟩; have q2 : Below w1.heap.size w1 v2 := Below.trans q1 (Below.trans (Below.mono (B := v1.heap.size) (by go_grown) q1.size) (b2.mono (by have := q1.size; simp; try omega))); have x2_0 := (q2.cell (p := ⟨w.heap.size, 0, none⟩) lA).trans k0; have x2_1 := (q2.cell (p := ⟨w.heap.size, 1, none⟩) lA).trans k1; have x2_2 := (q2.cell (p := ⟨w.heap.size, 2, none⟩) lA).trans k2; have x2_3 := (q2.cell (p := ⟨w.heap.size, 3, none⟩) lA).trans k3; have x2_4 := (q2.cell (p := ⟨w.heap.size, 4, none⟩) lA).trans k4; have x2_5 := (q2.cell (p := ⟨w.heap.size, 5, none⟩) lA).trans k5; rw [FL.out] at he; subst he))
      all_goals
        go_wp2_with fail
        go_ret2
        exact ⟨by rw [F.out]; rfl, bnext d1 q2 (Nat.le_refl _)⟩
def capOf : Option Value → Nat
  | some (.int _ z) => z.toNat
  | _ => 0
set_option maxRecDepth 100000 in
set_option maxHeartbeats 2000000 in
theorem LeastCapacity_calls (S L H C : Int) (aI : Option Addr) (nI cI : Nat) (xI : List Int) (aP : Option Addr) (nP cP : Nat) (xP : List Int) (w : World) (rI : RdInt64 w aI nI xI) (hI : nI ≤ 1048576) (rP : RdInt64 w aP nP xP) (hP : nP ≤ 1048576) :
    Calls Try.prog 35 #[.agg #[.int .i64 S, .int .i64 L, .int .i64 H, .int .i64 C, .slice aI nI cI, .slice aP nP cP]] w fun e w' => e = .returned (.tuple #[.int .i64 (lcF S L H C xI xP).1, .int .i64 (lcF S L H C xI xP).2]) ∧ Below w.heap.size w w' := by
  have LI := hd rI.len
  have LP := hd rP.len
  obtain ⟨i0, hi, hz0, hz1, hz2⟩ := info_parts infoInt64
  go_enter Try.func35, Try.ntmps35
  go_wp2_with fail
  refine (ValidPumping_calls S L H C aI nI cI xI aP nP cP xP _ (rI.alloc _) hI (rP.alloc _) hP).mono ?_
  rintro e w1 ⟨he, b1⟩
  have hq := box_q b1
  have d1 := bbox1 b1
  have z1 := b1.size
  simp only [World.size_alloc] at z1
  clear b1
  cases hv : vpB S L H C xI xP
  · rw [hv] at he
    subst he
    have F := hd (lc_bad hv)
    clear hv
    go_wp2_with fail
    go_ret2
    exact ⟨by rw [F.out]; rfl, d1⟩
  · rw [hv] at he
    subst he
    have V := hd (vp_iff.1 hv)
    have HV := hd hv
    clear hv
    have k3 := blk_cell hq 3
    have z3 := blk_free hq 3
    have hg0 : (w1.setCell ⟨w.heap.size, 3, none⟩ (.int .i64 0)).heap[w.heap.size]? = some (pmC S L H ((0 : Nat) : Int) aI nI cI aP nP cP) := blk_set hq 3 _
    have d0 := d1.setCell (show w.heap.size ≤ (⟨w.heap.size, 3, none⟩ : Addr).block from Nat.le_refl _) (.int .i64 0)
    have HG0 := hd hg0
    clear hg0
    go_wp2_with fail
    clear k3 z3
    go_loopw [5] (fun t wr => ∃ k : Nat, k ≤ 41 ∧ findN (lcP S L H xI) 0 41 = findN (lcP S L H xI) k (41 - k) ∧ wr.heap[w.heap.size]? = some (pmC S L H (k : Int) aI nI cI aP nP cP) ∧ Below w.heap.size w wr) (fun _ wr => 41 - capOf (wr.cell? ⟨w.heap.size, 3, none⟩))
    case atStart => exact ⟨0, by omega, rfl, HG0.out, d0⟩
    case round =>
      clear HG0 d0 hq d1
      obtain ⟨k, hk, hF, hg, hb⟩ := hrel
      have HF := hd hF
      have HG := hd hg
      have kc3 := blk_cell hg 3
      obtain ⟨W1, hW⟩ : ∃ W, W = wr := ⟨_, rfl⟩
      subst hW
      have RI := hd (rI.below hb)
      have RP := hd (rP.below hb)
      by_cases hlt : k < 41
      · have hlt' : (k : Int) ≤ 40 := by omega
        have VV := hd (V.out.cap (n := (k : Int)) (by omega) hlt')
        have HFE := hd (fea_tbl VV.out (ps := List.replicate xI.length 0) (by simp) (rep_pr _ (by omega) (by omega)))
        rw [LI.out] at HFE
        cases hc : lcP S L H xI k
        · have hc2 := hc
          unfold lcP at hc2
          have FL := hd (lp_no (S := S) (L := L) (H := H) (C := (k : Int)) (xI := xI) (ys := List.replicate nI 0) (by rw [HFE.out, hc2]; simp))
          have Hn := hd (findN_miss (m := 41 - k) hc (by omega))
          clear hc hc2 hF
          go_upto_region 6 with fail
          clear kc3
          have lA := blk_lt hg
          have k0 : W1.cell? ⟨w.heap.size, 0, none⟩ = some (.int .i64 S) := blk_cell hg 0
          have k1 : W1.cell? ⟨w.heap.size, 1, none⟩ = some (.int .i64 L) := blk_cell hg 1
          have k2 : W1.cell? ⟨w.heap.size, 2, none⟩ = some (.int .i64 H) := blk_cell hg 2
          have k3 : W1.cell? ⟨w.heap.size, 3, none⟩ = some (.int .i64 (k : Int)) := blk_cell hg 3
          have k4 : W1.cell? ⟨w.heap.size, 4, none⟩ = some (.slice aI nI cI) := blk_cell hg 4
          have k5 : W1.cell? ⟨w.heap.size, 5, none⟩ = some (.slice aP nP cP) := blk_cell hg 5
          have n0 := World.new_ne W1 _ k0
          have n1 := World.new_ne W1 _ k1
          have n2 := World.new_ne W1 _ k2
          have n3 := World.new_ne W1 _ k3
          have n4 := World.new_ne W1 _ k4
          have n5 := World.new_ne W1 _ k5
          go_region_held3 (fun w' => w'.cell? ⟨w.heap.size, 0, none⟩ = some (.int .i64 S) ∧ w'.cell? ⟨w.heap.size, 1, none⟩ = some (.int .i64 L) ∧ w'.cell? ⟨w.heap.size, 2, none⟩ = some (.int .i64 H) ∧ w'.cell? ⟨w.heap.size, 3, none⟩ = some (.int .i64 (k : Int)) ∧ w'.cell? ⟨w.heap.size, 4, none⟩ = some (.slice aI nI cI) ∧ w'.cell? ⟨w.heap.size, 5, none⟩ = some (.slice aP nP cP))
            (first | with_reducible exact ⟨x2_0, x2_1, x2_2, x2_3, x2_4, x2_5⟩ | with_reducible exact ⟨x1_0, x1_1, x1_2, x1_3, x1_4, x1_5⟩ | go_keep)
            (first
              | (go_at_call 58; refine (prices_calls S L H (k : Int) aI nI cI xI aP nP cP xP (0 : Int) _ (RI.out.below (by go_grown)) hI (RP.out.below (by go_grown)) hP).mono ?_; rintro e v1 ⟨A0, c0, rfl, ho0, b1⟩; have q1 : Below W1.heap.size W1 v1 := Below.trans (by go_grown) (b1.mono (by simp)); have x1_0 := (q1.cell (p := ⟨w.heap.size, 0, none⟩) lA).trans k0; have x1_1 := (q1.cell (p := ⟨w.heap.size, 1, none⟩) lA).trans k1; have x1_2 := (q1.cell (p := ⟨w.heap.size, 2, none⟩) lA).trans k2; have x1_3 := (q1.cell (p := ⟨w.heap.size, 3, none⟩) lA).trans k3; have x1_4 := (q1.cell (p := ⟨w.heap.size, 4, none⟩) lA).trans k4; have x1_5 := (q1.cell (p := ⟨w.heap.size, 5, none⟩) lA).trans k5)
              | (go_at_call 60; refine (leastPlan_calls S L H (k : Int) aI nI cI xI aP nP cP xP A0 c0 (List.replicate nI 0) _ (RI.out.below (Below.trans q1 (Below.mono (by go_grown) q1.size))) hI (RP.out.below (Below.trans q1 (Below.mono (by go_grown) q1.size))) hP ((ho0.rd len_ci).below (by go_grown)) VV.out (rep_pr _ (by omega) (by omega))).mono ?_; rintro e v2 ⟨A, m, c, he, ho, hm, b2⟩; have q2 : Below W1.heap.size W1 v2 := Below.trans q1 (Below.trans (Below.mono (B := v1.heap.size) (by go_grown) q1.size) (b2.mono (by have := q1.size; simp; try omega))); have x2_0 := (q2.cell (p := ⟨w.heap.size, 0, none⟩) lA).trans k0; have x2_1 := (q2.cell (p := ⟨w.heap.size, 1, none⟩) lA).trans k1; have x2_2 := (q2.cell (p := ⟨w.heap.size, 2, none⟩) lA).trans k2; have x2_3 := (q2.cell (p := ⟨w.heap.size, 3, none⟩) lA).trans k3; have x2_4 := (q2.cell (p := ⟨w.heap.size, 4, none⟩) lA).trans k4; have x2_5 := (q2.cell (p := ⟨w.heap.size, 5, none⟩) lA).trans k5; rw [FL.out] at he; subst he; have hg2 := (q2.block _ lA).trans HG.out; have z3 := blk_free hg2 3))
          all_goals
            have hg4 : (v2.setCell ⟨w.heap.size, 3, none⟩ (.int .i64 ((k : Int) + 1))).heap[w.heap.size]? = some (pmC S L H (((k + 1 : Nat) : Int)) aI nI cI aP nP cP) := by
              rw [show ((k + 1 : Nat) : Int) = (k : Int) + 1 by omega]
              exact blk_set hg2 3 _
            have hb4 := (bnext hb q2 (Nat.le_refl _)).setCell (show w.heap.size ≤ (⟨w.heap.size, 3, none⟩ : Addr).block from Nat.le_refl _) (.int .i64 ((k : Int) + 1))
            have kw : capOf (W1.cell? ⟨w.heap.size, 3, none⟩) = k := by rw [k3]; simp [capOf]
            have kx : capOf ((v2.setCell ⟨w.heap.size, 3, none⟩ (.int .i64 ((k : Int) + 1))).cell? ⟨w.heap.size, 3, none⟩) = k + 1 := by
              rw [blk_cell hg4 3]
              simp [capOf] <;> omega
            have KW := hd kw
            have KX := hd kx
            have HG4 := hd hg4
            clear kw kx hg4 k0 k1 k2 k3 k4 k5 hg
            go_wp2_with fail
            go_roundw
            case rel => exact ⟨k + 1, by omega, by rw [HF.out, Hn.out, Nat.sub_sub], HG4.out, hb4⟩
            case measure => rw [KW.out, KX.out]; omega
        · have hc2 := hc
          unfold lcP at hc2
          have FL := hd (lp_ok (S := S) (L := L) (H := H) (C := (k : Int)) (xI := xI) (ys := List.replicate nI 0) (by rw [HFE.out, hc2]))
          have F := hd (lc_some HV.out (HF.out.trans (findN_hit (m := 41 - k) hc (by omega))))
          clear hc hc2 hF
          go_upto_region 6 with fail
          clear kc3
          have lA := blk_lt hg
          have k0 : W1.cell? ⟨w.heap.size, 0, none⟩ = some (.int .i64 S) := blk_cell hg 0
          have k1 : W1.cell? ⟨w.heap.size, 1, none⟩ = some (.int .i64 L) := blk_cell hg 1
          have k2 : W1.cell? ⟨w.heap.size, 2, none⟩ = some (.int .i64 H) := blk_cell hg 2
          have k3 : W1.cell? ⟨w.heap.size, 3, none⟩ = some (.int .i64 (k : Int)) := blk_cell hg 3
          have k4 : W1.cell? ⟨w.heap.size, 4, none⟩ = some (.slice aI nI cI) := blk_cell hg 4
          have k5 : W1.cell? ⟨w.heap.size, 5, none⟩ = some (.slice aP nP cP) := blk_cell hg 5
          have n0 := World.new_ne W1 _ k0
          have n1 := World.new_ne W1 _ k1
          have n2 := World.new_ne W1 _ k2
          have n3 := World.new_ne W1 _ k3
          have n4 := World.new_ne W1 _ k4
          have n5 := World.new_ne W1 _ k5
          go_region_held3 (fun w' => w'.cell? ⟨w.heap.size, 0, none⟩ = some (.int .i64 S) ∧ w'.cell? ⟨w.heap.size, 1, none⟩ = some (.int .i64 L) ∧ w'.cell? ⟨w.heap.size, 2, none⟩ = some (.int .i64 H) ∧ w'.cell? ⟨w.heap.size, 3, none⟩ = some (.int .i64 (k : Int)) ∧ w'.cell? ⟨w.heap.size, 4, none⟩ = some (.slice aI nI cI) ∧ w'.cell? ⟨w.heap.size, 5, none⟩ = some (.slice aP nP cP))
            (first | with_reducible exact ⟨x2_0, x2_1, x2_2, x2_3, x2_4, x2_5⟩ | with_reducible exact ⟨x1_0, x1_1, x1_2, x1_3, x1_4, x1_5⟩ | go_keep)
            (first
              | (go_at_call 58; refine (prices_calls S L H (k : Int) aI nI cI xI aP nP cP xP (0 : Int) _ (RI.out.below (by go_grown)) hI (RP.out.below (by go_grown)) hP).mono ?_; rintro e v1 ⟨A0, c0, rfl, ho0, b1⟩; have q1 : Below W1.heap.size W1 v1 := Below.trans (by go_grown) (b1.mono (by simp)); have x1_0 := (q1.cell (p := ⟨w.heap.size, 0, none⟩) lA).trans k0; have x1_1 := (q1.cell (p := ⟨w.heap.size, 1, none⟩) lA).trans k1; have x1_2 := (q1.cell (p := ⟨w.heap.size, 2, none⟩) lA).trans k2; have x1_3 := (q1.cell (p := ⟨w.heap.size, 3, none⟩) lA).trans k3; have x1_4 := (q1.cell (p := ⟨w.heap.size, 4, none⟩) lA).trans k4; have x1_5 := (q1.cell (p := ⟨w.heap.size, 5, none⟩) lA).trans k5)
              | (go_at_call 60; refine (leastPlan_calls S L H (k : Int) aI nI cI xI aP nP cP xP A0 c0 (List.replicate nI 0) _ (RI.out.below (Below.trans q1 (Below.mono (by go_grown) q1.size))) hI (RP.out.below (Below.trans q1 (Below.mono (by go_grown) q1.size))) hP ((ho0.rd len_ci).below (by go_grown)) VV.out (rep_pr _ (by omega) (by omega))).mono ?_; rintro e v2 ⟨A, m, c, he, ho, hm, b2⟩; have q2 : Below W1.heap.size W1 v2 := Below.trans q1 (Below.trans (Below.mono (B := v1.heap.size) (by go_grown) q1.size) (b2.mono (by have := q1.size; simp; try omega))); have x2_0 := (q2.cell (p := ⟨w.heap.size, 0, none⟩) lA).trans k0; have x2_1 := (q2.cell (p := ⟨w.heap.size, 1, none⟩) lA).trans k1; have x2_2 := (q2.cell (p := ⟨w.heap.size, 2, none⟩) lA).trans k2; have x2_3 := (q2.cell (p := ⟨w.heap.size, 3, none⟩) lA).trans k3; have x2_4 := (q2.cell (p := ⟨w.heap.size, 4, none⟩) lA).trans k4; have x2_5 := (q2.cell (p := ⟨w.heap.size, 5, none⟩) lA).trans k5; rw [FL.out] at he; subst he))
          all_goals
            go_wp2_with fail
            go_ret2
            exact ⟨by rw [F.out]; rfl, bnext hb q2 (Nat.le_refl _)⟩
      · obtain rfl : k = 41 := by omega
        have F := hd (lc_none HV.out (by rw [HF.out]; rfl))
        clear hF
        go_wp2_with fail
        go_ret2
        exact ⟨by rw [F.out]; rfl, hb⟩
end Go.Proofs.Ythabjlhfidcnoaa
