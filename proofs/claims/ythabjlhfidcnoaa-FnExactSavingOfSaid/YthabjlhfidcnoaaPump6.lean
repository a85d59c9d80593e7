/- Plans: the plan with the same number in all hours. -/
import Derived.Test.YthabjlhfidcnoaaPump4
namespace Go.Proofs.Ythabjlhfidcnoaa
open Go.RowKit
set_option linter.unusedVariables false

def findN (p : Nat → Bool) (k : Nat) : Nat → Option Nat
  | 0 => none
  | m + 1 => if p k then some k else findN p (k + 1) m
theorem findN_hit {p : Nat → Bool} {k m : Nat} (h : p k = true) (hm : 0 < m) : findN p k m = some k := by
  obtain ⟨m, rfl⟩ : ∃ j, m = j + 1 := ⟨m - 1, by omega⟩
  simp [findN, h]
theorem findN_miss {p : Nat → Bool} {k m : Nat} (h : p k = false) (hm : 0 < m) : findN p k m = findN p (k + 1) (m - 1) := by
  obtain ⟨m, rfl⟩ : ∃ j, m = j + 1 := ⟨m - 1, by omega⟩
  simp [findN, h]
def cpP (S L H : Int) (xI : List Int) (k : Nat) : Bool := keepB S L H xI (List.replicate xI.length (k : Int)) xI.length
def cpF (S L H C : Int) (xI xP : List Int) : List Int × Int :=
  if vpB S L H C xI xP then (match findN (cpP S L H xI) 0 (C.toNat + 1) with | some k => (List.replicate xI.length (k : Int), 0) | none => ([], 3)) else ([], 1)
theorem cp_hit {S L H C : Int} {xI xP : List Int} {k : Nat} (hv : vpB S L H C xI xP = true) (h : findN (cpP S L H xI) 0 (C.toNat + 1) = some k) : cpF S L H C xI xP = (List.replicate xI.length (k : Int), 0) := by
  unfold cpF
  rw [hv, if_pos rfl, h]
theorem cp_none {S L H C : Int} {xI xP : List Int} (hv : vpB S L H C xI xP = true) (h : findN (cpP S L H xI) 0 (C.toNat + 1) = none) : cpF S L H C xI xP = ([], 3) := by
  unfold cpF
  rw [hv, if_pos rfl, h]
theorem cp_bad {S L H C : Int} {xI xP : List Int} (hv : vpB S L H C xI xP = false) : cpF S L H C xI xP = ([], 1) := by
  unfold cpF
  rw [hv]
  rfl
theorem rep_in {n : Nat} {k : Nat} {C : Int} (h : (k : Int) ≤ C) : (List.replicate n (k : Int)).all (inC C) = true := by
  rw [List.all_eq_true]
  intro x hx
  rw [List.eq_of_mem_replicate hx]
  exact inB_iff.2 (by omega)

set_option maxHeartbeats 2000000 in
theorem ConstantPlan_calls (S L H C : Int) (aI : Option Addr) (nI cI : Nat) (xI : List Int) (aP : Option Addr) (nP cP : Nat) (xP : List Int) (w : World) (rI : RdInt64 w aI nI xI) (hI : nI ≤ 1048576) (rP : RdInt64 w aP nP xP) (hP : nP ≤ 1048576) :
    Calls Try.prog 33 #[.agg #[.int .i64 S, .int .i64 L, .int .i64 H, .int .i64 C, .slice aI nI cI, .slice aP nP cP]] w fun e w' => ∃ A m c, e = .returned (.tuple #[.slice A m c, .int .i64 (cpF S L H C xI xP).2]) ∧ Own 1 ci 2 w' w.heap.size w'.heap.size A m c (cpF S L H C xI xP).1 ∧ m ≤ 1048576 ∧ Below w.heap.size w w' := by
  have LI := hd rI.len
  obtain ⟨i0, hi, hz0, hz1, hz2⟩ := info_parts infoInt64
  go_enter Try.func33, Try.ntmps33
  go_wp2_with fail
  refine (ValidPumping_calls S L H C aI nI cI xI aP nP cP xP _ (rI.alloc _) hI (rP.alloc _) hP).mono ?_
  rintro e w1 ⟨he, b1⟩
  have hq := box_q b1
  have d1 := bbox1 b1
  have z1 := b1.size
  clear b1
  cases hv : vpB S L H C xI xP
  · rw [hv] at he
    subst he
    have F := hd (cp_bad hv)
    clear hv
    go_wp2_with fail
    go_ret2
    exact ⟨_, 0, 0, ret_sli (by rw [F.out]), by rw [F.out]; exact Own.empty w1 _ rfl (d1).size (by simp), by omega, (d1).alloc (d1).size _⟩
  · rw [hv] at he
    subst he
    have HV := hd hv
    have V := hd (vp_iff.1 hv)
    have v4 := V.out.c0
    have v5 := V.out.c1
    clear hv
    have k3 := blk_cell hq 3
    go_wp2_with fail
    go_loopw [4] (fun i wr => ∃ k : Nat, (k : Int) ≤ C + 1 ∧ i = .int .i64 k ∧ findN (cpP S L H xI) 0 (C.toNat + 1) = findN (cpP S L H xI) k (C.toNat + 1 - k) ∧ wr.heap[w.heap.size]? = some (pmC S L H C aI nI cI aP nP cP) ∧ w.heap.size + 1 ≤ wr.heap.size ∧ Below w.heap.size w wr) (fun i _ => (C.toNat + 1) - (intOf i).toNat)
    case atStart => exact ⟨0, by omega, rfl, rfl, hq, by simpa using z1, d1⟩
    case round =>
      clear k3 hq
      obtain ⟨k, hk, rfl, hF, hg, hz, hb⟩ := hrel
      have HF := hd hF
      have HG := hd hg
      have k0 := blk_cell hg 0
      have k1 := blk_cell hg 1
      have k2 := blk_cell hg 2
      have k3 := blk_cell hg 3
      have k4 := blk_cell hg 4
      have k5 := blk_cell hg 5
      clear hF hg
      obtain ⟨W1, hW⟩ : ∃ W, W = wr := ⟨_, rfl⟩
      subst hW
      by_cases hlt : (k : Int) ≤ C
      · go_wp2_with fail
        refine (prices_calls S L H C aI nI cI xI aP nP cP xP (k : Int) _ (rI.below hb) hI (rP.below hb) hP).mono ?_
        rintro e w2 ⟨A, c', rfl, ho, b2⟩
        have d2 := bnext hb b2 (Nat.le_refl _)
        have hq2 := blk_below HG.out b2 (blk_lt HG.out)
        have hz2 : w.heap.size + 1 ≤ w2.heap.size := Nat.le_trans hz b2.size
        have ho2 : Own 1 ci 2 w2 w.heap.size w2.heap.size A nI c' (List.replicate nI (k : Int)) := ho.mono (by omega) (Nat.le_refl _)
        clear ho k0 k1 k2 k3 k4 k5
        have k0 := blk_cell hq2 0
        have k1 := blk_cell hq2 1
        have k2 := blk_cell hq2 2
        have k3 := blk_cell hq2 3
        have k4 := blk_cell hq2 4
        have k5 := blk_cell hq2 5
        go_wp2_with fail
        refine (isPlan_calls S L H C aI nI cI xI aP nP cP xP _ _ _ (List.replicate nI (k : Int)) _ (rI.below d2) hI (rP.below d2) hP (ho2.rd len_ci) hI V.out rfl (inC_40 v5 (rep_in hlt))).mono ?_
        rintro e w3 ⟨he, b3⟩
        have d3 := bnext d2 b3 (Nat.le_refl _)
        have hq3 := blk_below hq2 b3 (blk_lt hq2)
        have hz3 : w.heap.size + 1 ≤ w3.heap.size := Nat.le_trans hz2 b3.size
        have K : keepB S L H xI (List.replicate nI (k : Int)) nI = cpP S L H xI k := by unfold cpP; rw [LI.out]
        rw [K] at he
        cases hc : cpP S L H xI k
        · rw [hc] at he
          subst he
          have Hn := hd (findN_miss (m := C.toNat + 1 - k) hc (by omega))
          clear hc K
          go_wp2_with fail
          go_roundw
          case rel => exact ⟨k + 1, by omega, by go_num, by rw [HF.out, Hn.out, Nat.sub_sub], hq3, hz3, d3⟩
          case measure => simp [intOf]; omega
        · rw [hc] at he
          subst he
          have F := hd (cp_hit HV.out (HF.out.trans (findN_hit (m := C.toNat + 1 - k) hc (by omega))))
          clear hc K
          go_wp2_with fail
          go_ret2
          exact ⟨A, nI, c', ret_sli (by rw [F.out]), by rw [F.out, LI.out]; exact (ho2.below b3).mono (Nat.le_refl _) b3.size, hI, d3⟩
      · obtain rfl : k = C.toNat + 1 := by omega
        have F := hd (cp_none HV.out (by rw [HF.out, Nat.sub_self]; rfl))
        go_wp2_with fail
        go_ret2
        exact ⟨_, 0, 0, ret_sli (by rw [F.out]), by rw [F.out]; exact Own.empty W1 _ rfl (hb).size (by simp), by omega, (hb).alloc (hb).size _⟩
set_option maxHeartbeats 2000000 in
theorem specConstantPlan_calls (S L H C : Int) (aI : Option Addr) (nI cI : Nat) (xI : List Int) (aP : Option Addr) (nP cP : Nat) (xP : List Int) (w : World) (rI : RdInt64 w aI nI xI) (hI : nI ≤ 1048576) (rP : RdInt64 w aP nP xP) (hP : nP ≤ 1048576) :
    Calls Try.prog 32 #[.agg #[.int .i64 S, .int .i64 L, .int .i64 H, .int .i64 C, .slice aI nI cI, .slice aP nP cP]] w fun e w' => ∃ A m c, e = .returned (.tuple #[.slice A m c, .int .i64 (cpF S L H C xI xP).2]) ∧ Own 1 ci 2 w' w.heap.size w'.heap.size A m c (cpF S L H C xI xP).1 ∧ m ≤ 1048576 ∧ Below w.heap.size w w' := by
  have LI := hd rI.len
  obtain ⟨i0, hi, hz0, hz1, hz2⟩ := info_parts infoInt64
  go_enter Try.func32, Try.ntmps32
  go_wp2_with fail
  refine (l15Ok_calls _ S L H C aI nI cI xI aP nP cP xP _ (heap_alloc_new w _) (rI.alloc _) hI (rP.alloc _) hP).mono ?_
  rintro e w1 ⟨he, b1⟩
  have hq := box_q b1
  have d1 := bbox1 b1
  have z1 := b1.size
  clear b1
  cases hv : vpB S L H C xI xP
  · rw [hv] at he
    subst he
    have F := hd (cp_bad hv)
    clear hv
    go_wp2_with fail
    go_ret2
    exact ⟨none, 0, 0, ret_sli (by rw [F.out]), by rw [F.out]; exact Own.nil_, by omega, d1⟩
  · rw [hv] at he
    subst he
    have HV := hd hv
    have V := hd (vp_iff.1 hv)
    have v4 := V.out.c0
    have v5 := V.out.c1
    clear hv
    have k3 := blk_cell hq 3
    go_wp2_with fail
    go_loopw [4] (fun i wr => ∃ k : Nat, (k : Int) ≤ C + 1 ∧ i = .int .i64 k ∧ findN (cpP S L H xI) 0 (C.toNat + 1) = findN (cpP S L H xI) k (C.toNat + 1 - k) ∧ wr.heap[w.heap.size]? = some (pmC S L H C aI nI cI aP nP cP) ∧ w.heap.size + 1 ≤ wr.heap.size ∧ Below w.heap.size w wr) (fun i _ => (C.toNat + 1) - (intOf i).toNat)
    case atStart => exact ⟨0, by omega, rfl, rfl, hq, by simpa using z1, d1⟩
    case round =>
      clear k3 hq
      obtain ⟨k, hk, rfl, hF, hg, hz, hb⟩ := hrel
      have HF := hd hF
      have HG := hd hg
      have k0 := blk_cell hg 0
      have k1 := blk_cell hg 1
      have k2 := blk_cell hg 2
      have k3 := blk_cell hg 3
      have k4 := blk_cell hg 4
      have k5 := blk_cell hg 5
      clear hF hg
      obtain ⟨W1, hW⟩ : ∃ W, W = wr := ⟨_, rfl⟩
      subst hW
      by_cases hlt : (k : Int) ≤ C
      · go_wp2_with fail
        have he := Own.empty (E := 2) (sz := 1) (cs := ci) (L := w.heap.size + 1) (U := W1.heap.size + 1) W1 #[] rfl hz (by omega)
        go_loopw [5, 6] (fun v i wr => ∃ j : Nat, j ≤ nI ∧ i = .int .i64 j ∧ ∃ A c, v = .slice A j c ∧ Own 1 ci 2 wr (w.heap.size + 1) wr.heap.size A j c (List.replicate j (k : Int)) ∧ wr.heap[w.heap.size]? = some (pmC S L H C aI nI cI aP nP cP) ∧ w.heap.size + 1 ≤ wr.heap.size ∧ Below w.heap.size w wr) (fun _ i _ => nI - (intOf i).toNat)
        case atStart => exact ⟨0, Nat.zero_le _, rfl, _, 0, rfl, he.mono (Nat.le_refl _) (by simp), blk_alloc HG.out _, by simp; omega, hb.alloc hb.size _⟩
        case round =>
        clear k0 k1 k2 k3 k4 k5 hb hz he
        obtain ⟨j, hj, rfl, A, c', rfl, ho, hg, hz, hb⟩ := hrel
        have Ho := hd ho
        have HG := hd hg
        have k4 := blk_cell hg 4
        clear ho hg
        obtain ⟨W2, hW⟩ : ∃ W, W = wr := ⟨_, rfl⟩
        subst hW
        by_cases hjl : j < nI
        · have hb1 := hb
          have Ho1 := Ho
          go_wp2_with (at_builtin; refine wpList_app _ rfl _ _ 22 rfl 2 i0 _ 1 8 Try.underlying22 hi hz0 hz1 hz2 rfl (by decide) len_ci one_ci (w.heap.size + 1) W2.heap.size A j c' _ rfl (Ho1.out.alloc _) W2.heap.size (k : Int) rfl (app_new _ _ _) (by omega) (by unfold maxLen; omega) (by simp; omega) ?_)
          intro A' c'' w2 ho2 hg2
          have hb2 := below_app (hb1.alloc hb1.size _) (Ho1.out.alloc _) hg2 (Nat.le_refl _) (Nat.le_succ _)
          have hgn := blk_only (blk_alloc HG.out _) hg2 (fun hg => by have := Ho1.out.row hg; omega)
          have hzn := blk_lt hgn
          have Ho2 := hd ho2
          clear ho2 hg2
          go_wp2_with fail
          go_roundw
          case rel => exact ⟨j + 1, by omega, by go_num, A', c'', rfl, by rw [List.replicate_succ']; exact Ho2.out, hgn, hzn, hb2⟩
          case measure => simp [intOf]; omega
        obtain rfl : j = nI := by omega
        have ho2 : Own 1 ci 2 W2 w.heap.size W2.heap.size A j c' (List.replicate j (k : Int)) := Ho.out.mono (by omega) (Nat.le_refl _)
        clear Ho
        go_wp2_with fail
        refine (l15Keeps_calls _ S L H C aI j cI xI aP nP cP xP _ _ _ (List.replicate j (k : Int)) _ HG.out (rI.below hb) hI (rP.below hb) hP (ho2.rd len_ci) hI V.out rfl (inC_40 v5 (rep_in hlt))).mono ?_
        rintro e w3 ⟨he, b3⟩
        have d3 := bnext hb b3 (Nat.le_refl _)
        have hq3 := blk_below HG.out b3 (blk_lt HG.out)
        have hz3 : w.heap.size + 1 ≤ w3.heap.size := Nat.le_trans hz b3.size
        have K : keepB S L H xI (List.replicate j (k : Int)) j = cpP S L H xI k := by unfold cpP; rw [LI.out]
        rw [K] at he
        cases hc : cpP S L H xI k
        · rw [hc] at he
          subst he
          have Hn := hd (findN_miss (m := C.toNat + 1 - k) hc (by omega))
          clear hc K
          go_wp2_with fail
          go_roundw
          case rel => exact ⟨k + 1, by omega, by go_num, by rw [HF.out, Hn.out, Nat.sub_sub], hq3, hz3, d3⟩
          case measure => simp [intOf]; omega
        · rw [hc] at he
          subst he
          have F := hd (cp_hit HV.out (HF.out.trans (findN_hit (m := C.toNat + 1 - k) hc (by omega))))
          clear hc K
          go_wp2_with fail
          go_ret2
          exact ⟨A, j, c', ret_sli (by rw [F.out]), by rw [F.out, LI.out]; exact (ho2.below b3).mono (Nat.le_refl _) b3.size, hI, d3⟩
      · obtain rfl : k = C.toNat + 1 := by omega
        have F := hd (cp_none HV.out (by rw [HF.out, Nat.sub_self]; rfl))
        go_wp2_with fail
        go_ret2
        exact ⟨none, 0, 0, ret_sli (by rw [F.out]), by rw [F.out]; exact Own.nil_, by omega, hb⟩
end Go.Proofs.Ythabjlhfidcnoaa
