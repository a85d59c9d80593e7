/- Plans: too much water, and the plan with the same number in all hours. -/
import Derived.Test.YthabjlhfidcnoaaPump4
namespace Go.Proofs.Ythabjlhfidcnoaa
open Go.RowKit
set_option linter.unusedVariables false

def ovTo (H C : Int) : List Int → Int → Nat → Option (Nat × Int)
  | [], _, _ => none
  | x :: xs, w, t => if H < w + (x - C) then some (t, w + (x - C) - H) else ovTo H C xs (w + (x - C)) (t + 1)
def ovFrom (S L H C : Int) : List Int → Nat → Option (Nat × Nat × Int)
  | [], _ => none
  | x :: xs, f => match ovTo H C (x :: xs) (if f = 0 then S else L) f with
    | some (t, d) => some (f, t, d)
    | none => ovFrom S L H C xs (f + 1)
def ovF (S L H C : Int) (xI xP : List Int) : Int × Int × Int × Int :=
  if vpB S L H C xI xP then (match ovFrom S L H C xI 0 with | some (f, t, d) => ((f : Int), (t : Int), d, 0) | none => (0, 0, 0, 3)) else (0, 0, 0, 1)
theorem ov_stop {S L H C : Int} {xI xP : List Int} {f t : Nat} {d : Int} (hv : vpB S L H C xI xP = true) (h : ovFrom S L H C xI 0 = some (f, t, d)) : ovF S L H C xI xP = ((f : Int), (t : Int), d, 0) := by
  unfold ovF
  rw [hv, if_pos rfl, h]
theorem ov_none {S L H C : Int} {xI xP : List Int} (hv : vpB S L H C xI xP = true) (h : ovFrom S L H C xI 0 = none) : ovF S L H C xI xP = (0, 0, 0, 3) := by
  unfold ovF
  rw [hv, if_pos rfl, h]
theorem ov_bad {S L H C : Int} {xI xP : List Int} (hv : vpB S L H C xI xP = false) : ovF S L H C xI xP = (0, 0, 0, 1) := by
  unfold ovF
  rw [hv]
  rfl
theorem ovTo_next {H C : Int} {xs : List Int} {j : Nat} {x w : Int} (hx : xs[j]? = some x) (h : ¬ H < w + (x - C)) : ovTo H C (xs.drop j) w j = ovTo H C (xs.drop (j + 1)) (w + (x - C)) (j + 1) := by
  rw [drop_cons hx]
  simp only [ovTo]
  rw [if_neg h]
theorem ovTo_stop {H C : Int} {xs : List Int} {j : Nat} {x w : Int} (hx : xs[j]? = some x) (h : H < w + (x - C)) : ovTo H C (xs.drop j) w j = some (j, w + (x - C) - H) := by
  rw [drop_cons hx]
  simp only [ovTo]
  rw [if_pos h]
theorem ovFrom_stop {S L H C : Int} {xs : List Int} {k t : Nat} {d : Int} (hk : k < xs.length) (h : ovTo H C (xs.drop k) (if k = 0 then S else L) k = some (t, d)) : ovFrom S L H C (xs.drop k) k = some (k, t, d) := by
  rw [drop_cons (List.getElem?_eq_getElem hk)] at h ⊢
  simp only [ovFrom]
  rw [h]
theorem ovFrom_next {S L H C : Int} {xs : List Int} {k : Nat} (hk : k < xs.length) (h : ovTo H C (xs.drop k) (if k = 0 then S else L) k = none) : ovFrom S L H C (xs.drop k) k = ovFrom S L H C (xs.drop (k + 1)) (k + 1) := by
  rw [drop_cons (List.getElem?_eq_getElem hk)] at h ⊢
  simp only [ovFrom]
  rw [h]
theorem ret_int4 {a b c d : Int} {r : Int × Int × Int × Int} (h : r = (a, b, c, d)) : Ending.returned (.tuple #[.int .i64 a, .int .i64 b, .int .i64 c, .int .i64 d]) = .returned (.tuple #[.int .i64 r.1, .int .i64 r.2.1, .int .i64 r.2.2.1, .int .i64 r.2.2.2]) := by rw [h]

set_option maxHeartbeats 2000000 in
theorem PumpOverload_calls (S L H C : Int) (aI : Option Addr) (nI cI : Nat) (xI : List Int) (aP : Option Addr) (nP cP : Nat) (xP : List Int) (w : World) (rI : RdInt64 w aI nI xI) (hI : nI ≤ 1048576) (rP : RdInt64 w aP nP xP) (hP : nP ≤ 1048576) :
    Calls Try.prog 20 #[.agg #[.int .i64 S, .int .i64 L, .int .i64 H, .int .i64 C, .slice aI nI cI, .slice aP nP cP]] w fun e w' => e = .returned (.tuple #[.int .i64 (ovF S L H C xI xP).1, .int .i64 (ovF S L H C xI xP).2.1, .int .i64 (ovF S L H C xI xP).2.2.1, .int .i64 (ovF S L H C xI xP).2.2.2]) ∧ Below w.heap.size w w' := by
  have LI := hd rI.len
  go_enter Try.func20, Try.ntmps20
  go_wp2_with fail
  refine (ValidPumping_calls S L H C aI nI cI xI aP nP cP xP _ (rI.alloc _) hI (rP.alloc _) hP).mono ?_
  rintro e w1 ⟨he, b1⟩
  have hq := box_q b1
  have d1 := bbox1 b1
  clear b1
  cases hv : vpB S L H C xI xP
  · rw [hv] at he
    subst he
    have F := hd (ov_bad hv)
    clear hv
    go_wp2_with fail
    refine bodyPost_ret (results_tmp4 rfl _ _) rfl ?_
    exact ⟨ret_int4 F.out, d1⟩
  · rw [hv] at he
    subst he
    have HV := hd hv
    have v := vp_iff.1 hv
    have v0 := v.l0
    have v1 := v.ls
    have v2 := v.sh
    have v3 := v.h1
    have v4 := v.c0
    have v5 := v.c1
    have HU := hd v.un
    have v6 := v.n48
    rw [LI.out] at v6
    clear v hv
    have k4 := blk_cell hq 4
    go_wp2_with fail
    go_loopw [15] (fun i wr => ∃ k : Nat, k ≤ nI ∧ i = .int .i64 k ∧ ovFrom S L H C xI 0 = ovFrom S L H C (xI.drop k) k ∧ wr.heap[w.heap.size]? = some (pmC S L H C aI nI cI aP nP cP) ∧ Below w.heap.size w wr) (fun i _ => nI - (intOf i).toNat)
    case atStart => exact ⟨0, Nat.zero_le _, rfl, rfl, hq, d1⟩
    case round =>
      clear k4 hq
      obtain ⟨k, hk, rfl, hF, hg, hb⟩ := hrel
      have HF := hd hF
      have HG := hd hg
      have k0 := blk_cell hg 0
      have k1 := blk_cell hg 1
      have k4 := blk_cell hg 4
      clear hF hg
      by_cases hlt : k < nI
      · obtain ⟨w3, hW⟩ : ∃ W, W = wr := ⟨_, rfl⟩
        subst hW
        by_cases hk0 : k = 0
        all_goals (
          first
          | (have hkz : ((k : Int) == 0) = true := by simp; omega)
          | (have hkz : ((k : Int) == 0) = false := by simp; omega)
          have HK := hd hk0
          clear hk0
          go_wp2_with fail
          go_loopw [7, 8] (fun t i wr => ∃ j : Nat, ∃ z : Int, k ≤ j ∧ j ≤ nI ∧ i = .int .i64 j ∧ t = .int .i64 z ∧ -(40 * (j : Int)) ≤ z ∧ z ≤ 300 ∧ ovTo H C (xI.drop k) (if k = 0 then S else L) k = ovTo H C (xI.drop j) z j ∧ wr.heap[w.heap.size]? = some (pmC S L H C aI nI cI aP nP cP) ∧ Below w.heap.size w wr) (fun _ i _ => nI - (intOf i).toNat)
          case atStart => exact ⟨k, _, Nat.le_refl _, hk, rfl, rfl, by omega, by omega, by first | rw [if_pos HK.out] | rw [if_neg HK.out], HG.out, hb⟩
          case round =>
            clear k0 k1 k4 hb hkz HK
            obtain ⟨j, z, hkj, hj, rfl, rfl, z0, z1, hT, hg, hb⟩ := hrel
            have HT := hd hT
            have HG := hd hg
            have k2 := blk_cell hg 2
            have k3 := blk_cell hg 3
            have k4 := blk_cell hg 4
            clear hT hg
            by_cases hjl : j < nI
            · obtain ⟨b1, o1, f0, rfl, hbl, hx, hc0⟩ := getInt64 (rI.below hb) hjl
              obtain ⟨m1, m2⟩ := unB_iff.1 (all_at_ HU.out hx)
              have q0 : (0 : Int) ≤ (j : Int) := by omega
              have q1 : (j : Int) < (nI : Int) := by omega
              by_cases hov : H < z + (f0 - C)
              · have F := hd (ov_stop HV.out (HF.out.trans (ovFrom_stop (by rw [LI.out]; exact hlt) (HT.out.trans (ovTo_stop hx hov)))))
                clear hx
                go_wp2_with fail
                go_quiet (fail)
                generalize hD : wr.drewN _ = W2
                have hb2 : Below w.heap.size w W2 := hD ▸ below_drewN hb _
                have hg2 : W2.heap[w.heap.size]? = some (pmC S L H C _ nI cI aP nP cP) := hD ▸ blk_drewN HG.out _
                have k2 := blk_cell hg2 2
                clear hD hc0
                go_wp2_with fail
                go_quiet (fail)
                go_wp2_with fail
                refine bodyPost_ret (results_tmp4 rfl _ _) rfl ?_
                exact ⟨ret_int4 F.out, below_drewN hb2 _⟩
              · have Hn := hd (ovTo_next hx hov)
                clear hx
                go_wp2_with fail
                go_quiet (fail)
                generalize hD : wr.drewN _ = W2
                have hb2 : Below w.heap.size w W2 := hD ▸ below_drewN hb _
                have hg2 : W2.heap[w.heap.size]? = some (pmC S L H C _ nI cI aP nP cP) := hD ▸ blk_drewN HG.out _
                have k2 := blk_cell hg2 2
                clear hD hc0
                go_wp2_with fail
                go_roundw
                case rel => exact ⟨j + 1, z + (f0 - C), by omega, by omega, by go_num, rfl, by omega, by omega, HT.out.trans Hn.out, hg2, hb2⟩
                case measure => simp [intOf]; omega
            · have hnone : ovTo H C (xI.drop k) (if k = 0 then S else L) k = none := by rw [HT.out, List.drop_eq_nil_of_le (by rw [LI.out]; omega)]; rfl
              have Hn := hd (ovFrom_next (by rw [LI.out]; exact hlt) hnone)
              clear hnone
              go_wp2_with fail
              go_roundw
              case rel => exact ⟨k + 1, by omega, by go_num, HF.out.trans Hn.out, HG.out, hb⟩
              case measure => simp [intOf]; omega)
      · have F := hd (ov_none HV.out (by rw [HF.out, List.drop_eq_nil_of_le (by rw [LI.out]; omega)]; rfl))
        go_wp2_with fail
        refine bodyPost_ret (results_tmp4 rfl _ _) rfl ?_
        exact ⟨ret_int4 F.out, hb⟩
set_option maxHeartbeats 2000000 in
theorem specPumpOverload_calls (S L H C : Int) (aI : Option Addr) (nI cI : Nat) (xI : List Int) (aP : Option Addr) (nP cP : Nat) (xP : List Int) (w : World) (rI : RdInt64 w aI nI xI) (hI : nI ≤ 1048576) (rP : RdInt64 w aP nP xP) (hP : nP ≤ 1048576) :
    Calls Try.prog 19 #[.agg #[.int .i64 S, .int .i64 L, .int .i64 H, .int .i64 C, .slice aI nI cI, .slice aP nP cP]] w fun e w' => e = .returned (.tuple #[.int .i64 (ovF S L H C xI xP).1, .int .i64 (ovF S L H C xI xP).2.1, .int .i64 (ovF S L H C xI xP).2.2.1, .int .i64 (ovF S L H C xI xP).2.2.2]) ∧ Below w.heap.size w w' := by
  have LI := hd rI.len
  go_enter Try.func19, Try.ntmps19
  go_wp2_with fail
  refine (l15Ok_calls _ S L H C aI nI cI xI aP nP cP xP _ (heap_alloc_new w _) (rI.alloc _) hI (rP.alloc _) hP).mono ?_
  rintro e w1 ⟨he, b1⟩
  have hq := box_q b1
  have d1 := bbox1 b1
  clear b1
  cases hv : vpB S L H C xI xP
  · rw [hv] at he
    subst he
    have F := hd (ov_bad hv)
    clear hv
    go_wp2_with fail
    refine bodyPost_ret (results_tmp4 rfl _ _) rfl ?_
    exact ⟨ret_int4 F.out, d1⟩
  · rw [hv] at he
    subst he
    have HV := hd hv
    have v := vp_iff.1 hv
    have v0 := v.l0
    have v1 := v.ls
    have v2 := v.sh
    have v3 := v.h1
    have v4 := v.c0
    have v5 := v.c1
    have HU := hd v.un
    have v6 := v.n48
    rw [LI.out] at v6
    clear v hv
    have k4 := blk_cell hq 4
    go_wp2_with fail
    go_loopw [6] (fun i wr => ∃ k : Nat, k ≤ nI ∧ i = .int .i64 k ∧ ovFrom S L H C xI 0 = ovFrom S L H C (xI.drop k) k ∧ wr.heap[w.heap.size]? = some (pmC S L H C aI nI cI aP nP cP) ∧ Below w.heap.size w wr) (fun i _ => nI - (intOf i).toNat)
    case atStart => exact ⟨0, Nat.zero_le _, rfl, rfl, hq, d1⟩
    case round =>
      clear k4 hq
      obtain ⟨k, hk, rfl, hF, hg, hb⟩ := hrel
      have HF := hd hF
      have HG := hd hg
      have k0 := blk_cell hg 0
      have k1 := blk_cell hg 1
      have k4 := blk_cell hg 4
      clear hF hg
      by_cases hlt : k < nI
      · obtain ⟨w3, hW⟩ : ∃ W, W = wr := ⟨_, rfl⟩
        subst hW
        by_cases hk0 : k = 0
        all_goals (
          first
          | (have hkz : ((k : Int) == 0) = true := by simp; omega)
          | (have hkz : ((k : Int) == 0) = false := by simp; omega)
          have HK := hd hk0
          clear hk0
          go_wp2_with fail
          go_loopw [7, 8] (fun t i wr => ∃ j : Nat, ∃ z : Int, k ≤ j ∧ j ≤ nI ∧ i = .int .i64 j ∧ t = .int .i64 z ∧ -(40 * (j : Int)) ≤ z ∧ z ≤ 300 ∧ ovTo H C (xI.drop k) (if k = 0 then S else L) k = ovTo H C (xI.drop j) z j ∧ wr.heap[w.heap.size]? = some (pmC S L H C aI nI cI aP nP cP) ∧ Below w.heap.size w wr) (fun _ i _ => nI - (intOf i).toNat)
          case atStart => exact ⟨k, _, Nat.le_refl _, hk, rfl, rfl, by omega, by omega, by first | rw [if_pos HK.out] | rw [if_neg HK.out], HG.out, hb⟩
          case round =>
            clear k0 k1 k4 hb hkz HK
            obtain ⟨j, z, hkj, hj, rfl, rfl, z0, z1, hT, hg, hb⟩ := hrel
            have HT := hd hT
            have HG := hd hg
            have k2 := blk_cell hg 2
            have k3 := blk_cell hg 3
            have k4 := blk_cell hg 4
            clear hT hg
            by_cases hjl : j < nI
            · obtain ⟨b1, o1, f0, rfl, hbl, hx, hc0⟩ := getInt64 (rI.below hb) hjl
              obtain ⟨m1, m2⟩ := unB_iff.1 (all_at_ HU.out hx)
              have q0 : (0 : Int) ≤ (j : Int) := by omega
              have q1 : (j : Int) < (nI : Int) := by omega
              by_cases hov : H < z + (f0 - C)
              · have F := hd (ov_stop HV.out (HF.out.trans (ovFrom_stop (by rw [LI.out]; exact hlt) (HT.out.trans (ovTo_stop hx hov)))))
                clear hx
                go_wp2_with fail
                go_quiet (fail)
                generalize hD : wr.drewN _ = W2
                have hb2 : Below w.heap.size w W2 := hD ▸ below_drewN hb _
                have hg2 : W2.heap[w.heap.size]? = some (pmC S L H C _ nI cI aP nP cP) := hD ▸ blk_drewN HG.out _
                have k2 := blk_cell hg2 2
                clear hD hc0
                go_wp2_with fail
                go_quiet (fail)
                go_wp2_with fail
                refine bodyPost_ret (results_tmp4 rfl _ _) rfl ?_
                exact ⟨ret_int4 F.out, below_drewN hb2 _⟩
              · have Hn := hd (ovTo_next hx hov)
                clear hx
                go_wp2_with fail
                go_quiet (fail)
                generalize hD : wr.drewN _ = W2
                have hb2 : Below w.heap.size w W2 := hD ▸ below_drewN hb _
                have hg2 : W2.heap[w.heap.size]? = some (pmC S L H C _ nI cI aP nP cP) := hD ▸ blk_drewN HG.out _
                have k2 := blk_cell hg2 2
                clear hD hc0
                go_wp2_with fail
                go_roundw
                case rel => exact ⟨j + 1, z + (f0 - C), by omega, by omega, by go_num, rfl, by omega, by omega, HT.out.trans Hn.out, hg2, hb2⟩
                case measure => simp [intOf]; omega
            · have hnone : ovTo H C (xI.drop k) (if k = 0 then S else L) k = none := by rw [HT.out, List.drop_eq_nil_of_le (by rw [LI.out]; omega)]; rfl
              have Hn := hd (ovFrom_next (by rw [LI.out]; exact hlt) hnone)
              clear hnone
              go_wp2_with fail
              go_roundw
              case rel => exact ⟨k + 1, by omega, by go_num, HF.out.trans Hn.out, HG.out, hb⟩
              case measure => simp [intOf]; omega)
      · have F := hd (ov_none HV.out (by rw [HF.out, List.drop_eq_nil_of_le (by rw [LI.out]; omega)]; rfl))
        go_wp2_with fail
        refine bodyPost_ret (results_tmp4 rfl _ _) rfl ?_
        exact ⟨ret_int4 F.out, hb⟩
end Go.Proofs.Ythabjlhfidcnoaa
