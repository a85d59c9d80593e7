/- Plans, the reference: the water after each hour, the limits, the price; and what the laws compare. -/
import Derived.Test.YthabjlhfidcnoaaPump3
namespace Go.Proofs.Ythabjlhfidcnoaa
open Go.RowKit
set_option linter.unusedVariables false

theorem l15Water_calls (g : Nat) (S L H C : Int) (aI : Option Addr) (nI cI : Nat) (xI : List Int) (aP : Option Addr) (nP cP : Nat) (xP : List Int) (b : Option Addr) (m d : Nat) (ys : List Int) (w : World) (hg : w.heap[g]? = some (pmC S L H C aI nI cI aP nP cP)) (rI : RdInt64 w aI nI xI) (hI : nI ≤ 1048576) (rP : RdInt64 w aP nP xP) (hP : nP ≤ 1048576) (rY : RdInt64 w b m ys) (hm : m ≤ 1048576) (hv : VP S L H C xI xP) (hl : m = nI) (hy : ys.all (inC 40) = true) :
    Calls Try.prog 56 #[.pointer (some ⟨g, 0, none⟩), .slice b m d] w fun e w' => ∃ A c, e = .returned (.slice A m c) ∧ Own 1 ci 2 w' w.heap.size w'.heap.size A m c (watF S xI ys m) ∧ Below w.heap.size w w' := by
  subst hl
  have LI := rI.len
  have LY := rY.len
  have hbd : Hid (∀ k, k ≤ m → -2000 ≤ watZ S xI ys k ∧ watZ S xI ys k ≤ 3000) := hd (fun k hk => watZ_bd hv hy (by omega) (by omega))
  have HU := hd hv.un
  have HY := hd hy
  have hgl := blk_lt hg
  have HG := hd hg
  have k0 := blk_cell hg 0
  clear hv hy hg
  obtain ⟨i0, hi, hz0, hz1, hz2⟩ := info_parts infoInt64
  go_enter Try.func56, Try.ntmps56
  go_wp2_with fail
  go_loopw [5, 6, 7] (fun v t i wr => ∃ k : Nat, k ≤ m ∧ i = .int .i64 k ∧ t = .int .i64 (watZ S xI ys k) ∧ ∃ A c, v = .slice A k c ∧ Own 1 ci 2 wr w.heap.size wr.heap.size A k c (watF S xI ys k) ∧ Below w.heap.size w wr) (fun _ _ i _ => m - (intOf i).toNat)
  case atStart => exact ⟨0, Nat.zero_le _, rfl, by rw [watZ_zero], _, 0, rfl, Own.empty w _ rfl (Nat.le_refl _) (by simp), (Below.refl _ _).alloc (Nat.le_refl _) _⟩
  case round =>
    clear k0
    obtain ⟨k, hk, rfl, rfl, A, c', rfl, ho, hb⟩ := hrel
    have Ho := hd ho
    clear ho
    have hg := blk_below HG.out hb hgl
    have k4 := blk_cell hg 4
    clear hg
    obtain ⟨w1, w2⟩ := hbd.out k hk
    obtain ⟨W1, hW⟩ : ∃ W, W = wr := ⟨_, rfl⟩
    subst hW
    by_cases hlt : k < m
    · obtain ⟨b1, o1, f0, rfl, hbl, hx, hc0⟩ := getInt64 (rI.below hb) hlt
      obtain ⟨b2, o2, g0, rfl, hbl2, hy, hc1⟩ := getInt64 (rY.below hb) hlt
      obtain ⟨m1, m2⟩ := unB_iff.1 (all_at_ HU.out hx)
      obtain ⟨m3, m4⟩ := inB_iff.1 (all_at_ HY.out hy)
      have en := watZ_next (S := S) hx hy
      obtain ⟨n1, n2⟩ := hbd.out (k + 1) (by omega)
      rw [en] at n1 n2
      have Hn : Hid (watF S xI ys (k + 1) = watF S xI ys k ++ [watZ S xI ys k + (f0 - g0)]) := hd (by rw [watF_next, en])
      have En := hd en
      clear hx hy en
      generalize hz : watZ S xI ys k = z at w1 w2 n1 n2 Hn En ⊢
      clear hz
      have q0 : (0 : Int) ≤ (k : Int) := by omega
      have q1 : (k : Int) < (m : Int) := by omega
      have s1 : IntKind.i64.wrap (f0 - g0) = f0 - g0 := IntWalk.i64_in _ (by omega)
      have s2 : IntKind.i64.wrap (z + (f0 - g0)) = z + (f0 - g0) := IntWalk.i64_in _ (by omega)
      go_wp2_with fail
      go_quiet (fail)
      clear s1 s2 k4 hc0 hc1
      generalize hD : W1.drewN _ = W2
      have hb1 : Below w.heap.size w W2 := hD ▸ below_drewN hb _
      have Ho1 : Hid (Own 1 ci 2 W2 w.heap.size W2.heap.size A k c' (watF S xI ys k)) := by
        have hs : W2.heap.size = W1.heap.size := by rw [← hD]; rfl
        have := Ho.out.below (w' := W2) (hD ▸ below_drewN (Below.refl _ _) _)
        rw [← hs] at this
        exact this
      clear hD
      go_wp2_with (at_builtin; refine wpList_app _ rfl _ _ 22 rfl 2 i0 _ 1 8 Try.underlying22 hi hz0 hz1 hz2 rfl (by decide) len_ci one_ci w.heap.size W2.heap.size A k c' _ rfl (Ho1.out.alloc _) W2.heap.size (z + (f0 - g0) : Int) rfl (app_new _ _ _) (by omega) (by unfold maxLen; omega) (by have := hb1.size; simp; omega) ?_)
      intro A' c'' w2 ho2 hg2
      have hb2 := below_app (hb1.alloc hb1.size _) (Ho1.out.alloc _) hg2 (Nat.le_refl _) (Nat.le_refl _)
      have Ho2 := hd ho2
      clear ho2 hg2
      go_wp2_with fail
      go_roundw
      case rel => exact ⟨k + 1, by omega, by go_num, by rw [En.out], A', c'', rfl, by rw [Hn.out]; exact Ho2.out, hb2⟩
      case measure => simp [intOf]; omega
    · obtain rfl : k = m := by omega
      go_wp2_with fail
      go_ret
      exact ⟨A, c', rfl, Ho.out, hb⟩
theorem l15Keeps_calls (g : Nat) (S L H C : Int) (aI : Option Addr) (nI cI : Nat) (xI : List Int) (aP : Option Addr) (nP cP : Nat) (xP : List Int) (b : Option Addr) (m d : Nat) (ys : List Int) (w : World) (hg : w.heap[g]? = some (pmC S L H C aI nI cI aP nP cP)) (rI : RdInt64 w aI nI xI) (hI : nI ≤ 1048576) (rP : RdInt64 w aP nP xP) (hP : nP ≤ 1048576) (rY : RdInt64 w b m ys) (hm : m ≤ 1048576) (hv : VP S L H C xI xP) (hl : m = nI) (hy : ys.all (inC 40) = true) :
    Calls Try.prog 54 #[.pointer (some ⟨g, 0, none⟩), .slice b m d] w fun e w' => e = .returned (.bool (keepB S L H xI ys m)) ∧ Below w.heap.size w w' := by
  have HL := hd hl
  clear hl
  go_enter Try.func54, Try.ntmps54
  go_wp2_with fail
  refine (l15Water_calls g S L H C aI nI cI xI aP nP cP xP b m d ys _ hg rI hI rP hP rY hm hv HL.out hy).mono ?_
  rintro e w1 ⟨A, c', rfl, ho, d1⟩
  have LO := hd ho.len
  have ro := ho.rd len_ci
  clear ho
  have hgl := blk_lt hg
  have HG := hd hg
  clear hg hv hy
  go_wp2_with fail
  go_loopw [6] (fun i wr => ∃ k : Nat, k ≤ m ∧ i = .int .i64 k ∧ ((watF S xI ys m).take k).all (fun x => inB x L H) = true ∧ Below w.heap.size w wr ∧ Below w1.heap.size w1 wr) (fun i _ => m - (intOf i).toNat)
  case atStart => exact ⟨0, Nat.zero_le _, rfl, rfl, d1, Below.refl _ _⟩
  case round =>
    obtain ⟨k, hk, rfl, hall, hb, hb1⟩ := hrel
    have Ha := hd hall
    clear hall
    have hg := blk_below HG.out hb hgl
    have k1 := blk_cell hg 1
    have k2 := blk_cell hg 2
    clear hg
    by_cases hlt : k < m
    · obtain ⟨b1, o1, f0, rfl, hbl, hx, hc0⟩ := getInt64 (ro.below hb1) hlt
      have q0 : (0 : Int) ≤ (k : Int) := by omega
      have q1 : (k : Int) < (m : Int) := by omega
      cases hp : inB f0 L H
      · have F2 := hd (all_stop (p := fun x => inB x L H) hx hp)
        clear hx
        go_wp2_with fail
        go_quiet ((go_at_call 63; exact Calls.quiet_of_same ((l00In_calls _ _ _ _).mono (fun _ _ h => ⟨h.1, h.2.symm⟩))))
        go_wp2_with fail
        go_ret
        exact ⟨ret_bool (by unfold keepB; rw [F2.out]), below_drewN hb _⟩
      · have Hn := hd (all_next (p := fun x => inB x L H) hx Ha.out hp)
        clear hx
        go_wp2_with fail
        go_quiet ((go_at_call 63; exact Calls.quiet_of_same ((l00In_calls _ _ _ _).mono (fun _ _ h => ⟨h.1, h.2.symm⟩))))
        go_wp2_with fail
        go_roundw
        case rel => exact ⟨k + 1, by omega, by go_num, Hn.out, below_drewN hb _, below_drewN hb1 _⟩
        case measure => simp [intOf]; omega
    · go_wp2_with fail
      go_ret
      exact ⟨ret_bool (by unfold keepB; rw [all_done LO.out (by omega) Ha.out]), hb⟩
theorem l15Cost_calls (g : Nat) (S L H C : Int) (aI : Option Addr) (nI cI : Nat) (xI : List Int) (aP : Option Addr) (nP cP : Nat) (xP : List Int) (b : Option Addr) (m d : Nat) (ys : List Int) (w : World) (hg : w.heap[g]? = some (pmC S L H C aI nI cI aP nP cP)) (rI : RdInt64 w aI nI xI) (hI : nI ≤ 1048576) (rP : RdInt64 w aP nP xP) (hP : nP ≤ 1048576) (rY : RdInt64 w b m ys) (hm : m ≤ 1048576) (hv : VP S L H C xI xP) (hl : m = nI) (hy : ys.all (inC 40) = true) :
    Calls Try.prog 51 #[.pointer (some ⟨g, 0, none⟩), .slice b m d] w fun e w' => e = .returned (.int .i64 (costZ xP ys m)) ∧ Below w.heap.size w w' := by
  subst hl
  have LI := rI.len
  have LY := rY.len
  have LP := rP.len
  have hln := hv.len
  have h48 := hv.n48
  have hbd : Hid (∀ k, k ≤ m → 0 ≤ costZ xP ys k ∧ costZ xP ys k ≤ k * 40000) := hd (fun k hk => costZ_bd hv.pr hy (by omega) k (by omega))
  have HP := hd hv.pr
  have HY := hd hy
  have hgl := blk_lt hg
  have HG := hd hg
  clear hv hy hg
  go_enter Try.func51, Try.ntmps51
  go_wp2_with fail
  go_loopw [5, 6] (fun t i wr => ∃ k : Nat, k ≤ m ∧ i = .int .i64 k ∧ t = .int .i64 (costZ xP ys k) ∧ Below w.heap.size w wr) (fun _ i _ => m - (intOf i).toNat)
  case atStart => exact ⟨0, Nat.zero_le _, rfl, by simp [costZ], Below.refl _ _⟩
  case round =>
    obtain ⟨k, hk, rfl, rfl, hb⟩ := hrel
    have hg := blk_below HG.out hb hgl
    have k5 := blk_cell hg 5
    clear hg
    obtain ⟨w1, w2⟩ := hbd.out k hk
    by_cases hlt : k < m
    · obtain ⟨b1, o1, f0, rfl, hbl, hx, hc0⟩ := getInt64 (rP.below hb) (show k < nP by omega)
      obtain ⟨b2, o2, g0, rfl, hbl2, hy, hc1⟩ := getInt64 (rY.below hb) hlt
      obtain ⟨m1, m2⟩ := prB_iff.1 (all_at_ HP.out hx)
      obtain ⟨m3, m4⟩ := inB_iff.1 (all_at_ HY.out hy)
      have kb : (k : Int) < nP := by omega
      have kc : (k : Int) < m := by omega
      have q0 : (0 : Int) ≤ (k : Int) := by omega
      have hmb := mul_bd m3 m4 m1 m2
      obtain ⟨hm1, hm2⟩ := hmb
      have En := hd (costZ_next hy hx)
      clear hx hy
      generalize hz : costZ xP ys k = z at w1 w2 En ⊢
      clear hz
      have s1 : IntKind.i64.wrap (g0 * f0) = g0 * f0 := IntWalk.i64_in _ (by omega)
      have s2 : IntKind.i64.wrap (z + g0 * f0) = z + g0 * f0 := IntWalk.i64_in _ (by omega)
      go_wp2_with fail
      go_quiet (fail)
      go_wp2_with fail
      go_roundw
      case rel => exact ⟨k + 1, by omega, by go_num, by rw [En.out], below_drewN hb _⟩
      case measure => simp [intOf]; omega
    · obtain rfl : k = m := by omega
      go_wp2_with fail
      go_ret
      exact ⟨rfl, hb⟩
theorem PC.use {S L H C : Int} {xI xP ys : List Int} {m n : Nat} (h : PC S L H C xI xP ys) (h1 : ys.length = m) (h2 : xI.length = n) : VP S L H C xI xP ∧ m = n ∧ ys.all (inC 40) = true := ⟨h.vp, by have := h.len; omega, inC_40 h.vp.c1 h.inn⟩
def waF (S L H C : Int) (xI xP ys : List Int) : List Int × Int := if pcZ S L H C xI xP ys = 0 then (watF S xI ys ys.length, 0) else ([], pcZ S L H C xI xP ys)
def ipF (S L H C : Int) (xI xP ys : List Int) : Bool × Int := if pcZ S L H C xI xP ys = 0 then (keepB S L H xI ys ys.length, 0) else (false, pcZ S L H C xI xP ys)
def coF (S L H C : Int) (xI xP ys : List Int) : Int × Int := if pcZ S L H C xI xP ys = 0 then (costZ xP ys ys.length, 0) else (0, pcZ S L H C xI xP ys)

theorem WaterAfter_calls (S L H C : Int) (aI : Option Addr) (nI cI : Nat) (xI : List Int) (aP : Option Addr) (nP cP : Nat) (xP : List Int) (b : Option Addr) (m d : Nat) (ys : List Int) (w : World) (rI : RdInt64 w aI nI xI) (hI : nI ≤ 1048576) (rP : RdInt64 w aP nP xP) (hP : nP ≤ 1048576) (rY : RdInt64 w b m ys) (hm : m ≤ 1048576) :
    Calls Try.prog 28 #[.agg #[.int .i64 S, .int .i64 L, .int .i64 H, .int .i64 C, .slice aI nI cI, .slice aP nP cP], .slice b m d] w fun e w' => ∃ A m c, e = .returned (.tuple #[.slice A m c, .int .i64 (waF S L H C xI xP ys).2]) ∧ Own 1 ci 2 w' w.heap.size w'.heap.size A m c (waF S L H C xI xP ys).1 ∧ m ≤ 1048576 ∧ Below w.heap.size w w' := by
  have LI := hd rI.len
  have LY := hd rY.len
  go_enter Try.func28, Try.ntmps28
  go_wp2_with fail
  refine (planCode_calls S L H C aI nI cI xI aP nP cP xP b m d ys _ (rI.alloc _) hI (rP.alloc _) hP (rY.alloc _) hm).mono ?_
  rintro e w1 ⟨he, b1⟩
  have hq := box_q b1
  have d1 := bbox1 b1
  clear b1
  have kk0 := blk_cell hq 0
  have kk1 := blk_cell hq 1
  have kk2 := blk_cell hq 2
  have kk3 := blk_cell hq 3
  have kk4 := blk_cell hq 4
  have kk5 := blk_cell hq 5
  rcases pcZ_cases S L H C xI xP ys with ⟨hz, hpc⟩ | hz | hz
  · have HF : Hid (waF S L H C xI xP ys = (watF S xI ys m, 0)) := hd (by unfold waF; rw [if_pos hz, LY.out])
    obtain ⟨hv, hl, hy⟩ := hpc.use LY.out LI.out
    rw [hz] at he
    have HL := hd hl
    clear hz hpc hl
    subst he
    go_wp2_with fail
    refine (after_calls S L H C aI nI cI xI aP nP cP xP b m d ys _ (rI.below d1) hI (rP.below d1) hP (rY.below d1) hm hv HL.out hy).mono ?_
    rintro e w2 ⟨A, c', rfl, ho, b2⟩
    go_wp2_with fail
    go_ret2
    exact ⟨A, m, c', ret_sli (by rw [HF.out]), by rw [HF.out]; exact ho.mono d1.size (Nat.le_refl _), hm, bnext d1 b2 (Nat.le_refl _)⟩
  · have HF : Hid (waF S L H C xI xP ys = ([], 1)) := hd (by unfold waF; rw [if_neg (by omega), hz])
    rw [hz] at he
    clear hz
    subst he
    go_wp2_with fail
    go_ret2
    exact ⟨_, 0, 0, ret_sli (by rw [HF.out]), by rw [HF.out]; exact Own.empty w1 _ rfl d1.size (by simp), by omega, d1.alloc d1.size _⟩
  · have HF : Hid (waF S L H C xI xP ys = ([], 2)) := hd (by unfold waF; rw [if_neg (by omega), hz])
    rw [hz] at he
    clear hz
    subst he
    go_wp2_with fail
    go_ret2
    exact ⟨_, 0, 0, ret_sli (by rw [HF.out]), by rw [HF.out]; exact Own.empty w1 _ rfl d1.size (by simp), by omega, d1.alloc d1.size _⟩
theorem specWaterAfter_calls (S L H C : Int) (aI : Option Addr) (nI cI : Nat) (xI : List Int) (aP : Option Addr) (nP cP : Nat) (xP : List Int) (b : Option Addr) (m d : Nat) (ys : List Int) (w : World) (rI : RdInt64 w aI nI xI) (hI : nI ≤ 1048576) (rP : RdInt64 w aP nP xP) (hP : nP ≤ 1048576) (rY : RdInt64 w b m ys) (hm : m ≤ 1048576) :
    Calls Try.prog 27 #[.agg #[.int .i64 S, .int .i64 L, .int .i64 H, .int .i64 C, .slice aI nI cI, .slice aP nP cP], .slice b m d] w fun e w' => ∃ A m c, e = .returned (.tuple #[.slice A m c, .int .i64 (waF S L H C xI xP ys).2]) ∧ Own 1 ci 2 w' w.heap.size w'.heap.size A m c (waF S L H C xI xP ys).1 ∧ m ≤ 1048576 ∧ Below w.heap.size w w' := by
  have LI := hd rI.len
  have LY := hd rY.len
  go_enter Try.func27, Try.ntmps27
  go_wp2_with fail
  refine (l15Code_calls _ S L H C aI nI cI xI aP nP cP xP b m d ys _ (heap_alloc_new w _) (rI.alloc _) hI (rP.alloc _) hP (rY.alloc _) hm).mono ?_
  rintro e w1 ⟨he, b1⟩
  have hq := box_q b1
  have d1 := bbox1 b1
  clear b1
  have kk0 := blk_cell hq 0
  have kk1 := blk_cell hq 1
  have kk2 := blk_cell hq 2
  have kk3 := blk_cell hq 3
  have kk4 := blk_cell hq 4
  have kk5 := blk_cell hq 5
  rcases pcZ_cases S L H C xI xP ys with ⟨hz, hpc⟩ | hz | hz
  · have HF : Hid (waF S L H C xI xP ys = (watF S xI ys m, 0)) := hd (by unfold waF; rw [if_pos hz, LY.out])
    obtain ⟨hv, hl, hy⟩ := hpc.use LY.out LI.out
    rw [hz] at he
    have HL := hd hl
    clear hz hpc hl
    subst he
    go_wp2_with fail
    refine (l15Water_calls _ S L H C aI nI cI xI aP nP cP xP b m d ys _ hq (rI.below d1) hI (rP.below d1) hP (rY.below d1) hm hv HL.out hy).mono ?_
    rintro e w2 ⟨A, c', rfl, ho, b2⟩
    go_wp2_with fail
    go_ret2
    exact ⟨A, m, c', ret_sli (by rw [HF.out]), by rw [HF.out]; exact ho.mono d1.size (Nat.le_refl _), hm, bnext d1 b2 (Nat.le_refl _)⟩
  · have HF : Hid (waF S L H C xI xP ys = ([], 1)) := hd (by unfold waF; rw [if_neg (by omega), hz])
    rw [hz] at he
    clear hz
    subst he
    go_wp2_with fail
    go_ret2
    exact ⟨none, 0, 0, ret_sli (by rw [HF.out]), by rw [HF.out]; exact Own.nil_, by omega, d1⟩
  · have HF : Hid (waF S L H C xI xP ys = ([], 2)) := hd (by unfold waF; rw [if_neg (by omega), hz])
    rw [hz] at he
    clear hz
    subst he
    go_wp2_with fail
    go_ret2
    exact ⟨none, 0, 0, ret_sli (by rw [HF.out]), by rw [HF.out]; exact Own.nil_, by omega, d1⟩
theorem IsPumpPlan_calls (S L H C : Int) (aI : Option Addr) (nI cI : Nat) (xI : List Int) (aP : Option Addr) (nP cP : Nat) (xP : List Int) (b : Option Addr) (m d : Nat) (ys : List Int) (w : World) (rI : RdInt64 w aI nI xI) (hI : nI ≤ 1048576) (rP : RdInt64 w aP nP xP) (hP : nP ≤ 1048576) (rY : RdInt64 w b m ys) (hm : m ≤ 1048576) :
    Calls Try.prog 26 #[.agg #[.int .i64 S, .int .i64 L, .int .i64 H, .int .i64 C, .slice aI nI cI, .slice aP nP cP], .slice b m d] w fun e w' => e = .returned (.tuple #[.bool (ipF S L H C xI xP ys).1, .int .i64 (ipF S L H C xI xP ys).2]) ∧ Below w.heap.size w w' := by
  have LI := hd rI.len
  have LY := hd rY.len
  go_enter Try.func26, Try.ntmps26
  go_wp2_with fail
  refine (planCode_calls S L H C aI nI cI xI aP nP cP xP b m d ys _ (rI.alloc _) hI (rP.alloc _) hP (rY.alloc _) hm).mono ?_
  rintro e w1 ⟨he, b1⟩
  have hq := box_q b1
  have d1 := bbox1 b1
  clear b1
  have kk0 := blk_cell hq 0
  have kk1 := blk_cell hq 1
  have kk2 := blk_cell hq 2
  have kk3 := blk_cell hq 3
  have kk4 := blk_cell hq 4
  have kk5 := blk_cell hq 5
  rcases pcZ_cases S L H C xI xP ys with ⟨hz, hpc⟩ | hz | hz
  · have HF : Hid (ipF S L H C xI xP ys = (keepB S L H xI ys m, 0)) := hd (by unfold ipF; rw [if_pos hz, LY.out])
    obtain ⟨hv, hl, hy⟩ := hpc.use LY.out LI.out
    rw [hz] at he
    have HL := hd hl
    clear hz hpc hl
    subst he
    go_wp2_with fail
    refine (isPlan_calls S L H C aI nI cI xI aP nP cP xP b m d ys _ (rI.below d1) hI (rP.below d1) hP (rY.below d1) hm hv HL.out hy).mono ?_
    rintro e w2 ⟨rfl, b2⟩
    go_wp2_with fail
    go_ret2
    exact ⟨by rw [HF.out]; rfl, bnext d1 b2 (Nat.le_refl _)⟩
  · have HF : Hid (ipF S L H C xI xP ys = (false, 1)) := hd (by unfold ipF; rw [if_neg (by omega), hz])
    rw [hz] at he
    clear hz
    subst he
    go_wp2_with fail
    go_ret2
    exact ⟨by rw [HF.out]; rfl, d1⟩
  · have HF : Hid (ipF S L H C xI xP ys = (false, 2)) := hd (by unfold ipF; rw [if_neg (by omega), hz])
    rw [hz] at he
    clear hz
    subst he
    go_wp2_with fail
    go_ret2
    exact ⟨by rw [HF.out]; rfl, d1⟩
theorem specIsPumpPlan_calls (S L H C : Int) (aI : Option Addr) (nI cI : Nat) (xI : List Int) (aP : Option Addr) (nP cP : Nat) (xP : List Int) (b : Option Addr) (m d : Nat) (ys : List Int) (w : World) (rI : RdInt64 w aI nI xI) (hI : nI ≤ 1048576) (rP : RdInt64 w aP nP xP) (hP : nP ≤ 1048576) (rY : RdInt64 w b m ys) (hm : m ≤ 1048576) :
    Calls Try.prog 25 #[.agg #[.int .i64 S, .int .i64 L, .int .i64 H, .int .i64 C, .slice aI nI cI, .slice aP nP cP], .slice b m d] w fun e w' => e = .returned (.tuple #[.bool (ipF S L H C xI xP ys).1, .int .i64 (ipF S L H C xI xP ys).2]) ∧ Below w.heap.size w w' := by
  have LI := hd rI.len
  have LY := hd rY.len
  go_enter Try.func25, Try.ntmps25
  go_wp2_with fail
  refine (l15Code_calls _ S L H C aI nI cI xI aP nP cP xP b m d ys _ (heap_alloc_new w _) (rI.alloc _) hI (rP.alloc _) hP (rY.alloc _) hm).mono ?_
  rintro e w1 ⟨he, b1⟩
  have hq := box_q b1
  have d1 := bbox1 b1
  clear b1
  have kk0 := blk_cell hq 0
  have kk1 := blk_cell hq 1
  have kk2 := blk_cell hq 2
  have kk3 := blk_cell hq 3
  have kk4 := blk_cell hq 4
  have kk5 := blk_cell hq 5
  rcases pcZ_cases S L H C xI xP ys with ⟨hz, hpc⟩ | hz | hz
  · have HF : Hid (ipF S L H C xI xP ys = (keepB S L H xI ys m, 0)) := hd (by unfold ipF; rw [if_pos hz, LY.out])
    obtain ⟨hv, hl, hy⟩ := hpc.use LY.out LI.out
    rw [hz] at he
    have HL := hd hl
    clear hz hpc hl
    subst he
    go_wp2_with fail
    refine (l15Keeps_calls _ S L H C aI nI cI xI aP nP cP xP b m d ys _ hq (rI.below d1) hI (rP.below d1) hP (rY.below d1) hm hv HL.out hy).mono ?_
    rintro e w2 ⟨rfl, b2⟩
    go_wp2_with fail
    go_ret2
    exact ⟨by rw [HF.out]; rfl, bnext d1 b2 (Nat.le_refl _)⟩
  · have HF : Hid (ipF S L H C xI xP ys = (false, 1)) := hd (by unfold ipF; rw [if_neg (by omega), hz])
    rw [hz] at he
    clear hz
    subst he
    go_wp2_with fail
    go_ret2
    exact ⟨by rw [HF.out]; rfl, d1⟩
  · have HF : Hid (ipF S L H C xI xP ys = (false, 2)) := hd (by unfold ipF; rw [if_neg (by omega), hz])
    rw [hz] at he
    clear hz
    subst he
    go_wp2_with fail
    go_ret2
    exact ⟨by rw [HF.out]; rfl, d1⟩
theorem CostOfPlan_calls (S L H C : Int) (aI : Option Addr) (nI cI : Nat) (xI : List Int) (aP : Option Addr) (nP cP : Nat) (xP : List Int) (b : Option Addr) (m d : Nat) (ys : List Int) (w : World) (rI : RdInt64 w aI nI xI) (hI : nI ≤ 1048576) (rP : RdInt64 w aP nP xP) (hP : nP ≤ 1048576) (rY : RdInt64 w b m ys) (hm : m ≤ 1048576) :
    Calls Try.prog 23 #[.agg #[.int .i64 S, .int .i64 L, .int .i64 H, .int .i64 C, .slice aI nI cI, .slice aP nP cP], .slice b m d] w fun e w' => e = .returned (.tuple #[.int .i64 (coF S L H C xI xP ys).1, .int .i64 (coF S L H C xI xP ys).2]) ∧ Below w.heap.size w w' := by
  have LI := hd rI.len
  have LY := hd rY.len
  go_enter Try.func23, Try.ntmps23
  go_wp2_with fail
  refine (planCode_calls S L H C aI nI cI xI aP nP cP xP b m d ys _ (rI.alloc _) hI (rP.alloc _) hP (rY.alloc _) hm).mono ?_
  rintro e w1 ⟨he, b1⟩
  have hq := box_q b1
  have d1 := bbox1 b1
  clear b1
  have kk0 := blk_cell hq 0
  have kk1 := blk_cell hq 1
  have kk2 := blk_cell hq 2
  have kk3 := blk_cell hq 3
  have kk4 := blk_cell hq 4
  have kk5 := blk_cell hq 5
  rcases pcZ_cases S L H C xI xP ys with ⟨hz, hpc⟩ | hz | hz
  · have HF : Hid (coF S L H C xI xP ys = (costZ xP ys m, 0)) := hd (by unfold coF; rw [if_pos hz, LY.out])
    obtain ⟨hv, hl, hy⟩ := hpc.use LY.out LI.out
    rw [hz] at he
    have HL := hd hl
    clear hz hpc hl
    subst he
    go_wp2_with fail
    refine (price_calls S L H C aI nI cI xI aP nP cP xP b m d ys _ (rI.below d1) hI (rP.below d1) hP (rY.below d1) hm hv HL.out hy).mono ?_
    rintro e w2 ⟨rfl, b2⟩
    go_wp2_with fail
    go_ret2
    exact ⟨by rw [HF.out]; rfl, bnext d1 b2 (Nat.le_refl _)⟩
  · have HF : Hid (coF S L H C xI xP ys = (0, 1)) := hd (by unfold coF; rw [if_neg (by omega), hz])
    rw [hz] at he
    clear hz
    subst he
    go_wp2_with fail
    go_ret2
    exact ⟨by rw [HF.out]; rfl, d1⟩
  · have HF : Hid (coF S L H C xI xP ys = (0, 2)) := hd (by unfold coF; rw [if_neg (by omega), hz])
    rw [hz] at he
    clear hz
    subst he
    go_wp2_with fail
    go_ret2
    exact ⟨by rw [HF.out]; rfl, d1⟩
theorem specCostOfPlan_calls (S L H C : Int) (aI : Option Addr) (nI cI : Nat) (xI : List Int) (aP : Option Addr) (nP cP : Nat) (xP : List Int) (b : Option Addr) (m d : Nat) (ys : List Int) (w : World) (rI : RdInt64 w aI nI xI) (hI : nI ≤ 1048576) (rP : RdInt64 w aP nP xP) (hP : nP ≤ 1048576) (rY : RdInt64 w b m ys) (hm : m ≤ 1048576) :
    Calls Try.prog 21 #[.agg #[.int .i64 S, .int .i64 L, .int .i64 H, .int .i64 C, .slice aI nI cI, .slice aP nP cP], .slice b m d] w fun e w' => e = .returned (.tuple #[.int .i64 (coF S L H C xI xP ys).1, .int .i64 (coF S L H C xI xP ys).2]) ∧ Below w.heap.size w w' := by
  have LI := hd rI.len
  have LY := hd rY.len
  go_enter Try.func21, Try.ntmps21
  go_wp2_with fail
  refine (l15Code_calls _ S L H C aI nI cI xI aP nP cP xP b m d ys _ (heap_alloc_new w _) (rI.alloc _) hI (rP.alloc _) hP (rY.alloc _) hm).mono ?_
  rintro e w1 ⟨he, b1⟩
  have hq := box_q b1
  have d1 := bbox1 b1
  clear b1
  have kk0 := blk_cell hq 0
  have kk1 := blk_cell hq 1
  have kk2 := blk_cell hq 2
  have kk3 := blk_cell hq 3
  have kk4 := blk_cell hq 4
  have kk5 := blk_cell hq 5
  rcases pcZ_cases S L H C xI xP ys with ⟨hz, hpc⟩ | hz | hz
  · have HF : Hid (coF S L H C xI xP ys = (costZ xP ys m, 0)) := hd (by unfold coF; rw [if_pos hz, LY.out])
    obtain ⟨hv, hl, hy⟩ := hpc.use LY.out LI.out
    rw [hz] at he
    have HL := hd hl
    clear hz hpc hl
    subst he
    go_wp2_with fail
    refine (l15Cost_calls _ S L H C aI nI cI xI aP nP cP xP b m d ys _ hq (rI.below d1) hI (rP.below d1) hP (rY.below d1) hm hv HL.out hy).mono ?_
    rintro e w2 ⟨rfl, b2⟩
    go_wp2_with fail
    go_ret2
    exact ⟨by rw [HF.out]; rfl, bnext d1 b2 (Nat.le_refl _)⟩
  · have HF : Hid (coF S L H C xI xP ys = (0, 1)) := hd (by unfold coF; rw [if_neg (by omega), hz])
    rw [hz] at he
    clear hz
    subst he
    go_wp2_with fail
    go_ret2
    exact ⟨by rw [HF.out]; rfl, d1⟩
  · have HF : Hid (coF S L H C xI xP ys = (0, 2)) := hd (by unfold coF; rw [if_neg (by omega), hz])
    rw [hz] at he
    clear hz
    subst he
    go_wp2_with fail
    go_ret2
    exact ⟨by rw [HF.out]; rfl, d1⟩
end Go.Proofs.Ythabjlhfidcnoaa
