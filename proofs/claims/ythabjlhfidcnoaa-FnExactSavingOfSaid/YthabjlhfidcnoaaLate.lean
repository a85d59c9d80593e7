/- The plan as late as possible, by the reference. -/
import Derived.Test.YthabjlhfidcnoaaPump4
import Derived.Test.YthabjlhfidcnoaaPlan2
import Derived.Deep.DeepCutAuto
namespace Go.Proofs.Ythabjlhfidcnoaa
open Go.RowKit
set_option linter.unusedVariables false

theorem topF_ge {H C : Int} (hc : 0 ≤ C) : ∀ (xs : List Int), xs.all unB = true → H - 40 * xs.length ≤ topF H C xs := by
  intro xs
  induction xs with
  | nil => intro _; simp [topF]
  | cons x xs ih =>
    intro h
    simp only [List.all_cons, Bool.and_eq_true] at h
    have hu := unB_iff.1 h.1
    have := ih h.2
    simp only [topF, List.length_cons]
    omega
theorem drop_all {xs : List Int} {p : Int → Bool} (h : xs.all p = true) (k : Nat) : (xs.drop k).all p = true := by
  rw [List.all_eq_true] at h ⊢
  intro x hx
  exact h x (List.mem_of_mem_drop hx)
def topAt (H C : Int) (xs : List Int) (k : Nat) : Int := topF H C (xs.drop k)
theorem topAt_end {H C : Int} {xs : List Int} {k : Nat} (h : xs.length ≤ k) : topAt H C xs k = H := by
  unfold topAt
  rw [List.drop_eq_nil_of_le h]
  rfl
theorem topAt_next {H C : Int} {xs : List Int} {k : Nat} {x : Int} (h : xs[k]? = some x) : topAt H C xs k = min H (topAt H C xs (k + 1) + C - x) := by
  unfold topAt
  rw [drop_cons h]
  rfl
theorem topAt_bd {H C : Int} {xs : List Int} (hc : 0 ≤ C) (h0 : 0 ≤ H) (h1 : H ≤ 300) (hu : xs.all unB = true) (hn : xs.length ≤ 48) (k : Nat) : -2000 ≤ topAt H C xs k ∧ topAt H C xs k ≤ 300 := by
  have a := topF_le H C (xs.drop k)
  have b := topF_ge (H := H) hc (xs.drop k) (drop_all hu k)
  rw [List.length_drop] at b
  unfold topAt
  omega
def tops (H C : Int) (xs : List Int) (n : Nat) : List Int := (List.range n).map (topAt H C xs)
theorem tops_get {H C : Int} {xs : List Int} {n k : Nat} (h : k < n) : (tops H C xs n)[k]? = some (topAt H C xs k) := by
  unfold tops
  rw [List.getElem?_map, List.getElem?_range h]
  rfl
def lessZ (a b : Int) : Int := if a < b then a else b
def moreZ' (a b : Int) : Int := if b < a then a else b
theorem l00Min_calls (a b : Int) (w : World) : Calls Try.prog 70 #[.int .i64 a, .int .i64 b] w fun e w' => e = .returned (.int .i64 (min a b)) ∧ w = w' := by
  by_cases h : a < b
  · have K := hd (show min a b = a by omega)
    go_enter Try.func70, Try.ntmps70
    go_wp2
    go_ret
    exact ⟨ret_int K.out.symm, rfl⟩
  · have K := hd (show min a b = b by omega)
    go_enter Try.func70, Try.ntmps70
    go_wp2
    go_ret
    exact ⟨ret_int K.out.symm, rfl⟩
theorem l00Max_calls' (a b : Int) (w : World) : Calls Try.prog 68 #[.int .i64 a, .int .i64 b] w fun e w' => e = .returned (.int .i64 (max a b)) ∧ w = w' := by
  by_cases h : b < a
  · have K := hd (show max a b = a by omega)
    go_enter Try.func68, Try.ntmps68
    go_wp2
    go_ret
    exact ⟨ret_int K.out.symm, rfl⟩
  · have K := hd (show max a b = b by omega)
    go_enter Try.func68, Try.ntmps68
    go_wp2
    go_ret
    exact ⟨ret_int K.out.symm, rfl⟩
set_option maxRecDepth 100000 in
set_option maxHeartbeats 1000000 in
theorem l15Tops_calls (gP : Nat) (S L H C : Int) (aI : Option Addr) (nI cI : Nat) (xI : List Int) (aP : Option Addr) (nP cP : Nat) (xP : List Int) (w : World) (hgb : w.heap[gP]? = some (pmC S L H C aI nI cI aP nP cP)) (rI : RdInt64 w aI nI xI) (hI : nI ≤ 1048576) (rP : RdInt64 w aP nP xP) (hP : nP ≤ 1048576) (hv : VP S L H C xI xP) :
    Calls Try.prog 67 #[.pointer (some ⟨gP, 0, none⟩), .int .i64 C] w fun e w' => ∃ A c, e = .returned (.slice A (nI + 1) c) ∧ RdInt64 w' A (nI + 1) (tops H C xI (nI + 1)) ∧ Below w.heap.size w w' := by
  have LI := hd rI.len
  have v0 := hv.l0
  have v1 := hv.ls
  have v2 := hv.sh
  have v3 := hv.h1
  have v4 := hv.c0
  have v5 := hv.c1
  have HU := hd hv.un
  have v6 := hv.n48
  have HTB : Hid (∀ k, -2000 ≤ topAt H C xI k ∧ topAt H C xI k ≤ 300) := hd (fun k => topAt_bd v4 (by omega) v3 hv.un v6 k)
  rw [LI.out] at v6
  clear hv
  obtain ⟨i0, hi, hz0, hz1, hz2⟩ := info_parts infoInt64
  have hgl := blk_lt hgb
  have HGP := hd hgb
  have kb4 := blk_cell hgb 4
  clear hgb
  go_enter Try.func67, Try.ntmps67
  go_wp2_with (at_make; refine wpList_make_full _ rfl _ _ 22 rfl w.heap.size 2 i0 _ 1 Try.underlying22 hi hz0 hz1 _ _ _ _ (nI + 1) rfl rfl (by omega) (by omega) (by rw [hz2]; omega) (by unfold maxLen; omega) (Nat.le_refl _) ?_)
  intro w1 hown hgrow
  obtain ⟨cur0, hB0, hg0, hs0, _, _, _⟩ := own_head hown
  have d1 : Below w.heap.size w w1 := (Below.refl _ _).grown hgrow (Nat.le_refl _) (by simp)
  have hg1 := blk_lt hg0
  obtain ⟨g, hgg⟩ : ∃ g, w.heap.size = g := ⟨_, rfl⟩
  have hgw : w.heap.size ≤ g := Nat.le_of_eq hgg
  rw [hgg] at hg0 hg1 ⊢
  clear hown hgrow hB0 hgg kb4
  have hgb := blk_below HGP.out d1 hgl
  have kb2 := blk_cell hgb 2
  obtain ⟨v, hvn⟩ := get_of_lt (cur := cur0) (i := nI) (by omega)
  have kv := (blk_cell hg0 nI).trans hvn
  have zv := blk_free hg0 nI
  have hg2 := blk_set hg0 nI (.int .i64 H)
  have d2 := d1.setCell (show w.heap.size ≤ (⟨g, nI, none⟩ : Addr).block by simp; omega) (.int .i64 H)
  have T0 : ∀ j, nI ≤ j → j ≤ nI → (cur0.setIfInBounds nI (.int .i64 H))[j]? = some (.int .i64 (topAt H C xI j)) := by
    intro j a b
    obtain rfl : j = nI := by omega
    rw [Array.getElem?_setIfInBounds_self_of_lt (by omega), topAt_end (by rw [LI.out]; exact Nat.le_refl _)]
  have HT0 := hd T0
  have HG2 := hd hg2
  clear hg0 hvn T0 hg2
  go_wp2_with fail
  clear kv zv kb2 hgb
  go_loopw [7] (fun i wr => ∃ k : Nat, k ≤ nI ∧ i = .int .i64 ((k : Int) - 1) ∧ ∃ cc, wr.heap[g]? = some (.cells cc 2 (0, 0)) ∧ cc.size = nI + 1 ∧ (∀ j, k ≤ j → j ≤ nI → cc[j]? = some (.int .i64 (topAt H C xI j))) ∧ Below w.heap.size w wr) (fun i _ => (intOf i + 1).toNat)
  case atStart => exact ⟨nI, Nat.le_refl _, rfl, _, HG2.out, by simp; omega, HT0.out, d2⟩
  case round =>
    clear HG2 HT0 d2
    obtain ⟨k, hk, rfl, cc, hg, hs, hT, hb⟩ := hrel
    have HT := hd hT
    have HS := hd hs
    have HG := hd hg
    have hgb := blk_below HGP.out hb hgl
    have kb2 := blk_cell hgb 2
    have kb4 := blk_cell hgb 4
    clear hT hs hg hgb
    by_cases hk0 : k = 0
    · subst hk0
      have hh : Has 1 ci cc (nI + 1) (tops H C xI (nI + 1)) := by
        intro i x hi' hx j v hv
        rw [tops_get hi'] at hx
        obtain rfl := Option.some.inj hx
        obtain rfl : j = 0 := by have := lt_of_get hv; simp [ci] at this; omega
        simp [ci] at hv
        subst hv
        rw [Nat.mul_one, Nat.add_zero]
        exact HT.out i (Nat.zero_le _) (by omega)
      have ow : wr.ownsRow g 2 1 (.slice (some ⟨g, 0, none⟩) (nI + 1) (nI + 1)) (nI + 1) ((tops H C xI (nI + 1)).flatMap ci) := own_of_has len_ci (Nat.le_refl _) HG.out (by rw [HS.out, Nat.mul_one]) (Nat.le_refl _) (by unfold maxLen; omega) (by simp [tops]) hh
      have RR := hd (Rd.of_own len_ci (by simp [tops]) ow)
      clear hh ow
      go_wp2_with fail
      go_ret
      exact ⟨_, _, rfl, RR.out, hb⟩
    · obtain ⟨hr, rfl⟩ : ∃ hr, k = hr + 1 := ⟨k - 1, by omega⟩
      have hlt : hr < nI := by omega
      have e1 : (((hr + 1 : Nat) : Int) - 1) = (hr : Int) := by omega
      rw [e1]
      clear e1 hk0
      obtain ⟨bX, oX, x0, rfl, hblX, hx, hcX⟩ := getInt64 (rI.below hb) hlt
      obtain ⟨hx0, hx1⟩ := unB_iff.1 (all_at_ HU.out hx)
      have hn := topAt_next (H := H) (C := C) hx
      clear hx
      have kn := (blk_cell HG.out (hr + 1)).trans (HT.out (hr + 1) (Nat.le_refl _) (by omega))
      obtain ⟨vv, hvv⟩ := get_of_lt (cur := cc) (i := hr) (by rw [HS.out]; omega)
      have kv := (blk_cell HG.out hr).trans hvv
      have zv := blk_free HG.out hr
      clear hvv
      obtain ⟨t0, t1⟩ := HTB.out (hr + 1)
      have HN := hd hn
      clear hn
      obtain ⟨z, hz⟩ : ∃ z, topAt H C xI (hr + 1) = z := ⟨_, rfl⟩
      rw [hz] at kn t0 t1 HN
      have HZ := hd hz
      clear hz
      have hr0 : (0 : Int) ≤ (hr : Int) := by omega
      have hr2 : (0 : Int) ≤ (hr : Int) + 1 := by omega
      have hr3 : (hr : Int) + 1 < (nI : Int) + 1 := by omega
      have hr4 : (hr : Int) < (nI : Int) + 1 := by omega
      have hr5 : (hr : Int) < (nI : Int) := by omega
      have s1 : IntKind.i64.wrap (z + C) = z + C := IntWalk.i64_in _ (by omega)
      have s2 : IntKind.i64.wrap (z + C - x0) = z + C - x0 := IntWalk.i64_in _ (by omega)
      have s3 : IntKind.i64.wrap ((hr : Int) + 1) = (hr : Int) + 1 := IntWalk.i64_in _ (by omega)
      go_wp2_with fail
      go_still_tail 23, (by kernel_rfl)
      still_call ((l00Min_calls _ _ _).mono (fun _ _ h => ⟨h.1, h.2.symm⟩))
      repeat still_step
      refine wpStill_nil ?_
      change wpList _ _ _ _ _ wr.drew
      have hb2 : Below w.heap.size w wr.drew := hb.drew
      have hgd : wr.drew.heap[g]? = some (.cells cc 2 (0, 0)) := HG.out
      generalize wr.drew = w2 at hb2 hgd ⊢
      clear kn kv zv kb2 kb4 hcX
      have kv := (blk_cell hgd hr)
      have zv := blk_free hgd hr
      obtain ⟨vv, hvv⟩ := get_of_lt (cur := cc) (i := hr) (by rw [HS.out]; omega)
      rw [hvv] at kv
      have HV := hd hvv
      clear hvv
      have hg3 := blk_set hgd hr (.int .i64 (min H (z + C - x0)))
      have hb3 := hb2.setCell (show w.heap.size ≤ (⟨g, hr, none⟩ : Addr).block by simp; omega) (.int .i64 (min H (z + C - x0)))
      have HG3 := hd hg3
      clear hg3 hgd
      go_wp2_with fail
      go_roundw
      case rel =>
        refine ⟨hr, by omega, by go_num, _, HG3.out, by simp [HS.out], ?_, hb3⟩
        intro j a b
        by_cases hj : j = hr
        · subst hj
          rw [Array.getElem?_setIfInBounds_self_of_lt (by rw [HS.out]; omega), HN.out]
        · rw [Array.getElem?_setIfInBounds_ne (by omega)]
          exact HT.out j (by omega) b
      case measure => simp [intOf] <;> omega
end Go.Proofs.Ythabjlhfidcnoaa
