/- The plan as late as possible, by the reference, continued. -/
import Derived.Test.YthabjlhfidcnoaaLate
import Derived.Test.YthabjlhfidcnoaaPump6
import Derived.Test.YthabjlhfidcnoaaLp2
import Derived.Deep.DeepCutAuto
namespace Go.Proofs.Ythabjlhfidcnoaa
open Go.RowKit
set_option linter.unusedVariables false

def ltF (S L H C : Int) (xI : List Int) : Option (List Int) := if topF H C xI < S then none else latF L H C xI S
theorem lat_next {L H C : Int} {xs : List Int} {k : Nat} {x w u : Int} (hx : xs[k]? = some x) (hu : max 0 (w + x - topAt H C xs (k + 1)) = u) (h : ¬ w + x - u < L) : latF L H C (xs.drop k) w = (latF L H C (xs.drop (k + 1)) (w + x - u)).map (u :: ·) := by
  unfold topAt at hu
  rw [drop_cons hx]
  simp only [latF]
  rw [hu, if_neg h]
theorem lat_stop {L H C : Int} {xs : List Int} {k : Nat} {x w u : Int} (hx : xs[k]? = some x) (hu : max 0 (w + x - topAt H C xs (k + 1)) = u) (h : w + x - u < L) : latF L H C (xs.drop k) w = none := by
  unfold topAt at hu
  rw [drop_cons hx]
  simp only [latF]
  rw [hu, if_pos h]
def sB (x : Int) : Bool := inB x 0 4000
theorem lat_bd {L H C : Int} (hc : 0 ≤ C) (h0 : 0 ≤ H) (h1 : H ≤ 300) : ∀ (xs : List Int) (w : Int) (l : List Int), xs.all unB = true → xs.length ≤ 48 → w ≤ H → latF L H C xs w = some l → l.all sB = true ∧ l.length = xs.length := by
  intro xs
  induction xs with
  | nil => intro w l _ _ _ h; simp [latF] at h; subst h; simp
  | cons x xs ih =>
    intro w l hx hn hw h
    simp only [List.all_cons, Bool.and_eq_true] at hx
    have hu := unB_iff.1 hx.1
    have t1 := topF_le H C xs
    have t2 := topF_ge (H := H) hc xs hx.2
    simp only [List.length_cons] at hn
    simp only [latF] at h
    split at h
    · exact absurd h (by simp)
    · cases hr : latF L H C xs (w + x - max 0 (w + x - topF H C xs)) with
      | none => rw [hr] at h; simp at h
      | some l' =>
        rw [hr] at h
        simp only [Option.map_some, Option.some.injEq] at h
        subst h
        have := ih _ l' hx.2 (by omega) (by omega) hr
        refine ⟨?_, by simp [this.2]⟩
        simp only [List.all_cons, Bool.and_eq_true]
        exact ⟨inB_iff.2 (by omega), this.1⟩
theorem lt_bd {S L H C : Int} {xI xP l : List Int} (hv : VP S L H C xI xP) (h : ltF S L H C xI = some l) : l.all sB = true ∧ l.length = xI.length := by
  unfold ltF at h
  split at h
  · cases h
  · exact lat_bd hv.c0 (by have := hv.l0; have := hv.ls; have := hv.sh; omega) hv.h1 xI S l hv.un hv.n48 hv.sh h
theorem l00Max_callsB {a b u : Int} (h : max a b = u) (w : World) : Calls Try.prog 68 #[.int .i64 a, .int .i64 b] w fun e w' => e = .returned (.int .i64 u) ∧ w = w' := h ▸ l00Max_calls' a b w
theorem ret_slb {A : Option Addr} {n c : Nat} {x y : Bool} (h : x = y) : Ending.returned (.tuple #[.slice A n c, .bool x]) = .returned (.tuple #[.slice A n c, .bool y]) := by rw [h]
set_option maxRecDepth 100000 in
set_option maxHeartbeats 1000000 in
theorem l15Latest_calls (gP : Nat) (S L H C : Int) (aI : Option Addr) (nI cI : Nat) (xI : List Int) (aP : Option Addr) (nP cP : Nat) (xP : List Int) (w : World) (hgb : w.heap[gP]? = some (pmC S L H C aI nI cI aP nP cP)) (rI : RdInt64 w aI nI xI) (hI : nI ≤ 1048576) (rP : RdInt64 w aP nP xP) (hP : nP ≤ 1048576) (hv : VP S L H C xI xP) :
    Calls Try.prog 59 #[.pointer (some ⟨gP, 0, none⟩)] w fun e w' => ∃ A m c, e = .returned (.tuple #[.slice A m c, .bool (ltF S L H C xI).isSome]) ∧ Own 1 ci 2 w' w.heap.size w'.heap.size A m c ((ltF S L H C xI).getD []) ∧ m ≤ 1048576 ∧ Below w.heap.size w w' := by
  have LI := hd rI.len
  have v0 := hv.l0
  have v1 := hv.ls
  have v2 := hv.sh
  have v3 := hv.h1
  have v4 := hv.c0
  have v5 := hv.c1
  have HU := hd hv.un
  have HVP := hd hv
  have v6 := hv.n48
  have HTB : Hid (∀ k, -2000 ≤ topAt H C xI k ∧ topAt H C xI k ≤ 300) := hd (fun k => topAt_bd v4 (by omega) v3 hv.un v6 k)
  rw [LI.out] at v6
  clear hv
  obtain ⟨i0, hi, hz0, hz1, hz2⟩ := info_parts infoInt64
  have hgl := blk_lt hgb
  have HGP := hd hgb
  have kb3 := blk_cell hgb 3
  clear hgb
  go_enter Try.func59, Try.ntmps59
  go_wp2_with fail
  refine (l15Tops_calls gP S L H C aI nI cI xI aP nP cP xP _ HGP.out rI hI rP hP HVP.out).mono ?_
  rintro e w1 ⟨AT, cT, rfl, rT, d1⟩
  have hgb := blk_below HGP.out d1 hgl
  have kb0 := blk_cell hgb 0
  clear kb3 hgb
  obtain ⟨bT, oT, t0, rfl, hblT, hx0, hcT⟩ := getInt64 rT (show 0 < nI + 1 by omega)
  rw [tops_get (by omega)] at hx0
  have ht0 : topAt H C xI 0 = t0 := Option.some.inj hx0
  have ht0' : topF H C xI = t0 := ht0
  obtain ⟨tb0, tb1⟩ := HTB.out 0
  rw [ht0] at tb0 tb1
  simp only [Nat.add_zero] at hcT
  have q1 : (0 : Int) < (nI : Int) + 1 := by omega
  clear hx0 ht0
  by_cases hov : t0 < S
  · have F : Hid (ltF S L H C xI = none) := hd (by unfold ltF; rw [ht0', if_pos hov])
    clear ht0'
    go_wp2_with fail
    go_quiet (fail)
    generalize hD : w1.drewN _ = V5
    have d5 : Below w.heap.size w V5 := hD ▸ below_drewN d1 _
    clear hD hcT kb0
    go_wp2_with fail
    go_ret2
    exact ⟨none, 0, 0, ret_slb (by rw [F.out]; rfl), by rw [F.out]; exact Own.nil_, by omega, d5⟩
  · have F : Hid (ltF S L H C xI = latF L H C xI S) := hd (by unfold ltF; rw [ht0', if_neg hov])
    clear ht0'
    go_wp2_with fail
    go_quiet (fail)
    generalize hD : w1.drewN _ = V5
    have d5 : Below w.heap.size w V5 := hD ▸ below_drewN d1 _
    have b15 : Below w1.heap.size w1 V5 := hD ▸ below_drewN (Below.refl _ _) _
    have RT5 := hd (rT.below b15)
    clear hD hcT kb0 rT b15
    obtain ⟨gL, hgL⟩ : ∃ gL, gL = V5.heap.size := ⟨_, rfl⟩
    have s5 := d5.size
    have he := Own.empty (E := 2) (sz := 1) (cs := ci) (L := gL) (U := V5.heap.size + 1) V5 #[] rfl (by omega) (by omega)
    have hgw : w.heap.size ≤ gL := by omega
    have HE := hd he
    have HGL := hd hgL
    have HBV5 : Hid (Below gL V5 (V5.alloc (.cells #[] 2))) := hd ((Below.refl _ _).alloc (by omega) _)
    have HD5 := hd (d5.alloc d5.size (.cells #[] 2))
    have hs6 : (V5.alloc (.cells #[] 2)).heap.size = V5.heap.size + 1 := by simp
    clear he hgL
    go_upto_region 5 with fail
    generalize V5.alloc (.cells #[] 2) = W6 at HE HBV5 HD5 hs6 ⊢
    have kb0 := blk_cell (blk_below HGP.out HD5.out hgl) 0
    go_wp2_with fail
    clear kb0
    go_loopw [5, 6, 7] (fun v t i wr => ∃ k : Nat, ∃ wn : Int, ∃ acc : List Int, k ≤ nI ∧ L ≤ wn ∧ wn ≤ H ∧ i = .int .i64 k ∧ t = .int .i64 wn ∧ ∃ A c, v = .slice A k c ∧ Own 1 ci 2 wr gL wr.heap.size A k c acc ∧ latF L H C xI S = (latF L H C (xI.drop k) wn).map (acc ++ ·) ∧ Below gL V5 wr ∧ gL ≤ wr.heap.size ∧ Below w.heap.size w wr) (fun _ _ i _ => nI - (intOf i).toNat)
    case atStart => exact ⟨0, S, [], Nat.zero_le _, v1, v2, rfl, rfl, _, 0, rfl, HE.out.mono (Nat.le_refl _) (by omega), by simp, HBV5.out, by have := HGL.out; omega, HD5.out⟩
    case round =>
      clear HE HBV5 HD5 d5 s5
      obtain ⟨k, wn, acc, hk, hwL, hwH, rfl, rfl, A, c', rfl, ho, hac, hbv, hgl3, hb⟩ := hrel
      have HO := hd ho
      have HAC := hd hac
      have HBV := hd hbv
      have HB := hd hb
      have RT := hd (RT5.out.below (by rw [← HGL.out]; exact hbv))
      obtain ⟨w3, hW⟩ : ∃ W, W = wr := ⟨_, rfl⟩
      subst hW
      have hgb := blk_below HGP.out hb hgl
      have kb1 := blk_cell hgb 1
      have kb4 := blk_cell hgb 4
      have HGB := hd hgb
      clear hgb ho hac hbv
      by_cases hlt : k < nI
      · obtain ⟨bX, oX, x0, rfl, hblX, hx, hcX⟩ := getInt64 (rI.below hb) hlt
        obtain ⟨hx0, hx1⟩ := unB_iff.1 (all_at_ HU.out hx)
        obtain ⟨bU, oU, tt, hAT, hblU, htt, hcU⟩ := getInt64 RT.out (show k + 1 < nI + 1 by omega)
        obtain ⟨rfl, rfl⟩ : bT = bU ∧ oT = oU := by simpa using hAT
        clear hAT
        rw [tops_get (by omega)] at htt
        obtain ⟨tb2, tb3⟩ := HTB.out (k + 1)
        have htt' : topAt H C xI (k + 1) = tt := Option.some.inj htt
        rw [htt'] at tb2 tb3
        have htH : tt ≤ H := by have := topF_le H C (xI.drop (k + 1)); unfold topAt at htt'; omega
        obtain ⟨u, hu⟩ : ∃ u, max 0 (wn + x0 - tt) = u := ⟨_, rfl⟩
        have hu' : max 0 (wn + x0 - topAt H C xI (k + 1)) = u := by rw [htt', hu]
        have hu0 : 0 ≤ u := by omega
        have hu1 : u ≤ 4000 := by omega
        have hu2 : wn + x0 - u ≤ tt := by omega
        have HUU := hd hu
        have q0 : (0 : Int) ≤ (k : Int) := by omega
        have q2 : (0 : Int) ≤ (k : Int) + 1 := by omega
        have q3 : (k : Int) + 1 < (nI : Int) + 1 := by omega
        have q4 : (k : Int) < (nI : Int) := by omega
        clear htt htt' hb
        by_cases hlow : wn + x0 - u < L
        · have F2 : Hid (ltF S L H C xI = none) := hd (by rw [F.out, HAC.out, lat_stop hx hu' hlow]; rfl)
          clear hx hu'
          go_wp2_with fail
          go_quiet ((go_at_call 68; with_reducible exact Calls.quiet_of_same ((l00Max_callsB HUU.out _).mono (fun _ _ h => ⟨h.1, h.2.symm⟩))))
          clear hu
          generalize hD : w3.drewN _ = W5
          have hb5 : Below w3.heap.size w3 W5 := hD ▸ below_drewN (Below.refl _ _) _
          have hb6 := bnext HB.out hb5 (Nat.le_refl _)
          have hg5 := blk_below HGB.out hb5 (blk_lt HGB.out)
          clear kb1 kb4
          have kb1 := blk_cell hg5 1
          have kb4 := blk_cell hg5 4
          have hcX := (hb5.cell (p := ⟨bX, oX + k, none⟩) hblX).trans hcX
          clear hD hg5
          go_wp2_with fail
          go_quiet (fail)
          go_wp2_with fail
          go_ret2
          exact ⟨none, 0, 0, ret_slb (by rw [F2.out]; rfl), by rw [F2.out]; exact Own.nil_, by omega, below_drewN hb6 _⟩
        · have Hn := hd (lat_next hx hu' hlow)
          clear hx hu'
          go_wp2_with fail
          go_quiet ((go_at_call 68; with_reducible exact Calls.quiet_of_same ((l00Max_callsB HUU.out _).mono (fun _ _ h => ⟨h.1, h.2.symm⟩))))
          clear hu
          generalize hD : w3.drewN _ = W5
          have hb5 : Below w3.heap.size w3 W5 := hD ▸ below_drewN (Below.refl _ _) _
          have hg5 := blk_below HGB.out hb5 (blk_lt HGB.out)
          clear kb1 kb4
          have kb1 := blk_cell hg5 1
          have kb4 := blk_cell hg5 4
          have hcX := (hb5.cell (p := ⟨bX, oX + k, none⟩) hblX).trans hcX
          have hcX5 := hcX
          clear hD
          go_wp2_with fail
          go_quiet (fail)
          generalize hD : W5.drewN _ = W7
          have hb7 : Below w3.heap.size w3 W7 := hD ▸ below_drewN hb5 _
          have hb57 : Below W5.heap.size W5 W7 := hD ▸ below_drewN (Below.refl _ _) _
          have hg7 := blk_below hg5 hb57 (blk_lt hg5)
          clear kb1 kb4 hcX hcU hD
          have kb4 := blk_cell hg7 4
          have hcX := (hb57.cell (p := ⟨bX, oX + k, none⟩) (World.block_lt_of_cell? _ _ hcX5)).trans hcX5
          clear hcX5 hg7 hg5 hb57 hb5
          have hb1 := bnext HB.out hb7 (Nat.le_refl _)
          have Ho1 := hd ((HO.out.below hb7).mono (Nat.le_refl _) hb7.size)
          have hv5 : Below gL V5 W7 := HBV.out.trans (hb7.mono hgl3)
          have hw7 : gL ≤ W7.heap.size := Nat.le_trans hgl3 hb7.size
          have hpq : latF L H C xI S = (latF L H C (xI.drop (k + 1)) (wn + (x0 - u))).map ((acc ++ [u]) ++ ·) := by
            rw [HAC.out, Hn.out, show wn + (x0 - u) = wn + x0 - u by omega, Option.map_map]
            congr 1
            funext l
            simp
          have HPQ := hd hpq
          clear hpq
          go_wp2_with (at_builtin; refine wpList_app _ rfl _ _ 22 rfl 2 i0 _ 1 8 Try.underlying22 hi hz0 hz1 hz2 rfl (by decide) len_ci one_ci gL W7.heap.size A k c' acc rfl (Ho1.out.alloc _) W7.heap.size (u : Int) rfl (app_new _ _ _) (by omega) (by unfold maxLen; omega) (by simp; omega) ?_)
          intro A' c'' w6 ho2 hg2
          have hb2 := below_app (hb1.alloc hb1.size _) (Ho1.out.alloc _) hg2 (Nat.le_refl _) (by omega)
          have hv6 := hd (below_app (hv5.alloc hw7 _) (Ho1.out.alloc _) hg2 (by have := HGL.out; omega) (Nat.le_refl _))
          have hgl6 : gL ≤ w6.heap.size := by have a1 := hg2.size; simp at a1; omega
          have Ho2 := hd ho2
          clear ho2 hg2
          go_wp2_with fail
          go_roundw
          case rel => exact ⟨k + 1, wn + (x0 - u), acc ++ [u], by omega, by omega, by omega, by go_num, rfl, A', c'', rfl, Ho2.out, HPQ.out, hv6.out, hgl6, hb2⟩
          case measure => simp [intOf]; omega
      · obtain rfl : k = nI := by omega
        have F2 : Hid (ltF S L H C xI = some acc) := hd (by rw [F.out, HAC.out, List.drop_eq_nil_of_le (by rw [LI.out]; exact Nat.le_refl _)]; simp [latF])
        go_wp2_with fail
        go_ret2
        exact ⟨A, k, c', ret_slb (by rw [F2.out]; rfl), by rw [F2.out]; exact HO.out.mono (by omega) (Nat.le_refl _), by omega, hb⟩
end Go.Proofs.Ythabjlhfidcnoaa
