/- Pumping: valid or not, and the code of a plan. -/
import Derived.Test.YthabjlhfidcnoaaPump
namespace Go.Proofs.Ythabjlhfidcnoaa
open Go.RowKit
set_option linter.unusedVariables false

theorem isUnits_calls (n : Int) (w : World) :
    Calls Try.prog 46 #[.int .i64 n] w fun e w' => e = .returned (.bool (unB n)) ∧ w = w' := by
  go_enter Try.func46, Try.ntmps46
  go_wp2_with (go_at_call 49; refine (in_calls _ _ _ _).mono ?_; rintro e w' ⟨rfl, rfl⟩)
  go_ret
  exact ⟨rfl, rfl⟩
theorem ValidPumping1_calls (n : Int) (w : World) :
    Calls Try.prog 48 #[.int .i64 n] w fun e w' => e = .returned (.bool (prB n)) ∧ w = w' := by
  go_enter Try.func48, Try.ntmps48
  go_wp2_with (go_at_call 49; refine (in_calls _ _ _ _).mono ?_; rintro e w' ⟨rfl, rfl⟩)
  go_ret
  exact ⟨rfl, rfl⟩
theorem ValidPumping_calls (S L H C : Int) (aI : Option Addr) (nI cI : Nat) (xI : List Int) (aP : Option Addr) (nP cP : Nat) (xP : List Int) (w : World) (rI : RdInt64 w aI nI xI) (hI : nI ≤ 1048576) (rP : RdInt64 w aP nP xP) (hP : nP ≤ 1048576) :
    Calls Try.prog 17 #[.agg #[.int .i64 S, .int .i64 L, .int .i64 H, .int .i64 C, .slice aI nI cI, .slice aP nP cP]] w fun e w' => e = .returned (.bool (vpB S L H C xI xP)) ∧ Below w.heap.size w w' := by
  have LI := hd rI.len
  have LP := hd rP.len
  have he1 := ent Try.func46 (by kernel_rfl) rfl
  have he2 := ent Try.func48 (by kernel_rfl) rfl
  by_cases g0 : 0 ≤ L
  case neg =>
    have F := hd (vp_not (C := C) (xs := xI) (ps := xP) (S := S) (L := L) (H := H) (fun v => by have := v.l0; have := v.ls; have := v.sh; have := v.h1; omega))
    go_enter Try.func17, Try.ntmps17
    go_wp2_with (go_at_call 46; refine (isUnits_calls _ _).mono ?_; rintro e w' ⟨rfl, rfl⟩)
    go_ret
    exact ⟨ret_bool (by rw [F.out]), by go_grown⟩
  by_cases g1 : L ≤ S
  case neg =>
    have F := hd (vp_not (C := C) (xs := xI) (ps := xP) (S := S) (L := L) (H := H) (fun v => by have := v.l0; have := v.ls; have := v.sh; have := v.h1; omega))
    go_enter Try.func17, Try.ntmps17
    go_wp2_with (go_at_call 46; refine (isUnits_calls _ _).mono ?_; rintro e w' ⟨rfl, rfl⟩)
    go_ret
    exact ⟨ret_bool (by rw [F.out]), by go_grown⟩
  by_cases g2 : S ≤ H
  case neg =>
    have F := hd (vp_not (C := C) (xs := xI) (ps := xP) (S := S) (L := L) (H := H) (fun v => by have := v.l0; have := v.ls; have := v.sh; have := v.h1; omega))
    go_enter Try.func17, Try.ntmps17
    go_wp2_with (go_at_call 46; refine (isUnits_calls _ _).mono ?_; rintro e w' ⟨rfl, rfl⟩)
    go_ret
    exact ⟨ret_bool (by rw [F.out]), by go_grown⟩
  by_cases g3 : H ≤ 300
  case neg =>
    have F := hd (vp_not (C := C) (xs := xI) (ps := xP) (S := S) (L := L) (H := H) (fun v => by have := v.l0; have := v.ls; have := v.sh; have := v.h1; omega))
    go_enter Try.func17, Try.ntmps17
    go_wp2_with (go_at_call 46; refine (isUnits_calls _ _).mono ?_; rintro e w' ⟨rfl, rfl⟩)
    go_ret
    exact ⟨ret_bool (by rw [F.out]), by go_grown⟩
  cases g4 : unB C
  · have F := hd (vp_f4 (S := S) (L := L) (H := H) (xs := xI) (ps := xP) g4)
    go_enter Try.func17, Try.ntmps17
    go_wp2_with (go_at_call 46; refine (isUnits_calls _ _).mono ?_; rintro e w' ⟨rfl, rfl⟩)
    go_ret
    exact ⟨ret_bool (by rw [F.out]), by go_grown⟩
  by_cases g5 : nI ≤ 48
  case neg =>
    have F := hd (vp_f8 (S := S) (L := L) (H := H) (C := C) (xs := xI) (ps := xP) (by rw [LI.out]; exact g5))
    go_enter Try.func17, Try.ntmps17
    go_wp2_with (go_at_call 46; refine (isUnits_calls _ _).mono ?_; rintro e w' ⟨rfl, rfl⟩)
    go_ret
    exact ⟨ret_bool (by rw [F.out]), by go_grown⟩
  by_cases g6 : nP = nI
  case neg =>
    have F := hd (vp_f7 (S := S) (L := L) (H := H) (C := C) (xs := xI) (ps := xP) (by rw [LI.out, LP.out]; exact g6))
    have hbe : ((nP : Int) == (nI : Int)) = false := by simp; omega
    go_enter Try.func17, Try.ntmps17
    go_wp2_with (go_at_call 46; refine (isUnits_calls _ _).mono ?_; rintro e w' ⟨rfl, rfl⟩)
    go_ret
    exact ⟨ret_bool (by rw [F.out]), by go_grown⟩
  subst g6
  have KT : Hid (xI.all unB = true → xP.all prB = true → vpB S L H C xI xP = true) := hd (fun a b => vp_iff.2 ⟨g0, g1, g2, g3, (unB_iff.1 g4).1, (unB_iff.1 g4).2, a, b, by rw [LI.out, LP.out], by rw [LI.out]; exact g5⟩)
  go_enter Try.func17, Try.ntmps17
  go_wp2_with (go_at_call 46; refine (isUnits_calls _ _).mono ?_; rintro e w' ⟨rfl, rfl⟩)
  refine (allInt64_calls 46 #[] unB _ _ _ _ _ (rI.alloc _) (by omega) he1 (fun z W _ => by rw [Array.append_empty]; exact (isUnits_calls z W).mono fun e w' ⟨h1, h2⟩ => ⟨h1, h2 ▸ Below.refl _ _⟩)).mono ?_
  rintro e w1 ⟨he, b1⟩
  have hq := box_q b1
  have d1 := bbox1 b1
  clear b1
  cases hu : xI.all unB
  · rw [hu] at he
    subst he
    have F := hd (vp_f5 (S := S) (L := L) (H := H) (C := C) (ps := xP) hu)
    clear hu
    go_wp2_with fail
    go_ret
    exact ⟨ret_bool (by rw [F.out]), d1⟩
  · rw [hu] at he
    subst he
    have k5 := blk_cell hq 5
    have HU := hd hu
    clear hu hq
    go_wp2_with fail
    refine (allInt64_calls 48 #[] prB _ _ _ _ _ (rP.below d1) (by omega) he2 (fun z W _ => by rw [Array.append_empty]; exact (ValidPumping1_calls z W).mono fun e w' ⟨h1, h2⟩ => ⟨h1, h2 ▸ Below.refl _ _⟩)).mono ?_
    rintro e w2 ⟨he, b2⟩
    have d2 := bnext d1 b2 (Nat.le_refl _)
    have F : Hid (xP.all prB = vpB S L H C xI xP) := by
      cases hv : xP.all prB
      · exact (vp_f6 hv).symm
      · exact (KT.out HU.out hv).symm
    subst he
    go_wp2_with fail
    go_ret
    exact ⟨ret_bool F.out, d2⟩
theorem specValidPumping_calls (S L H C : Int) (aI : Option Addr) (nI cI : Nat) (xI : List Int) (aP : Option Addr) (nP cP : Nat) (xP : List Int) (w : World) (rI : RdInt64 w aI nI xI) (hI : nI ≤ 1048576) (rP : RdInt64 w aP nP xP) (hP : nP ≤ 1048576) :
    Calls Try.prog 15 #[.agg #[.int .i64 S, .int .i64 L, .int .i64 H, .int .i64 C, .slice aI nI cI, .slice aP nP cP]] w fun e w' => e = .returned (.bool (vpB S L H C xI xP)) ∧ Below w.heap.size w w' := by
  go_enter Try.func15, Try.ntmps15
  go_wp2_with fail
  refine (l15Ok_calls _ S L H C aI nI cI xI aP nP cP xP _ (heap_alloc_new w _) (rI.alloc _) hI (rP.alloc _) hP).mono ?_
  rintro e w1 ⟨rfl, b1⟩
  go_wp2_with fail
  go_ret
  exact ⟨rfl, bbox1 b1⟩
theorem planCode1_calls (n : Int) (g : Nat) (S L H C : Int) (aI : Option Addr) (nI cI : Nat) (aP : Option Addr) (nP cP : Nat) (w : World) (hg : w.heap[g]? = some (pmC S L H C aI nI cI aP nP cP)) :
    Calls Try.prog 65 #[.int .i64 n, .pointer (some ⟨g, 0, none⟩)] w fun e w' => e = .returned (.bool (inC C n)) ∧ w = w' := by
  have k3 := blk_cell hg 3
  go_enter Try.func65, Try.ntmps65
  go_wp2_with (go_at_call 49; refine (in_calls _ _ _ _).mono ?_; rintro e w' ⟨rfl, rfl⟩)
  go_ret
  exact ⟨rfl, rfl⟩
theorem planCode_calls (S L H C : Int) (aI : Option Addr) (nI cI : Nat) (xI : List Int) (aP : Option Addr) (nP cP : Nat) (xP : List Int) (b : Option Addr) (m d : Nat) (ys : List Int) (w : World) (rI : RdInt64 w aI nI xI) (hI : nI ≤ 1048576) (rP : RdInt64 w aP nP xP) (hP : nP ≤ 1048576) (rY : RdInt64 w b m ys) (hm : m ≤ 1048576) :
    Calls Try.prog 52 #[.agg #[.int .i64 S, .int .i64 L, .int .i64 H, .int .i64 C, .slice aI nI cI, .slice aP nP cP], .slice b m d] w fun e w' => e = .returned (.int .i64 (pcZ S L H C xI xP ys)) ∧ Below w.heap.size w w' := by
  have LI := hd rI.len
  have LY := hd rY.len
  have he1 := ent Try.func65 (by kernel_rfl) rfl
  go_enter Try.func52, Try.ntmps52
  go_wp2_with fail
  refine (ValidPumping_calls S L H C aI nI cI xI aP nP cP xP _ (rI.alloc _) hI (rP.alloc _) hP).mono ?_
  rintro e w1 ⟨he, b1⟩
  have hq := box_q b1
  have d1 := bbox1 b1
  clear b1
  cases hv : vpB S L H C xI xP
  · rw [hv] at he
    subst he
    have F : Hid (pcZ S L H C xI xP ys = 1) := hd (by simp [pcZ, hv])
    clear hv
    go_wp2_with fail
    go_ret
    exact ⟨ret_int F.out.symm, d1⟩
  · rw [hv] at he
    subst he
    have F : Hid (pcZ S L H C xI xP ys = if ys.length = xI.length ∧ ys.all (inC C) = true then 0 else 2) := hd (by simp [pcZ, hv])
    clear hv
    have k4 := blk_cell hq 4
    have HC : ∀ z W, Below w1.heap.size w1 W → Calls Try.prog 65 (#[.int .i64 z] ++ #[.pointer (some ⟨w.heap.size, 0, none⟩)]) W fun e w' => e = .returned (.bool (inC C z)) ∧ Below W.heap.size W w' := by
      intro z W bw
      rw [show (#[Value.int .i64 z] ++ #[Value.pointer (some ⟨w.heap.size, 0, none⟩)]) = #[.int .i64 z, .pointer (some ⟨w.heap.size, 0, none⟩)] from rfl]
      exact (planCode1_calls z w.heap.size S L H C _ _ _ _ _ _ W (blk_below hq bw (blk_lt hq))).mono fun e w' ⟨h1, h2⟩ => ⟨h1, h2 ▸ Below.refl _ _⟩
    by_cases hl : m = nI
    · subst hl
      go_wp2_with fail
      refine (allInt64_calls 65 #[.pointer (some ⟨w.heap.size, 0, none⟩)] (inC C) _ _ _ _ _ (rY.below d1) (by omega) he1 HC).mono ?_
      rintro e w2 ⟨he, b2⟩
      have d2 := bnext d1 b2 (Nat.le_refl _)
      cases hv : ys.all (inC C)
      · rw [hv] at he
        subst he
        go_wp2_with fail
        go_ret
        exact ⟨ret_int (by rw [F.out, if_neg (by rw [hv]; simp)]), d2⟩
      · rw [hv] at he
        subst he
        go_wp2_with fail
        go_ret
        exact ⟨ret_int (by rw [F.out, if_pos ⟨by rw [LI.out, LY.out], hv⟩]), d2⟩
    · have hbe : ((m : Int) == (nI : Int)) = false := by simp; omega
      go_wp2_with fail
      go_ret
      exact ⟨ret_int (by rw [F.out, if_neg (by rw [LI.out, LY.out]; exact fun h => hl h.1)]), d1⟩
theorem l15Code_calls (g : Nat) (S L H C : Int) (aI : Option Addr) (nI cI : Nat) (xI : List Int) (aP : Option Addr) (nP cP : Nat) (xP : List Int) (b : Option Addr) (m d : Nat) (ys : List Int) (w : World) (hg : w.heap[g]? = some (pmC S L H C aI nI cI aP nP cP)) (rI : RdInt64 w aI nI xI) (hI : nI ≤ 1048576) (rP : RdInt64 w aP nP xP) (hP : nP ≤ 1048576) (rY : RdInt64 w b m ys) (hm : m ≤ 1048576) :
    Calls Try.prog 50 #[.pointer (some ⟨g, 0, none⟩), .slice b m d] w fun e w' => e = .returned (.int .i64 (pcZ S L H C xI xP ys)) ∧ Below w.heap.size w w' := by
  have LI := hd rI.len
  have LY := hd rY.len
  have hgl := blk_lt hg
  have HG := hd hg
  clear hg
  go_enter Try.func50, Try.ntmps50
  go_wp2_with fail
  refine (l15Ok_calls g S L H C aI nI cI xI aP nP cP xP _ HG.out rI hI rP hP).mono ?_
  rintro e w1 ⟨he, d1⟩
  cases hv : vpB S L H C xI xP
  · rw [hv] at he
    subst he
    have F : Hid (pcZ S L H C xI xP ys = 1) := hd (by simp [pcZ, hv])
    clear hv
    go_wp2_with fail
    go_ret
    exact ⟨ret_int F.out.symm, d1⟩
  · rw [hv] at he
    subst he
    have F : Hid (pcZ S L H C xI xP ys = if ys.length = xI.length ∧ ys.all (inC C) = true then 0 else 2) := hd (by simp [pcZ, hv])
    clear hv
    go_wp2_with fail
    go_loopw [5] (fun i wr => ∃ k : Nat, k ≤ m ∧ i = .int .i64 k ∧ (ys.take k).all (inC C) = true ∧ Below w.heap.size w wr) (fun i _ => m - (intOf i).toNat)
    case atStart => exact ⟨0, Nat.zero_le _, rfl, rfl, d1⟩
    case round =>
      obtain ⟨k, hk, rfl, hall, hb⟩ := hrel
      have Ha := hd hall
      clear hall
      have hg := blk_below HG.out hb hgl
      have k3 := blk_cell hg 3
      have k4 := blk_cell hg 4
      clear hg
      by_cases hlt : k < m
      · obtain ⟨b1, o, f0, rfl, hbl, hx, hc0⟩ := getInt64 (rY.below hb) hlt
        have q0 : (0 : Int) ≤ (k : Int) := by omega
        have q1 : (k : Int) < (m : Int) := by omega
        cases hp : inB f0 0 C
        · have F2 := hd (all_stop (p := inC C) hx hp)
          clear hx
          go_wp2_with fail
          go_quiet ((go_at_call 63; exact Calls.quiet_of_same ((l00In_calls _ _ _ _).mono (fun _ _ h => ⟨h.1, h.2.symm⟩))))
          go_wp2_with fail
          go_ret
          exact ⟨ret_int (by rw [F.out, if_neg (by rw [F2.out]; simp)]), below_drewN hb _⟩
        · have Hn := hd (all_next (p := inC C) hx Ha.out hp)
          clear hx
          go_wp2_with fail
          go_quiet ((go_at_call 63; exact Calls.quiet_of_same ((l00In_calls _ _ _ _).mono (fun _ _ h => ⟨h.1, h.2.symm⟩))))
          go_wp2_with fail
          go_roundw
          case rel => exact ⟨k + 1, by omega, by go_num, Hn.out, below_drewN hb _⟩
          case measure => simp [intOf]; omega
      · have HA := hd (all_done LY.out (by omega) Ha.out)
        by_cases hl : m = nI
        · subst hl
          go_wp2_with fail
          go_ret
          exact ⟨ret_int (by rw [F.out, if_pos ⟨by rw [LI.out, LY.out], HA.out⟩]), hb⟩
        · have hbe : ((m : Int) == (nI : Int)) = false := by simp; omega
          go_wp2_with fail
          go_ret
          exact ⟨ret_int (by rw [F.out, if_neg (by rw [LI.out, LY.out]; exact fun h => hl h.1)]), hb⟩
end Go.Proofs.Ythabjlhfidcnoaa
