/- Pumping: valid or not. -/
import Derived.Test.YthabjlhfidcnoaaTyPumping
import Derived.Test.YthabjlhfidcnoaaPlan
import Derived.Deep.QuietTactic
import Derived.BigQuiet
import Derived.IntWalk
namespace Go.Proofs.Ythabjlhfidcnoaa
open Go.RowKit
set_option linter.unusedVariables false

abbrev pmC (S L H C : Int) (aI : Option Addr) (nI cI : Nat) (aP : Option Addr) (nP cP : Nat) : Obj := .cells #[.int .i64 S, .int .i64 L, .int .i64 H, .int .i64 C, .slice aI nI cI, .slice aP nP cP] 27 (0, 0)
theorem below_drewN {B : Nat} {a w : World} (h : Below B a w) (n : Nat) : Below B a (w.drewN n) := h.trans ⟨rfl, rfl, rfl, Nat.le_refl _, fun _ _ => rfl⟩
theorem blk_drewN {w : World} {g : Nat} {O : Obj} (h : w.heap[g]? = some O) (n : Nat) : (w.drewN n).heap[g]? = some O := h
theorem vp_f1 {S L H C : Int} {xs ps : List Int} (h : inB L 0 300 = false) : vpB S L H C xs ps = false := by simp [vpB, h]
theorem vp_f2 {S L H C : Int} {xs ps : List Int} (h : inB H L 300 = false) : vpB S L H C xs ps = false := by simp [vpB, h]
theorem vp_f3 {S L H C : Int} {xs ps : List Int} (h : inB S L H = false) : vpB S L H C xs ps = false := by simp [vpB, h]
theorem vp_f4 {S L H C : Int} {xs ps : List Int} (h : inB C 0 40 = false) : vpB S L H C xs ps = false := by simp [vpB, h]
theorem vp_f5 {S L H C : Int} {xs ps : List Int} (h : xs.all unB = false) : vpB S L H C xs ps = false := by simp [vpB, h]
theorem vp_f6 {S L H C : Int} {xs ps : List Int} (h : ps.all prB = false) : vpB S L H C xs ps = false := by simp [vpB, h]
theorem vp_f7 {S L H C : Int} {xs ps : List Int} (h : ps.length ≠ xs.length) : vpB S L H C xs ps = false := by simp [vpB, h]
theorem vp_f8 {S L H C : Int} {xs ps : List Int} (h : ¬ xs.length ≤ 48) : vpB S L H C xs ps = false := by simp [vpB]; omega
theorem vp_t {S L H C : Int} {xs ps : List Int} (h1 : inB L 0 300 = true) (h2 : inB H L 300 = true) (h3 : inB S L H = true) (h4 : inB C 0 40 = true) (h5 : xs.all unB = true) (h6 : ps.all prB = true) (h7 : ps.length = xs.length) (h8 : xs.length ≤ 48) : vpB S L H C xs ps = true := by
  simp [vpB, h1, h2, h3, h4, h5, h6, h7, h8]
theorem inB_f {n lo hi : Int} (h : n < lo ∨ hi < n) : inB n lo hi = false := inB_not.2 h
theorem l15Ok_calls (g : Nat) (S L H C : Int) (aI : Option Addr) (nI cI : Nat) (xI : List Int) (aP : Option Addr) (nP cP : Nat) (xP : List Int) (w : World) (hg : w.heap[g]? = some (pmC S L H C aI nI cI aP nP cP)) (rI : RdInt64 w aI nI xI) (hI : nI ≤ 1048576) (rP : RdInt64 w aP nP xP) (hP : nP ≤ 1048576) :
    Calls Try.prog 45 #[.pointer (some ⟨g, 0, none⟩)] w fun e w' => e = .returned (.bool (vpB S L H C xI xP)) ∧ Below w.heap.size w w' := by
  have LI := hd rI.len
  have LP := hd rP.len
  have hgl := blk_lt hg
  have HG := hd hg
  have k0 := blk_cell hg 0
  have k1 := blk_cell hg 1
  have k2 := blk_cell hg 2
  have k3 := blk_cell hg 3
  have k4 := blk_cell hg 4
  have k5 := blk_cell hg 5
  clear hg
  cases h1 : inB L 0 300
  · have F := hd (vp_f1 (S := S) (H := H) (C := C) (xs := xI) (ps := xP) h1)
    go_enter Try.func45, Try.ntmps45
    go_wp2_with fail
    go_quiet ((go_at_call 63; exact Calls.quiet_of_same ((l00In_calls _ _ _ _).mono (fun _ _ h => ⟨h.1, h.2.symm⟩))))
    go_wp2_with fail
    go_ret
    exact ⟨ret_bool (by rw [F.out]), below_drewN (Below.refl _ _) _⟩
  cases h2 : inB H L 300
  · have F := hd (vp_f2 (S := S) (C := C) (xs := xI) (ps := xP) h2)
    go_enter Try.func45, Try.ntmps45
    go_wp2_with fail
    go_quiet ((go_at_call 63; exact Calls.quiet_of_same ((l00In_calls _ _ _ _).mono (fun _ _ h => ⟨h.1, h.2.symm⟩))))
    go_wp2_with fail
    go_ret
    exact ⟨ret_bool (by rw [F.out]), below_drewN (Below.refl _ _) _⟩
  cases h3 : inB S L H
  · have F := hd (vp_f3 (C := C) (xs := xI) (ps := xP) h3)
    go_enter Try.func45, Try.ntmps45
    go_wp2_with fail
    go_quiet ((go_at_call 63; exact Calls.quiet_of_same ((l00In_calls _ _ _ _).mono (fun _ _ h => ⟨h.1, h.2.symm⟩))))
    go_wp2_with fail
    go_ret
    exact ⟨ret_bool (by rw [F.out]), below_drewN (Below.refl _ _) _⟩
  cases h4 : inB C 0 40
  · have F := hd (vp_f4 (S := S) (L := L) (H := H) (xs := xI) (ps := xP) h4)
    go_enter Try.func45, Try.ntmps45
    go_wp2_with fail
    go_quiet ((go_at_call 63; exact Calls.quiet_of_same ((l00In_calls _ _ _ _).mono (fun _ _ h => ⟨h.1, h.2.symm⟩))))
    go_wp2_with fail
    go_ret
    exact ⟨ret_bool (by rw [F.out]), below_drewN (Below.refl _ _) _⟩
  have KT : Hid (xI.all unB = true → xP.all prB = true → xP.length = xI.length → xI.length ≤ 48 → vpB S L H C xI xP = true) := hd (fun a b c d => vp_t h1 h2 h3 h4 a b c d)
  go_enter Try.func45, Try.ntmps45
  go_wp2_with fail
  go_quiet ((go_at_call 63; exact Calls.quiet_of_same ((l00In_calls _ _ _ _).mono (fun _ _ h => ⟨h.1, h.2.symm⟩))))
  clear h1 h2 h3 h4
  generalize hW : w.drewN _ = W
  have d0 : Below w.heap.size w W := hW ▸ below_drewN (Below.refl _ _) _
  have hg := blk_below HG.out d0 hgl
  clear hW k0 k1 k2 k3 k4 k5
  have k4 := blk_cell hg 4
  have k5 := blk_cell hg 5
  go_wp2_with fail
  go_loopw [3] (fun i wr => ∃ k : Nat, k ≤ nI ∧ i = .int .i64 k ∧ (xI.take k).all unB = true ∧ Below w.heap.size w wr) (fun i _ => nI - (intOf i).toNat)
  case atStart => exact ⟨0, Nat.zero_le _, rfl, rfl, d0⟩
  case round =>
    obtain ⟨k, hk, rfl, hall, hb⟩ := hrel
    have Ha := hd hall
    clear hall k4 k5 hg
    have hg := blk_below HG.out hb hgl
    have k4 := blk_cell hg 4
    have k5 := blk_cell hg 5
    by_cases hlt : k < nI
    · obtain ⟨b, o, f0, rfl, hbl, hx, hc0⟩ := getInt64 (rI.below hb) hlt
      cases hp : inB f0 0 40
      · have F := hd (vp_f5 (S := S) (L := L) (H := H) (C := C) (ps := xP) (all_stop hx hp))
        clear hx
        go_wp2_with (go_at_call 63; refine (l00In_calls _ _ _ _).mono ?_; rintro e w' ⟨rfl, rfl⟩)
        go_ret
        exact ⟨ret_bool (by rw [F.out]), hb⟩
      · have Hn := hd (all_next hx Ha.out hp)
        clear hx
        go_wp2_with (go_at_call 63; refine (l00In_calls _ _ _ _).mono ?_; rintro e w' ⟨rfl, rfl⟩)
        go_roundw
        case rel => exact ⟨k + 1, by omega, by go_num, Hn.out, hb⟩
        case measure => simp [intOf]; omega
    · have HU := hd (all_done LI.out (by omega) Ha.out)
      obtain ⟨w3, h⟩ : ∃ W, W = wr := ⟨_, rfl⟩
      subst h
      go_wp2_with fail
      go_loopw [4] (fun i wr => ∃ k : Nat, k ≤ nP ∧ i = .int .i64 k ∧ (xP.take k).all prB = true ∧ Below w.heap.size w wr) (fun i _ => nP - (intOf i).toNat)
      case atStart => exact ⟨0, Nat.zero_le _, rfl, rfl, hb⟩
      case round =>
        clear k4 k5 hg hb
        obtain ⟨k, hk, rfl, hall, hb⟩ := hrel
        have Ha := hd hall
        clear hall
        have hg := blk_below HG.out hb hgl
        have k4 := blk_cell hg 4
        have k5 := blk_cell hg 5
        by_cases hlt : k < nP
        · obtain ⟨b, o, f0, rfl, hbl, hx, hc0⟩ := getInt64 (rP.below hb) hlt
          cases hp : inB f0 0 1000
          · have F := hd (vp_f6 (S := S) (L := L) (H := H) (C := C) (xs := xI) (all_stop hx hp))
            clear hx
            go_wp2_with (go_at_call 63; refine (l00In_calls _ _ _ _).mono ?_; rintro e w' ⟨rfl, rfl⟩)
            go_ret
            exact ⟨ret_bool (by rw [F.out]), hb⟩
          · have Hn := hd (all_next hx Ha.out hp)
            clear hx
            go_wp2_with (go_at_call 63; refine (l00In_calls _ _ _ _).mono ?_; rintro e w' ⟨rfl, rfl⟩)
            go_roundw
            case rel => exact ⟨k + 1, by omega, by go_num, Hn.out, hb⟩
            case measure => simp [intOf]; omega
        · have HV := hd (all_done LP.out (by omega) Ha.out)
          by_cases hl : nP = nI
          · subst hl
            by_cases h48 : nP ≤ 48
            · have F := hd (KT.out HU.out HV.out (by rw [LI.out, LP.out]) (by rw [LI.out]; exact h48))
              have hd48 : decide ((nP : Int) ≤ 48) = true := by simp; omega
              go_wp2_with fail
              go_quiet (fail)
              go_wp2_with fail
              go_ret
              exact ⟨ret_bool (by rw [F.out]), below_drewN hb _⟩
            · have F := hd (vp_f8 (S := S) (L := L) (H := H) (C := C) (xs := xI) (ps := xP) (by rw [LI.out]; exact h48))
              have hd48 : decide ((nP : Int) ≤ 48) = false := by simp; omega
              go_wp2_with fail
              go_quiet (fail)
              go_wp2_with fail
              go_ret
              exact ⟨ret_bool (by rw [F.out]), below_drewN hb _⟩
          · have F := hd (vp_f7 (S := S) (L := L) (H := H) (C := C) (xs := xI) (ps := xP) (by rw [LI.out, LP.out]; exact hl))
            have hbe : ((nP : Int) == (nI : Int)) = false := by simp; omega
            go_wp2_with fail
            go_quiet (fail)
            go_wp2_with fail
            go_ret
            exact ⟨ret_bool (by rw [F.out]), below_drewN hb _⟩
end Go.Proofs.Ythabjlhfidcnoaa
