/- Storage curves: what is valid, the volume and the level. -/
import Derived.Test.YtieomdjcnaaopaaTyCurve
import Derived.Test.YtieomdjcnaaopaaCurve
import Derived.Test.YtieomdjcnaaopaaFloor
import Derived.Deep.QuietTactic
import Derived.BigQuiet
import Derived.IntWalk
import Derived.Deep.DeepCutAuto
namespace Go.Proofs.Ytieomdjcnaaopaa
open Go.RowKit
set_option linter.unusedVariables false

abbrev cvC (aL : Option Addr) (nL cL : Nat) (aV : Option Addr) (nV cV : Nat) : Obj := .cells #[.slice aL nL cL, .slice aV nV cV] 30 (0, 0)
theorem below_drewN {B : Nat} {a w : World} (h : Below B a w) (n : Nat) : Below B a (w.drewN n) := h.trans ⟨rfl, rfl, rfl, Nat.le_refl _, fun _ _ => rfl⟩
theorem rdBase {w : World} {a : Option Addr} {n : Nat} {xs : List Int} (h : RdInt64 w a n xs) (hn : 0 < n) : ∃ b o, a = some ⟨b, o, none⟩ ∧ b < w.heap.size ∧ ∀ k, k < n → w.cell? ⟨b, o + k, none⟩ = some (.int .i64 (at0 xs k)) := by
  obtain ⟨b, o, f, rfl, hb, _, _⟩ := getInt64 h hn
  refine ⟨b, o, rfl, hb, fun k hk => ?_⟩
  obtain ⟨b', o', f', e, _, hx, hc⟩ := getInt64 h hk
  obtain ⟨rfl, rfl⟩ : b = b' ∧ o = o' := by simpa using e
  rw [hc, at0_get hx]
theorem cv_f1 {ls vs : List Int} (h : inB (ls.length : Int) 2 12 = false) : cvB ls vs = false := by simp [cvB, h]
theorem cv_f2 {ls vs : List Int} (h : vs.length ≠ ls.length) : cvB ls vs = false := by simp [cvB, h]
theorem cv_f3 {ls vs : List Int} (h : risesB ls (-2000) 2000 = false) : cvB ls vs = false := by simp [cvB, h]
theorem cv_f4 {ls vs : List Int} (h : risesB vs 0 1000000000 = false) : cvB ls vs = false := by simp [cvB, h]
theorem cv_t {ls vs : List Int} (h1 : inB (ls.length : Int) 2 12 = true) (h2 : vs.length = ls.length) (h3 : risesB ls (-2000) 2000 = true) (h4 : risesB vs 0 1000000000 = true) : cvB ls vs = (at0 vs 0 == 0) := by
  simp [cvB, h1, h2, h3, h4]
theorem last_calls (a : Option Addr) (n c : Nat) (xs : List Int) (w : World) (ha : RdInt64 w a n xs) (hn : n ≤ 1048576) (h0 : 0 < n) :
    Calls Try.prog 102 #[.slice a n c] w fun e w' => e = .returned (.int .i64 (lastZ xs)) ∧ w = w' := by
  have Ha := hd ha.len
  obtain ⟨b, o, rfl, hb, hc⟩ := rdBase ha h0
  have kc := hc (n - 1) (by omega)
  have F : Hid (lastZ xs = at0 xs (n - 1)) := hd (by unfold lastZ; rw [Ha.out])
  generalize at0 xs (n - 1) = z at kc F
  obtain ⟨j, rfl⟩ : ∃ j, n = j + 1 := ⟨n - 1, by omega⟩
  rw [Nat.add_sub_cancel] at kc
  clear hc
  go_enter Try.func102, Try.ntmps102
  go_wp2_with fail
  go_ret
  exact ⟨ret_int F.out.symm, rfl⟩
set_option maxRecDepth 100000 in
theorem ValidCurve_calls (aL : Option Addr) (nL cL : Nat) (xL : List Int) (aV : Option Addr) (nV cV : Nat) (xV : List Int) (w : World) (rL : RdInt64 w aL nL xL) (hL : nL ≤ 1048576) (rV : RdInt64 w aV nV xV) (hV : nV ≤ 1048576) :
    Calls Try.prog 98 #[.agg #[.slice aL nL cL, .slice aV nV cV]] w fun e w' => e = .returned (.bool (cvB xL xV)) ∧ Below w.heap.size w w' := by
  have LL := hd rL.len
  have LV := hd rV.len
  by_cases h1 : 2 ≤ nL ∧ nL ≤ 12
  case neg =>
    have hin : inB (nL : Int) 2 12 = false := inB_not.2 (by omega)
    have FF := hd (cv_f1 (vs := xV) (by rw [LL.out]; exact hin))
    go_enter Try.func98, Try.ntmps98
    go_wp2_with (go_at_call 125; refine (in_calls _ _ _ _).mono ?_; rintro e w' ⟨rfl, rfl⟩)
    go_ret
    exact ⟨ret_bool FF.out.symm, by go_grown⟩
  obtain ⟨h1a, h1b⟩ := h1
  have hin : inB (nL : Int) 2 12 = true := inB_iff.2 (by omega)
  by_cases h2 : nV = nL
  case neg =>
    have FF := hd (cv_f2 (ls := xL) (vs := xV) (by rw [LL.out, LV.out]; exact h2))
    have hbe : ((nV : Int) == (nL : Int)) = false := by simp; omega
    go_enter Try.func98, Try.ntmps98
    go_wp2_with (go_at_call 125; refine (in_calls _ _ _ _).mono ?_; rintro e w' ⟨rfl, rfl⟩)
    go_ret
    exact ⟨ret_bool FF.out.symm, by go_grown⟩
  subst h2
  have KT : Hid (risesB xL (-2000) 2000 = true → risesB xV 0 1000000000 = true → cvB xL xV = (at0 xV 0 == 0)) := hd (fun a b => cv_t (by rw [LL.out]; exact hin) (by rw [LL.out, LV.out]) a b)
  have HIN := hd hin
  obtain ⟨bV, oV, hbV, _, hcV⟩ := rdBase rV (by omega)
  subst hbV
  go_enter Try.func98, Try.ntmps98
  go_wp2_with (go_at_call 125; refine (in_calls _ _ _ _).mono ?_; rintro e w' ⟨rfl, rfl⟩)
  clear hin
  refine (rises_calls _ _ _ xL _ _ _ (rL.alloc _) hL).mono ?_
  rintro e w1 ⟨he, b1⟩
  have hg1 := box_q b1
  have d1 := bbox1 b1
  clear b1
  have k0 := blk_cell hg1 0
  have k1 := blk_cell hg1 1
  cases h3 : risesB xL (-2000) 2000
  · rw [h3] at he
    subst he
    have FF := hd (cv_f3 (vs := xV) h3)
    clear h3
    go_wp2_with fail
    go_ret
    exact ⟨ret_bool FF.out.symm, d1⟩
  rw [h3] at he
  subst he
  have H3 := hd h3
  clear h3
  go_wp2_with fail
  refine (rises_calls _ _ _ xV _ _ _ (rV.below d1) hV).mono ?_
  rintro e w2 ⟨he, b2⟩
  have d2 := bnext d1 b2 (Nat.le_refl _)
  have hg2 := blk_below hg1 b2 (blk_lt hg1)
  clear k0 k1
  have k0 := blk_cell hg2 0
  have k1 := blk_cell hg2 1
  cases h4 : risesB xV 0 1000000000
  · rw [h4] at he
    subst he
    have FF := hd (cv_f4 (ls := xL) h4)
    clear h4
    go_wp2_with fail
    go_ret
    exact ⟨ret_bool FF.out.symm, d2⟩
  rw [h4] at he
  subst he
  have FF := hd (KT.out H3.out h4)
  clear h4
  have kz := (d2.cell (p := ⟨bV, oV + 0, none⟩) (by assumption)).trans (hcV 0 (by omega))
  simp only [Nat.add_zero] at kz
  clear hcV
  generalize at0 xV 0 = z at kz FF
  go_wp2_with fail
  go_ret
  exact ⟨ret_bool FF.out.symm, d2⟩
set_option maxRecDepth 100000 in
theorem l05Ok_calls (g : Nat) (aL : Option Addr) (nL cL : Nat) (xL : List Int) (aV : Option Addr) (nV cV : Nat) (xV : List Int) (w : World) (hg : w.heap[g]? = some (cvC aL nL cL aV nV cV)) (rL : RdInt64 w aL nL xL) (hL : nL ≤ 1048576) (rV : RdInt64 w aV nV xV) (hV : nV ≤ 1048576) :
    Calls Try.prog 120 #[.pointer (some ⟨g, 0, none⟩)] w fun e w' => e = .returned (.bool (cvB xL xV)) ∧ Below w.heap.size w w' := by
  have LL := hd rL.len
  have LV := hd rV.len
  have hgl := blk_lt hg
  have HG := hd hg
  have k0 := blk_cell hg 0
  have k1 := blk_cell hg 1
  clear hg
  by_cases h1 : 2 ≤ nL ∧ nL ≤ 12
  case neg =>
    have hin : inB (nL : Int) 2 12 = false := inB_not.2 (by omega)
    have FF := hd (cv_f1 (vs := xV) (by rw [LL.out]; exact hin))
    go_enter Try.func120, Try.ntmps120
    go_wp2_with (go_at_call 121; refine (l00In_calls _ _ _ _).mono ?_; rintro e w' ⟨rfl, rfl⟩)
    go_ret
    exact ⟨ret_bool FF.out.symm, by go_grown⟩
  obtain ⟨h1a, h1b⟩ := h1
  have hin : inB (nL : Int) 2 12 = true := inB_iff.2 (by omega)
  by_cases h2 : nV = nL
  case neg =>
    have FF := hd (cv_f2 (ls := xL) (vs := xV) (by rw [LL.out, LV.out]; exact h2))
    have hbe : ((nV : Int) == (nL : Int)) = false := by simp; omega
    go_enter Try.func120, Try.ntmps120
    go_wp2_with (go_at_call 121; refine (l00In_calls _ _ _ _).mono ?_; rintro e w' ⟨rfl, rfl⟩)
    go_ret
    exact ⟨ret_bool FF.out.symm, by go_grown⟩
  subst h2
  have KT : Hid (risesB xL (-2000) 2000 = true → risesB xV 0 1000000000 = true → cvB xL xV = (at0 xV 0 == 0)) := hd (fun a b => cv_t (by rw [LL.out]; exact hin) (by rw [LL.out, LV.out]) a b)
  have HIN := hd hin
  obtain ⟨bV, oV, hbV, _, hcV⟩ := rdBase rV (by omega)
  subst hbV
  go_enter Try.func120, Try.ntmps120
  go_wp2_with (go_at_call 121; refine (l00In_calls _ _ _ _).mono ?_; rintro e w' ⟨rfl, rfl⟩)
  clear hin
  refine (l00Rises_calls _ _ _ xL _ _ _ rL hL).mono ?_
  rintro e w1 ⟨he, b1⟩
  have d1 := b1
  have hg1 := blk_below HG.out d1 hgl
  clear k0 k1
  have k0 := blk_cell hg1 0
  have k1 := blk_cell hg1 1
  cases h3 : risesB xL (-2000) 2000
  · rw [h3] at he
    subst he
    have FF := hd (cv_f3 (vs := xV) h3)
    clear h3
    go_wp2_with fail
    go_ret
    exact ⟨ret_bool FF.out.symm, d1⟩
  rw [h3] at he
  subst he
  have H3 := hd h3
  clear h3
  go_wp2_with fail
  refine (l00Rises_calls _ _ _ xV _ _ _ (rV.below d1) hV).mono ?_
  rintro e w2 ⟨he, b2⟩
  have d2 := bnext d1 b2 (Nat.le_refl _)
  have hg2 := blk_below hg1 b2 (blk_lt hg1)
  clear k0 k1
  have k0 := blk_cell hg2 0
  have k1 := blk_cell hg2 1
  cases h4 : risesB xV 0 1000000000
  · rw [h4] at he
    subst he
    have FF := hd (cv_f4 (ls := xL) h4)
    clear h4
    go_wp2_with fail
    go_ret
    exact ⟨ret_bool FF.out.symm, d2⟩
  rw [h4] at he
  subst he
  have FF := hd (KT.out H3.out h4)
  clear h4
  have kz := (d2.cell (p := ⟨bV, oV + 0, none⟩) (by assumption)).trans (hcV 0 (by omega))
  simp only [Nat.add_zero] at kz
  clear hcV
  generalize at0 xV 0 = z at kz FF
  go_wp2_with fail
  go_ret
  exact ⟨ret_bool FF.out.symm, d2⟩
theorem specValidCurve_calls (aL : Option Addr) (nL cL : Nat) (xL : List Int) (aV : Option Addr) (nV cV : Nat) (xV : List Int) (w : World) (rL : RdInt64 w aL nL xL) (hL : nL ≤ 1048576) (rV : RdInt64 w aV nV xV) (hV : nV ≤ 1048576) :
    Calls Try.prog 73 #[.agg #[.slice aL nL cL, .slice aV nV cV]] w fun e w' => e = .returned (.bool (cvB xL xV)) ∧ Below w.heap.size w w' := by
  go_enter Try.func73, Try.ntmps73
  go_wp2_with fail
  refine (l05Ok_calls _ aL nL cL xL aV nV cV xV _ (heap_alloc_new w _) (rL.alloc _) hL (rV.alloc _) hV).mono ?_
  rintro e w1 ⟨rfl, b1⟩
  go_wp2_with fail
  go_ret
  exact ⟨rfl, bbox1 b1⟩
set_option maxRecDepth 100000 in
theorem part_calls (aL : Option Addr) (nL cL : Nat) (xL : List Int) (aV : Option Addr) (nV cV : Nat) (xV : List Int) (level : Int) (w : World) (rL : RdInt64 w aL nL xL) (hL : nL ≤ 1048576) (rV : RdInt64 w aV nV xV) (hV : nV ≤ 1048576) (cv : CV xL xV) :
    Calls Try.prog 139 #[.agg #[.slice aL nL cL, .slice aV nV cV], .int .i64 level] w fun e w' => e = .returned (.int .i64 (knot xL level)) ∧ Below w.heap.size w w' := by
  have LL := rL.len
  have n2 := cv.n2
  have n12 := cv.n12
  rw [LL] at n2 n12
  have HK : Hid (knot xL level = kn xL level (nL - 1)) := hd (by unfold knot; rw [LL])
  obtain ⟨bL, oL, hbL, hl1, hcL⟩ := rdBase rL (by omega)
  subst hbL
  have HC := hd hcL
  clear hcL LL cv
  go_enter Try.func139, Try.ntmps139
  go_wp2_with fail
  go_loopw [5, 6] (fun t i wr => ∃ k : Nat, k ≤ nL - 1 ∧ i = .int .i64 k ∧ t = .int .i64 (kn xL level k) ∧ wr.heap[w.heap.size]? = some (cvC (some ⟨bL, oL, none⟩) nL cL aV nV cV) ∧ Below w.heap.size w wr) (fun _ i _ => nL - (intOf i).toNat)
  case atStart => exact ⟨0, Nat.zero_le _, rfl, rfl, heap_alloc_new w _, (Below.refl _ _).alloc (Nat.le_refl _) _⟩
  case round =>
    obtain ⟨k, hk, rfl, rfl, hg, hb⟩ := hrel
    have HG := hd hg
    have k0 := blk_cell hg 0
    clear hg
    by_cases hlt : k + 1 < nL
    · have kc := (hb.cell (p := ⟨bL, oL + k, none⟩) hl1).trans (HC.out k (by omega))
      have hkn : (k : Int) + 1 < (nL : Int) := by omega
      by_cases hle : at0 xL k ≤ level
      · have Hn : Hid (kn xL level (k + 1) = k) := hd (by simp only [kn]; rw [if_pos hle])
        generalize at0 xL k = z at kc hle
        go_wp2_with fail
        go_roundw
        case rel => exact ⟨k + 1, by omega, by go_num, by rw [Hn.out], HG.out, hb⟩
        case measure => simp [intOf]; omega
      · have Hn : Hid (kn xL level (k + 1) = kn xL level k) := hd (by simp only [kn]; rw [if_neg hle])
        generalize at0 xL k = z at kc hle
        go_wp2_with fail
        go_roundw
        case rel => exact ⟨k + 1, by omega, by go_num, by rw [Hn.out], HG.out, hb⟩
        case measure => simp [intOf]; omega
    · obtain rfl : k = nL - 1 := by omega
      go_wp2_with fail
      go_ret
      exact ⟨ret_int (by rw [HK.out]), hb⟩
set_option maxRecDepth 100000 in
theorem l05Knot_calls (g : Nat) (aL : Option Addr) (nL cL : Nat) (xL : List Int) (aV : Option Addr) (nV cV : Nat) (xV : List Int) (level : Int) (w : World) (hg : w.heap[g]? = some (cvC aL nL cL aV nV cV)) (rL : RdInt64 w aL nL xL) (hL : nL ≤ 1048576) (rV : RdInt64 w aV nV xV) (hV : nV ≤ 1048576) (cv : CV xL xV) :
    Calls Try.prog 133 #[.pointer (some ⟨g, 0, none⟩), .int .i64 level] w fun e w' => e = .returned (.int .i64 (knot xL level)) ∧ Below w.heap.size w w' := by
  have LL := rL.len
  have n2 := cv.n2
  have n12 := cv.n12
  have HI : Hid (∀ i j : Nat, i ≤ j → j < nL → at0 xL i ≤ at0 xL j) := hd (fun i j a b => inc_le (n := xL.length) cv.li a (by rw [LL]; exact b))
  rw [LL] at n2 n12
  have HK : Hid (knot xL level = kn xL level (nL - 1)) := hd (by unfold knot; rw [LL])
  obtain ⟨bL, oL, hbL, hl1, hcL⟩ := rdBase rL (by omega)
  subst hbL
  have HC := hd hcL
  have hgl := blk_lt hg
  have HG := hd hg
  clear hcL LL cv hg
  go_enter Try.func133, Try.ntmps133
  go_wp2_with fail
  go_loopw [5] (fun i wr => ∃ k : Nat, k + 2 ≤ nL ∧ i = .int .i64 k ∧ (k = 0 ∨ at0 xL k ≤ level) ∧ Below w.heap.size w wr) (fun i _ => nL - (intOf i).toNat)
  case atStart => exact ⟨0, by omega, rfl, .inl rfl, Below.refl _ _⟩
  case round =>
    obtain ⟨k, hk, rfl, hz, hb⟩ := hrel
    have HZ := hd hz
    clear hz
    have hg := blk_below HG.out hb hgl
    have k0 := blk_cell hg 0
    clear hg
    by_cases hlt : k + 2 < nL
    · have kc := (hb.cell (p := ⟨bL, oL + (k + 1), none⟩) hl1).trans (HC.out (k + 1) (by omega))
      have hkn : (k : Int) + 1 < (nL : Int) := by omega
      have hkm : (k : Int) + 2 < (nL : Int) := by omega
      by_cases hle : at0 xL (k + 1) ≤ level
      · have HL2 := hd hle
        generalize at0 xL (k + 1) = z at kc hle
        go_wp2_with fail
        go_roundw
        case rel => exact ⟨k + 1, by omega, by go_num, .inr HL2.out, hb⟩
        case measure => simp [intOf]; omega
      · have FF : Hid (kn xL level (nL - 1) = k) := hd (kn_eq HZ.out _ (by omega) (fun j a b => by have := HI.out (k + 1) j (by omega) (by omega); omega))
        generalize at0 xL (k + 1) = z at kc hle
        go_wp2_with fail
        go_ret
        exact ⟨ret_int (by rw [HK.out, FF.out]), hb⟩
    · have FF : Hid (kn xL level (nL - 1) = k) := hd (kn_eq HZ.out _ (by omega) (fun j a b => by omega))
      have hkm : ¬ (k : Int) + 2 < (nL : Int) := by omega
      go_wp2_with fail
      go_ret
      exact ⟨ret_int (by rw [HK.out, FF.out]), hb⟩
end Go.Proofs.Ytieomdjcnaaopaa
