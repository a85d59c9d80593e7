/- Breaches in plain Lean: an hour, and the hours. -/
import Derived.Test.YtieomdjcnaaopaaBrAlt
namespace Go.Proofs.Ytieomdjcnaaopaa
open Go.RowKit
set_option linter.unusedVariables false

theorem vol_last {ls vs : List Int} (h : CV ls vs) : volZ ls vs (lastZ ls) = lastZ vs := by
  have n2 := h.n2
  have hk : knot ls (lastZ ls) = ls.length - 2 := by
    unfold knot
    refine kn_eq (.inr ?_) _ (by omega) (fun j a b => by omega)
    exact inc_le (n := ls.length) h.li (by omega) (by omega)
  have hl := h.li (ls.length - 2) (by omega)
  unfold volZ
  rw [hk]
  have e1 : ls.length - 2 + 1 = ls.length - 1 := by omega
  rw [e1] at hl ⊢
  have e2 : lastZ ls = at0 ls (ls.length - 1) := rfl
  have e3 : lastZ vs = at0 vs (ls.length - 1) := by unfold lastZ; rw [h.len]
  rw [e2, e3, Int.mul_tdiv_cancel _ (by omega)]
  omega
theorem lvTo_spec {ls vs : List Int} {v : Int} : ∀ (m : Nat) (a : Int), (v ≤ volZ ls vs (lvTo ls vs v a m) ∨ lvTo ls vs v a m = a + m) ∧ ∀ y, a ≤ y → y < lvTo ls vs v a m → volZ ls vs y < v := by
  intro m
  induction m with
  | zero => intro a; exact ⟨.inr (by simp [lvTo]), fun y h1 h2 => by simp only [lvTo] at h2; omega⟩
  | succ m ih =>
    intro a
    simp only [lvTo]
    split
    · rename_i h
      exact ⟨.inl h, fun y h1 h2 => by omega⟩
    · rename_i h
      refine ⟨?_, fun y h1 h2 => ?_⟩
      · rcases (ih (a + 1)).1 with k | k
        · exact .inl k
        · exact .inr (by omega)
      · rcases Int.lt_or_eq_of_le h1 with hlt | rfl
        · exact (ih (a + 1)).2 y (by omega) h2
        · omega
theorem first_le {ls vs : List Int} (h : CV ls vs) : at0 ls 0 ≤ lastZ ls := inc_le (n := ls.length) h.li (Nat.zero_le _) (by have := h.n2; omega)
theorem lv_ge {ls vs : List Int} (h : CV ls vs) {v : Int} (hv : v ≤ lastZ vs) : v ≤ volZ ls vs (lvZ ls vs v) := by
  have hl := first_le h
  rcases (lvTo_spec (ls := ls) (vs := vs) (v := v) (lastZ ls - at0 ls 0).toNat (at0 ls 0)).1 with k | k
  · exact k
  · have e : lvZ ls vs v = lastZ ls := by unfold lvZ; omega
    rw [e, vol_last h]
    exact hv
theorem lv_least {ls vs : List Int} {v : Int} : ∀ y, at0 ls 0 ≤ y → y < lvZ ls vs v → volZ ls vs y < v :=
  (lvTo_spec (ls := ls) (vs := vs) (v := v) (lastZ ls - at0 ls 0).toNat (at0 ls 0)).2
theorem lv_mono {ls vs : List Int} (h : CV ls vs) {v u : Int} (hvu : v ≤ u) (hu : u ≤ lastZ vs) : lvZ ls vs v ≤ lvZ ls vs u := by
  apply Int.le_of_not_gt
  intro hlt
  have := lv_least (ls := ls) (vs := vs) (v := v) _ (lv_in h u).1 hlt
  have := lv_ge h hu
  omega
/-- The inflow of an hour. -/
def infZ (ls vs : List Int) (wd sl wt o : Int) : Int :=
  if hdZ ls vs sl wt o = 0 then 0 else min (10 * wd * hdZ ls vs sl wt o) (volZ ls vs (min o (lastZ ls)) - wt)
theorem missing_bd {ls vs : List Int} (h : CV ls vs) {sl wt o : Int} (hw : wt ≤ lastZ vs) (hh : ¬ hdZ ls vs sl wt o = 0) :
    (at0 ls 0 ≤ min o (lastZ ls) ∧ min o (lastZ ls) ≤ lastZ ls) ∧ wt ≤ volZ ls vs (min o (lastZ ls)) ∧ volZ ls vs (min o (lastZ ls)) ≤ lastZ vs := by
  have hb := lv_in h wt
  have ho : lvZ ls vs wt < o := by
    unfold hdZ at hh
    omega
  have h1 : lvZ ls vs wt ≤ min o (lastZ ls) := by omega
  have h2 : min o (lastZ ls) ≤ lastZ ls := by omega
  refine ⟨⟨by omega, h2⟩, ?_, ?_⟩
  · have := vol_mono h hb.1 h1 h2
    have := lv_ge h hw
    omega
  · have := vol_mono h (show at0 ls 0 ≤ min o (lastZ ls) by omega) h2 (Int.le_refl _)
    rw [vol_last h] at this
    exact this
theorem inf_bd {ls vs : List Int} (h : CV ls vs) {wd sl wt o : Int} (hd0 : 0 ≤ wd) (hw : wt ≤ lastZ vs) :
    0 ≤ infZ ls vs wd sl wt o ∧ wt + infZ ls vs wd sl wt o ≤ lastZ vs := by
  unfold infZ
  split
  · omega
  · rename_i hh
    have m := missing_bd h hw hh
    have h0 : 0 ≤ hdZ ls vs sl wt o := by unfold hdZ; omega
    have : 0 ≤ 10 * wd * hdZ ls vs sl wt o := Int.mul_nonneg (by omega) h0
    omega
/-- The width after the hour's growth, what is closed, the new width. -/
def gwZ (wd h : Int) : Int := if wd = 0 then wd else wd + (h + 9) / 10
def clZ (wd h st : Int) : Int := min st (gwZ wd h)
def nwZ (wd h st : Int) : Int := min 1000 (gwZ wd h - clZ wd h st)
theorem gw_bd {wd h : Int} (h0 : 0 ≤ wd) (h1 : wd ≤ 1000) (h2 : 0 ≤ h) (h3 : h ≤ 4000) : 0 ≤ gwZ wd h ∧ gwZ wd h ≤ 1400 := by
  unfold gwZ
  split <;> omega
theorem nw_bd {wd h st : Int} (h0 : 0 ≤ wd) (h1 : wd ≤ 1000) (h2 : 0 ≤ h) (h3 : h ≤ 4000) (h4 : 0 ≤ st) : (0 ≤ nwZ wd h st ∧ nwZ wd h st ≤ 1000) ∧ 0 ≤ clZ wd h st ∧ clZ wd h st ≤ 1400 := by
  have := gw_bd h0 h1 h2 h3
  unfold nwZ clZ
  omega
def stp (ls vs : List Int) (sl : Int) (b : Int × Int) (o st : Int) : Int × Int :=
  (nwZ b.1 (hdZ ls vs sl b.2 o) st, b.2 + infZ ls vs b.1 sl b.2 o)
theorem br_of {ls vs : List Int} {wd sl wt : Int} (h : brB ls vs wd sl wt = true) : cvB ls vs = true ∧ (0 ≤ wd ∧ wd ≤ 1000) ∧ lvB sl = true ∧ 0 ≤ wt ∧ wt ≤ lastZ vs := by
  simp only [brB, Bool.and_eq_true] at h
  exact ⟨h.1, inB_iff.1 h.2.1, h.2.2.1, inB_iff.1 h.2.2.2⟩
theorem br_mk {ls vs : List Int} {wd sl wt : Int} (h : cvB ls vs = true) (h1 : 0 ≤ wd) (h2 : wd ≤ 1000) (h3 : lvB sl = true) (h4 : 0 ≤ wt) (h5 : wt ≤ lastZ vs) : brB ls vs wd sl wt = true := by
  simp only [brB, Bool.and_eq_true]
  exact ⟨h, inB_iff.2 ⟨h1, h2⟩, h3, inB_iff.2 ⟨h4, h5⟩⟩
theorem hd_bd' {ls vs : List Int} (h : CV ls vs) (sl wt outside : Int) (h1 : lvB sl = true) (h2 : lvB outside = true) : 0 ≤ hdZ ls vs sl wt outside ∧ hdZ ls vs sl wt outside ≤ 4000 := by
  have a := lv_in h wt
  have b := h.lb 0 (by have := h.n2; omega)
  have c := h.lb (ls.length - 1) (by have := h.n2; omega)
  have d := lvB_iff.1 h1
  have e := lvB_iff.1 h2
  unfold lastZ at a
  unfold hdZ
  omega
theorem stp_ok {ls vs : List Int} {sl o st : Int} {b : Int × Int} (h : brB ls vs b.1 sl b.2 = true) (ho : lvB o = true) (hs : 0 ≤ st) :
    brB ls vs (stp ls vs sl b o st).1 sl (stp ls vs sl b o st).2 = true ∧ b.2 ≤ (stp ls vs sl b o st).2 := by
  obtain ⟨hc, hw, hsl, ht⟩ := br_of h
  have cv := cv_of hc
  have hh := (hd_bd' cv sl b.2 o hsl ho)
  have hi := inf_bd cv (sl := sl) (o := o) hw.1 ht.2
  have hn := nw_bd hw.1 hw.2 hh.1 hh.2 hs
  unfold stp
  refine ⟨br_mk hc hn.1.1 hn.1.2 hsl ?_ hi.2, ?_⟩ <;> simp only <;> omega
/-- After k hours. -/
def bAt (ls vs : List Int) (sl : Int) (os : List Int) (s : Nat → Int) (b : Int × Int) : Nat → Int × Int
  | 0 => b
  | k + 1 => stp ls vs sl (bAt ls vs sl os s b k) (at0 os k) (s k)
theorem bAt_ok {ls vs : List Int} {sl : Int} {os : List Int} {s : Nat → Int} {b : Int × Int} (h : brB ls vs b.1 sl b.2 = true) (ho : ∀ i, i < os.length → lvB (at0 os i) = true) (hs : ∀ i, i < os.length → 0 ≤ s i) :
    ∀ k, k ≤ os.length → brB ls vs (bAt ls vs sl os s b k).1 sl (bAt ls vs sl os s b k).2 = true := by
  intro k
  induction k with
  | zero => intro _; exact h
  | succ k ih => intro hk; exact (stp_ok (ih (by omega)) (ho k (by omega)) (hs k (by omega))).1
theorem bAt_le {ls vs : List Int} {sl : Int} {os : List Int} {s : Nat → Int} {b : Int × Int} (h : brB ls vs b.1 sl b.2 = true) (ho : ∀ i, i < os.length → lvB (at0 os i) = true) (hs : ∀ i, i < os.length → 0 ≤ s i) {i : Nat} :
    ∀ k, i ≤ k → k ≤ os.length → (bAt ls vs sl os s b i).2 ≤ (bAt ls vs sl os s b k).2 := by
  intro k
  induction k with
  | zero =>
    intro hi _
    obtain rfl : i = 0 := Nat.le_zero.1 hi
    exact Int.le_refl _
  | succ k ih =>
    intro hi hk
    rcases Nat.lt_or_eq_of_le hi with hlt | rfl
    · have a := ih (by omega) (by omega)
      have b' := (stp_ok (bAt_ok h ho hs k (by omega)) (ho k (by omega)) (hs k (by omega))).2
      exact Int.le_trans a b'
    · exact Int.le_refl _
theorem bAt_lv {ls vs : List Int} {sl : Int} {os : List Int} {s : Nat → Int} {b : Int × Int} (h : brB ls vs b.1 sl b.2 = true) (ho : ∀ i, i < os.length → lvB (at0 os i) = true) (hs : ∀ i, i < os.length → 0 ≤ s i) {i k : Nat} (hi : i ≤ k) (hk : k ≤ os.length) :
    lvZ ls vs (bAt ls vs sl os s b i).2 ≤ lvZ ls vs (bAt ls vs sl os s b k).2 := by
  have hv := br_of (bAt_ok h ho hs k hk)
  exact lv_mono (cv_of hv.1) (bAt_le h ho hs k hi hk) hv.2.2.2.2
/-- What the stones have closed in the first k hours. -/
def clS (ls vs : List Int) (sl : Int) (os : List Int) (s : Nat → Int) (b : Int × Int) : Nat → Int
  | 0 => 0
  | k + 1 => clS ls vs sl os s b k + clZ (bAt ls vs sl os s b k).1 (hdZ ls vs sl (bAt ls vs sl os s b k).2 (at0 os k)) (s k)
theorem clS_bd {ls vs : List Int} {sl : Int} {os : List Int} {s : Nat → Int} {b : Int × Int} (h : brB ls vs b.1 sl b.2 = true) (ho : ∀ i, i < os.length → lvB (at0 os i) = true) (hs : ∀ i, i < os.length → 0 ≤ s i) :
    ∀ k, k ≤ os.length → 0 ≤ clS ls vs sl os s b k ∧ clS ls vs sl os s b k ≤ 1400 * k := by
  intro k
  induction k with
  | zero => intro _; simp [clS]
  | succ k ih =>
    intro hk
    have a := ih (by omega)
    obtain ⟨hc, hw, hsl, ht⟩ := br_of (bAt_ok h ho hs k (by omega))
    have hh := (hd_bd' (cv_of hc) sl (bAt ls vs sl os s b k).2 (at0 os k) hsl (ho k (by omega)))
    have hn := (nw_bd hw.1 hw.2 hh.1 hh.2 (hs k (by omega))).2
    simp only [clS]
    omega
/-- The first number below a bound. -/
def findK (p : Nat → Bool) (n : Nat) : Option Nat := (List.range n).find? p
theorem findK_some {p : Nat → Bool} {n i : Nat} (hi : i < n) (hp : p i = true) (hb : ∀ j, j < i → p j = false) : findK p n = some i := by
  unfold findK
  rw [List.find?_range_eq_some]
  exact ⟨hp, List.mem_range.2 hi, fun j hj => by simp [hb j hj]⟩
theorem findK_none {p : Nat → Bool} {n : Nat} (hb : ∀ j, j < n → p j = false) : findK p n = none := by
  unfold findK
  rw [List.find?_range_eq_none]
  intro j hj
  simp [hb j hj]
theorem findK_congr {p q : Nat → Bool} {n : Nat} (h : ∀ j, j < n → p j = q j) : findK p n = findK q n := by
  cases hq : findK q n with
  | none =>
    unfold findK at hq
    rw [List.find?_range_eq_none] at hq
    exact findK_none (fun j hj => by rw [h j hj]; simpa using hq j hj)
  | some i =>
    unfold findK at hq
    rw [List.find?_range_eq_some] at hq
    have hi := List.mem_range.1 hq.2.1
    exact findK_some hi (by rw [h i hi]; exact hq.1) (fun j hj => by rw [h j (by omega)]; simpa using hq.2.2 j hj)
/-- The codes. -/
def bcZ (ls vs : List Int) (wd sl wt : Int) (os : List Int) (other : Bool) : Int :=
  if brB ls vs wd sl wt then (if (os.all lvB && decide (os.length ≤ 100)) && other then 0 else 2) else 1
theorem bcZ_0 {ls vs : List Int} {wd sl wt : Int} {os : List Int} {other : Bool} (h : bcZ ls vs wd sl wt os other = 0) : brB ls vs wd sl wt = true ∧ os.all lvB = true ∧ os.length ≤ 100 ∧ other = true := by
  unfold bcZ at h
  split at h
  · rename_i h1
    split at h
    · rename_i h2
      simp only [Bool.and_eq_true, decide_eq_true_eq] at h2
      exact ⟨h1, h2.1.1, h2.1.2, h2.2⟩
    · omega
  · omega
theorem all_at0 {os : List Int} {p : Int → Bool} (h : os.all p = true) : ∀ i, i < os.length → p (at0 os i) = true := by
  intro i hi
  rw [List.all_eq_true] at h
  exact h _ (List.mem_of_getElem? (get_at0 hi))
end Go.Proofs.Ytieomdjcnaaopaa
