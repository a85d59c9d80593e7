/- Storage curves in plain Lean: the volume at a level, and the least level with a volume. -/
import Derived.Test.YtieomdjcnaaopaaRises
namespace Go.Proofs.Ytieomdjcnaaopaa
open Go.RowKit
set_option linter.unusedVariables false

def at0 (xs : List Int) (i : Nat) : Int := xs.getD i 0
theorem at0_get {xs : List Int} {i : Nat} {x : Int} (h : xs[i]? = some x) : at0 xs i = x := by simp [at0, List.getD, h]
theorem get_at0 {xs : List Int} {i : Nat} (h : i < xs.length) : xs[i]? = some (at0 xs i) := by
  simp [at0, List.getD, List.getElem?_eq_getElem h]
theorem rises_iff {xs : List Int} {lo hi : Int} (h : risesB xs lo hi = true) : (∀ i, i < xs.length → lo ≤ at0 xs i ∧ at0 xs i ≤ hi) ∧ ∀ i, i + 1 < xs.length → at0 xs i < at0 xs (i + 1) := by
  unfold risesB at h
  rw [List.all_eq_true] at h
  constructor
  · intro i hi'
    have := h i (List.mem_range.2 hi')
    unfold okAt at this
    simp only [Bool.and_eq_true] at this
    exact inB_iff.1 this.1
  · intro i hi'
    have := h (i + 1) (List.mem_range.2 hi')
    unfold okAt at this
    simp only [Bool.and_eq_true, Nat.add_sub_cancel] at this
    have h2 := this.2
    simpa [at0] using h2
def cvB (ls vs : List Int) : Bool := (inB (ls.length : Int) 2 12 && decide (vs.length = ls.length)) && (risesB ls (-2000) 2000 && (risesB vs 0 1000000000 && (at0 vs 0 == 0)))
structure CV (ls vs : List Int) : Prop where
  n2 : 2 ≤ ls.length
  n12 : ls.length ≤ 12
  len : vs.length = ls.length
  lb : ∀ i, i < ls.length → -2000 ≤ at0 ls i ∧ at0 ls i ≤ 2000
  li : ∀ i, i + 1 < ls.length → at0 ls i < at0 ls (i + 1)
  vb : ∀ i, i < ls.length → 0 ≤ at0 vs i ∧ at0 vs i ≤ 1000000000
  vi : ∀ i, i + 1 < ls.length → at0 vs i < at0 vs (i + 1)
  v0 : at0 vs 0 = 0
theorem cv_of {ls vs : List Int} (h : cvB ls vs = true) : CV ls vs := by
  simp only [cvB, Bool.and_eq_true, decide_eq_true_eq, beq_iff_eq] at h
  obtain ⟨⟨h1, h2⟩, h3, h4, h5⟩ := h
  have a := inB_iff.1 h1
  have b := rises_iff h3
  have c := rises_iff h4
  rw [h2] at c
  exact ⟨by omega, by omega, h2, b.1, b.2, c.1, c.2, h5⟩
theorem inc_le {xs : List Int} {n : Nat} (h : ∀ i, i + 1 < n → at0 xs i < at0 xs (i + 1)) {i j : Nat} (hij : i ≤ j) (hj : j < n) : at0 xs i ≤ at0 xs j := by
  induction j with
  | zero =>
    obtain rfl : i = 0 := by omega
    exact Int.le_refl _
  | succ j ih =>
    rcases Nat.lt_or_eq_of_le hij with hlt | rfl
    · have := ih (by omega) (by omega)
      have := h j hj
      omega
    · exact Int.le_refl _
/-- The knot before a level, of the first m ones. -/
def kn (ls : List Int) (level : Int) : Nat → Nat
  | 0 => 0
  | m + 1 => if at0 ls m ≤ level then m else kn ls level m
theorem kn_lt (ls : List Int) (level : Int) : ∀ m, kn ls level m ≤ m - 1 := by
  intro m
  induction m with
  | zero => simp [kn]
  | succ m ih => simp only [kn]; split <;> omega
theorem kn_eq {ls : List Int} {level : Int} {k : Nat} (h1 : k = 0 ∨ at0 ls k ≤ level) : ∀ m, k < m → (∀ j, k < j → j < m → level < at0 ls j) → kn ls level m = k := by
  intro m
  induction m with
  | zero => intro h; omega
  | succ m ih =>
    intro hk hj
    simp only [kn]
    rcases Nat.lt_or_eq_of_le (Nat.le_of_lt_succ hk) with hlt | rfl
    · have := hj m hlt (by omega)
      rw [if_neg (by omega)]
      exact ih hlt (fun j a b => hj j a (by omega))
    · rcases h1 with rfl | h1
      · split
        · rfl
        · rfl
      · rw [if_pos h1]
def knot (ls : List Int) (level : Int) : Nat := kn ls level (ls.length - 1)
def lastZ (xs : List Int) : Int := at0 xs (xs.length - 1)
def volZ (ls vs : List Int) (level : Int) : Int :=
  at0 vs (knot ls level) + ((at0 vs (knot ls level + 1) - at0 vs (knot ls level)) * (level - at0 ls (knot ls level))).tdiv (at0 ls (knot ls level + 1) - at0 ls (knot ls level))
theorem kn_spec {ls : List Int} {level : Int} : ∀ m, (kn ls level m = 0 ∨ at0 ls (kn ls level m) ≤ level) ∧ ∀ j, kn ls level m < j → j < m → level < at0 ls j := by
  intro m
  induction m with
  | zero => exact ⟨.inl rfl, fun j a b => by omega⟩
  | succ m ih =>
    simp only [kn]
    split
    · rename_i h
      exact ⟨.inr h, fun j a b => by omega⟩
    · rename_i h
      refine ⟨ih.1, fun j a b => ?_⟩
      rcases Nat.lt_or_eq_of_le (Nat.le_of_lt_succ b) with hlt | rfl
      · exact ih.2 j a hlt
      · omega
theorem knot_lt {ls : List Int} (h : 2 ≤ ls.length) (level : Int) : knot ls level + 1 < ls.length := by
  have := kn_lt ls level (ls.length - 1)
  unfold knot
  omega
theorem knot_in {ls vs : List Int} (h : CV ls vs) {level : Int} (h0 : at0 ls 0 ≤ level) (h1 : level ≤ lastZ ls) : at0 ls (knot ls level) ≤ level ∧ level ≤ at0 ls (knot ls level + 1) := by
  have hs := kn_spec (ls := ls) (level := level) (ls.length - 1)
  have hl := knot_lt h.n2 level
  unfold lastZ at h1
  unfold knot at *
  refine ⟨?_, ?_⟩
  · rcases hs.1 with e | e
    · rw [e]; exact h0
    · exact e
  · by_cases hk : kn ls level (ls.length - 1) + 1 < ls.length - 1
    · have := hs.2 (kn ls level (ls.length - 1) + 1) (by omega) hk
      omega
    · rw [show kn ls level (ls.length - 1) + 1 = ls.length - 1 by omega]
      exact h1
theorem vol_bd {ls vs : List Int} (h : CV ls vs) {level : Int} (h0 : at0 ls 0 ≤ level) (h1 : level ≤ lastZ ls) :
    (0 ≤ (at0 vs (knot ls level + 1) - at0 vs (knot ls level)) * (level - at0 ls (knot ls level)) ∧ (at0 vs (knot ls level + 1) - at0 vs (knot ls level)) * (level - at0 ls (knot ls level)) ≤ 4000000000000) ∧
    at0 vs (knot ls level) ≤ volZ ls vs level ∧ volZ ls vs level ≤ at0 vs (knot ls level + 1) := by
  have hk := knot_in h h0 h1
  have hl := knot_lt h.n2 level
  unfold volZ
  generalize knot ls level = k at hk hl ⊢
  have a := h.li k hl
  have b := h.vi k hl
  have c := h.lb k (by omega)
  have d := h.lb (k + 1) hl
  have e := h.vb k (by omega)
  have f := h.vb (k + 1) hl
  generalize at0 ls k = l0 at *
  generalize at0 ls (k + 1) = l1 at *
  generalize at0 vs k = v0 at *
  generalize at0 vs (k + 1) = v1 at *
  have m0 : 0 ≤ (v1 - v0) * (level - l0) := Int.mul_nonneg (by omega) (by omega)
  have m1 : (v1 - v0) * (level - l0) ≤ (v1 - v0) * (l1 - l0) := Int.mul_le_mul_of_nonneg_left (by omega) (by omega)
  have m2 : (v1 - v0) * (l1 - l0) ≤ 1000000000 * 4000 := Int.mul_le_mul (by omega) (by omega) (by omega) (by omega)
  refine ⟨⟨m0, by omega⟩, ?_, ?_⟩
  · rw [Int.tdiv_eq_ediv_of_nonneg m0]
    have := Int.ediv_nonneg m0 (show 0 ≤ l1 - l0 by omega)
    omega
  · rw [Int.tdiv_eq_ediv_of_nonneg m0]
    have := Int.ediv_le_ediv (show 0 < l1 - l0 by omega) m1
    rw [Int.mul_ediv_cancel _ (by omega)] at this
    omega
theorem knot_mono {ls vs : List Int} (h : CV ls vs) {x y : Int} (hxy : x ≤ y) : knot ls x ≤ knot ls y := by
  have hx := kn_spec (ls := ls) (level := x) (ls.length - 1)
  have hy := kn_spec (ls := ls) (level := y) (ls.length - 1)
  have lx := knot_lt h.n2 x
  unfold knot at *
  apply Nat.le_of_not_lt
  intro hlt
  have := hy.2 _ hlt (by omega)
  rcases hx.1 with e | e
  · omega
  · omega
theorem vol_mono {ls vs : List Int} (h : CV ls vs) {x y : Int} (h0 : at0 ls 0 ≤ x) (hxy : x ≤ y) (h1 : y ≤ lastZ ls) : volZ ls vs x ≤ volZ ls vs y := by
  have hk := knot_mono h hxy
  rcases Nat.lt_or_eq_of_le hk with hlt | heq
  · have a := (vol_bd h h0 (by omega)).2.2
    have b := (vol_bd h (show at0 ls 0 ≤ y by omega) h1).2.1
    have c := inc_le (n := ls.length) h.vi (show knot ls x + 1 ≤ knot ls y by omega) (by have := knot_lt h.n2 y; omega)
    omega
  · have ha := (vol_bd h h0 (by omega)).1.1
    have hb := (vol_bd h (show at0 ls 0 ≤ y by omega) h1).1.1
    have hl := knot_lt h.n2 x
    have a := h.li _ hl
    have b := h.vi _ hl
    unfold volZ
    rw [← heq] at hb ⊢
    rw [Int.tdiv_eq_ediv_of_nonneg ha, Int.tdiv_eq_ediv_of_nonneg hb]
    have := Int.ediv_le_ediv (show 0 < at0 ls (knot ls x + 1) - at0 ls (knot ls x) by omega) (Int.mul_le_mul_of_nonneg_left (show x - at0 ls (knot ls x) ≤ y - at0 ls (knot ls x) by omega) (show 0 ≤ at0 vs (knot ls x + 1) - at0 vs (knot ls x) by omega))
    omega
/-- The least level with a volume. -/
def lvTo (ls vs : List Int) (v : Int) (x : Int) : Nat → Int
  | 0 => x
  | m + 1 => if v ≤ volZ ls vs x then x else lvTo ls vs v (x + 1) m
def lvZ (ls vs : List Int) (v : Int) : Int := lvTo ls vs v (at0 ls 0) (lastZ ls - at0 ls 0).toNat
theorem lvTo_eq {ls vs : List Int} {v : Int} : ∀ (m : Nat) (a x : Int), a ≤ x → x ≤ a + m → (v ≤ volZ ls vs x ∨ x = a + m) → (∀ y, a ≤ y → y < x → volZ ls vs y < v) → lvTo ls vs v a m = x := by
  intro m
  induction m with
  | zero => intro a x h0 h1 _ _; simp only [lvTo]; omega
  | succ m ih =>
    intro a x h0 h1 h2 h3
    simp only [lvTo]
    rcases Int.lt_or_eq_of_le h0 with hlt | rfl
    · have := h3 a (Int.le_refl _) hlt
      rw [if_neg (by omega)]
      exact ih (a + 1) x (by omega) (by omega) (by rcases h2 with h2 | h2; exact .inl h2; exact .inr (by omega)) (fun y q r => h3 y (by omega) r)
    · rcases h2 with h2 | h2
      · rw [if_pos h2]
      · omega
theorem lv_eq {ls vs : List Int} {v x : Int} (h0 : at0 ls 0 ≤ x) (h1 : x ≤ lastZ ls) (h2 : v ≤ volZ ls vs x ∨ x = lastZ ls) (h3 : ∀ y, at0 ls 0 ≤ y → y < x → volZ ls vs y < v) : lvZ ls vs v = x :=
  lvTo_eq _ _ _ h0 (by omega) (by rcases h2 with h2 | h2; exact .inl h2; exact .inr (by omega)) h3
theorem lvTo_in {ls vs : List Int} {v : Int} : ∀ (m : Nat) (a : Int), a ≤ lvTo ls vs v a m ∧ lvTo ls vs v a m ≤ a + m := by
  intro m
  induction m with
  | zero => intro a; simp [lvTo]
  | succ m ih =>
    intro a
    simp only [lvTo]
    split
    · omega
    · have := ih (a + 1)
      omega
theorem lv_in {ls vs : List Int} (h : CV ls vs) (v : Int) : at0 ls 0 ≤ lvZ ls vs v ∧ lvZ ls vs v ≤ lastZ ls := by
  have hl : at0 ls 0 ≤ lastZ ls := inc_le (n := ls.length) h.li (Nat.zero_le _) (by have := h.n2; omega)
  have := lvTo_in (ls := ls) (vs := vs) (v := v) (lastZ ls - at0 ls 0).toNat (at0 ls 0)
  unfold lvZ
  omega
end Go.Proofs.Ytieomdjcnaaopaa
