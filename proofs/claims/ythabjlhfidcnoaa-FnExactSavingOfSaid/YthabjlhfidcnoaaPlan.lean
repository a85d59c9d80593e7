/- Pumping plans in plain Lean: what is valid, the water, the price, the table of least prices. -/
import Derived.Test.YthabjlhfidcnoaaBasic
namespace Go.Proofs.Ythabjlhfidcnoaa
open Go.RowKit
set_option linter.unusedVariables false

def unB (x : Int) : Bool := inB x 0 40
def prB (x : Int) : Bool := inB x 0 1000
theorem unB_iff {x : Int} : unB x = true ↔ 0 ≤ x ∧ x ≤ 40 := inB_iff
theorem prB_iff {x : Int} : prB x = true ↔ 0 ≤ x ∧ x ≤ 1000 := inB_iff
def vpB (S L H C : Int) (xs ps : List Int) : Bool :=
  (inB L 0 300 && (inB H L 300 && (inB S L H && inB C 0 40))) && (xs.all unB && (ps.all prB && (decide (ps.length = xs.length) && decide (xs.length ≤ 48))))
structure VP (S L H C : Int) (xs ps : List Int) : Prop where
  l0 : 0 ≤ L
  ls : L ≤ S
  sh : S ≤ H
  h1 : H ≤ 300
  c0 : 0 ≤ C
  c1 : C ≤ 40
  un : xs.all unB = true
  pr : ps.all prB = true
  len : ps.length = xs.length
  n48 : xs.length ≤ 48
theorem vp_iff {S L H C : Int} {xs ps : List Int} : vpB S L H C xs ps = true ↔ VP S L H C xs ps := by
  simp only [vpB, Bool.and_eq_true, inB_iff, decide_eq_true_eq]
  constructor
  · rintro ⟨⟨a, b, c, d⟩, e, f, g, h⟩
    exact ⟨by omega, by omega, by omega, by omega, by omega, by omega, e, f, g, h⟩
  · rintro ⟨a, b, c, d, e, f, g, h, i, j⟩
    exact ⟨⟨by omega, by omega, by omega, by omega⟩, g, h, i, j⟩
theorem vp_not {S L H C : Int} {xs ps : List Int} (h : ¬ VP S L H C xs ps) : vpB S L H C xs ps = false := by
  rw [← Bool.not_eq_true, vp_iff]
  exact h
def inC (C x : Int) : Bool := inB x 0 C
def pcZ (S L H C : Int) (xs ps plan : List Int) : Int :=
  if vpB S L H C xs ps then (if plan.length = xs.length ∧ plan.all (inC C) = true then 0 else 2) else 1
structure PC (S L H C : Int) (xs ps plan : List Int) : Prop where
  vp : VP S L H C xs ps
  len : plan.length = xs.length
  inn : plan.all (inC C) = true
theorem pcZ_cases (S L H C : Int) (xs ps plan : List Int) : (pcZ S L H C xs ps plan = 0 ∧ PC S L H C xs ps plan) ∨ pcZ S L H C xs ps plan = 1 ∨ pcZ S L H C xs ps plan = 2 := by
  unfold pcZ
  by_cases h : vpB S L H C xs ps = true
  · rw [if_pos h]
    by_cases k : plan.length = xs.length ∧ plan.all (inC C) = true
    · rw [if_pos k]; exact .inl ⟨rfl, vp_iff.1 h, k.1, k.2⟩
    · rw [if_neg k]; exact .inr (.inr rfl)
  · rw [if_neg h]; exact .inr (.inl rfl)
theorem all_at_ {α : Type} {xs : List α} {p : α → Bool} (h : xs.all p = true) {k : Nat} {x : α} (hx : xs[k]? = some x) : p x = true := List.all_eq_true.1 h x (List.mem_of_getElem? hx)

theorem sumto_next {xs : List Int} {k : Nat} {x : Int} (h : xs[k]? = some x) : (xs.take (k + 1)).sum = (xs.take k).sum + x := by
  obtain ⟨hk, e⟩ := List.getElem?_eq_some_iff.1 h
  rw [List.take_succ_eq_append_getElem hk, e, List.sum_append]
  simp
theorem sumto_bd {xs : List Int} {B : Nat} {p : Int → Bool} (hp : ∀ x, p x = true → 0 ≤ x ∧ x ≤ B) (h : xs.all p = true) : ∀ k, k ≤ xs.length → 0 ≤ (xs.take k).sum ∧ (xs.take k).sum ≤ ((k * B : Nat) : Int) := by
  intro k
  induction k with
  | zero => intro _; simp
  | succ k ih =>
    intro hk
    have hx := List.getElem?_eq_getElem (show k < xs.length by omega)
    have hb := hp _ (all_at_ h hx)
    have hi := ih (by omega)
    rw [sumto_next hx, show (k + 1) * B = k * B + B from by rw [Nat.add_mul, Nat.one_mul]]
    omega

/-- The water after k hours. -/
def watZ (S : Int) (xs plan : List Int) (k : Nat) : Int := S + ((xs.take k).sum - (plan.take k).sum)
theorem watZ_zero (S : Int) (xs plan : List Int) : watZ S xs plan 0 = S := by simp [watZ]
theorem watZ_next {S : Int} {xs plan : List Int} {k : Nat} {x y : Int} (hx : xs[k]? = some x) (hy : plan[k]? = some y) : watZ S xs plan (k + 1) = watZ S xs plan k + (x - y) := by
  unfold watZ
  rw [sumto_next hx, sumto_next hy]
  omega
def watF (S : Int) (xs plan : List Int) (n : Nat) : List Int := (List.range n).map fun j => watZ S xs plan (j + 1)
theorem watF_next (S : Int) (xs plan : List Int) (n : Nat) : watF S xs plan (n + 1) = watF S xs plan n ++ [watZ S xs plan (n + 1)] := by simp [watF, List.range_succ]
theorem watF_len (S : Int) (xs plan : List Int) (n : Nat) : (watF S xs plan n).length = n := by simp [watF]
theorem watZ_bd {S L H C : Int} {xs ps plan : List Int} (h : VP S L H C xs ps) (hp : plan.all (inC 40) = true) {k : Nat} (h1 : k ≤ xs.length) (h2 : k ≤ plan.length) : -2000 ≤ watZ S xs plan k ∧ watZ S xs plan k ≤ 3000 := by
  have a := sumto_bd (B := 40) (fun x hx => by have := unB_iff.1 hx; omega) h.un k h1
  have b := sumto_bd (B := 40) (p := inC 40) (fun x hx => by have := inB_iff.1 hx; omega) hp k h2
  have c := h.n48
  have d := h.l0
  have e := h.ls
  have f := h.sh
  have g := h.h1
  unfold watZ
  omega
theorem inC_40 {C : Int} (hC : C ≤ 40) {plan : List Int} (h : plan.all (inC C) = true) : plan.all (inC 40) = true := by
  rw [List.all_eq_true] at h ⊢
  intro x hx
  have := inB_iff.1 (h x hx)
  exact inB_iff.2 (by omega)
def keepB (S L H : Int) (xs plan : List Int) (n : Nat) : Bool := (watF S xs plan n).all fun x => inB x L H

/-- The price of the first k hours. -/
def costZ (ps plan : List Int) (k : Nat) : Int := ((List.zipWith (fun a b => a * b) plan ps).take k).sum
theorem costZ_next {ps plan : List Int} {k : Nat} {x y : Int} (hx : plan[k]? = some x) (hy : ps[k]? = some y) : costZ ps plan (k + 1) = costZ ps plan k + x * y := by
  unfold costZ
  rw [sumto_next (x := x * y) (by simp [List.getElem?_zipWith, hx, hy])]
theorem mul_bd {x y : Int} (a : 0 ≤ x) (b : x ≤ 40) (c : 0 ≤ y) (d : y ≤ 1000) : 0 ≤ x * y ∧ x * y ≤ 40000 := by
  refine ⟨Int.mul_nonneg a c, ?_⟩
  have := Int.mul_le_mul b d c (by omega)
  omega
theorem costZ_bd {ps plan : List Int} (hp : ps.all prB = true) (hq : plan.all (inC 40) = true) (hl : plan.length = ps.length) : ∀ k, k ≤ plan.length → 0 ≤ costZ ps plan k ∧ costZ ps plan k ≤ k * 40000 := by
  intro k
  induction k with
  | zero => intro _; simp [costZ]
  | succ k ih =>
    intro hk
    have hx := List.getElem?_eq_getElem (show k < plan.length by omega)
    have hy := List.getElem?_eq_getElem (show k < ps.length by omega)
    have hb := inB_iff.1 (all_at_ hq hx)
    have hc := prB_iff.1 (all_at_ hp hy)
    have := mul_bd hb.1 hb.2 hc.1 hc.2
    have hi := ih (by omega)
    rw [costZ_next hx hy]
    omega

/-! The table. -/
def bestTo (f : Nat → Int) : Nat → Int
  | 0 => -1
  | m + 1 => if f m < 0 then bestTo f m else if bestTo f m < 0 ∨ f m < bestTo f m then f m else bestTo f m
theorem bestTo_skip {f : Nat → Int} {m : Nat} (h : f m < 0) : bestTo f (m + 1) = bestTo f m := by simp only [bestTo]; rw [if_pos h]
theorem bestTo_take {f : Nat → Int} {m : Nat} {c : Int} (e : f m = c) (h : 0 ≤ c) (k : bestTo f m < 0 ∨ c < bestTo f m) : bestTo f (m + 1) = c := by
  subst e
  simp only [bestTo]
  rw [if_neg (by omega), if_pos k]
theorem bestTo_leave {f : Nat → Int} {m : Nat} {c : Int} (e : f m = c) (k1 : 0 ≤ bestTo f m) (k2 : bestTo f m ≤ c) : bestTo f (m + 1) = bestTo f m := by
  subst e
  simp only [bestTo]
  rw [if_neg (by omega), if_neg (by omega)]
theorem bestTo_low (f : Nat → Int) (m : Nat) : -1 ≤ bestTo f m := by
  induction m with
  | zero => simp [bestTo]
  | succ m ih => simp only [bestTo]; split <;> (try split) <;> omega
theorem bestTo_has {f : Nat → Int} {m : Nat} (h : 0 ≤ bestTo f m) : ∃ u, u < m ∧ f u = bestTo f m := by
  induction m with
  | zero => simp [bestTo] at h
  | succ m ih =>
    by_cases h1 : f m < 0
    · rw [bestTo_skip h1] at h ⊢
      obtain ⟨u, hu, e⟩ := ih h
      exact ⟨u, by omega, e⟩
    · by_cases h2 : bestTo f m < 0 ∨ f m < bestTo f m
      · rw [bestTo_take rfl (by omega) h2]
        exact ⟨m, by omega, rfl⟩
      · rw [bestTo_leave rfl (by omega) (by omega)]
        obtain ⟨u, hu, e⟩ := ih (by omega)
        exact ⟨u, by omega, e⟩
theorem bestTo_le {f : Nat → Int} {m u : Nat} (hu : u < m) (h : 0 ≤ f u) : 0 ≤ bestTo f m ∧ bestTo f m ≤ f u := by
  induction m with
  | zero => omega
  | succ m ih =>
    by_cases h1 : f m < 0
    · rw [bestTo_skip h1]
      exact ih (by rcases Nat.lt_or_eq_of_le (Nat.le_of_lt_succ hu) with h | rfl; · exact h
                   · omega)
    · by_cases h2 : bestTo f m < 0 ∨ f m < bestTo f m
      · rw [bestTo_take rfl (by omega) h2]
        refine ⟨by omega, ?_⟩
        rcases Nat.lt_or_eq_of_le (Nat.le_of_lt_succ hu) with hlt | rfl
        · have := ih hlt
          omega
        · omega
      · rw [bestTo_leave rfl (by omega) (by omega)]
        refine ⟨by omega, ?_⟩
        rcases Nat.lt_or_eq_of_le (Nat.le_of_lt_succ hu) with hlt | rfl
        · exact (ih hlt).2
        · omega
theorem bestTo_bd {f : Nat → Int} {B : Int} (hB : 0 ≤ B) (h : ∀ u, f u ≤ B) (m : Nat) : bestTo f m ≤ B := by
  by_cases h1 : 0 ≤ bestTo f m
  · obtain ⟨u, _, e⟩ := bestTo_has h1
    rw [← e]; exact h u
  · omega
def nx (nxt : List Int) (q : Int) : Int := nxt.getD q.toNat (-1)
def stepF (L H x p : Int) (nxt : List Int) (w : Int) (u : Nat) : Int :=
  if inB (w + x - u) L H = true ∧ 0 ≤ nx nxt (w + x - u) then u * p + nx nxt (w + x - u) else -1
def rowF (L H C x p : Int) (nxt : List Int) : List Int := (List.range (H.toNat + 1)).map fun w : Nat => bestTo (stepF L H x p nxt (w : Int)) (C.toNat + 1)
def tblF (L H C : Int) : List Int → List Int → List Int
  | x :: xs, p :: ps => rowF L H C x p (tblF L H C xs ps)
  | _, _ => List.replicate (H.toNat + 1) 0
theorem rowF_len (L H C x p : Int) (nxt : List Int) : (rowF L H C x p nxt).length = H.toNat + 1 := by simp [rowF]
theorem tblF_len (L H C : Int) (xs ps : List Int) : (tblF L H C xs ps).length = H.toNat + 1 := by
  unfold tblF
  split
  · exact rowF_len ..
  · simp
/-- The row before hour j. -/
def rowAt (L H C : Int) (xs ps : List Int) (j : Nat) : List Int := tblF L H C (xs.drop j) (ps.drop j)
theorem drop_cons {xs : List Int} {j : Nat} {x : Int} (h : xs[j]? = some x) : xs.drop j = x :: xs.drop (j + 1) := by
  obtain ⟨hk, e⟩ := List.getElem?_eq_some_iff.1 h
  rw [List.drop_eq_getElem_cons hk, e]
theorem rowAt_next {L H C : Int} {xs ps : List Int} {j : Nat} {x p : Int} (hx : xs[j]? = some x) (hp : ps[j]? = some p) : rowAt L H C xs ps j = rowF L H C x p (rowAt L H C xs ps (j + 1)) := by
  unfold rowAt
  rw [drop_cons hx, drop_cons hp]
  rfl
theorem rowAt_end {L H C : Int} {xs ps : List Int} {j : Nat} (h : xs.length ≤ j) : rowAt L H C xs ps j = List.replicate (H.toNat + 1) 0 := by
  unfold rowAt
  rw [List.drop_eq_nil_of_le h]
  rfl
theorem rowAt_len (L H C : Int) (xs ps : List Int) (j : Nat) : (rowAt L H C xs ps j).length = H.toNat + 1 := tblF_len ..
theorem tblF_bd {L H C : Int} (c1 : C ≤ 40) : ∀ (xs ps : List Int), ps.all prB = true → ∀ z ∈ tblF L H C xs ps, -1 ≤ z ∧ z ≤ xs.length * 40000 := by
  intro xs
  induction xs with
  | nil =>
    intro ps _ z hz
    simp [tblF] at hz
    simp [hz]
  | cons x xs ih =>
    intro ps hp z hz
    cases ps with
    | nil => simp [tblF] at hz; simp only [hz, List.length_cons]; omega
    | cons p ps =>
      simp only [List.all_cons, Bool.and_eq_true] at hp
      have hi := ih ps hp.2
      have hq := prB_iff.1 hp.1
      simp only [tblF, rowF, List.mem_map, List.mem_range] at hz
      obtain ⟨w, hw, rfl⟩ := hz
      refine ⟨bestTo_low _ _, ?_⟩
      by_cases h1 : 0 ≤ bestTo (stepF L H x p (tblF L H C xs ps) ↑w) (C.toNat + 1)
      · obtain ⟨u, hu, e⟩ := bestTo_has h1
        rw [← e] at h1 ⊢
        unfold stepF at h1 ⊢
        split
        · rename_i hc
          have hm := mul_bd (x := (u : Int)) (y := p) (by omega) (by omega) hq.1 hq.2
          have : nx (tblF L H C xs ps) (↑w + x - ↑u) ≤ xs.length * 40000 := by
            have h2 := hc.2
            unfold nx at h2 ⊢
            rw [List.getD_eq_getElem?_getD] at h2 ⊢
            cases hg : (tblF L H C xs ps)[(↑w + x - (u : Int)).toNat]? with
            | none => simp only [Option.getD_none]; omega
            | some y => exact (hi y (List.mem_of_getElem? hg)).2
          simp only [List.length_cons]
          omega
        · omega
      · omega
theorem rowAt_bd {L H C : Int} (c1 : C ≤ 40) {xs ps : List Int} (hp : ps.all prB = true) (hn : xs.length ≤ 48) (j : Nat) {k : Nat} {z : Int} (h : (rowAt L H C xs ps j)[k]? = some z) : -1 ≤ z ∧ z ≤ 1920000 := by
  have hpd : (ps.drop j).all prB = true := by
    rw [List.all_eq_true] at hp ⊢
    intro x hx
    exact hp x (List.mem_of_mem_drop hx)
  have := tblF_bd (L := L) (H := H) c1 (xs.drop j) (ps.drop j) hpd z (List.mem_of_getElem? h)
  have e : (xs.drop j).length ≤ 48 := by rw [List.length_drop]; omega
  omega
theorem nx_get {nxt : List Int} {q z : Int} (h : nxt[q.toNat]? = some z) : nx nxt q = z := by
  unfold nx
  rw [List.getD_eq_getElem?_getD, h]
  rfl
theorem stepF_out {L H x p : Int} {nxt : List Int} {w : Int} {u : Nat} (h : inB (w + x - u) L H = false) : stepF L H x p nxt w u < 0 := by
  unfold stepF
  rw [if_neg (by rw [h]; simp)]
  omega
theorem stepF_none {L H x p : Int} {nxt : List Int} {w z : Int} {u : Nat} (h : nxt[(w + x - u).toNat]? = some z) (hz : z < 0) : stepF L H x p nxt w u < 0 := by
  unfold stepF
  rw [nx_get h, if_neg (by omega)]
  omega
theorem stepF_some {L H x p : Int} {nxt : List Int} {w z : Int} {u : Nat} (h : nxt[(w + x - u).toNat]? = some z) (hz : 0 ≤ z) (hi : inB (w + x - u) L H = true) : stepF L H x p nxt w u = u * p + z := by
  unfold stepF
  rw [nx_get h, if_pos ⟨hi, hz⟩]
end Go.Proofs.Ythabjlhfidcnoaa
