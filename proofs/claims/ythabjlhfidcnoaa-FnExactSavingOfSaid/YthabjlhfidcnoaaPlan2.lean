/- Pumping plans in plain Lean: a plan as late as possible, and when there is a plan at all. -/
import Derived.Test.YthabjlhfidcnoaaPlan
namespace Go.Proofs.Ythabjlhfidcnoaa
open Go.RowKit
set_option linter.unusedVariables false

def topF (H C : Int) : List Int → Int
  | [] => H
  | x :: xs => min H (topF H C xs + C - x)
def latF (L H C : Int) : List Int → Int → Option (List Int)
  | [], _ => some []
  | x :: xs, w =>
    let u := max 0 (w + x - topF H C xs)
    if w + x - u < L then none else (latF L H C xs (w + x - u)).map (u :: ·)
def feaP (L H C : Int) : List Int → Int → Prop
  | [], _ => True
  | x :: xs, w => ∃ u : Nat, (u : Int) ≤ C ∧ inB (w + x - u) L H = true ∧ feaP L H C xs (w + x - u)
def okT (L H C : Int) : List Int → Prop
  | [] => True
  | _ :: xs => L ≤ topF H C xs ∧ okT L H C xs
theorem topF_le (H C : Int) (xs : List Int) : topF H C xs ≤ H := by
  cases xs with
  | nil => exact Int.le_refl _
  | cons x xs => simp only [topF]; omega
theorem latF_ok {L H C : Int} : ∀ (xs : List Int) (w : Int), xs.all unB = true → L ≤ w → ((latF L H C xs w).isSome = true ↔ okT L H C xs) := by
  intro xs
  induction xs with
  | nil => intro w _ _; simp [latF, okT]
  | cons x xs ih =>
    intro w hx hw
    simp only [List.all_cons, Bool.and_eq_true] at hx
    have hu := unB_iff.1 hx.1
    simp only [latF, okT]
    generalize ht : topF H C xs = t
    by_cases h : L ≤ t
    · rw [if_neg (by omega)]
      rw [Option.isSome_map, ih _ hx.2 (by omega)]
      exact ⟨fun k => ⟨h, k⟩, fun k => k.2⟩
    · rw [if_pos (by omega)]
      simp [h]
theorem feaP_iff {L H C : Int} (h0 : 0 ≤ L) (hc : 0 ≤ C) : ∀ (xs : List Int) (w : Int), xs.all unB = true → L ≤ w → w ≤ H → (feaP L H C xs w ↔ w ≤ topF H C xs ∧ okT L H C xs) := by
  intro xs
  induction xs with
  | nil => intro w _ _ h; simp [feaP, topF, okT, h]
  | cons x xs ih =>
    intro w hx hw hh
    simp only [List.all_cons, Bool.and_eq_true] at hx
    have hu := unB_iff.1 hx.1
    simp only [feaP, topF, okT]
    have ht := topF_le H C xs
    constructor
    · rintro ⟨u, h1, h2, h3⟩
      have hi := inB_iff.1 h2
      have := (ih _ hx.2 hi.1 hi.2).1 h3
      exact ⟨by omega, by omega, this.2⟩
    · rintro ⟨h1, h2, h3⟩
      generalize hT : topF H C xs = t at h1 h2 ht ih
      refine ⟨(max 0 (w + x - t)).toNat, by omega, inB_iff.2 (by omega), (ih _ hx.2 (by omega) (by omega)).2 ⟨by omega, h3⟩⟩
theorem getZ {xs : List Int} {i : Nat} {z : Int} (h : xs[i]? = some z) : i < xs.length := (List.getElem?_eq_some_iff.1 h).1
theorem tbl_get {L H C : Int} {xs ps : List Int} {x p : Int} {w : Int} (h0 : 0 ≤ w) (h1 : w ≤ H) : (tblF L H C (x :: xs) (p :: ps))[w.toNat]? = some (bestTo (stepF L H x p (tblF L H C xs ps) w) (C.toNat + 1)) := by
  simp only [tblF, rowF, List.getElem?_map]
  rw [List.getElem?_range (by omega)]
  simp only [Option.map_some]
  rw [show ((w.toNat : Nat) : Int) = w from by omega]
theorem tbl_has {L H C : Int} {xs ps : List Int} {w : Int} (h0 : 0 ≤ w) (h1 : w ≤ H) : ∃ z, (tblF L H C xs ps)[w.toNat]? = some z :=
  ⟨_, List.getElem?_eq_getElem (by rw [tblF_len]; omega)⟩
theorem stepF_ge {L H x p : Int} {nxt : List Int} {w : Int} {u : Nat} (hp : 0 ≤ p) : 0 ≤ stepF L H x p nxt w u ↔ inB (w + x - u) L H = true ∧ 0 ≤ nx nxt (w + x - u) := by
  unfold stepF
  have := Int.mul_nonneg (show (0 : Int) ≤ (u : Int) by omega) hp
  split
  · rename_i h; exact ⟨fun _ => h, fun _ => by omega⟩
  · rename_i h; exact ⟨fun k => absurd k (by omega), fun k => absurd k h⟩
/-- The table tells whether there is a plan. -/
theorem tbl_fea {L H C : Int} (hL : 0 ≤ L) (hC : 0 ≤ C) : ∀ (xs ps : List Int) (w : Int), ps.length = xs.length → ps.all prB = true → 0 ≤ w → w ≤ H → (0 ≤ nx (tblF L H C xs ps) w ↔ feaP L H C xs w) := by
  intro xs
  induction xs with
  | nil =>
    intro ps w _ _ h0 h1
    rw [nx_get (z := 0) (by simp only [tblF]; rw [List.getElem?_replicate, if_pos (by omega)])]
    simp [feaP]
  | cons x xs ih =>
    intro ps w hl hp h0 h1
    cases ps with
    | nil => simp at hl
    | cons p ps =>
      simp only [List.all_cons, Bool.and_eq_true] at hp
      have hq := prB_iff.1 hp.1
      have hl' : ps.length = xs.length := by simpa using hl
      rw [nx_get (tbl_get h0 h1)]
      simp only [feaP]
      constructor
      · intro h
        obtain ⟨u, hu, e⟩ := bestTo_has h
        rw [← e, stepF_ge hq.1] at h
        have hi := inB_iff.1 h.1
        exact ⟨u, by omega, h.1, (ih ps _ hl' hp.2 (by omega) (by omega)).1 h.2⟩
      · rintro ⟨u, h1, h2, h3⟩
        have hi := inB_iff.1 h2
        exact (bestTo_le (u := u) (by omega) ((stepF_ge hq.1).2 ⟨h2, (ih ps _ hl' hp.2 (by omega) (by omega)).2 h3⟩)).1

/-! The plan with the least price, the first one. -/
def firstTo (p : Nat → Bool) : Nat → Nat
  | 0 => 0
  | m + 1 => if p 0 then 0 else firstTo (fun u => p (u + 1)) m + 1
theorem firstTo_eq {p : Nat → Bool} : ∀ {m u : Nat}, u < m → p u = true → (∀ v, v < u → p v = false) → firstTo p m = u := by
  intro m
  induction m generalizing p with
  | zero => intro u h; omega
  | succ m ih =>
    intro u hu h1 h2
    cases u with
    | zero => simp [firstTo, h1]
    | succ u =>
      simp only [firstTo]
      rw [if_neg (by rw [h2 0 (by omega)]; simp), ih (p := fun u => p (u + 1)) (by omega) h1 (fun v hv => h2 (v + 1) (by omega))]
def planF (L H C : Int) : List Int → List Int → Int → List Int
  | x :: xs, p :: ps, w =>
    let u := firstTo (fun u => decide (stepF L H x p (tblF L H C xs ps) w u = nx (tblF L H C (x :: xs) (p :: ps)) w)) (C.toNat + 1)
    (u : Int) :: planF L H C xs ps (w + x - u)
  | _, _, _ => []
theorem planF_len {L H C : Int} : ∀ (xs ps : List Int) (w : Int), ps.length = xs.length → (planF L H C xs ps w).length = xs.length := by
  intro xs
  induction xs with
  | nil => intro ps w _; simp [planF]
  | cons x xs ih =>
    intro ps w hl
    cases ps with
    | nil => simp at hl
    | cons p ps => simp only [planF, List.length_cons]; rw [ih ps _ (by simpa using hl)]

/-! Price 0: the plan as late as possible. -/
theorem zero_plan {L H C : Int} (hL : 0 ≤ L) (hC : 0 ≤ C) : ∀ (xs : List Int) (w : Int), xs.all unB = true → L ≤ w → w ≤ H → feaP L H C xs w → latF L H C xs w = some (planF L H C xs (List.replicate xs.length 0) w) := by
  intro xs
  induction xs with
  | nil => intro w _ _ _ _; simp [latF, planF]
  | cons x xs ih =>
    intro w hx hw hh hf
    have hF := hf
    rw [feaP_iff hL hC _ _ hx hw hh] at hF
    simp only [List.all_cons, Bool.and_eq_true] at hx
    have hu := unB_iff.1 hx.1
    simp only [topF, okT] at hF
    have ht := topF_le H C xs
    have hps : (List.replicate xs.length (0 : Int)).all prB = true := by rw [List.all_eq_true]; intro y hy; rw [List.eq_of_mem_replicate hy]; rfl
    have hpl : (List.replicate xs.length (0 : Int)).length = xs.length := by simp
    have key : ∀ v, stepF L H x 0 (tblF L H C xs (List.replicate xs.length 0)) w v ≤ 0 → True := fun _ _ => trivial
    have tz : ∀ (ys : List Int) (q : Int), 0 ≤ q → q ≤ H → 0 ≤ nx (tblF L H C ys (List.replicate ys.length 0)) q → nx (tblF L H C ys (List.replicate ys.length 0)) q = 0 := by
      intro ys
      induction ys with
      | nil => intro q h0 h1 _; rw [nx_get (z := 0) (by simp only [tblF]; rw [List.getElem?_replicate, if_pos (by omega)])]
      | cons y ys ihy =>
        intro q h0 h1 h
        simp only [List.length_cons, List.replicate_succ] at h ⊢
        rw [nx_get (tbl_get h0 h1)] at h ⊢
        obtain ⟨u, hu, e⟩ := bestTo_has h
        rw [← e] at h ⊢
        have hg := (stepF_ge (Int.le_refl 0)).1 h
        have hi := inB_iff.1 hg.1
        unfold stepF
        rw [if_pos hg, ihy _ (by omega) (by omega) hg.2]
        omega
    have hz := (tbl_fea hL hC (x :: xs) (0 :: List.replicate xs.length 0) w (by simp) (by simp only [List.all_cons, hps]; rfl) (by omega) hh).2 hf
    have hz0 : nx (tblF L H C (x :: xs) (0 :: List.replicate xs.length 0)) w = 0 := tz (x :: xs) w (by omega) hh hz
    generalize hT : topF H C xs = t at hF ht
    obtain ⟨u0, hu0⟩ : ∃ u0 : Nat, (u0 : Int) = max 0 (w + x - t) := ⟨(max 0 (w + x - t)).toNat, by omega⟩
    have f0 : feaP L H C xs (w + x - u0) := (feaP_iff hL hC xs _ hx.2 (by omega) (by omega)).2 ⟨by omega, hF.2.2⟩
    have e0 : firstTo (fun u => decide (stepF L H x 0 (tblF L H C xs (List.replicate xs.length 0)) w u = nx (tblF L H C (x :: xs) (0 :: List.replicate xs.length 0)) w)) (C.toNat + 1) = u0 := by
      rw [hz0]
      refine firstTo_eq (by omega) ?_ ?_
      · have hn := (tbl_fea hL hC xs _ (w + x - u0) hpl hps (by omega) (by omega)).2 f0
        have hn0 := tz xs _ (by omega) (by omega) hn
        unfold stepF
        rw [if_pos ⟨inB_iff.2 (by omega), hn⟩, hn0]
        simp
      · intro v hv
        simp only [decide_eq_false_iff_not]
        intro h
        have hg := (stepF_ge (Int.le_refl 0)).1 (show 0 ≤ stepF L H x 0 (tblF L H C xs (List.replicate xs.length 0)) w v by omega)
        have hi := inB_iff.1 hg.1
        have := (tbl_fea hL hC xs _ (w + x - v) hpl hps (by omega) (by omega)).1 hg.2
        have := (feaP_iff hL hC xs _ hx.2 hi.1 hi.2).1 this
        omega
    simp only [latF, List.length_cons, List.replicate_succ, planF]
    rw [e0, hT, ← hu0, if_neg (by omega), ih _ hx.2 (by omega) (by omega) f0]
    rfl

/-! Price 1: the plan as late as possible pumps the least. -/
def sumF (L H C : Int) : List Int → Int → Int
  | [], _ => 0
  | x :: xs, w => max 0 (w + x - topF H C xs) + sumF L H C xs (w + x - max 0 (w + x - topF H C xs))
theorem sumF_lip {L H C : Int} : ∀ (xs : List Int) (v w : Int), v ≤ w → sumF L H C xs v ≤ sumF L H C xs w ∧ sumF L H C xs w - sumF L H C xs v ≤ w - v := by
  intro xs
  induction xs with
  | nil => intro v w h; simp only [sumF]; omega
  | cons x xs ih =>
    intro v w h
    simp only [sumF]
    have := ih (v + x - max 0 (v + x - topF H C xs)) (w + x - max 0 (w + x - topF H C xs)) (by omega)
    omega
theorem sumF_lat {L H C : Int} : ∀ (xs : List Int) (w : Int) (l : List Int), latF L H C xs w = some l → l.sum = sumF L H C xs w := by
  intro xs
  induction xs with
  | nil => intro w l h; simp [latF] at h; subst h; rfl
  | cons x xs ih =>
    intro w l h
    simp only [latF] at h
    split at h
    · exact absurd h (by simp)
    · cases hr : latF L H C xs (w + x - max 0 (w + x - topF H C xs)) with
      | none => rw [hr] at h; simp at h
      | some l' =>
        rw [hr] at h
        simp only [Option.map_some, Option.some.injEq] at h
        subst h
        simp only [List.sum_cons, sumF]
        rw [ih _ _ hr]
theorem ones_tbl {L H C : Int} (hL : 0 ≤ L) (hC : 0 ≤ C) : ∀ (xs : List Int) (w : Int), xs.all unB = true → L ≤ w → w ≤ H → feaP L H C xs w → nx (tblF L H C xs (List.replicate xs.length 1)) w = sumF L H C xs w := by
  intro xs
  induction xs with
  | nil => intro w _ _ _ _; rw [nx_get (z := 0) (by simp only [tblF]; rw [List.getElem?_replicate, if_pos (by omega)])]; rfl
  | cons x xs ih =>
    intro w hx hw hh hf
    have hF := hf
    rw [feaP_iff hL hC _ _ hx hw hh] at hF
    simp only [List.all_cons, Bool.and_eq_true] at hx
    have hu := unB_iff.1 hx.1
    simp only [topF, okT] at hF
    have ht := topF_le H C xs
    have hps : (List.replicate xs.length (1 : Int)).all prB = true := by rw [List.all_eq_true]; intro y hy; rw [List.eq_of_mem_replicate hy]; rfl
    have hpl : (List.replicate xs.length (1 : Int)).length = xs.length := by simp
    simp only [List.length_cons, List.replicate_succ, sumF]
    rw [nx_get (tbl_get (by omega) hh)]
    generalize hT : topF H C xs = t at hF ht
    obtain ⟨u0, hu0⟩ : ∃ u0 : Nat, (u0 : Int) = max 0 (w + x - t) := ⟨(max 0 (w + x - t)).toNat, by omega⟩
    rw [← hu0]
    have f0 : feaP L H C xs (w + x - u0) := (feaP_iff hL hC xs _ hx.2 (by omega) (by omega)).2 ⟨by omega, hF.2.2⟩
    have hn := (tbl_fea hL hC xs _ (w + x - u0) hpl hps (by omega) (by omega)).2 f0
    have s0 : stepF L H x 1 (tblF L H C xs (List.replicate xs.length 1)) w u0 = u0 + sumF L H C xs (w + x - u0) := by
      unfold stepF
      rw [if_pos ⟨inB_iff.2 (by omega), hn⟩, ih _ hx.2 (by omega) (by omega) f0]
      omega
    have hb := bestTo_le (m := C.toNat + 1) (u := u0) (by omega) ((stepF_ge (by omega)).2 ⟨inB_iff.2 (by omega), hn⟩ : 0 ≤ stepF L H x 1 (tblF L H C xs (List.replicate xs.length 1)) w u0)
    rw [s0] at hb
    obtain ⟨u, hum, e⟩ := bestTo_has hb.1
    have hg := (stepF_ge (show (0 : Int) ≤ 1 by omega)).1 (show 0 ≤ stepF L H x 1 (tblF L H C xs (List.replicate xs.length 1)) w u by omega)
    have hi := inB_iff.1 hg.1
    have f1 := (tbl_fea hL hC xs _ (w + x - u) hpl hps (by omega) (by omega)).1 hg.2
    have k1 := (feaP_iff hL hC xs _ hx.2 hi.1 hi.2).1 f1
    have e1 : stepF L H x 1 (tblF L H C xs (List.replicate xs.length 1)) w u = u + sumF L H C xs (w + x - u) := by
      unfold stepF
      rw [if_pos hg, ih _ hx.2 hi.1 hi.2 f1]
      omega
    have hlip := sumF_lip (L := L) (H := H) (C := C) xs (w + x - u) (w + x - u0) (by omega)
    omega
end Go.Proofs.Ythabjlhfidcnoaa
