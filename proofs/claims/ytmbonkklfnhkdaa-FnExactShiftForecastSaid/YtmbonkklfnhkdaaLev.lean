/- Lists of levels. -/
import Derived.Test.YtmbonkklfnhkdaaTyInt64
import Derived.Test.YtmbonkklfnhkdaaAux2
namespace Go.Proofs.Ytmbonkklfnhkdaa
open Go.RowKit
set_option linter.unusedVariables false

theorem all_stop' {α : Type} {xs : List α} {p : α → Bool} {k : Nat} {x : α} (hx : xs[k]? = some x) (hp : p x = false) : xs.all p = false := by
  apply Bool.eq_false_iff.2
  intro h
  have := List.all_eq_true.1 h x (List.mem_of_getElem? hx)
  rw [hp] at this
  cases this
theorem all_take_next {α : Type} {xs : List α} {p : α → Bool} {k : Nat} {x : α} (hx : xs[k]? = some x) (hp : p x = true) (h : (xs.take k).all p = true) : (xs.take (k + 1)).all p = true := by
  obtain ⟨hk, e⟩ := List.getElem?_eq_some_iff.1 hx
  rw [List.take_succ_eq_append_getElem hk, List.all_append, h, e]
  simp [hp]
theorem all_take_done {α : Type} {xs : List α} {p : α → Bool} {k : Nat} (hk : xs.length ≤ k) (h : (xs.take k).all p = true) : xs.all p = true := by
  rwa [List.take_of_length_le hk] at h
theorem all_at {α : Type} {xs : List α} {p : α → Bool} (h : xs.all p = true) {k : Nat} {x : α} (hx : xs[k]? = some x) : p x = true := List.all_eq_true.1 h x (List.mem_of_getElem? hx)
def levB (xs : List Int) : Bool := xs.all lvB && decide (xs.length ≤ 200)
def bothB (xs ys : List Int) : Bool := (levB xs && levB ys) && decide (xs.length = ys.length)
theorem areLevels_calls (a : Option Addr) (n c : Nat) (xs : List Int) (w : World) (hr : RdInt64 w a n xs) (hn : n ≤ 1048576) :
    Calls Try.prog 61 #[.slice a n c] w fun e w' => e = .returned (.bool (xs.all lvB)) ∧ Below w.heap.size w w' := by
  have he1 := ent Try.func53 (by kernel_rfl) rfl
  go_enter Try.func61, Try.ntmps61
  go_wp2_with fail
  refine (allInt64_calls 53 #[] lvB _ _ _ _ _ hr (by omega) he1 (fun z W _ => by rw [Array.append_empty]; exact (ValidLevel_calls z W).mono fun e w' ⟨h1, h2⟩ => ⟨h1, h2 ▸ Below.refl _ _⟩)).mono ?_
  rintro e w1 ⟨rfl, b1⟩
  go_wp2_with fail
  go_ret
  exact ⟨rfl, b1⟩
theorem areForecasts_calls (a : Option Addr) (n c : Nat) (xs : List Int) (b : Option Addr) (m d : Nat) (ys : List Int) (w : World) (ha : RdInt64 w a n xs) (hn : n ≤ 1048576) (hb : RdInt64 w b m ys) (hm : m ≤ 1048576) :
    Calls Try.prog 43 #[.slice a n c, .slice b m d] w fun e w' => e = .returned (.bool (bothB xs ys)) ∧ Below w.heap.size w w' := by
  have Ha := hd ha.len
  have Hb := hd hb.len
  by_cases h1 : n ≤ 200
  · by_cases h2 : n = m
    · subst h2
      have K : Hid (bothB xs ys = (xs.all lvB && ys.all lvB)) := hd (by simp [bothB, levB, Ha.out, Hb.out, h1])
      cases h3 : xs.all lvB
      · have H3 := hd h3
        clear h3
        go_enter Try.func43, Try.ntmps43
        go_wp2_with fail
        refine (areLevels_calls _ _ _ xs _ ha hn).mono ?_
        rintro e w1 ⟨he, b1⟩
        rw [H3.out] at he
        subst he
        go_wp2_with fail
        go_ret
        exact ⟨ret_bool (by rw [K.out, H3.out]; rfl), b1⟩
      · have H3 := hd h3
        clear h3
        go_enter Try.func43, Try.ntmps43
        go_wp2_with fail
        refine (areLevels_calls _ _ _ xs _ ha hn).mono ?_
        rintro e w1 ⟨he, b1⟩
        rw [H3.out] at he
        subst he
        go_wp2_with fail
        refine (areLevels_calls _ _ _ ys _ (hb.below b1) hm).mono ?_
        rintro e w2 ⟨he, b2⟩
        have d2 := bnext b1 b2 (Nat.le_refl _)
        subst he
        go_wp2_with fail
        go_ret
        exact ⟨ret_bool (by rw [K.out, H3.out]; simp), d2⟩
    · have h2' : ((m : Int) == n) = false := by simp; omega
      go_enter Try.func43, Try.ntmps43
      go_wp2_with fail
      go_ret
      exact ⟨ret_bool (by simp [bothB, Ha.out, Hb.out, h2]), Below.refl _ _⟩
  · go_enter Try.func43, Try.ntmps43
    go_wp2_with fail
    go_ret
    exact ⟨ret_bool (by simp [bothB, levB, Ha.out, Hb.out]; omega), Below.refl _ _⟩
theorem l16Levels_calls (a : Option Addr) (n c : Nat) (xs : List Int) (w : World) (ha : RdInt64 w a n xs) (hn : n ≤ 1048576) :
    Calls Try.prog 58 #[.slice a n c] w fun e w' => e = .returned (.bool (levB xs)) ∧ Below w.heap.size w w' := by
  have Ha := hd ha.len
  go_enter Try.func58, Try.ntmps58
  go_wp2_with fail
  go_loopw [3] (fun i wr => ∃ k : Nat, k ≤ n ∧ i = .int .i64 k ∧ (xs.take k).all lvB = true ∧ Below w.heap.size w wr) (fun i _ => n - (intOf i).toNat)
  case atStart => exact ⟨0, Nat.zero_le _, rfl, rfl, Below.refl _ _⟩
  case round =>
    obtain ⟨k, hk, rfl, hp, hb'⟩ := hrel
    have Hp := hd hp
    clear hp
    by_cases hlt : k < n
    · obtain ⟨b1, o1, f0, rfl, hbl, hx, hc0⟩ := getInt64 (ha.below hb') hlt
      have Hx := hd hx
      clear hx
      cases h3 : lvB f0
      · have H3 := hd h3
        go_wp2_with (go_at_call 45; refine (l02Level_calls _ _).mono ?_; rintro e w' ⟨rfl, rfl⟩)
        go_ret
        exact ⟨ret_bool (by unfold levB; rw [all_stop' Hx.out H3.out]; rfl), hb'⟩
      · have H3 := hd h3
        go_wp2_with (go_at_call 45; refine (l02Level_calls _ _).mono ?_; rintro e w' ⟨rfl, rfl⟩)
        go_roundw
        case rel => exact ⟨k + 1, by omega, by go_num, all_take_next Hx.out H3.out Hp.out, hb'⟩
        case measure => simp [intOf]; omega
    · have e1 := all_take_done (by rw [Ha.out]; omega) Hp.out
      have E1 := hd e1
      clear e1
      go_wp2_with fail
      go_ret
      exact ⟨ret_bool (by unfold levB; rw [E1.out, Ha.out, Bool.true_and]; exact decide_eq_decide.2 (by omega)), hb'⟩
theorem l16Both_calls (a : Option Addr) (n c : Nat) (xs : List Int) (b : Option Addr) (m d : Nat) (ys : List Int) (w : World) (ha : RdInt64 w a n xs) (hn : n ≤ 1048576) (hb : RdInt64 w b m ys) (hm : m ≤ 1048576) :
    Calls Try.prog 41 #[.slice a n c, .slice b m d] w fun e w' => e = .returned (.bool (bothB xs ys)) ∧ Below w.heap.size w w' := by
  have Ha := hd ha.len
  have Hb := hd hb.len
  go_enter Try.func41, Try.ntmps41
  go_wp2_with fail
  refine (l16Levels_calls _ _ _ xs _ ha hn).mono ?_
  rintro e w1 ⟨rfl, b1⟩
  cases h1 : levB xs
  · have H1 := hd h1
    clear h1
    go_wp2_with fail
    go_ret
    exact ⟨ret_bool (by simp [bothB, H1.out]), b1⟩
  · have H1 := hd h1
    clear h1
    go_wp2_with fail
    refine (l16Levels_calls _ _ _ ys _ (hb.below b1) hm).mono ?_
    rintro e w2 ⟨rfl, b2⟩
    have d2 := bnext b1 b2 (Nat.le_refl _)
    cases h2 : levB ys
    · have H2 := hd h2
      clear h2
      go_wp2_with fail
      go_ret
      exact ⟨ret_bool (by simp [bothB, H2.out]), d2⟩
    · have H2 := hd h2
      clear h2
      by_cases hnm : n = m
      · subst hnm
        go_wp2_with fail
        go_ret
        exact ⟨ret_bool (by simp [bothB, H1.out, H2.out, Ha.out, Hb.out]), d2⟩
      · have h' : ((n : Int) == m) = false := by simp; omega
        go_wp2_with fail
        go_ret
        exact ⟨ret_bool (by simp [bothB, Ha.out, Hb.out, hnm]), d2⟩
end Go.Proofs.Ytmbonkklfnhkdaa
