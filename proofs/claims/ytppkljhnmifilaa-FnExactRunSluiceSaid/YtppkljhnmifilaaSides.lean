/- Levels inside and outside. -/
import Derived.Test.YtppkljhnmifilaaSluice
import Derived.Test.YtppkljhnmifilaaTyInt64
import Derived.Test.YtppkljhnmifilaaAux2
namespace Go.Proofs.Ytppkljhnmifilaa
open Go.RowKit
set_option linter.unusedVariables false

def sidesB (xs ys : List Int) : Bool := (decide (xs.length ≤ 200) && decide (xs.length = ys.length)) && (xs.all lvB && ys.all lvB)
theorem all_stop' {α : Type} {xs : List α} {p : α → Bool} {k : Nat} {x : α} (hx : xs[k]? = some x) (hp : p x = false) : xs.all p = false := by
  apply Bool.eq_false_iff.2
  intro h
  have := List.all_eq_true.1 h x (List.mem_of_getElem? hx)
  rw [hp] at this
  cases this
theorem all_take_next {α : Type} {xs : List α} {p : α → Bool} {k : Nat} {x : α} (hx : xs[k]? = some x) (hp : p x = true) (h : (xs.take k).all p = true) : (xs.take (k + 1)).all p = true := by
  obtain ⟨hk, e⟩ := List.getElem?_eq_some_iff.1 hx
  rw [List.take_succ_eq_append_getElem hk, List.all_append, h, e]
  simp [hp]
theorem all_take_done {α : Type} {xs : List α} {p : α → Bool} {k : Nat} (hk : xs.length ≤ k) (h : (xs.take k).all p = true) : xs.all p = true := by
  rwa [List.take_of_length_le hk] at h
theorem areLevels_calls (a : Option Addr) (n c : Nat) (xs : List Int) (w : World) (hr : RdInt64 w a n xs) (hn : n ≤ 1048576) :
    Calls Try.prog 73 #[.slice a n c] w fun e w' => e = .returned (.bool (xs.all lvB)) ∧ Below w.heap.size w w' := by
  have he1 := ent Try.func41 (by kernel_rfl) rfl
  go_enter Try.func73, Try.ntmps73
  go_wp2_with fail
  refine (allInt64_calls 41 #[] lvB _ _ _ _ _ hr (by omega) he1 (fun z W _ => by rw [Array.append_empty]; exact (ValidLevel_calls z W).mono fun e w' ⟨h1, h2⟩ => ⟨h1, h2 ▸ Below.refl _ _⟩)).mono ?_
  rintro e w1 ⟨rfl, b1⟩
  go_wp2_with fail
  go_ret
  exact ⟨rfl, b1⟩
theorem areSides_calls (a b : Option Addr) (n m c d : Nat) (xs ys : List Int) (w : World) (ha : RdInt64 w a n xs) (hb : RdInt64 w b m ys) (hn : n ≤ 1048576) (hm : m ≤ 1048576) :
    Calls Try.prog 65 #[.slice a n c, .slice b m d] w fun e w' => e = .returned (.bool (sidesB xs ys)) ∧ Below w.heap.size w w' := by
  have Ha := hd ha.len
  have Hb := hd hb.len
  by_cases h1 : n ≤ 200
  · by_cases h2 : n = m
    · subst h2
      have K : Hid (sidesB xs ys = (xs.all lvB && ys.all lvB)) := hd (by simp [sidesB, Ha.out, Hb.out, h1])
      cases h3 : xs.all lvB
      · have H3 := hd h3
        clear h3
        go_enter Try.func65, Try.ntmps65
        go_wp2_with fail
        refine (areLevels_calls _ _ _ xs _ ha hn).mono ?_
        rintro e w1 ⟨he, b1⟩
        rw [H3.out] at he
        subst he
        go_wp2_with fail
        go_ret
        exact ⟨ret_bool (by rw [K.out, H3.out]; rfl), b1⟩
      · have H3 := hd h3
        clear h3
        go_enter Try.func65, Try.ntmps65
        go_wp2_with fail
        refine (areLevels_calls _ _ _ xs _ ha hn).mono ?_
        rintro e w1 ⟨he, b1⟩
        rw [H3.out] at he
        subst he
        go_wp2_with fail
        refine (areLevels_calls _ _ _ ys _ (hb.below b1) hm).mono ?_
        rintro e w2 ⟨he, b2⟩
        have d2 := bnext b1 b2 (Nat.le_refl _)
        subst he
        go_wp2_with fail
        go_ret
        exact ⟨ret_bool (by rw [K.out, H3.out]; simp), d2⟩
    · have h2' : ((n : Int) == m) = false := by simp; omega
      go_enter Try.func65, Try.ntmps65
      go_wp2_with fail
      go_ret
      exact ⟨ret_bool (by simp [sidesB, Ha.out, Hb.out, h2]), Below.refl _ _⟩
  · go_enter Try.func65, Try.ntmps65
    go_wp2_with fail
    go_ret
    exact ⟨ret_bool (by simp [sidesB, Ha.out, Hb.out]; omega), Below.refl _ _⟩
def sidesC (xs ys : List Int) : Int := if sidesB xs ys then 0 else 2
theorem l09Levels_calls (a b : Option Addr) (n m c d : Nat) (xs ys : List Int) (w : World) (ha : RdInt64 w a n xs) (hb : RdInt64 w b m ys) (hn : n ≤ 1048576) (hm : m ≤ 1048576) :
    Calls Try.prog 72 #[.slice a n c, .slice b m d] w fun e w' => e = .returned (.int .i64 (sidesC xs ys)) ∧ Below w.heap.size w w' := by
  have Ha := hd ha.len
  have Hb := hd hb.len
  by_cases h2 : n = m
  · subst h2
    by_cases h1 : n ≤ 200
    · have K : Hid (sidesB xs ys = (xs.all lvB && ys.all lvB)) := hd (by simp [sidesB, Ha.out, Hb.out, h1])
      go_enter Try.func72, Try.ntmps72
      go_wp2_with fail
      go_loopw [5] (fun i wr => ∃ k : Nat, k ≤ n ∧ i = .int .i64 k ∧ (xs.take k).all lvB = true ∧ (ys.take k).all lvB = true ∧ Below w.heap.size w wr) (fun i _ => n - (intOf i).toNat)
      case atStart => exact ⟨0, Nat.zero_le _, rfl, rfl, rfl, Below.refl _ _⟩
      case round =>
        obtain ⟨k, hk, rfl, hp, hq, hb'⟩ := hrel
        have Hp := hd hp
        have Hq := hd hq
        clear hp hq
        by_cases hlt : k < n
        · obtain ⟨b1, o1, f0, rfl, hbl, hx, hc0⟩ := getInt64 (ha.below hb') hlt
          obtain ⟨b2, o2, g0, rfl, hbl2, hy, hc1⟩ := getInt64 (hb.below hb') hlt
          have Hx := hd hx
          have Hy := hd hy
          clear hx hy
          cases h3 : lvB f0
          · have H3 := hd h3
            go_wp2_with (go_at_call 42; refine (l02Level_calls _ _).mono ?_; rintro e w' ⟨rfl, rfl⟩)
            go_ret
            exact ⟨ret_int (by unfold sidesC; rw [K.out, all_stop' Hx.out H3.out]; rfl), hb'⟩
          · have H3 := hd h3
            cases h4 : lvB g0
            · have H4 := hd h4
              go_wp2_with (go_at_call 42; refine (l02Level_calls _ _).mono ?_; rintro e w' ⟨rfl, rfl⟩)
              go_ret
              exact ⟨ret_int (by unfold sidesC; rw [K.out, all_stop' Hy.out H4.out, Bool.and_false]; rfl), hb'⟩
            · have H4 := hd h4
              go_wp2_with (go_at_call 42; refine (l02Level_calls _ _).mono ?_; rintro e w' ⟨rfl, rfl⟩)
              go_roundw
              case rel => exact ⟨k + 1, by omega, by go_num, all_take_next Hx.out H3.out Hp.out, all_take_next Hy.out H4.out Hq.out, hb'⟩
              case measure => simp [intOf]; omega
        · go_wp2_with fail
          go_ret
          have e1 := all_take_done (by rw [Ha.out]; omega) Hp.out
          have e2 := all_take_done (by rw [Hb.out]; omega) Hq.out
          exact ⟨ret_int (by unfold sidesC; rw [K.out, e1, e2]; rfl), hb'⟩
    · go_enter Try.func72, Try.ntmps72
      go_wp2_with fail
      go_ret
      exact ⟨ret_int (by simp [sidesC, sidesB, Ha.out, Hb.out]; omega), Below.refl _ _⟩
  · have h2' : ((n : Int) != m) = true := by simp; omega
    go_enter Try.func72, Try.ntmps72
    go_wp2_with fail
    go_ret
    exact ⟨ret_int (by simp [sidesC, sidesB, Ha.out, Hb.out, h2]), Below.refl _ _⟩
def seriesC (wd sill : Int) (xs ys : List Int) : Int := if slB wd sill then sidesC xs ys else 1
theorem l09Series_calls (wd sill : Int) (a b : Option Addr) (n m c d : Nat) (xs ys : List Int) (w : World) (ha : RdInt64 w a n xs) (hb : RdInt64 w b m ys) (hn : n ≤ 1048576) (hm : m ≤ 1048576) :
    Calls Try.prog 64 #[.agg #[.int .i64 wd, .int .i64 sill], .slice a n c, .slice b m d] w fun e w' => e = .returned (.int .i64 (seriesC wd sill xs ys)) ∧ Below w.heap.size w w' := by
  go_enter Try.func64, Try.ntmps64
  go_wp2_with fail
  refine (l09Ok_calls _ _ _).mono ?_
  rintro e w1 ⟨rfl, b1⟩
  have d1 := bbox1 b1
  clear b1
  cases h : slB wd sill
  · have H := hd h
    clear h
    go_wp2_with fail
    go_ret
    exact ⟨ret_int (by simp [seriesC, H.out]), d1⟩
  · have H := hd h
    clear h
    go_wp2_with fail
    refine (l09Levels_calls _ _ _ _ _ _ xs ys _ (ha.below d1) (hb.below d1) hn hm).mono ?_
    rintro e w2 ⟨rfl, b2⟩
    go_wp2_with fail
    go_ret
    exact ⟨ret_int (by simp [seriesC, H.out]), bnext d1 b2 (Nat.le_refl _)⟩
end Go.Proofs.Ytppkljhnmifilaa
