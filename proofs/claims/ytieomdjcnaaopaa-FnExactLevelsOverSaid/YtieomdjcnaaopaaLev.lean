/- Lists of levels. -/
import Derived.Test.YtieomdjcnaaopaaTyInt64
import Derived.Test.YtieomdjcnaaopaaAux2
namespace Go.Proofs.Ytieomdjcnaaopaa
open Go.RowKit
set_option linter.unusedVariables false

theorem all_stop' {α : Type} {xs : List α} {p : α → Bool} {k : Nat} {x : α} (hx : xs[k]? = some x) (hp : p x = false) : xs.all p = false := by
  apply Bool.eq_false_iff.2
  intro h
  have := List.all_eq_true.1 h x (List.mem_of_getElem? hx)
  rw [hp] at this
  cases this
theorem all_take_next {α : Type} {xs : List α} {p : α → Bool} {k : Nat} {x : α} (hx : xs[k]? = some x) (hp : p x = true) (h : (xs.take k).all p = true) : (xs.take (k + 1)).all p = true := by
  obtain ⟨hk, e⟩ := List.getElem?_eq_some_iff.1 hx
  rw [List.take_succ_eq_append_getElem hk, List.all_append, h, e]
  simp [hp]
theorem all_take_done {α : Type} {xs : List α} {p : α → Bool} {k : Nat} (hk : xs.length ≤ k) (h : (xs.take k).all p = true) : xs.all p = true := by
  rwa [List.take_of_length_le hk] at h
theorem all_at {α : Type} {xs : List α} {p : α → Bool} (h : xs.all p = true) {k : Nat} {x : α} (hx : xs[k]? = some x) : p x = true := List.all_eq_true.1 h x (List.mem_of_getElem? hx)
def levB (xs : List Int) : Bool := xs.all lvB && decide (xs.length ≤ 200)
def bothB (xs ys : List Int) : Bool := (levB xs && levB ys) && decide (xs.length = ys.length)
theorem areLevels_calls (a : Option Addr) (n c : Nat) (xs : List Int) (w : World) (hr : RdInt64 w a n xs) (hn : n ≤ 1048576) :
    Calls Try.prog 117 #[.slice a n c] w fun e w' => e = .returned (.bool (xs.all lvB)) ∧ Below w.heap.size w w' := by
  have he1 := ent Try.func80 (by kernel_rfl) rfl
  go_enter Try.func117, Try.ntmps117
  go_wp2_with fail
  refine (allInt64_calls 80 #[] lvB _ _ _ _ _ hr (by omega) he1 (fun z W _ => by rw [Array.append_empty]; exact (ValidLevel_calls z W).mono fun e w' ⟨h1, h2⟩ => ⟨h1, h2 ▸ Below.refl _ _⟩)).mono ?_
  rintro e w1 ⟨rfl, b1⟩
  go_wp2_with fail
  go_ret
  exact ⟨rfl, b1⟩
end Go.Proofs.Ytieomdjcnaaopaa
