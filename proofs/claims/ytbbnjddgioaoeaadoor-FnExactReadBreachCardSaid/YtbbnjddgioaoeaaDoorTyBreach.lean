/- Breach: how it lies in memory, and the laws' helpers on it. -/
import Derived.Test.YtbbnjddgioaoeaaDoorBasic
import Derived.Test.YtbbnjddgioaoeaaDoorOpen
namespace Go.Proofs.YtbbnjddgioaoeaaDoor
open Go.ChangeShapes Go.WideShapes Go.RowKit
set_option linter.unusedVariables false

def cBreach (x : Int × Int × Int) : List Value := [.int .i64 x.1, .int .i64 x.2.1, .int .i64 x.2.2]
abbrev RdBreach := Rd 3 cBreach
theorem len_cBreach (x : Int × Int × Int) : (cBreach x).length = 3 := rfl
theorem getBreach {w : World} {a : Option Addr} {n : Nat} {xs : List (Int × Int × Int)} (h : RdBreach w a n xs) {k : Nat} (hk : k < n) :
    ∃ (b o : Nat) (f0 : Int) (f1 : Int) (f2 : Int), a = some ⟨b, o, none⟩ ∧ b < w.heap.size ∧ xs[k]? = some (f0, f1, f2) ∧ w.cell? ⟨b, o + k * 3, none⟩ = some (.int .i64 f0) ∧ w.cell? ⟨b, o + k * 3 + 1, none⟩ = some (.int .i64 f1) ∧ w.cell? ⟨b, o + k * 3 + 2, none⟩ = some (.int .i64 f2) := by
  obtain ⟨b, o, e, hc⟩ := h.2 (by omega)
  have hl : k < xs.length := by have := h.1; omega
  have hx := List.getElem?_eq_getElem hl
  have h0 := hc k _ hx 0 (.int .i64 xs[k].1) rfl
  have h1 := hc k _ hx 1 (.int .i64 xs[k].2.1) rfl
  have h2 := hc k _ hx 2 (.int .i64 xs[k].2.2) rfl
  simp only [Nat.add_zero] at h0
  rw [← Nat.add_assoc] at h1
  rw [← Nat.add_assoc] at h2
  exact ⟨b, o, xs[k].1, xs[k].2.1, xs[k].2.2, e, World.block_lt_of_cell? w _ h0, hx, h0, h1, h2⟩
theorem hasnBreach {cur : Array Value} {k n : Nat} {xs : List (Int × Int × Int)} {f0 : Int} {f1 : Int} {f2 : Int} (h : Has 3 cBreach cur k xs) (hx : xs[k]? = some (f0, f1, f2)) (hs : cur.size = n * 3) (hk : k < n) :
    Has 3 cBreach (((cur.setIfInBounds (k * 3) (.int .i64 f0)).setIfInBounds (k * 3 + 1) (.int .i64 f1)).setIfInBounds (k * 3 + 2) (.int .i64 f2)) (k + 1) xs := by
  intro i x hi hxi j v hv
  have hj : j < 3 := by have := lt_of_get hv; simpa [cBreach] using this
  by_cases hik : i = k
  · subst hik
    rw [hx] at hxi
    obtain rfl := Option.some.inj hxi
    rcases (show j = 0 ∨ j = 1 ∨ j = 2 from by omega) with rfl | rfl | rfl
    · simp [cBreach] at hv; subst hv
      simp only [Nat.add_zero]
      rw [Array.getElem?_setIfInBounds_ne (by omega), Array.getElem?_setIfInBounds_ne (by omega), Array.getElem?_setIfInBounds_self_of_lt (by first | omega | (simp; omega))]
    · simp [cBreach] at hv; subst hv
      rw [Array.getElem?_setIfInBounds_ne (by omega), Array.getElem?_setIfInBounds_self_of_lt (by first | omega | (simp; omega))]
    · simp [cBreach] at hv; subst hv
      rw [Array.getElem?_setIfInBounds_self_of_lt (by first | omega | (simp; omega))]
  · rw [Array.getElem?_setIfInBounds_ne (by omega), Array.getElem?_setIfInBounds_ne (by omega), Array.getElem?_setIfInBounds_ne (by omega)]
    exact h i x (by omega) hxi j v hv
theorem infoBreach : (Tryd.prog.info? 34).map (fun i => (i.zero, i.size, i.bytes)) = some (some (.agg #[.int .i64 0, .int .i64 0, .int .i64 0]), 3, 24) := by kernel_rfl
def OkBreach (x : Int × Int × Int) : Prop := (Lit.int .i64 x.1).wf = true ∧ (Lit.int .i64 x.2.1).wf = true ∧ (Lit.int .i64 x.2.2).wf = true
theorem el_Breach {H : Type} {enc : TypeId × Value → H} {w : World} {base : Nat} {spare : Nat → Bool} {held : Bool} :
    ∀ (n : Nat) (cs' : List Value) (y : DataW H × List MemPlace), DataW.trod enc Tryd.prog w base spare held n 42 cs' = some y → ∃ z, cBreach z = cs' ∧ OkBreach z := by
  intro n cs' y h
  obtain ⟨hl, hf⟩ := struct_cells Tryd.underlying42 (by kernel_rfl) (by kernel_rfl) h
  obtain ⟨u0, u1, u2, rfl⟩ := len3 hl
  obtain ⟨_, _, t0⟩ := hf 0 _ rfl
  obtain ⟨f0, rfl, w0⟩ := trod_int_cell Tryd.underlying2 t0
  obtain ⟨_, _, t1⟩ := hf 1 _ rfl
  obtain ⟨f1, rfl, w1⟩ := trod_int_cell Tryd.underlying2 t1
  obtain ⟨_, _, t2⟩ := hf 2 _ rfl
  obtain ⟨f2, rfl, w2⟩ := trod_int_cell Tryd.underlying2 t2
  exact ⟨(f0, f1, f2), rfl, w0, w1, w2⟩
theorem toBreach_calls (f0 : Int) (f1 : Int) (f2 : Int) (w : World) :
    Calls Tryd.prog 23 #[.agg #[.int .i64 f0, .int .i64 f1, .int .i64 f2]] w fun e w' => e = .returned (.agg #[.int .i64 f0, .int .i64 f1, .int .i64 f2]) ∧ Below w.heap.size w w' := by
  go_enter Tryd.func23, Tryd.ntmps23
  go_wp2
  go_returns
  exact ⟨rfl, by go_grown⟩
theorem eqBreach_calls (f0 : Int) (f1 : Int) (f2 : Int) (g0 : Int) (g1 : Int) (g2 : Int) (w : World) :
    Calls Tryd.prog 18 #[.agg #[.int .i64 f0, .int .i64 f1, .int .i64 f2], .agg #[.int .i64 g0, .int .i64 g1, .int .i64 g2]] w fun e w' => e = .returned (.bool ((f0, f1, f2) == (g0, g1, g2))) ∧ Below w.heap.size w w' := by
  go_enter Tryd.func18, Tryd.ntmps18
  go_wp2
  all_goals (go_ret; exact ⟨ret_bool (by simp_all), by go_grown⟩)
def markBreach (q : Int) : Int × Int × Int := (q, q + 1, q + 1 + 1)
/-- What the laws write into a slice. -/
def marksBreach (k : Int) (n : Nat) : List (Int × Int × Int) := (List.range n).map fun j : Nat => markBreach (k + 3 * j)
theorem marksBreach_len (k : Int) (n : Nat) : (marksBreach k n).length = n := by simp [marksBreach]
theorem marksBreach_get (k : Int) {n j : Nat} (h : j < n) : (marksBreach k n)[j]? = some (markBreach (k + 3 * j)) := eq_marks h
end Go.Proofs.YtbbnjddgioaoeaaDoor
