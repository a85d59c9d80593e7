/- Water: how it lies in memory, and the laws' helpers on it. -/
import Derived.Test.YtbbnjddgioaoeaaDoorBasic
import Derived.Test.YtbbnjddgioaoeaaDoorOpen
namespace Go.Proofs.YtbbnjddgioaoeaaDoor
open Go.ChangeShapes Go.WideShapes Go.RowKit
set_option linter.unusedVariables false

def cWater (x : Int × Int × Int × Int × Int) : List Value := [.int .i64 x.1, .int .i64 x.2.1, .int .i64 x.2.2.1, .int .i64 x.2.2.2.1, .int .i64 x.2.2.2.2]
abbrev RdWater := Rd 5 cWater
theorem len_cWater (x : Int × Int × Int × Int × Int) : (cWater x).length = 5 := rfl
theorem getWater {w : World} {a : Option Addr} {n : Nat} {xs : List (Int × Int × Int × Int × Int)} (h : RdWater w a n xs) {k : Nat} (hk : k < n) :
    ∃ (b o : Nat) (f0 : Int) (f1 : Int) (f2 : Int) (f3 : Int) (f4 : Int), a = some ⟨b, o, none⟩ ∧ b < w.heap.size ∧ xs[k]? = some (f0, f1, f2, f3, f4) ∧ w.cell? ⟨b, o + k * 5, none⟩ = some (.int .i64 f0) ∧ w.cell? ⟨b, o + k * 5 + 1, none⟩ = some (.int .i64 f1) ∧ w.cell? ⟨b, o + k * 5 + 2, none⟩ = some (.int .i64 f2) ∧ w.cell? ⟨b, o + k * 5 + 3, none⟩ = some (.int .i64 f3) ∧ w.cell? ⟨b, o + k * 5 + 4, none⟩ = some (.int .i64 f4) := by
  obtain ⟨b, o, e, hc⟩ := h.2 (by omega)
  have hl : k < xs.length := by have := h.1; omega
  have hx := List.getElem?_eq_getElem hl
  have h0 := hc k _ hx 0 (.int .i64 xs[k].1) rfl
  have h1 := hc k _ hx 1 (.int .i64 xs[k].2.1) rfl
  have h2 := hc k _ hx 2 (.int .i64 xs[k].2.2.1) rfl
  have h3 := hc k _ hx 3 (.int .i64 xs[k].2.2.2.1) rfl
  have h4 := hc k _ hx 4 (.int .i64 xs[k].2.2.2.2) rfl
  simp only [Nat.add_zero] at h0
  rw [← Nat.add_assoc] at h1
  rw [← Nat.add_assoc] at h2
  rw [← Nat.add_assoc] at h3
  rw [← Nat.add_assoc] at h4
  exact ⟨b, o, xs[k].1, xs[k].2.1, xs[k].2.2.1, xs[k].2.2.2.1, xs[k].2.2.2.2, e, World.block_lt_of_cell? w _ h0, hx, h0, h1, h2, h3, h4⟩
theorem hasnWater {cur : Array Value} {k n : Nat} {xs : List (Int × Int × Int × Int × Int)} {f0 : Int} {f1 : Int} {f2 : Int} {f3 : Int} {f4 : Int} (h : Has 5 cWater cur k xs) (hx : xs[k]? = some (f0, f1, f2, f3, f4)) (hs : cur.size = n * 5) (hk : k < n) :
    Has 5 cWater (((((cur.setIfInBounds (k * 5) (.int .i64 f0)).setIfInBounds (k * 5 + 1) (.int .i64 f1)).setIfInBounds (k * 5 + 2) (.int .i64 f2)).setIfInBounds (k * 5 + 3) (.int .i64 f3)).setIfInBounds (k * 5 + 4) (.int .i64 f4)) (k + 1) xs := by
  intro i x hi hxi j v hv
  have hj : j < 5 := by have := lt_of_get hv; simpa [cWater] using this
  by_cases hik : i = k
  · subst hik
    rw [hx] at hxi
    obtain rfl := Option.some.inj hxi
    rcases (show j = 0 ∨ j = 1 ∨ j = 2 ∨ j = 3 ∨ j = 4 from by omega) with rfl | rfl | rfl | rfl | rfl
    · simp [cWater] at hv; subst hv
      simp only [Nat.add_zero]
      rw [Array.getElem?_setIfInBounds_ne (by omega), Array.getElem?_setIfInBounds_ne (by omega), Array.getElem?_setIfInBounds_ne (by omega), Array.getElem?_setIfInBounds_ne (by omega), Array.getElem?_setIfInBounds_self_of_lt (by first | omega | (simp; omega))]
    · simp [cWater] at hv; subst hv
      rw [Array.getElem?_setIfInBounds_ne (by omega), Array.getElem?_setIfInBounds_ne (by omega), Array.getElem?_setIfInBounds_ne (by omega), Array.getElem?_setIfInBounds_self_of_lt (by first | omega | (simp; omega))]
    · simp [cWater] at hv; subst hv
      rw [Array.getElem?_setIfInBounds_ne (by omega), Array.getElem?_setIfInBounds_ne (by omega), Array.getElem?_setIfInBounds_self_of_lt (by first | omega | (simp; omega))]
    · simp [cWater] at hv; subst hv
      rw [Array.getElem?_setIfInBounds_ne (by omega), Array.getElem?_setIfInBounds_self_of_lt (by first | omega | (simp; omega))]
    · simp [cWater] at hv; subst hv
      rw [Array.getElem?_setIfInBounds_self_of_lt (by first | omega | (simp; omega))]
  · rw [Array.getElem?_setIfInBounds_ne (by omega), Array.getElem?_setIfInBounds_ne (by omega), Array.getElem?_setIfInBounds_ne (by omega), Array.getElem?_setIfInBounds_ne (by omega), Array.getElem?_setIfInBounds_ne (by omega)]
    exact h i x (by omega) hxi j v hv
theorem infoWater : (Tryd.prog.info? 29).map (fun i => (i.zero, i.size, i.bytes)) = some (some (.agg #[.int .i64 0, .int .i64 0, .int .i64 0, .int .i64 0, .int .i64 0]), 5, 40) := by kernel_rfl
def OkWater (x : Int × Int × Int × Int × Int) : Prop := (Lit.int .i64 x.1).wf = true ∧ (Lit.int .i64 x.2.1).wf = true ∧ (Lit.int .i64 x.2.2.1).wf = true ∧ (Lit.int .i64 x.2.2.2.1).wf = true ∧ (Lit.int .i64 x.2.2.2.2).wf = true
theorem el_Water {H : Type} {enc : TypeId × Value → H} {w : World} {base : Nat} {spare : Nat → Bool} {held : Bool} :
    ∀ (n : Nat) (cs' : List Value) (y : DataW H × List MemPlace), DataW.trod enc Tryd.prog w base spare held n 46 cs' = some y → ∃ z, cWater z = cs' ∧ OkWater z := by
  intro n cs' y h
  obtain ⟨hl, hf⟩ := struct_cells Tryd.underlying46 (by kernel_rfl) (by kernel_rfl) h
  obtain ⟨u0, u1, u2, u3, u4, rfl⟩ := len5 hl
  obtain ⟨_, _, t0⟩ := hf 0 _ rfl
  obtain ⟨f0, rfl, w0⟩ := trod_int_cell Tryd.underlying2 t0
  obtain ⟨_, _, t1⟩ := hf 1 _ rfl
  obtain ⟨f1, rfl, w1⟩ := trod_int_cell Tryd.underlying2 t1
  obtain ⟨_, _, t2⟩ := hf 2 _ rfl
  obtain ⟨f2, rfl, w2⟩ := trod_int_cell Tryd.underlying2 t2
  obtain ⟨_, _, t3⟩ := hf 3 _ rfl
  obtain ⟨f3, rfl, w3⟩ := trod_int_cell Tryd.underlying2 t3
  obtain ⟨_, _, t4⟩ := hf 4 _ rfl
  obtain ⟨f4, rfl, w4⟩ := trod_int_cell Tryd.underlying2 t4
  exact ⟨(f0, f1, f2, f3, f4), rfl, w0, w1, w2, w3, w4⟩
theorem toWater_calls (f0 : Int) (f1 : Int) (f2 : Int) (f3 : Int) (f4 : Int) (w : World) :
    Calls Tryd.prog 26 #[.agg #[.int .i64 f0, .int .i64 f1, .int .i64 f2, .int .i64 f3, .int .i64 f4]] w fun e w' => e = .returned (.agg #[.int .i64 f0, .int .i64 f1, .int .i64 f2, .int .i64 f3, .int .i64 f4]) ∧ Below w.heap.size w w' := by
  go_enter Tryd.func26, Tryd.ntmps26
  go_wp2
  go_returns
  exact ⟨rfl, by go_grown⟩
theorem eqWater_calls (f0 : Int) (f1 : Int) (f2 : Int) (f3 : Int) (f4 : Int) (g0 : Int) (g1 : Int) (g2 : Int) (g3 : Int) (g4 : Int) (w : World) :
    Calls Tryd.prog 15 #[.agg #[.int .i64 f0, .int .i64 f1, .int .i64 f2, .int .i64 f3, .int .i64 f4], .agg #[.int .i64 g0, .int .i64 g1, .int .i64 g2, .int .i64 g3, .int .i64 g4]] w fun e w' => e = .returned (.bool ((f0, f1, f2, f3, f4) == (g0, g1, g2, g3, g4))) ∧ Below w.heap.size w w' := by
  go_enter Tryd.func15, Tryd.ntmps15
  go_wp2
  all_goals (go_ret; exact ⟨ret_bool (by simp_all), by go_grown⟩)
def markWater (q : Int) : Int × Int × Int × Int × Int := (q, q + 1, q + 1 + 1, q + 1 + 1 + 1, q + 1 + 1 + 1 + 1)
/-- What the laws write into a slice. -/
def marksWater (k : Int) (n : Nat) : List (Int × Int × Int × Int × Int) := (List.range n).map fun j : Nat => markWater (k + 5 * j)
theorem marksWater_len (k : Int) (n : Nat) : (marksWater k n).length = n := by simp [marksWater]
theorem marksWater_get (k : Int) {n j : Nat} (h : j < n) : (marksWater k n)[j]? = some (markWater (k + 5 * j)) := eq_marks h
end Go.Proofs.YtbbnjddgioaoeaaDoor
