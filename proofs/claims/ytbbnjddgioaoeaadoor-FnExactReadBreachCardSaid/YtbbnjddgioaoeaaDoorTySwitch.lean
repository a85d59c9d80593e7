/- Switch: how it lies in memory, and the laws' helpers on it. -/
import Derived.Test.YtbbnjddgioaoeaaDoorBasic
import Derived.Test.YtbbnjddgioaoeaaDoorOpen
namespace Go.Proofs.YtbbnjddgioaoeaaDoor
open Go.ChangeShapes Go.WideShapes Go.RowKit
set_option linter.unusedVariables false

def cSwitch (x : Int × Int) : List Value := [.int .i64 x.1, .int .i64 x.2]
abbrev RdSwitch := Rd 2 cSwitch
theorem len_cSwitch (x : Int × Int) : (cSwitch x).length = 2 := rfl
theorem getSwitch {w : World} {a : Option Addr} {n : Nat} {xs : List (Int × Int)} (h : RdSwitch w a n xs) {k : Nat} (hk : k < n) :
    ∃ (b o : Nat) (f0 : Int) (f1 : Int), a = some ⟨b, o, none⟩ ∧ b < w.heap.size ∧ xs[k]? = some (f0, f1) ∧ w.cell? ⟨b, o + k * 2, none⟩ = some (.int .i64 f0) ∧ w.cell? ⟨b, o + k * 2 + 1, none⟩ = some (.int .i64 f1) := by
  obtain ⟨b, o, e, hc⟩ := h.2 (by omega)
  have hl : k < xs.length := by have := h.1; omega
  have hx := List.getElem?_eq_getElem hl
  have h0 := hc k _ hx 0 (.int .i64 xs[k].1) rfl
  have h1 := hc k _ hx 1 (.int .i64 xs[k].2) rfl
  simp only [Nat.add_zero] at h0
  rw [← Nat.add_assoc] at h1
  exact ⟨b, o, xs[k].1, xs[k].2, e, World.block_lt_of_cell? w _ h0, hx, h0, h1⟩
theorem hasnSwitch {cur : Array Value} {k n : Nat} {xs : List (Int × Int)} {f0 : Int} {f1 : Int} (h : Has 2 cSwitch cur k xs) (hx : xs[k]? = some (f0, f1)) (hs : cur.size = n * 2) (hk : k < n) :
    Has 2 cSwitch ((cur.setIfInBounds (k * 2) (.int .i64 f0)).setIfInBounds (k * 2 + 1) (.int .i64 f1)) (k + 1) xs := by
  intro i x hi hxi j v hv
  have hj : j < 2 := by have := lt_of_get hv; simpa [cSwitch] using this
  by_cases hik : i = k
  · subst hik
    rw [hx] at hxi
    obtain rfl := Option.some.inj hxi
    rcases (show j = 0 ∨ j = 1 from by omega) with rfl | rfl
    · simp [cSwitch] at hv; subst hv
      simp only [Nat.add_zero]
      rw [Array.getElem?_setIfInBounds_ne (by omega), Array.getElem?_setIfInBounds_self_of_lt (by first | omega | (simp; omega))]
    · simp [cSwitch] at hv; subst hv
      rw [Array.getElem?_setIfInBounds_self_of_lt (by first | omega | (simp; omega))]
  · rw [Array.getElem?_setIfInBounds_ne (by omega), Array.getElem?_setIfInBounds_ne (by omega)]
    exact h i x (by omega) hxi j v hv
theorem infoSwitch : (Tryd.prog.info? 23).map (fun i => (i.zero, i.size, i.bytes)) = some (some (.agg #[.int .i64 0, .int .i64 0]), 2, 16) := by kernel_rfl
def OkSwitch (x : Int × Int) : Prop := (Lit.int .i64 x.1).wf = true ∧ (Lit.int .i64 x.2).wf = true
theorem el_Switch {H : Type} {enc : TypeId × Value → H} {w : World} {base : Nat} {spare : Nat → Bool} {held : Bool} :
    ∀ (n : Nat) (cs' : List Value) (y : DataW H × List MemPlace), DataW.trod enc Tryd.prog w base spare held n 38 cs' = some y → ∃ z, cSwitch z = cs' ∧ OkSwitch z := by
  intro n cs' y h
  obtain ⟨hl, hf⟩ := struct_cells Tryd.underlying38 (by kernel_rfl) (by kernel_rfl) h
  obtain ⟨u0, u1, rfl⟩ := len2 hl
  obtain ⟨_, _, t0⟩ := hf 0 _ rfl
  obtain ⟨f0, rfl, w0⟩ := trod_int_cell Tryd.underlying2 t0
  obtain ⟨_, _, t1⟩ := hf 1 _ rfl
  obtain ⟨f1, rfl, w1⟩ := trod_int_cell Tryd.underlying2 t1
  exact ⟨(f0, f1), rfl, w0, w1⟩
theorem toSwitch_calls (f0 : Int) (f1 : Int) (w : World) :
    Calls Tryd.prog 20 #[.agg #[.int .i64 f0, .int .i64 f1]] w fun e w' => e = .returned (.agg #[.int .i64 f0, .int .i64 f1]) ∧ Below w.heap.size w w' := by
  go_enter Tryd.func20, Tryd.ntmps20
  go_wp2
  go_returns
  exact ⟨rfl, by go_grown⟩
theorem eqSwitch_calls (f0 : Int) (f1 : Int) (g0 : Int) (g1 : Int) (w : World) :
    Calls Tryd.prog 12 #[.agg #[.int .i64 f0, .int .i64 f1], .agg #[.int .i64 g0, .int .i64 g1]] w fun e w' => e = .returned (.bool ((f0, f1) == (g0, g1))) ∧ Below w.heap.size w w' := by
  go_enter Tryd.func12, Tryd.ntmps12
  go_wp2
  all_goals (go_ret; exact ⟨ret_bool (by simp_all), by go_grown⟩)
def markSwitch (q : Int) : Int × Int := (q, q + 1)
/-- What the laws write into a slice. -/
def marksSwitch (k : Int) (n : Nat) : List (Int × Int) := (List.range n).map fun j : Nat => markSwitch (k + 2 * j)
theorem marksSwitch_len (k : Int) (n : Nat) : (marksSwitch k n).length = n := by simp [marksSwitch]
theorem marksSwitch_get (k : Int) {n j : Nat} (h : j < n) : (marksSwitch k n)[j]? = some (markSwitch (k + 2 * j)) := eq_marks h
end Go.Proofs.YtbbnjddgioaoeaaDoor
