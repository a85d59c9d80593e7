/- Proved: the law FnExactSavingOf answers true for every input, and leaves its arguments as they were. Conditions: none.  -/
import Derived.Test.YthabjlhfidcnoaaRows
import Derived.Test.YthabjlhfidcnoaaLSavingOf
import Derived.Test.YthabjlhfidcnoaaOpen
namespace Go.Proofs.Ythabjlhfidcnoaa.FnExactSavingOfRow
open Go.ChangeShapes Go.WideShapes Go.ChangeAt Go.RowKit
open Go.ChangeMaps (open_string shut_string)
set_option linter.unusedVariables false

theorem own : ownKnob Try.prog.godebug = none := by kernel_rfl
theorem laidOut : laidOutB Try.prog = true := by kernel_rfl

set_option maxRecDepth 100000 in
theorem lifted (os : Os) (started : os.Started) (H : Type) (enc : TypeId × Value → H) :
    ReturnsInHanded {} Try.checked os 13 .any (Rows.fnExactSavingOfSpec.pre6 enc Try.prog Try.f13 Rows.fnExactSavingOfRow.domain false) (Rows.fnExactSavingOfSpec.post enc Try.prog Try.f13 false true false false) := by
  refine returnsInHanded_of_change (C := Try.checked) own started (by kernel_rfl) Try.func13
    (ChangeSpec.witness6 (enc := enc) (C := Try.checked) false ⟨#[], #[.agg #[.int .i64 0, .int .i64 0, .int .i64 0, .int .i64 0, .slice none 0 0, .slice none 0 0], .slice none 0 0], []⟩ 8 (by kernel_rfl) (by kernel_rfl) (by kernel_rfl) (by kernel_rfl)) ?_
  intro W base args ds gs before hval0 hW hcnd _
  have hval : ∀ (j : Nat) t v, Try.f13.params[j]? = some t → args[j]? = some v → Value.okWide Try.prog W .any base t v := hval0
  have hW' := hW
  obtain ⟨p, q, hA0, hV, rfl, hfz, hnd⟩ := hW
  have hA : DataW.TrodAll enc Try.prog W 0 (fun _ => true) true Try.f13.params.toList args.toList ds p := hA0
  rw [Try.params13] at hA hval
  obtain ⟨v0, vs0, d0, ds0, p0, q0, hargs, rfl, rfl, h0, r0⟩ := trodAll_cons hA
  obtain ⟨v1, vs1, d1, ds1, p1, q1, rfl, rfl, rfl, h1, r1⟩ := trodAll_cons r0
  obtain ⟨rfl, rfl, rfl⟩ := trodAll_nil r1
  obtain rfl : args = #[v0, v1] := by cases args; simp_all
  obtain ⟨rfl, rfl⟩ := trodVars_none hV
  have k0 := h0
  have lt0 : ∀ x ∈ p0, x.block < W.heap.size := by obtain ⟨m, hm⟩ := k0; exact DataW.trod_lt m _ _ _ hm
  obtain ⟨cs0, rfl, hl0, hf0⟩ := open_struct Try.underlying24 (by kernel_rfl) (by kernel_rfl) (hval 0 24 v0 rfl rfl) h0
  obtain ⟨u0a, u0b, u0c, u0d, u0e, u0f, rfl⟩ := len6 hl0
  obtain ⟨_, _, t0a⟩ := hf0 0 _ rfl
  obtain ⟨y0a, rfl, wy0a⟩ := trod_int_cell Try.underlying2 t0a
  obtain ⟨_, _, t0b⟩ := hf0 1 _ rfl
  obtain ⟨y0b, rfl, wy0b⟩ := trod_int_cell Try.underlying2 t0b
  obtain ⟨_, _, t0c⟩ := hf0 2 _ rfl
  obtain ⟨y0c, rfl, wy0c⟩ := trod_int_cell Try.underlying2 t0c
  obtain ⟨_, _, t0d⟩ := hf0 3 _ rfl
  obtain ⟨y0d, rfl, wy0d⟩ := trod_int_cell Try.underlying2 t0d
  obtain ⟨_, _, t0e⟩ := hf0 4 _ rfl
  obtain ⟨ay0e, ny0e, cy0e, xy0e, rfl, ry0e, ly0e, my0e, oy0e⟩ := open_rows (sz := 1) Try.underlying22 (by kernel_rfl) (by decide) (el_int Try.underlying2) t0e
  obtain ⟨_, _, t0f⟩ := hf0 5 _ rfl
  obtain ⟨ay0f, ny0f, cy0f, xy0f, rfl, ry0f, ly0f, my0f, oy0f⟩ := open_rows (sz := 1) Try.underlying22 (by kernel_rfl) (by decide) (el_int Try.underlying2) t0f
  have k1 := h1
  have lt1 : ∀ x ∈ p1, x.block < W.heap.size := by obtain ⟨m, hm⟩ := k1; exact DataW.trod_lt m _ _ _ hm
  obtain ⟨b1, g1, i1, rfl⟩ := okWide_slice Try.underlying22 (hval 1 22 v1 rfl rfl)
  obtain ⟨f1, e1⟩ := h1
  have e1' : DataW.trod enc Try.prog W 0 (fun _ => true) true f1 22 [.slice b1 g1 i1] = some (d1, p1) := by simpa [Value.cells] using e1
  obtain ⟨as1, ns1, cs1, xs1, ess1, rs1, ls1, ms1, os1⟩ := open_rows (sz := 1) Try.underlying22 (by kernel_rfl) (by decide) (el_int Try.underlying2) e1'
  obtain ⟨rfl, rfl, rfl⟩ : b1 = as1 ∧ g1 = ns1 ∧ i1 = cs1 := by simpa using ess1
  clear hA0 hval0
  refine (FnExactSavingOf_calls y0a y0b y0c y0d ay0e ny0e cy0e xy0e ay0f ny0f cy0f xy0f b1 g1 i1 xs1 W wy0a wy0b wy0c wy0d ry0e ly0e my0e oy0e ry0f ly0f my0f oy0f rs1 ls1 ms1 os1).mono fun e W' ⟨he, bel⟩ => ?_
  subst he
  exact ⟨_, rfl, _, _, _, [], _, [], hW', trodAll_mk1 (shut_bool Try.underlying4 _), (trodAll_cons_mk (Below.trod laidOut (by kernel_rfl) (of_decide_eq_true (by kernel_rfl)) k0 bel lt0) (trodAll_cons_mk (Below.trod laidOut (by kernel_rfl) (of_decide_eq_true (by kernel_rfl)) k1 bel lt1) trodAll_mk0)), rfl, bel.frame _, fun h => by cases h⟩

theorem over : Rows.fnExactSavingOfRow.holds Try.pinned (OpenSpec.ofChange Rows.fnExactSavingOfSpec) :=
  OpenClaim.holds_of_wide 13 Try.f13 rfl rfl rfl rfl rfl rfl rfl ⟨rfl, rfl, rfl, rfl, rfl⟩ rfl rfl rfl rfl rfl (by kernel_rfl) Try.func13 (by kernel_rfl)
    (of_decide_eq_true (by kernel_rfl)) (by unfold Func.isWrapper; first | (rw [if_pos (by decide +kernel)]; kernel_rfl) | (rw [if_neg (by decide +kernel)]; exact ⟨rfl, rfl⟩))
    (fun os started H enc _ => lifted os started H enc)

/-- The given statement. -/
theorem proved : Rows.FnExactSavingOfSaid := over
#print axioms proved
end Go.Proofs.Ythabjlhfidcnoaa.FnExactSavingOfRow
