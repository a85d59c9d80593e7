/- Proved: the law FnExactFewestSwitches answers true for every input, and leaves its arguments as they were. Conditions: none.  -/
import Derived.Test.YtieomdjcnaaopaaRows
import Derived.Test.YtieomdjcnaaopaaLFewestSwitches
import Derived.Test.YtieomdjcnaaopaaOpen
namespace Go.Proofs.Ytieomdjcnaaopaa.FnExactFewestSwitchesRow
open Go.ChangeShapes Go.WideShapes Go.ChangeAt Go.RowKit
open Go.ChangeMaps (open_string shut_string)
set_option linter.unusedVariables false

theorem own : ownKnob Try.prog.godebug = none := by kernel_rfl
theorem laidOut : laidOutB Try.prog = true := by kernel_rfl

set_option maxRecDepth 100000 in
theorem lifted (os : Os) (started : os.Started) (H : Type) (enc : TypeId × Value → H) :
    ReturnsInHanded {} Try.checked os 14 .any (Rows.fnExactFewestSwitchesSpec.pre6 enc Try.prog Try.f14 Rows.fnExactFewestSwitchesRow.domain false) (Rows.fnExactFewestSwitchesSpec.post enc Try.prog Try.f14 false true false false) := by
  refine returnsInHanded_of_change (C := Try.checked) own started (by kernel_rfl) Try.func14
    (ChangeSpec.witness6 (enc := enc) (C := Try.checked) false ⟨#[], #[.agg #[.slice none 0 0, .slice none 0 0], .slice none 0 0, .int .i64 0, .int .i64 0, .slice none 0 0, .int .i64 0], []⟩ 8 (by kernel_rfl) (by kernel_rfl) (by kernel_rfl) (by kernel_rfl)) ?_
  intro W base args ds gs before hval0 hW hcnd _
  have hval : ∀ (j : Nat) t v, Try.f14.params[j]? = some t → args[j]? = some v → Value.okWide Try.prog W .any base t v := hval0
  have hW' := hW
  obtain ⟨p, q, hA0, hV, rfl, hfz, hnd⟩ := hW
  have hA : DataW.TrodAll enc Try.prog W 0 (fun _ => true) true Try.f14.params.toList args.toList ds p := hA0
  rw [Try.params14] at hA hval
  obtain ⟨v0, vs0, d0, ds0, p0, q0, hargs, rfl, rfl, h0, r0⟩ := trodAll_cons hA
  obtain ⟨v1, vs1, d1, ds1, p1, q1, rfl, rfl, rfl, h1, r1⟩ := trodAll_cons r0
  obtain ⟨v2, vs2, d2, ds2, p2, q2, rfl, rfl, rfl, h2, r2⟩ := trodAll_cons r1
  obtain ⟨v3, vs3, d3, ds3, p3, q3, rfl, rfl, rfl, h3, r3⟩ := trodAll_cons r2
  obtain ⟨v4, vs4, d4, ds4, p4, q4, rfl, rfl, rfl, h4, r4⟩ := trodAll_cons r3
  obtain ⟨v5, vs5, d5, ds5, p5, q5, rfl, rfl, rfl, h5, r5⟩ := trodAll_cons r4
  obtain ⟨rfl, rfl, rfl⟩ := trodAll_nil r5
  obtain rfl : args = #[v0, v1, v2, v3, v4, v5] := by cases args; simp_all
  obtain ⟨rfl, rfl⟩ := trodVars_none hV
  have k0 := h0
  have lt0 : ∀ x ∈ p0, x.block < W.heap.size := by obtain ⟨m, hm⟩ := k0; exact DataW.trod_lt m _ _ _ hm
  obtain ⟨cs0, rfl, hl0, hf0⟩ := open_struct Try.underlying24 (by kernel_rfl) (by kernel_rfl) (hval 0 24 v0 rfl rfl) h0
  obtain ⟨u0a, u0b, rfl⟩ := len2 hl0
  obtain ⟨_, _, t0a⟩ := hf0 0 _ rfl
  obtain ⟨ay0a, ny0a, cy0a, xy0a, rfl, ry0a, ly0a, my0a, oy0a⟩ := open_rows (sz := 1) Try.underlying22 (by kernel_rfl) (by decide) (el_int Try.underlying2) t0a
  obtain ⟨_, _, t0b⟩ := hf0 1 _ rfl
  obtain ⟨ay0b, ny0b, cy0b, xy0b, rfl, ry0b, ly0b, my0b, oy0b⟩ := open_rows (sz := 1) Try.underlying22 (by kernel_rfl) (by decide) (el_int Try.underlying2) t0b
  have k1 := h1
  have lt1 : ∀ x ∈ p1, x.block < W.heap.size := by obtain ⟨m, hm⟩ := k1; exact DataW.trod_lt m _ _ _ hm
  obtain ⟨b1, g1, i1, rfl⟩ := okWide_slice Try.underlying70 (hval 1 70 v1 rfl rfl)
  obtain ⟨f1, e1⟩ := h1
  have e1' : DataW.trod enc Try.prog W 0 (fun _ => true) true f1 70 [.slice b1 g1 i1] = some (d1, p1) := by simpa [Value.cells] using e1
  obtain ⟨as1, ns1, cs1, xs1, ess1, rs1, ls1, ms1, os1⟩ := open_rows (sz := 2) Try.underlying70 (by kernel_rfl) (by decide) el_Switch e1'
  obtain ⟨rfl, rfl, rfl⟩ : b1 = as1 ∧ g1 = ns1 ∧ i1 = cs1 := by simpa using ess1
  have k2 := h2
  have lt2 : ∀ x ∈ p2, x.block < W.heap.size := by obtain ⟨m, hm⟩ := k2; exact DataW.trod_lt m _ _ _ hm
  obtain ⟨z2, rfl, _, _, wz2⟩ := open_int Try.underlying2 (hval 2 2 v2 rfl rfl) h2
  have k3 := h3
  have lt3 : ∀ x ∈ p3, x.block < W.heap.size := by obtain ⟨m, hm⟩ := k3; exact DataW.trod_lt m _ _ _ hm
  obtain ⟨z3, rfl, _, _, wz3⟩ := open_int Try.underlying2 (hval 3 2 v3 rfl rfl) h3
  have k4 := h4
  have lt4 : ∀ x ∈ p4, x.block < W.heap.size := by obtain ⟨m, hm⟩ := k4; exact DataW.trod_lt m _ _ _ hm
  obtain ⟨b4, g4, i4, rfl⟩ := okWide_slice Try.underlying22 (hval 4 22 v4 rfl rfl)
  obtain ⟨f4, e4⟩ := h4
  have e4' : DataW.trod enc Try.prog W 0 (fun _ => true) true f4 22 [.slice b4 g4 i4] = some (d4, p4) := by simpa [Value.cells] using e4
  obtain ⟨as4, ns4, cs4, xs4, ess4, rs4, ls4, ms4, os4⟩ := open_rows (sz := 1) Try.underlying22 (by kernel_rfl) (by decide) (el_int Try.underlying2) e4'
  obtain ⟨rfl, rfl, rfl⟩ : b4 = as4 ∧ g4 = ns4 ∧ i4 = cs4 := by simpa using ess4
  have k5 := h5
  have lt5 : ∀ x ∈ p5, x.block < W.heap.size := by obtain ⟨m, hm⟩ := k5; exact DataW.trod_lt m _ _ _ hm
  obtain ⟨z5, rfl, _, _, wz5⟩ := open_int Try.underlying2 (hval 5 2 v5 rfl rfl) h5
  clear hA0 hval0
  refine (FnExactFewestSwitches_calls ay0a ny0a cy0a xy0a ay0b ny0b cy0b xy0b b1 g1 i1 xs1 z2 z3 b4 g4 i4 xs4 z5 W ry0a ly0a my0a oy0a ry0b ly0b my0b oy0b rs1 ls1 ms1 os1 wz2 wz3 rs4 ls4 ms4 os4 wz5).mono fun e W' ⟨he, bel⟩ => ?_
  subst he
  exact ⟨_, rfl, _, _, _, [], _, [], hW', trodAll_mk1 (shut_bool Try.underlying4 _), (trodAll_cons_mk (Below.trod laidOut (by kernel_rfl) (of_decide_eq_true (by kernel_rfl)) k0 bel lt0) (trodAll_cons_mk (Below.trod laidOut (by kernel_rfl) (of_decide_eq_true (by kernel_rfl)) k1 bel lt1) (trodAll_cons_mk (Below.trod laidOut (by kernel_rfl) (of_decide_eq_true (by kernel_rfl)) k2 bel lt2) (trodAll_cons_mk (Below.trod laidOut (by kernel_rfl) (of_decide_eq_true (by kernel_rfl)) k3 bel lt3) (trodAll_cons_mk (Below.trod laidOut (by kernel_rfl) (of_decide_eq_true (by kernel_rfl)) k4 bel lt4) (trodAll_cons_mk (Below.trod laidOut (by kernel_rfl) (of_decide_eq_true (by kernel_rfl)) k5 bel lt5) trodAll_mk0)))))), rfl, bel.frame _, fun h => by cases h⟩

theorem over : Rows.fnExactFewestSwitchesRow.holds Try.pinned (OpenSpec.ofChange Rows.fnExactFewestSwitchesSpec) :=
  OpenClaim.holds_of_wide 14 Try.f14 rfl rfl rfl rfl rfl rfl rfl ⟨rfl, rfl, rfl, rfl, rfl⟩ rfl rfl rfl rfl rfl (by kernel_rfl) Try.func14 (by kernel_rfl)
    (of_decide_eq_true (by kernel_rfl)) (by unfold Func.isWrapper; first | (rw [if_pos (by decide +kernel)]; kernel_rfl) | (rw [if_neg (by decide +kernel)]; exact ⟨rfl, rfl⟩))
    (fun os started H enc _ => lifted os started H enc)

/-- The given statement. -/
theorem proved : Rows.FnExactFewestSwitchesSaid := over
#print axioms proved
end Go.Proofs.Ytieomdjcnaaopaa.FnExactFewestSwitchesRow
