/- Proved: the law FnExactLevelsOver answers true for every input, and leaves its arguments as they were. Conditions: none.  -/
import Derived.Test.YtieomdjcnaaopaaRows
import Derived.Test.YtieomdjcnaaopaaLLevelsOver
import Derived.Test.YtieomdjcnaaopaaOpen
namespace Go.Proofs.Ytieomdjcnaaopaa.FnExactLevelsOverRow
open Go.ChangeShapes Go.WideShapes Go.ChangeAt Go.RowKit
open Go.ChangeMaps (open_string shut_string)
set_option linter.unusedVariables false

theorem own : ownKnob Try.prog.godebug = none := by kernel_rfl
theorem laidOut : laidOutB Try.prog = true := by kernel_rfl

set_option maxRecDepth 100000 in
theorem lifted (os : Os) (started : os.Started) (H : Type) (enc : TypeId × Value → H) :
    ReturnsInHanded {} Try.checked os 10 .any (Rows.fnExactLevelsOverSpec.pre6 enc Try.prog Try.f10 Rows.fnExactLevelsOverRow.domain false) (Rows.fnExactLevelsOverSpec.post enc Try.prog Try.f10 false true false false) := by
  refine returnsInHanded_of_change (C := Try.checked) own started (by kernel_rfl) Try.func10
    (ChangeSpec.witness6 (enc := enc) (C := Try.checked) false ⟨#[], #[.agg #[.slice none 0 0, .slice none 0 0], .int .i64 0, .slice none 0 0], []⟩ 8 (by kernel_rfl) (by kernel_rfl) (by kernel_rfl) (by kernel_rfl)) ?_
  intro W base args ds gs before hval0 hW hcnd _
  have hval : ∀ (j : Nat) t v, Try.f10.params[j]? = some t → args[j]? = some v → Value.okWide Try.prog W .any base t v := hval0
  have hW' := hW
  obtain ⟨p, q, hA0, hV, rfl, hfz, hnd⟩ := hW
  have hA : DataW.TrodAll enc Try.prog W 0 (fun _ => true) true Try.f10.params.toList args.toList ds p := hA0
  rw [Try.params10] at hA hval
  obtain ⟨v0, vs0, d0, ds0, p0, q0, hargs, rfl, rfl, h0, r0⟩ := trodAll_cons hA
  obtain ⟨v1, vs1, d1, ds1, p1, q1, rfl, rfl, rfl, h1, r1⟩ := trodAll_cons r0
  obtain ⟨v2, vs2, d2, ds2, p2, q2, rfl, rfl, rfl, h2, r2⟩ := trodAll_cons r1
  obtain ⟨rfl, rfl, rfl⟩ := trodAll_nil r2
  obtain rfl : args = #[v0, v1, v2] := by cases args; simp_all
  obtain ⟨rfl, rfl⟩ := trodVars_none hV
  have k0 := h0
  have lt0 : ∀ x ∈ p0, x.block < W.heap.size := by obtain ⟨m, hm⟩ := k0; exact DataW.trod_lt m _ _ _ hm
  obtain ⟨cs0, rfl, hl0, hf0⟩ := open_struct Try.underlying24 (by kernel_rfl) (by kernel_rfl) (hval 0 24 v0 rfl rfl) h0
  obtain ⟨u0a, u0b, rfl⟩ := len2 hl0
  obtain ⟨_, _, t0a⟩ := hf0 0 _ rfl
  obtain ⟨ay0a, ny0a, cy0a, xy0a, rfl, ry0a, ly0a, my0a, oy0a⟩ := open_rows (sz := 1) Try.underlying22 (by kernel_rfl) (by decide) (el_int Try.underlying2) t0a
  obtain ⟨_, _, t0b⟩ := hf0 1 _ rfl
  obtain ⟨ay0b, ny0b, cy0b, xy0b, rfl, ry0b, ly0b, my0b, oy0b⟩ := open_rows (sz := 1) Try.underlying22 (by kernel_rfl) (by decide) (el_int Try.underlying2) t0b
  have k1 := h1
  have lt1 : ∀ x ∈ p1, x.block < W.heap.size := by obtain ⟨m, hm⟩ := k1; exact DataW.trod_lt m _ _ _ hm
  obtain ⟨z1, rfl, _, _, wz1⟩ := open_int Try.underlying2 (hval 1 2 v1 rfl rfl) h1
  have k2 := h2
  have lt2 : ∀ x ∈ p2, x.block < W.heap.size := by obtain ⟨m, hm⟩ := k2; exact DataW.trod_lt m _ _ _ hm
  obtain ⟨b2, g2, i2, rfl⟩ := okWide_slice Try.underlying53 (hval 2 53 v2 rfl rfl)
  obtain ⟨f2, e2⟩ := h2
  have e2' : DataW.trod enc Try.prog W 0 (fun _ => true) true f2 53 [.slice b2 g2 i2] = some (d2, p2) := by simpa [Value.cells] using e2
  obtain ⟨as2, ns2, cs2, xs2, ess2, rs2, ls2, ms2, os2⟩ := open_rows (sz := 5) Try.underlying53 (by kernel_rfl) (by decide) el_Water e2'
  obtain ⟨rfl, rfl, rfl⟩ : b2 = as2 ∧ g2 = ns2 ∧ i2 = cs2 := by simpa using ess2
  clear hA0 hval0
  refine (FnExactLevelsOver_calls ay0a ny0a cy0a xy0a ay0b ny0b cy0b xy0b z1 b2 g2 i2 xs2 W ry0a ly0a my0a oy0a ry0b ly0b my0b oy0b wz1 rs2 ls2 ms2 os2).mono fun e W' ⟨he, bel⟩ => ?_
  subst he
  exact ⟨_, rfl, _, _, _, [], _, [], hW', trodAll_mk1 (shut_bool Try.underlying4 _), (trodAll_cons_mk (Below.trod laidOut (by kernel_rfl) (of_decide_eq_true (by kernel_rfl)) k0 bel lt0) (trodAll_cons_mk (Below.trod laidOut (by kernel_rfl) (of_decide_eq_true (by kernel_rfl)) k1 bel lt1) (trodAll_cons_mk (Below.trod laidOut (by kernel_rfl) (of_decide_eq_true (by kernel_rfl)) k2 bel lt2) trodAll_mk0))), rfl, bel.frame _, fun h => by cases h⟩

theorem over : Rows.fnExactLevelsOverRow.holds Try.pinned (OpenSpec.ofChange Rows.fnExactLevelsOverSpec) :=
  OpenClaim.holds_of_wide 10 Try.f10 rfl rfl rfl rfl rfl rfl rfl ⟨rfl, rfl, rfl, rfl, rfl⟩ rfl rfl rfl rfl rfl (by kernel_rfl) Try.func10 (by kernel_rfl)
    (of_decide_eq_true (by kernel_rfl)) (by unfold Func.isWrapper; first | (rw [if_pos (by decide +kernel)]; kernel_rfl) | (rw [if_neg (by decide +kernel)]; exact ⟨rfl, rfl⟩))
    (fun os started H enc _ => lifted os started H enc)

/-- The given statement. -/
theorem proved : Rows.FnExactLevelsOverSaid := over
#print axioms proved
end Go.Proofs.Ytieomdjcnaaopaa.FnExactLevelsOverRow
