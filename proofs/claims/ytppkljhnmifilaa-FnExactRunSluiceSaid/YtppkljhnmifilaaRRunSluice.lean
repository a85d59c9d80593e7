/- Proved: the law FnExactRunSluice answers true for every input, and leaves its arguments as they were. Conditions: none.  -/
import Derived.Test.YtppkljhnmifilaaRows
import Derived.Test.YtppkljhnmifilaaLRunSluice
import Derived.Test.YtppkljhnmifilaaOpen
namespace Go.Proofs.Ytppkljhnmifilaa.FnExactRunSluiceRow
open Go.ChangeShapes Go.WideShapes Go.ChangeAt Go.RowKit
open Go.ChangeMaps (open_string shut_string)
set_option linter.unusedVariables false

theorem own : ownKnob Try.prog.godebug = none := by kernel_rfl
theorem laidOut : laidOutB Try.prog = true := by kernel_rfl

set_option maxRecDepth 100000 in
theorem lifted (os : Os) (started : os.Started) (H : Type) (enc : TypeId × Value → H) :
    ReturnsInHanded {} Try.checked os 10 .any (Rows.fnExactRunSluiceSpec.pre6 enc Try.prog Try.f10 Rows.fnExactRunSluiceRow.domain false) (Rows.fnExactRunSluiceSpec.post enc Try.prog Try.f10 false true false false) := by
  refine returnsInHanded_of_change (C := Try.checked) own started (by kernel_rfl) Try.func10
    (ChangeSpec.witness6 (enc := enc) (C := Try.checked) false ⟨#[], #[.agg #[.int .i64 0, .int .i64 0], .slice none 0 0, .slice none 0 0, .slice none 0 0], []⟩ 8 (by kernel_rfl) (by kernel_rfl) (by kernel_rfl) (by kernel_rfl)) ?_
  intro W base args ds gs before hval0 hW hcnd _
  have hval : ∀ (j : Nat) t v, Try.f10.params[j]? = some t → args[j]? = some v → Value.okWide Try.prog W .any base t v := hval0
  have hW' := hW
  obtain ⟨p, q, hA0, hV, rfl, hfz, hnd⟩ := hW
  have hA : DataW.TrodAll enc Try.prog W 0 (fun _ => true) true Try.f10.params.toList args.toList ds p := hA0
  rw [Try.params10] at hA hval
  obtain ⟨v0, vs0, d0, ds0, p0, q0, hargs, rfl, rfl, h0, r0⟩ := trodAll_cons hA
  obtain ⟨v1, vs1, d1, ds1, p1, q1, rfl, rfl, rfl, h1, r1⟩ := trodAll_cons r0
  obtain ⟨v2, vs2, d2, ds2, p2, q2, rfl, rfl, rfl, h2, r2⟩ := trodAll_cons r1
  obtain ⟨v3, vs3, d3, ds3, p3, q3, rfl, rfl, rfl, h3, r3⟩ := trodAll_cons r2
  obtain ⟨rfl, rfl, rfl⟩ := trodAll_nil r3
  obtain rfl : args = #[v0, v1, v2, v3] := by cases args; simp_all
  obtain ⟨rfl, rfl⟩ := trodVars_none hV
  have k0 := h0
  have lt0 : ∀ x ∈ p0, x.block < W.heap.size := by obtain ⟨m, hm⟩ := k0; exact DataW.trod_lt m _ _ _ hm
  obtain ⟨cs0, rfl, hl0, hf0⟩ := open_struct Try.underlying41 (by kernel_rfl) (by kernel_rfl) (hval 0 41 v0 rfl rfl) h0
  obtain ⟨u0a, u0b, rfl⟩ := len2 hl0
  obtain ⟨_, _, t0a⟩ := hf0 0 _ rfl
  obtain ⟨y0a, rfl, wy0a⟩ := trod_int_cell Try.underlying2 t0a
  obtain ⟨_, _, t0b⟩ := hf0 1 _ rfl
  obtain ⟨y0b, rfl, wy0b⟩ := trod_int_cell Try.underlying2 t0b
  have k1 := h1
  have lt1 : ∀ x ∈ p1, x.block < W.heap.size := by obtain ⟨m, hm⟩ := k1; exact DataW.trod_lt m _ _ _ hm
  obtain ⟨b1, g1, i1, rfl⟩ := okWide_slice Try.underlying52 (hval 1 52 v1 rfl rfl)
  obtain ⟨f1, e1⟩ := h1
  have e1' : DataW.trod enc Try.prog W 0 (fun _ => true) true f1 52 [.slice b1 g1 i1] = some (d1, p1) := by simpa [Value.cells] using e1
  obtain ⟨as1, ns1, cs1, xs1, ess1, rs1, ls1, ms1, os1⟩ := open_rows (sz := 1) Try.underlying52 (by kernel_rfl) (by decide) (el_int Try.underlying2) e1'
  obtain ⟨rfl, rfl, rfl⟩ : b1 = as1 ∧ g1 = ns1 ∧ i1 = cs1 := by simpa using ess1
  have k2 := h2
  have lt2 : ∀ x ∈ p2, x.block < W.heap.size := by obtain ⟨m, hm⟩ := k2; exact DataW.trod_lt m _ _ _ hm
  obtain ⟨b2, g2, i2, rfl⟩ := okWide_slice Try.underlying52 (hval 2 52 v2 rfl rfl)
  obtain ⟨f2, e2⟩ := h2
  have e2' : DataW.trod enc Try.prog W 0 (fun _ => true) true f2 52 [.slice b2 g2 i2] = some (d2, p2) := by simpa [Value.cells] using e2
  obtain ⟨as2, ns2, cs2, xs2, ess2, rs2, ls2, ms2, os2⟩ := open_rows (sz := 1) Try.underlying52 (by kernel_rfl) (by decide) (el_int Try.underlying2) e2'
  obtain ⟨rfl, rfl, rfl⟩ : b2 = as2 ∧ g2 = ns2 ∧ i2 = cs2 := by simpa using ess2
  have k3 := h3
  have lt3 : ∀ x ∈ p3, x.block < W.heap.size := by obtain ⟨m, hm⟩ := k3; exact DataW.trod_lt m _ _ _ hm
  obtain ⟨b3, g3, i3, rfl⟩ := okWide_slice Try.underlying52 (hval 3 52 v3 rfl rfl)
  obtain ⟨f3, e3⟩ := h3
  have e3' : DataW.trod enc Try.prog W 0 (fun _ => true) true f3 52 [.slice b3 g3 i3] = some (d3, p3) := by simpa [Value.cells] using e3
  obtain ⟨as3, ns3, cs3, xs3, ess3, rs3, ls3, ms3, os3⟩ := open_rows (sz := 1) Try.underlying52 (by kernel_rfl) (by decide) (el_int Try.underlying2) e3'
  obtain ⟨rfl, rfl, rfl⟩ : b3 = as3 ∧ g3 = ns3 ∧ i3 = cs3 := by simpa using ess3
  clear hA0 hval0
  refine (FnExactRunSluice_calls y0a y0b b1 g1 i1 xs1 b2 g2 i2 xs2 b3 g3 i3 xs3 W wy0a wy0b rs1 ls1 ms1 os1 rs2 ls2 ms2 os2 rs3 ls3 ms3 os3).mono fun e W' ⟨he, bel⟩ => ?_
  subst he
  exact ⟨_, rfl, _, _, _, [], _, [], hW', trodAll_mk1 (shut_bool Try.underlying4 _), (trodAll_cons_mk (Below.trod laidOut (by kernel_rfl) (of_decide_eq_true (by kernel_rfl)) k0 bel lt0) (trodAll_cons_mk (Below.trod laidOut (by kernel_rfl) (of_decide_eq_true (by kernel_rfl)) k1 bel lt1) (trodAll_cons_mk (Below.trod laidOut (by kernel_rfl) (of_decide_eq_true (by kernel_rfl)) k2 bel lt2) (trodAll_cons_mk (Below.trod laidOut (by kernel_rfl) (of_decide_eq_true (by kernel_rfl)) k3 bel lt3) trodAll_mk0)))), rfl, bel.frame _, fun h => by cases h⟩

theorem over : Rows.fnExactRunSluiceRow.holds Try.pinned (OpenSpec.ofChange Rows.fnExactRunSluiceSpec) :=
  OpenClaim.holds_of_wide 10 Try.f10 rfl rfl rfl rfl rfl rfl rfl ⟨rfl, rfl, rfl, rfl, rfl⟩ rfl rfl rfl rfl rfl (by kernel_rfl) Try.func10 (by kernel_rfl)
    (of_decide_eq_true (by kernel_rfl)) (by unfold Func.isWrapper; first | (rw [if_pos (by decide +kernel)]; kernel_rfl) | (rw [if_neg (by decide +kernel)]; exact ⟨rfl, rfl⟩))
    (fun os started H enc _ => lifted os started H enc)

/-- The given statement. -/
theorem proved : Rows.FnExactRunSluiceSaid := over
#print axioms proved
end Go.Proofs.Ytppkljhnmifilaa.FnExactRunSluiceRow
