/- The law on StepSluice. -/
import Derived.Test.YtppkljhnmifilaaStepS
import Derived.Deep.RegionHeld3
import Derived.Deep.DeepCutAuto
namespace Go.Proofs.Ytppkljhnmifilaa
open Go.RowKit
set_option linter.unusedVariables false

theorem two_blk (w : World) (A B : Obj) : ((w.alloc A).alloc B).heap[w.heap.size]? = some A ∧ ((w.alloc A).alloc B).heap[w.heap.size + 1]? = some B ∧ Below w.heap.size w ((w.alloc A).alloc B) := by
  refine ⟨blk_alloc (heap_alloc_new w _) _, ?_, ((Below.refl _ _).alloc (Nat.le_refl _) _).alloc (by simp) _⟩
  have := heap_alloc_new (w.alloc A) B
  simp only [World.size_alloc] at this
  exact this
set_option maxHeartbeats 4000000 in
theorem FnExactStepSluice_calls (aS0 : Int) (aS1 : Int) (aG0 : Bool) (aG1 : Int) (aG2 : Int) (aOrder : Int) (aInside : Int) (aOutside : Int) (w : World)
    (_waS0 : (Lit.int .i64 aS0).wf = true) (_waS1 : (Lit.int .i64 aS1).wf = true) (_waG1 : (Lit.int .i64 aG1).wf = true) (_waG2 : (Lit.int .i64 aG2).wf = true) (_waOrder : (Lit.int .i64 aOrder).wf = true) (_waInside : (Lit.int .i64 aInside).wf = true) (_waOutside : (Lit.int .i64 aOutside).wf = true) :
    Calls Try.prog 9 #[.agg #[.int .i64 aS0, .int .i64 aS1], .agg #[.bool aG0, .int .i64 aG1, .int .i64 aG2], .int .i64 aOrder, .int .i64 aInside, .int .i64 aOutside] w fun e w' => e = .returned (.bool true) ∧ Below w.heap.size w w' := by
  obtain ⟨r, hr⟩ : ∃ r, stepSl aS0 aS1 (aG0, aG1, aG2) aOrder aInside aOutside = r := ⟨_, rfl⟩
  obtain ⟨⟨ra, rb, rc⟩, rd⟩ := r
  have Hr := hd hr
  clear hr
  go_enter Try.func9, Try.ntmps9
  go_upto_region 1 with fail
  obtain ⟨ga, gb, dd⟩ := two_blk w (Obj.cells #[Value.int IntKind.i64 aS0, Value.int IntKind.i64 aS1] 41) (Obj.cells #[Value.bool aG0, Value.int IntKind.i64 aG1, Value.int IntKind.i64 aG2] 43)
  generalize (w.alloc (Obj.cells #[Value.int IntKind.i64 aS0, Value.int IntKind.i64 aS1] 41)).alloc (Obj.cells #[Value.bool aG0, Value.int IntKind.i64 aG1, Value.int IntKind.i64 aG2] 43) = W1 at ga gb dd ⊢
  have lA := blk_lt ga
  have lB := blk_lt gb
  have k0 : W1.cell? ⟨w.heap.size, 0, none⟩ = some (.int .i64 aS0) := blk_cell ga 0
  have k1 : W1.cell? ⟨w.heap.size, 1, none⟩ = some (.int .i64 aS1) := blk_cell ga 1
  have k2 : W1.cell? ⟨w.heap.size + 1, 0, none⟩ = some (.bool aG0) := blk_cell gb 0
  have k3 : W1.cell? ⟨w.heap.size + 1, 1, none⟩ = some (.int .i64 aG1) := blk_cell gb 1
  have k4 : W1.cell? ⟨w.heap.size + 1, 2, none⟩ = some (.int .i64 aG2) := blk_cell gb 2
  have GA := hd ga
  have GB := hd gb
  clear ga gb
  go_cut [11, 12] from 15 to 25 (fun s1 s2 wx => ∃ gg : Nat, s1 = .pointer (some ⟨gg, 0, none⟩) ∧ s2 = .int .i64 rd ∧ wx.heap[gg]? = some (Obj.cells #[Value.bool ra, Value.int IntKind.i64 rb, Value.int IntKind.i64 rc] 44 (0, 0)) ∧ Below W1.heap.size W1 wx ∧ W1.heap.size ≤ gg)
  case first =>
    have n0 := World.new_ne W1 _ k0
    have n1 := World.new_ne W1 _ k1
    have n2 := World.new_ne W1 _ k2
    have n3 := World.new_ne W1 _ k3
    have n4 := World.new_ne W1 _ k4
    go_region_held3 (fun w' => w'.cell? ⟨w.heap.size, 0, none⟩ = some (.int .i64 aS0) ∧ w'.cell? ⟨w.heap.size, 1, none⟩ = some (.int .i64 aS1) ∧ w'.cell? ⟨w.heap.size + 1, 0, none⟩ = some (.bool aG0) ∧ w'.cell? ⟨w.heap.size + 1, 1, none⟩ = some (.int .i64 aG1) ∧ w'.cell? ⟨w.heap.size + 1, 2, none⟩ = some (.int .i64 aG2)) (first | with_reducible exact ⟨x30, x31, x32, x33, x34⟩ | with_reducible exact ⟨x20, x21, x22, x23, x24⟩ | with_reducible exact ⟨x10, x11, x12, x13, x14⟩ | with_reducible exact ⟨((below_set3 q3 q2.size _ _ _).cell (p := ⟨w.heap.size, 0, none⟩) lA).trans k0, ((below_set3 q3 q2.size _ _ _).cell (p := ⟨w.heap.size, 1, none⟩) lA).trans k1, ((below_set3 q3 q2.size _ _ _).cell (p := ⟨w.heap.size + 1, 0, none⟩) lB).trans k2, ((below_set3 q3 q2.size _ _ _).cell (p := ⟨w.heap.size + 1, 1, none⟩) lB).trans k3, ((below_set3 q3 q2.size _ _ _).cell (p := ⟨w.heap.size + 1, 2, none⟩) lB).trans k4⟩ | with_reducible exact ⟨((below_set3 q3 q1.size _ _ _).cell (p := ⟨w.heap.size, 0, none⟩) lA).trans k0, ((below_set3 q3 q1.size _ _ _).cell (p := ⟨w.heap.size, 1, none⟩) lA).trans k1, ((below_set3 q3 q1.size _ _ _).cell (p := ⟨w.heap.size + 1, 0, none⟩) lB).trans k2, ((below_set3 q3 q1.size _ _ _).cell (p := ⟨w.heap.size + 1, 1, none⟩) lB).trans k3, ((below_set3 q3 q1.size _ _ _).cell (p := ⟨w.heap.size + 1, 2, none⟩) lB).trans k4⟩ | with_reducible exact ⟨((below_set3 q3 (Nat.le_refl _) _ _ _).cell (p := ⟨w.heap.size, 0, none⟩) lA).trans k0, ((below_set3 q3 (Nat.le_refl _) _ _ _).cell (p := ⟨w.heap.size, 1, none⟩) lA).trans k1, ((below_set3 q3 (Nat.le_refl _) _ _ _).cell (p := ⟨w.heap.size + 1, 0, none⟩) lB).trans k2, ((below_set3 q3 (Nat.le_refl _) _ _ _).cell (p := ⟨w.heap.size + 1, 1, none⟩) lB).trans k3, ((below_set3 q3 (Nat.le_refl _) _ _ _).cell (p := ⟨w.heap.size + 1, 2, none⟩) lB).trans k4⟩ | go_keep)
      (first
        | (go_at_call 28; refine (toSluice_calls _ _ _).mono ?_; rintro e v1 ⟨rfl, b1⟩; have q1 : Below W1.heap.size W1 v1 := Below.trans (by go_grown) (b1.mono (by simp)); have x10 := (q1.cell (p := ⟨w.heap.size, 0, none⟩) lA).trans k0; have x11 := (q1.cell (p := ⟨w.heap.size, 1, none⟩) lA).trans k1; have x12 := (q1.cell (p := ⟨w.heap.size + 1, 0, none⟩) lB).trans k2; have x13 := (q1.cell (p := ⟨w.heap.size + 1, 1, none⟩) lB).trans k3; have x14 := (q1.cell (p := ⟨w.heap.size + 1, 2, none⟩) lB).trans k4; (first | ((with_reducible have hv : Below (W1.alloc (Obj.cells #[Value.bool false, Value.int IntKind.i64 0, Value.int IntKind.i64 0] 44)).drew.heap.size (W1.alloc (Obj.cells #[Value.bool false, Value.int IntKind.i64 0, Value.int IntKind.i64 0] 44)).drew v1 := b1); have hq11 : v1.heap[W1.heap.size]? = some (Obj.cells #[Value.bool false, Value.int IntKind.i64 0, Value.int IntKind.i64 0] 44) := (hv.block W1.heap.size (by simp)).trans (heap_alloc_new W1 (Obj.cells #[Value.bool false, Value.int IntKind.i64 0, Value.int IntKind.i64 0] 44))) | (with_reducible have hv : Below (W1.alloc (Obj.cells #[Value.bool false, Value.int IntKind.i64 0, Value.int IntKind.i64 0] 44)).heap.size (W1.alloc (Obj.cells #[Value.bool false, Value.int IntKind.i64 0, Value.int IntKind.i64 0] 44)) v1 := b1; have hq11 : v1.heap[W1.heap.size]? = some (Obj.cells #[Value.bool false, Value.int IntKind.i64 0, Value.int IntKind.i64 0] 44) := (hv.block W1.heap.size (by simp)).trans (heap_alloc_new W1 (Obj.cells #[Value.bool false, Value.int IntKind.i64 0, Value.int IntKind.i64 0] 44))) | skip))
        | (go_at_call 29; refine (toGate_calls _ _ _ _).mono ?_; rintro e v2 ⟨rfl, b2⟩; have q2 : Below W1.heap.size W1 v2 := Below.trans (Below.trans q1 (Below.mono (B := v1.heap.size) (by go_grown) q1.size)) (b2.mono (by have := q1.size; simp; try omega)); have x20 := (q2.cell (p := ⟨w.heap.size, 0, none⟩) lA).trans k0; have x21 := (q2.cell (p := ⟨w.heap.size, 1, none⟩) lA).trans k1; have x22 := (q2.cell (p := ⟨w.heap.size + 1, 0, none⟩) lB).trans k2; have x23 := (q2.cell (p := ⟨w.heap.size + 1, 1, none⟩) lB).trans k3; have x24 := (q2.cell (p := ⟨w.heap.size + 1, 2, none⟩) lB).trans k4; (first | (have hq21 : v2.heap[W1.heap.size]? = some (Obj.cells #[Value.bool false, Value.int IntKind.i64 0, Value.int IntKind.i64 0] 44) := (b2.block _ (by have := blk_lt hq11; simpa using this)).trans hq11) | ((with_reducible have hv : Below (v1.alloc (Obj.cells #[Value.bool false, Value.int IntKind.i64 0, Value.int IntKind.i64 0] 44)).drew.heap.size (v1.alloc (Obj.cells #[Value.bool false, Value.int IntKind.i64 0, Value.int IntKind.i64 0] 44)).drew v2 := b2); have hq22 : v2.heap[v1.heap.size]? = some (Obj.cells #[Value.bool false, Value.int IntKind.i64 0, Value.int IntKind.i64 0] 44) := (hv.block v1.heap.size (by simp)).trans (heap_alloc_new v1 (Obj.cells #[Value.bool false, Value.int IntKind.i64 0, Value.int IntKind.i64 0] 44))) | (with_reducible have hv : Below (v1.alloc (Obj.cells #[Value.bool false, Value.int IntKind.i64 0, Value.int IntKind.i64 0] 44)).heap.size (v1.alloc (Obj.cells #[Value.bool false, Value.int IntKind.i64 0, Value.int IntKind.i64 0] 44)) v2 := b2; have hq22 : v2.heap[v1.heap.size]? = some (Obj.cells #[Value.bool false, Value.int IntKind.i64 0, Value.int IntKind.i64 0] 44) := (hv.block v1.heap.size (by simp)).trans (heap_alloc_new v1 (Obj.cells #[Value.bool false, Value.int IntKind.i64 0, Value.int IntKind.i64 0] 44))) | skip))
        | (go_at_call 27; refine (specStepSluice_calls _ _ _ _ _ _ _ _ _).mono ?_; rintro e v3 ⟨he, b3⟩; rw [Hr.out] at he; subst he; have q3 : Below W1.heap.size W1 v3 := Below.trans (Below.trans q2 (Below.mono (B := v2.heap.size) (by go_grown) q2.size)) (b3.mono (by have := q2.size; simp; try omega)); have x30 := (q3.cell (p := ⟨w.heap.size, 0, none⟩) lA).trans k0; have x31 := (q3.cell (p := ⟨w.heap.size, 1, none⟩) lA).trans k1; have x32 := (q3.cell (p := ⟨w.heap.size + 1, 0, none⟩) lB).trans k2; have x33 := (q3.cell (p := ⟨w.heap.size + 1, 1, none⟩) lB).trans k3; have x34 := (q3.cell (p := ⟨w.heap.size + 1, 2, none⟩) lB).trans k4; (first | (have hq31 : v3.heap[W1.heap.size]? = some (Obj.cells #[Value.bool false, Value.int IntKind.i64 0, Value.int IntKind.i64 0] 44) := (b3.block _ (by have := blk_lt hq21; simpa using this)).trans hq21) | (have hq32 : v3.heap[v1.heap.size]? = some (Obj.cells #[Value.bool false, Value.int IntKind.i64 0, Value.int IntKind.i64 0] 44) := (b3.block _ (by have := blk_lt hq22; simpa using this)).trans hq22) | ((with_reducible have hv : Below (v2.alloc (Obj.cells #[Value.bool false, Value.int IntKind.i64 0, Value.int IntKind.i64 0] 44)).drew.heap.size (v2.alloc (Obj.cells #[Value.bool false, Value.int IntKind.i64 0, Value.int IntKind.i64 0] 44)).drew v3 := b3); have hq33 : v3.heap[v2.heap.size]? = some (Obj.cells #[Value.bool false, Value.int IntKind.i64 0, Value.int IntKind.i64 0] 44) := (hv.block v2.heap.size (by simp)).trans (heap_alloc_new v2 (Obj.cells #[Value.bool false, Value.int IntKind.i64 0, Value.int IntKind.i64 0] 44))) | (with_reducible have hv : Below (v2.alloc (Obj.cells #[Value.bool false, Value.int IntKind.i64 0, Value.int IntKind.i64 0] 44)).heap.size (v2.alloc (Obj.cells #[Value.bool false, Value.int IntKind.i64 0, Value.int IntKind.i64 0] 44)) v3 := b3; have hq33 : v3.heap[v2.heap.size]? = some (Obj.cells #[Value.bool false, Value.int IntKind.i64 0, Value.int IntKind.i64 0] 44) := (hv.block v2.heap.size (by simp)).trans (heap_alloc_new v2 (Obj.cells #[Value.bool false, Value.int IntKind.i64 0, Value.int IntKind.i64 0] 44))) | skip); (first | (have t0 := blk_cell hq31 0; have t1 := blk_cell hq31 1; have t2 := blk_cell hq31 2; have u0 := blk_free hq31 0; have u1 := blk_free hq31 1; have u2 := blk_free hq31 2) | (have t0 := blk_cell hq32 0; have t1 := blk_cell hq32 1; have t2 := blk_cell hq32 2; have u0 := blk_free hq32 0; have u1 := blk_free hq32 1; have u2 := blk_free hq32 2) | (have t0 := blk_cell hq33 0; have t1 := blk_cell hq33 1; have t2 := blk_cell hq33 2; have u0 := blk_free hq33 0; have u1 := blk_free hq33 1; have u2 := blk_free hq33 2) | skip)))
    all_goals
      go_wp2_with fail
      go_meet
      refine ⟨_, rfl, rfl, ?_, ?_, ?_⟩
      · first | with_reducible exact heap_alloc_new _ _ | with_reducible exact blk_set3 hq31 _ _ _ | with_reducible exact blk_set3 hq32 _ _ _ | with_reducible exact blk_set3 hq33 _ _ _
      · first | with_reducible exact q3.alloc q3.size _ | with_reducible exact below_set3 q3 q2.size _ _ _ | with_reducible exact below_set3 q3 q1.size _ _ _ | with_reducible exact below_set3 q3 (Nat.le_refl _) _ _ _
      · first | with_reducible exact q3.size | with_reducible exact q2.size | with_reducible exact q1.size | with_reducible exact Nat.le_refl _
  case rest =>
  obtain ⟨g1, rfl, rfl, h1, bb, hl1⟩ := hcut
  have dd := bnext dd bb (Nat.le_refl _)
  have ga := blk_below GA.out bb lA
  have gb := blk_below GB.out bb lB
  clear k0 k1 k2 k3 k4 lA lB GA GB
  have l1 := blk_lt h1
  have H1 := hd h1
  clear h1 bb
  go_upto_region 2 with fail
  obtain ⟨W2, hW⟩ : ∃ W, W = wc := ⟨_, rfl⟩
  subst hW
  have lA := blk_lt ga
  have lB := blk_lt gb
  have k0 : W2.cell? ⟨w.heap.size, 0, none⟩ = some (.int .i64 aS0) := blk_cell ga 0
  have k1 : W2.cell? ⟨w.heap.size, 1, none⟩ = some (.int .i64 aS1) := blk_cell ga 1
  have k2 : W2.cell? ⟨w.heap.size + 1, 0, none⟩ = some (.bool aG0) := blk_cell gb 0
  have k3 : W2.cell? ⟨w.heap.size + 1, 1, none⟩ = some (.int .i64 aG1) := blk_cell gb 1
  have k4 : W2.cell? ⟨w.heap.size + 1, 2, none⟩ = some (.int .i64 aG2) := blk_cell gb 2
  have GA := hd ga
  have GB := hd gb
  clear ga gb
  go_cut [13, 14] from 26 to 36 (fun s1 s2 wx => ∃ gg : Nat, s1 = .pointer (some ⟨gg, 0, none⟩) ∧ s2 = .int .i64 rd ∧ wx.heap[gg]? = some (Obj.cells #[Value.bool ra, Value.int IntKind.i64 rb, Value.int IntKind.i64 rc] 44 (0, 0)) ∧ Below W2.heap.size W2 wx ∧ W2.heap.size ≤ gg)
  case first =>
    have n0 := World.new_ne W2 _ k0
    have n1 := World.new_ne W2 _ k1
    have n2 := World.new_ne W2 _ k2
    have n3 := World.new_ne W2 _ k3
    have n4 := World.new_ne W2 _ k4
    go_region_held3 (fun w' => w'.cell? ⟨w.heap.size, 0, none⟩ = some (.int .i64 aS0) ∧ w'.cell? ⟨w.heap.size, 1, none⟩ = some (.int .i64 aS1) ∧ w'.cell? ⟨w.heap.size + 1, 0, none⟩ = some (.bool aG0) ∧ w'.cell? ⟨w.heap.size + 1, 1, none⟩ = some (.int .i64 aG1) ∧ w'.cell? ⟨w.heap.size + 1, 2, none⟩ = some (.int .i64 aG2)) (first | with_reducible exact ⟨x30, x31, x32, x33, x34⟩ | with_reducible exact ⟨x20, x21, x22, x23, x24⟩ | with_reducible exact ⟨x10, x11, x12, x13, x14⟩ | with_reducible exact ⟨((below_set3 q3 q2.size _ _ _).cell (p := ⟨w.heap.size, 0, none⟩) lA).trans k0, ((below_set3 q3 q2.size _ _ _).cell (p := ⟨w.heap.size, 1, none⟩) lA).trans k1, ((below_set3 q3 q2.size _ _ _).cell (p := ⟨w.heap.size + 1, 0, none⟩) lB).trans k2, ((below_set3 q3 q2.size _ _ _).cell (p := ⟨w.heap.size + 1, 1, none⟩) lB).trans k3, ((below_set3 q3 q2.size _ _ _).cell (p := ⟨w.heap.size + 1, 2, none⟩) lB).trans k4⟩ | with_reducible exact ⟨((below_set3 q3 q1.size _ _ _).cell (p := ⟨w.heap.size, 0, none⟩) lA).trans k0, ((below_set3 q3 q1.size _ _ _).cell (p := ⟨w.heap.size, 1, none⟩) lA).trans k1, ((below_set3 q3 q1.size _ _ _).cell (p := ⟨w.heap.size + 1, 0, none⟩) lB).trans k2, ((below_set3 q3 q1.size _ _ _).cell (p := ⟨w.heap.size + 1, 1, none⟩) lB).trans k3, ((below_set3 q3 q1.size _ _ _).cell (p := ⟨w.heap.size + 1, 2, none⟩) lB).trans k4⟩ | with_reducible exact ⟨((below_set3 q3 (Nat.le_refl _) _ _ _).cell (p := ⟨w.heap.size, 0, none⟩) lA).trans k0, ((below_set3 q3 (Nat.le_refl _) _ _ _).cell (p := ⟨w.heap.size, 1, none⟩) lA).trans k1, ((below_set3 q3 (Nat.le_refl _) _ _ _).cell (p := ⟨w.heap.size + 1, 0, none⟩) lB).trans k2, ((below_set3 q3 (Nat.le_refl _) _ _ _).cell (p := ⟨w.heap.size + 1, 1, none⟩) lB).trans k3, ((below_set3 q3 (Nat.le_refl _) _ _ _).cell (p := ⟨w.heap.size + 1, 2, none⟩) lB).trans k4⟩ | go_keep)
      (first
        | (go_at_call 28; refine (toSluice_calls _ _ _).mono ?_; rintro e v1 ⟨rfl, b1⟩; have q1 : Below W2.heap.size W2 v1 := Below.trans (by go_grown) (b1.mono (by simp)); have x10 := (q1.cell (p := ⟨w.heap.size, 0, none⟩) lA).trans k0; have x11 := (q1.cell (p := ⟨w.heap.size, 1, none⟩) lA).trans k1; have x12 := (q1.cell (p := ⟨w.heap.size + 1, 0, none⟩) lB).trans k2; have x13 := (q1.cell (p := ⟨w.heap.size + 1, 1, none⟩) lB).trans k3; have x14 := (q1.cell (p := ⟨w.heap.size + 1, 2, none⟩) lB).trans k4; (first | ((with_reducible have hv : Below (W2.alloc (Obj.cells #[Value.bool false, Value.int IntKind.i64 0, Value.int IntKind.i64 0] 44)).drew.heap.size (W2.alloc (Obj.cells #[Value.bool false, Value.int IntKind.i64 0, Value.int IntKind.i64 0] 44)).drew v1 := b1); have hq11 : v1.heap[W2.heap.size]? = some (Obj.cells #[Value.bool false, Value.int IntKind.i64 0, Value.int IntKind.i64 0] 44) := (hv.block W2.heap.size (by simp)).trans (heap_alloc_new W2 (Obj.cells #[Value.bool false, Value.int IntKind.i64 0, Value.int IntKind.i64 0] 44))) | (with_reducible have hv : Below (W2.alloc (Obj.cells #[Value.bool false, Value.int IntKind.i64 0, Value.int IntKind.i64 0] 44)).heap.size (W2.alloc (Obj.cells #[Value.bool false, Value.int IntKind.i64 0, Value.int IntKind.i64 0] 44)) v1 := b1; have hq11 : v1.heap[W2.heap.size]? = some (Obj.cells #[Value.bool false, Value.int IntKind.i64 0, Value.int IntKind.i64 0] 44) := (hv.block W2.heap.size (by simp)).trans (heap_alloc_new W2 (Obj.cells #[Value.bool false, Value.int IntKind.i64 0, Value.int IntKind.i64 0] 44))) | skip))
        | (go_at_call 29; refine (toGate_calls _ _ _ _).mono ?_; rintro e v2 ⟨rfl, b2⟩; have q2 : Below W2.heap.size W2 v2 := Below.trans (Below.trans q1 (Below.mono (B := v1.heap.size) (by go_grown) q1.size)) (b2.mono (by have := q1.size; simp; try omega)); have x20 := (q2.cell (p := ⟨w.heap.size, 0, none⟩) lA).trans k0; have x21 := (q2.cell (p := ⟨w.heap.size, 1, none⟩) lA).trans k1; have x22 := (q2.cell (p := ⟨w.heap.size + 1, 0, none⟩) lB).trans k2; have x23 := (q2.cell (p := ⟨w.heap.size + 1, 1, none⟩) lB).trans k3; have x24 := (q2.cell (p := ⟨w.heap.size + 1, 2, none⟩) lB).trans k4; (first | (have hq21 : v2.heap[W2.heap.size]? = some (Obj.cells #[Value.bool false, Value.int IntKind.i64 0, Value.int IntKind.i64 0] 44) := (b2.block _ (by have := blk_lt hq11; simpa using this)).trans hq11) | ((with_reducible have hv : Below (v1.alloc (Obj.cells #[Value.bool false, Value.int IntKind.i64 0, Value.int IntKind.i64 0] 44)).drew.heap.size (v1.alloc (Obj.cells #[Value.bool false, Value.int IntKind.i64 0, Value.int IntKind.i64 0] 44)).drew v2 := b2); have hq22 : v2.heap[v1.heap.size]? = some (Obj.cells #[Value.bool false, Value.int IntKind.i64 0, Value.int IntKind.i64 0] 44) := (hv.block v1.heap.size (by simp)).trans (heap_alloc_new v1 (Obj.cells #[Value.bool false, Value.int IntKind.i64 0, Value.int IntKind.i64 0] 44))) | (with_reducible have hv : Below (v1.alloc (Obj.cells #[Value.bool false, Value.int IntKind.i64 0, Value.int IntKind.i64 0] 44)).heap.size (v1.alloc (Obj.cells #[Value.bool false, Value.int IntKind.i64 0, Value.int IntKind.i64 0] 44)) v2 := b2; have hq22 : v2.heap[v1.heap.size]? = some (Obj.cells #[Value.bool false, Value.int IntKind.i64 0, Value.int IntKind.i64 0] 44) := (hv.block v1.heap.size (by simp)).trans (heap_alloc_new v1 (Obj.cells #[Value.bool false, Value.int IntKind.i64 0, Value.int IntKind.i64 0] 44))) | skip))
        | (go_at_call 30; refine (StepSluice_calls _ _ _ _ _ _ _ _ _).mono ?_; rintro e v3 ⟨he, b3⟩; rw [Hr.out] at he; subst he; have q3 : Below W2.heap.size W2 v3 := Below.trans (Below.trans q2 (Below.mono (B := v2.heap.size) (by go_grown) q2.size)) (b3.mono (by have := q2.size; simp; try omega)); have x30 := (q3.cell (p := ⟨w.heap.size, 0, none⟩) lA).trans k0; have x31 := (q3.cell (p := ⟨w.heap.size, 1, none⟩) lA).trans k1; have x32 := (q3.cell (p := ⟨w.heap.size + 1, 0, none⟩) lB).trans k2; have x33 := (q3.cell (p := ⟨w.heap.size + 1, 1, none⟩) lB).trans k3; have x34 := (q3.cell (p := ⟨w.heap.size + 1, 2, none⟩) lB).trans k4; (first | (have hq31 : v3.heap[W2.heap.size]? = some (Obj.cells #[Value.bool false, Value.int IntKind.i64 0, Value.int IntKind.i64 0] 44) := (b3.block _ (by have := blk_lt hq21; simpa using this)).trans hq21) | (have hq32 : v3.heap[v1.heap.size]? = some (Obj.cells #[Value.bool false, Value.int IntKind.i64 0, Value.int IntKind.i64 0] 44) := (b3.block _ (by have := blk_lt hq22; simpa using this)).trans hq22) | ((with_reducible have hv : Below (v2.alloc (Obj.cells #[Value.bool false, Value.int IntKind.i64 0, Value.int IntKind.i64 0] 44)).drew.heap.size (v2.alloc (Obj.cells #[Value.bool false, Value.int IntKind.i64 0, Value.int IntKind.i64 0] 44)).drew v3 := b3); have hq33 : v3.heap[v2.heap.size]? = some (Obj.cells #[Value.bool false, Value.int IntKind.i64 0, Value.int IntKind.i64 0] 44) := (hv.block v2.heap.size (by simp)).trans (heap_alloc_new v2 (Obj.cells #[Value.bool false, Value.int IntKind.i64 0, Value.int IntKind.i64 0] 44))) | (with_reducible have hv : Below (v2.alloc (Obj.cells #[Value.bool false, Value.int IntKind.i64 0, Value.int IntKind.i64 0] 44)).heap.size (v2.alloc (Obj.cells #[Value.bool false, Value.int IntKind.i64 0, Value.int IntKind.i64 0] 44)) v3 := b3; have hq33 : v3.heap[v2.heap.size]? = some (Obj.cells #[Value.bool false, Value.int IntKind.i64 0, Value.int IntKind.i64 0] 44) := (hv.block v2.heap.size (by simp)).trans (heap_alloc_new v2 (Obj.cells #[Value.bool false, Value.int IntKind.i64 0, Value.int IntKind.i64 0] 44))) | skip); (first | (have t0 := blk_cell hq31 0; have t1 := blk_cell hq31 1; have t2 := blk_cell hq31 2; have u0 := blk_free hq31 0; have u1 := blk_free hq31 1; have u2 := blk_free hq31 2) | (have t0 := blk_cell hq32 0; have t1 := blk_cell hq32 1; have t2 := blk_cell hq32 2; have u0 := blk_free hq32 0; have u1 := blk_free hq32 1; have u2 := blk_free hq32 2) | (have t0 := blk_cell hq33 0; have t1 := blk_cell hq33 1; have t2 := blk_cell hq33 2; have u0 := blk_free hq33 0; have u1 := blk_free hq33 1; have u2 := blk_free hq33 2) | skip)))
    all_goals
      go_wp2_with fail
      go_meet
      refine ⟨_, rfl, rfl, ?_, ?_, ?_⟩
      · first | with_reducible exact heap_alloc_new _ _ | with_reducible exact blk_set3 hq31 _ _ _ | with_reducible exact blk_set3 hq32 _ _ _ | with_reducible exact blk_set3 hq33 _ _ _
      · first | with_reducible exact q3.alloc q3.size _ | with_reducible exact below_set3 q3 q2.size _ _ _ | with_reducible exact below_set3 q3 q1.size _ _ _ | with_reducible exact below_set3 q3 (Nat.le_refl _) _ _ _
      · first | with_reducible exact q3.size | with_reducible exact q2.size | with_reducible exact q1.size | with_reducible exact Nat.le_refl _
  case rest =>
  obtain ⟨g2, rfl, rfl, h2, bb, hl2⟩ := hcut
  have dd := bnext dd bb (Nat.le_refl _)
  have ga := blk_below GA.out bb lA
  have gb := blk_below GB.out bb lB
  have h1 := blk_below H1.out bb l1
  clear k0 k1 k2 k3 k4 lA lB GA GB
  have e0 := blk_cell h1 0
  have e1 := blk_cell h1 1
  have e2 := blk_cell h1 2
  have e3 := blk_cell h2 0
  have e4 := blk_cell h2 1
  have e5 := blk_cell h2 2
  clear h1 h2 ga gb H1
  go_wp2_with fail
  refine (eqGate_calls _ _ _ _ _ _ _).mono ?_
  rintro e v ⟨he, b⟩
  rw [beq_self_eq_true] at he
  subst he
  have dd := bnext dd b (Nat.le_refl _)
  go_wp2_with fail
  go_ret
  exact ⟨rfl, dd⟩
end Go.Proofs.Ytppkljhnmifilaa
