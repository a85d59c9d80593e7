/- One hour of a sluice. -/
import Derived.Test.YtppkljhnmifilaaSluice
import Derived.Test.YtppkljhnmifilaaAux2
import Derived.Deep.RegionWith
import Derived.Deep.DeepCutAuto
namespace Go.Proofs.Ytppkljhnmifilaa
open Go.RowKit
set_option linter.unusedVariables false

abbrev G3 := Bool × Int × Int
def openB (op : Bool) (order i o : Int) : Bool := (decide (order = 1) || (decide (order = 0) && op)) && decide (o < i)
def nextG (wd sill : Int) (g : G3) (ob : Bool) (i o : Int) : G3 := (ob, if ob then g.2.1 + flowZ wd sill i o else g.2.1, if ob = g.1 then g.2.2 else g.2.2 + 1)
def stepG (wd sill : Int) (g : G3) (order i o : Int) : G3 × Int :=
  if order = 1 ∧ i ≤ o then ((false, 0, 0), 10)
  else if gaB (nextG wd sill g (openB g.1 order i o) i o).2.1 (nextG wd sill g (openB g.1 order i o) i o).2.2 then (nextG wd sill g (openB g.1 order i o) i o, 0) else ((false, 0, 0), 5)
def aggG (g : G3) : Value := .agg #[.bool g.1, .int .i64 g.2.1, .int .i64 g.2.2]
theorem ret_g {a b : G3 × Int} (h : a = b) : Ending.returned (.tuple #[aggG a.1, .int .i64 a.2]) = .returned (.tuple #[aggG b.1, .int .i64 b.2]) := by rw [h]
theorem three_blk (w : World) (A B C : Obj) : (((w.alloc A).alloc B).alloc C).heap[w.heap.size]? = some A ∧ (((w.alloc A).alloc B).alloc C).heap[w.heap.size + 1]? = some B ∧ (((w.alloc A).alloc B).alloc C).heap[w.heap.size + 1 + 1]? = some C ∧ Below w.heap.size w (((w.alloc A).alloc B).alloc C) := by
  refine ⟨blk_alloc (blk_alloc (heap_alloc_new w _) _) _, ?_, ?_, (((Below.refl _ _).alloc (Nat.le_refl _) _).alloc (by simp) _).alloc (by simp; omega) _⟩
  · have := heap_alloc_new (w.alloc A) B
    simp only [World.size_alloc] at this
    exact blk_alloc this _
  · have := heap_alloc_new ((w.alloc A).alloc B) C
    simp only [World.size_alloc] at this
    exact this

theorem l09Step_0t1 (wd sill p m i o : Int) (w : World) (h1 : slB wd sill = true) (h2 : gaB p m = true) (h4 : lvB i = true) (h5 : lvB o = true) (hlt : o < i) :
    Calls Try.prog 59 #[.agg #[.int .i64 wd, .int .i64 sill], .agg #[.bool true, .int .i64 p, .int .i64 m], .int .i64 0, .int .i64 i, .int .i64 o] w fun e w' => e = .returned (.tuple #[aggG (stepG wd sill (true, p, m) 0 i o).1, .int .i64 (stepG wd sill (true, p, m) 0 i o).2]) ∧ Below w.heap.size w w' := by
  have hob : openB true 0 i o = true := by simp [openB, hlt]
  have hnx : nextG wd sill (true, p, m) true i o = (true, p + flowZ wd sill i o, m) := rfl
  have hfl : ¬ ((0 : Int) = 1 ∧ i ≤ o) := by omega
  have K1 : Hid (gaB (p + flowZ wd sill i o) (m) = true → stepG wd sill (true, p, m) 0 i o = ((true, p + flowZ wd sill i o, m), 0)) := hd (by intro h; unfold stepG; rw [if_neg hfl]; simp only [hob, hnx, h, if_true])
  have K0 : Hid (gaB (p + flowZ wd sill i o) (m) = false → stepG wd sill (true, p, m) 0 i o = ((false, 0, 0), 5)) := hd (by intro h; unfold stepG; rw [if_neg hfl]; simp only [hob, hnx, h]; rfl)
  clear hob hnx hfl
  have hf := flowZ_bd h1 h4 h5
  obtain ⟨f1, f2⟩ := hf
  have h6 := h2
  simp only [gaB, Bool.and_eq_true, inB_iff] at h6
  obtain ⟨⟨p1, p2⟩, p3, p4⟩ := h6
  have s1 : Hid (IntKind.i64.wrap (p + flowZ wd sill i o) = p + flowZ wd sill i o) := hd (IntWalk.i64_in _ (by omega))
  have H1 := hd h1
  have H4 := hd h4
  have H5 := hd h5
  clear h1 h2 h4 h5
  go_enter Try.func59, Try.ntmps59
  go_upto_if 38 with fail
  go_cut [] from 39 to 46 (fun wx => wx.heap[w.heap.size + 1]? = some (Obj.cells #[Value.bool true, Value.int IntKind.i64 (p + flowZ wd sill i o), Value.int IntKind.i64 (m)] 44 (0, 0)) ∧ wx.heap[w.heap.size + 1 + 1]? = some (Obj.cells #[Value.bool false, Value.int IntKind.i64 (0), Value.int IntKind.i64 (0)] 44 (0, 0)) ∧ Below w.heap.size w wx)
  case first =>
    go_wp2_with fail
    obtain ⟨g0, g1, g2, d0⟩ := three_blk w (Obj.cells #[Value.int IntKind.i64 wd, Value.int IntKind.i64 sill] 47) (Obj.cells #[Value.bool true, Value.int IntKind.i64 (p), Value.int IntKind.i64 (m)] 44) (Obj.cells #[Value.bool false, Value.int IntKind.i64 (0), Value.int IntKind.i64 (0)] 44)
    generalize ((w.alloc (Obj.cells #[Value.int IntKind.i64 wd, Value.int IntKind.i64 sill] 47)).alloc (Obj.cells #[Value.bool true, Value.int IntKind.i64 (p), Value.int IntKind.i64 (m)] 44)).alloc (Obj.cells #[Value.bool false, Value.int IntKind.i64 (0), Value.int IntKind.i64 (0)] 44) = W0 at g0 g1 g2 d0 ⊢
    have c00 := blk_cell g0 0
    have c01 := blk_cell g0 1
    have c11 := blk_cell g1 1
    have z11 := blk_free g1 1
    go_region_with (go_at_call 70; refine (l09Flow_calls _ _ _ _ _ H1.out H4.out H5.out).mono ?_; rintro e w9 ⟨rfl, b9⟩; have q1 := (b9.block (w.heap.size + 1) (blk_lt g1)).trans g1; have q2 := (b9.block (w.heap.size + 1 + 1) (blk_lt g2)).trans g2; have c11' := blk_cell q1 1; have z11' := blk_free q1 1)
    all_goals
      have q3 := blk_set q1 1 (Value.int IntKind.i64 (IntKind.i64.wrap (p + flowZ wd sill i o)))
      have q4 := blk_far q2 (a := ⟨w.heap.size + 1, 1, none⟩) (by simp) (Value.int IntKind.i64 (IntKind.i64.wrap (p + flowZ wd sill i o)))
      have d4 := (d0.trans ((bdrew W0).trans (Below.mono b9 d0.size))).setCell (p := ⟨w.heap.size + 1, 1, none⟩) (by simp) (Value.int IntKind.i64 (IntKind.i64.wrap (p + flowZ wd sill i o)))
      clear q1 q2 c00 c01 c11 z11 c11' z11' g0 g1 g2
      go_wp2_with fail
      go_meet
      rw [s1.out] at q3 q4 d4
      rw [s1.out]
      exact ⟨by simpa using q3, q4, d4⟩
  case rest =>
    obtain ⟨r1, r2, d1⟩ := hcut
    have e0 := blk_cell r1 0
    have e1 := blk_cell r1 1
    have e2 := blk_cell r1 2
    have R1 := hd r1
    have R2 := hd r2
    clear r1 r2
    go_wp2_with fail
    refine (l09Gate_calls _ _ _ _).mono ?_
    rintro e w2 ⟨rfl, b2⟩
    have d2 := bnext d1 b2 (Nat.le_refl _)
    have q1 := blk_below R1.out b2 (blk_lt R1.out)
    have q2 := blk_below R2.out b2 (blk_lt R2.out)
    clear b2 e0 e1 e2 R1 R2
    have e0 := blk_cell q1 0
    have e1 := blk_cell q1 1
    have e2 := blk_cell q1 2
    have y0 := blk_cell q2 0
    have y1 := blk_cell q2 1
    have y2 := blk_cell q2 2
    have z0 := blk_free q2 0
    have z1 := blk_free q2 1
    have z2 := blk_free q2 2
    have Q2 := hd q2
    clear q1 q2
    cases hg : gaB (p + flowZ wd sill i o) (m)
    · have K := hd (K0.out hg)
      clear hg K0 K1
      go_wp2_with fail
      refine bodyPost_ret (results_cell_tmp rfl _ _ _ _ _ _ _ rfl (blk_set3 Q2.out _ _ _) Try.underlying44 rfl (by kernel_rfl)) rfl ⟨?_, below_set3 d2 (by omega) _ _ _⟩
      rw [K.out]; rfl
    · have K := hd (K1.out hg)
      clear hg K0 K1
      go_wp2_with fail
      refine bodyPost_ret (results_cell_tmp rfl _ _ _ _ _ _ _ rfl (blk_set3 Q2.out _ _ _) Try.underlying44 rfl (by kernel_rfl)) rfl ⟨?_, below_set3 d2 (by omega) _ _ _⟩
      rw [K.out]; rfl
theorem l09Step_0t0 (wd sill p m i o : Int) (w : World) (h1 : slB wd sill = true) (h2 : gaB p m = true) (h4 : lvB i = true) (h5 : lvB o = true) (hlt : i ≤ o) :
    Calls Try.prog 59 #[.agg #[.int .i64 wd, .int .i64 sill], .agg #[.bool true, .int .i64 p, .int .i64 m], .int .i64 0, .int .i64 i, .int .i64 o] w fun e w' => e = .returned (.tuple #[aggG (stepG wd sill (true, p, m) 0 i o).1, .int .i64 (stepG wd sill (true, p, m) 0 i o).2]) ∧ Below w.heap.size w w' := by
  have hob : openB true 0 i o = false := by simp [openB, Int.not_lt.2 hlt]
  have hnx : nextG wd sill (true, p, m) false i o = (false, p, m + 1) := rfl
  have hfl : ¬ ((0 : Int) = 1 ∧ i ≤ o) := by omega
  have K1 : Hid (gaB (p) (m + 1) = true → stepG wd sill (true, p, m) 0 i o = ((false, p, m + 1), 0)) := hd (by intro h; unfold stepG; rw [if_neg hfl]; simp only [hob, hnx, h, if_true])
  have K0 : Hid (gaB (p) (m + 1) = false → stepG wd sill (true, p, m) 0 i o = ((false, 0, 0), 5)) := hd (by intro h; unfold stepG; rw [if_neg hfl]; simp only [hob, hnx, h]; rfl)
  clear hob hnx hfl
  have hf := flowZ_bd h1 h4 h5
  obtain ⟨f1, f2⟩ := hf
  have h6 := h2
  simp only [gaB, Bool.and_eq_true, inB_iff] at h6
  obtain ⟨⟨p1, p2⟩, p3, p4⟩ := h6
  have s1 : Hid (IntKind.i64.wrap (p + flowZ wd sill i o) = p + flowZ wd sill i o) := hd (IntWalk.i64_in _ (by omega))
  have H1 := hd h1
  have H4 := hd h4
  have H5 := hd h5
  clear h1 h2 h4 h5
  go_enter Try.func59, Try.ntmps59
  go_upto_if 38 with fail
  go_cut [] from 39 to 46 (fun wx => wx.heap[w.heap.size + 1]? = some (Obj.cells #[Value.bool false, Value.int IntKind.i64 (p), Value.int IntKind.i64 (m + 1)] 44 (0, 0)) ∧ wx.heap[w.heap.size + 1 + 1]? = some (Obj.cells #[Value.bool false, Value.int IntKind.i64 (0), Value.int IntKind.i64 (0)] 44 (0, 0)) ∧ Below w.heap.size w wx)
  case first =>
    go_wp2_with fail
    go_meet
    obtain ⟨g0, g1, g2, d0⟩ := three_blk w (Obj.cells #[Value.int IntKind.i64 wd, Value.int IntKind.i64 sill] 47) (Obj.cells #[Value.bool false, Value.int IntKind.i64 (p), Value.int IntKind.i64 (m + 1)] 44) (Obj.cells #[Value.bool false, Value.int IntKind.i64 (0), Value.int IntKind.i64 (0)] 44)
    exact ⟨g1, g2, d0⟩
  case rest =>
    obtain ⟨r1, r2, d1⟩ := hcut
    have e0 := blk_cell r1 0
    have e1 := blk_cell r1 1
    have e2 := blk_cell r1 2
    have R1 := hd r1
    have R2 := hd r2
    clear r1 r2
    go_wp2_with fail
    refine (l09Gate_calls _ _ _ _).mono ?_
    rintro e w2 ⟨rfl, b2⟩
    have d2 := bnext d1 b2 (Nat.le_refl _)
    have q1 := blk_below R1.out b2 (blk_lt R1.out)
    have q2 := blk_below R2.out b2 (blk_lt R2.out)
    clear b2 e0 e1 e2 R1 R2
    have e0 := blk_cell q1 0
    have e1 := blk_cell q1 1
    have e2 := blk_cell q1 2
    have y0 := blk_cell q2 0
    have y1 := blk_cell q2 1
    have y2 := blk_cell q2 2
    have z0 := blk_free q2 0
    have z1 := blk_free q2 1
    have z2 := blk_free q2 2
    have Q2 := hd q2
    clear q1 q2
    cases hg : gaB (p) (m + 1)
    · have K := hd (K0.out hg)
      clear hg K0 K1
      go_wp2_with fail
      refine bodyPost_ret (results_cell_tmp rfl _ _ _ _ _ _ _ rfl (blk_set3 Q2.out _ _ _) Try.underlying44 rfl (by kernel_rfl)) rfl ⟨?_, below_set3 d2 (by omega) _ _ _⟩
      rw [K.out]; rfl
    · have K := hd (K1.out hg)
      clear hg K0 K1
      go_wp2_with fail
      refine bodyPost_ret (results_cell_tmp rfl _ _ _ _ _ _ _ rfl (blk_set3 Q2.out _ _ _) Try.underlying44 rfl (by kernel_rfl)) rfl ⟨?_, below_set3 d2 (by omega) _ _ _⟩
      rw [K.out]; rfl
theorem l09Step_0f1 (wd sill p m i o : Int) (w : World) (h1 : slB wd sill = true) (h2 : gaB p m = true) (h4 : lvB i = true) (h5 : lvB o = true) (hlt : o < i) :
    Calls Try.prog 59 #[.agg #[.int .i64 wd, .int .i64 sill], .agg #[.bool false, .int .i64 p, .int .i64 m], .int .i64 0, .int .i64 i, .int .i64 o] w fun e w' => e = .returned (.tuple #[aggG (stepG wd sill (false, p, m) 0 i o).1, .int .i64 (stepG wd sill (false, p, m) 0 i o).2]) ∧ Below w.heap.size w w' := by
  have hob : openB false 0 i o = false := by simp [openB, hlt]
  have hnx : nextG wd sill (false, p, m) false i o = (false, p, m) := rfl
  have hfl : ¬ ((0 : Int) = 1 ∧ i ≤ o) := by omega
  have K1 : Hid (gaB (p) (m) = true → stepG wd sill (false, p, m) 0 i o = ((false, p, m), 0)) := hd (by intro h; unfold stepG; rw [if_neg hfl]; simp only [hob, hnx, h, if_true])
  have K0 : Hid (gaB (p) (m) = false → stepG wd sill (false, p, m) 0 i o = ((false, 0, 0), 5)) := hd (by intro h; unfold stepG; rw [if_neg hfl]; simp only [hob, hnx, h]; rfl)
  clear hob hnx hfl
  have hf := flowZ_bd h1 h4 h5
  obtain ⟨f1, f2⟩ := hf
  have h6 := h2
  simp only [gaB, Bool.and_eq_true, inB_iff] at h6
  obtain ⟨⟨p1, p2⟩, p3, p4⟩ := h6
  have s1 : Hid (IntKind.i64.wrap (p + flowZ wd sill i o) = p + flowZ wd sill i o) := hd (IntWalk.i64_in _ (by omega))
  have H1 := hd h1
  have H4 := hd h4
  have H5 := hd h5
  clear h1 h2 h4 h5
  go_enter Try.func59, Try.ntmps59
  go_upto_if 38 with fail
  go_cut [] from 39 to 46 (fun wx => wx.heap[w.heap.size + 1]? = some (Obj.cells #[Value.bool false, Value.int IntKind.i64 (p), Value.int IntKind.i64 (m)] 44 (0, 0)) ∧ wx.heap[w.heap.size + 1 + 1]? = some (Obj.cells #[Value.bool false, Value.int IntKind.i64 (0), Value.int IntKind.i64 (0)] 44 (0, 0)) ∧ Below w.heap.size w wx)
  case first =>
    go_wp2_with fail
    go_meet
    obtain ⟨g0, g1, g2, d0⟩ := three_blk w (Obj.cells #[Value.int IntKind.i64 wd, Value.int IntKind.i64 sill] 47) (Obj.cells #[Value.bool false, Value.int IntKind.i64 (p), Value.int IntKind.i64 (m)] 44) (Obj.cells #[Value.bool false, Value.int IntKind.i64 (0), Value.int IntKind.i64 (0)] 44)
    exact ⟨g1, g2, d0⟩
  case rest =>
    obtain ⟨r1, r2, d1⟩ := hcut
    have e0 := blk_cell r1 0
    have e1 := blk_cell r1 1
    have e2 := blk_cell r1 2
    have R1 := hd r1
    have R2 := hd r2
    clear r1 r2
    go_wp2_with fail
    refine (l09Gate_calls _ _ _ _).mono ?_
    rintro e w2 ⟨rfl, b2⟩
    have d2 := bnext d1 b2 (Nat.le_refl _)
    have q1 := blk_below R1.out b2 (blk_lt R1.out)
    have q2 := blk_below R2.out b2 (blk_lt R2.out)
    clear b2 e0 e1 e2 R1 R2
    have e0 := blk_cell q1 0
    have e1 := blk_cell q1 1
    have e2 := blk_cell q1 2
    have y0 := blk_cell q2 0
    have y1 := blk_cell q2 1
    have y2 := blk_cell q2 2
    have z0 := blk_free q2 0
    have z1 := blk_free q2 1
    have z2 := blk_free q2 2
    have Q2 := hd q2
    clear q1 q2
    cases hg : gaB (p) (m)
    · have K := hd (K0.out hg)
      clear hg K0 K1
      go_wp2_with fail
      refine bodyPost_ret (results_cell_tmp rfl _ _ _ _ _ _ _ rfl (blk_set3 Q2.out _ _ _) Try.underlying44 rfl (by kernel_rfl)) rfl ⟨?_, below_set3 d2 (by omega) _ _ _⟩
      rw [K.out]; rfl
    · have K := hd (K1.out hg)
      clear hg K0 K1
      go_wp2_with fail
      refine bodyPost_ret (results_cell_tmp rfl _ _ _ _ _ _ _ rfl (blk_set3 Q2.out _ _ _) Try.underlying44 rfl (by kernel_rfl)) rfl ⟨?_, below_set3 d2 (by omega) _ _ _⟩
      rw [K.out]; rfl
theorem l09Step_0f0 (wd sill p m i o : Int) (w : World) (h1 : slB wd sill = true) (h2 : gaB p m = true) (h4 : lvB i = true) (h5 : lvB o = true) (hlt : i ≤ o) :
    Calls Try.prog 59 #[.agg #[.int .i64 wd, .int .i64 sill], .agg #[.bool false, .int .i64 p, .int .i64 m], .int .i64 0, .int .i64 i, .int .i64 o] w fun e w' => e = .returned (.tuple #[aggG (stepG wd sill (false, p, m) 0 i o).1, .int .i64 (stepG wd sill (false, p, m) 0 i o).2]) ∧ Below w.heap.size w w' := by
  have hob : openB false 0 i o = false := by simp [openB, Int.not_lt.2 hlt]
  have hnx : nextG wd sill (false, p, m) false i o = (false, p, m) := rfl
  have hfl : ¬ ((0 : Int) = 1 ∧ i ≤ o) := by omega
  have K1 : Hid (gaB (p) (m) = true → stepG wd sill (false, p, m) 0 i o = ((false, p, m), 0)) := hd (by intro h; unfold stepG; rw [if_neg hfl]; simp only [hob, hnx, h, if_true])
  have K0 : Hid (gaB (p) (m) = false → stepG wd sill (false, p, m) 0 i o = ((false, 0, 0), 5)) := hd (by intro h; unfold stepG; rw [if_neg hfl]; simp only [hob, hnx, h]; rfl)
  clear hob hnx hfl
  have hf := flowZ_bd h1 h4 h5
  obtain ⟨f1, f2⟩ := hf
  have h6 := h2
  simp only [gaB, Bool.and_eq_true, inB_iff] at h6
  obtain ⟨⟨p1, p2⟩, p3, p4⟩ := h6
  have s1 : Hid (IntKind.i64.wrap (p + flowZ wd sill i o) = p + flowZ wd sill i o) := hd (IntWalk.i64_in _ (by omega))
  have H1 := hd h1
  have H4 := hd h4
  have H5 := hd h5
  clear h1 h2 h4 h5
  go_enter Try.func59, Try.ntmps59
  go_upto_if 38 with fail
  go_cut [] from 39 to 46 (fun wx => wx.heap[w.heap.size + 1]? = some (Obj.cells #[Value.bool false, Value.int IntKind.i64 (p), Value.int IntKind.i64 (m)] 44 (0, 0)) ∧ wx.heap[w.heap.size + 1 + 1]? = some (Obj.cells #[Value.bool false, Value.int IntKind.i64 (0), Value.int IntKind.i64 (0)] 44 (0, 0)) ∧ Below w.heap.size w wx)
  case first =>
    go_wp2_with fail
    go_meet
    obtain ⟨g0, g1, g2, d0⟩ := three_blk w (Obj.cells #[Value.int IntKind.i64 wd, Value.int IntKind.i64 sill] 47) (Obj.cells #[Value.bool false, Value.int IntKind.i64 (p), Value.int IntKind.i64 (m)] 44) (Obj.cells #[Value.bool false, Value.int IntKind.i64 (0), Value.int IntKind.i64 (0)] 44)
    exact ⟨g1, g2, d0⟩
  case rest =>
    obtain ⟨r1, r2, d1⟩ := hcut
    have e0 := blk_cell r1 0
    have e1 := blk_cell r1 1
    have e2 := blk_cell r1 2
    have R1 := hd r1
    have R2 := hd r2
    clear r1 r2
    go_wp2_with fail
    refine (l09Gate_calls _ _ _ _).mono ?_
    rintro e w2 ⟨rfl, b2⟩
    have d2 := bnext d1 b2 (Nat.le_refl _)
    have q1 := blk_below R1.out b2 (blk_lt R1.out)
    have q2 := blk_below R2.out b2 (blk_lt R2.out)
    clear b2 e0 e1 e2 R1 R2
    have e0 := blk_cell q1 0
    have e1 := blk_cell q1 1
    have e2 := blk_cell q1 2
    have y0 := blk_cell q2 0
    have y1 := blk_cell q2 1
    have y2 := blk_cell q2 2
    have z0 := blk_free q2 0
    have z1 := blk_free q2 1
    have z2 := blk_free q2 2
    have Q2 := hd q2
    clear q1 q2
    cases hg : gaB (p) (m)
    · have K := hd (K0.out hg)
      clear hg K0 K1
      go_wp2_with fail
      refine bodyPost_ret (results_cell_tmp rfl _ _ _ _ _ _ _ rfl (blk_set3 Q2.out _ _ _) Try.underlying44 rfl (by kernel_rfl)) rfl ⟨?_, below_set3 d2 (by omega) _ _ _⟩
      rw [K.out]; rfl
    · have K := hd (K1.out hg)
      clear hg K0 K1
      go_wp2_with fail
      refine bodyPost_ret (results_cell_tmp rfl _ _ _ _ _ _ _ rfl (blk_set3 Q2.out _ _ _) Try.underlying44 rfl (by kernel_rfl)) rfl ⟨?_, below_set3 d2 (by omega) _ _ _⟩
      rw [K.out]; rfl
theorem l09Step_1t1 (wd sill p m i o : Int) (w : World) (h1 : slB wd sill = true) (h2 : gaB p m = true) (h4 : lvB i = true) (h5 : lvB o = true) (hlt : o < i) :
    Calls Try.prog 59 #[.agg #[.int .i64 wd, .int .i64 sill], .agg #[.bool true, .int .i64 p, .int .i64 m], .int .i64 1, .int .i64 i, .int .i64 o] w fun e w' => e = .returned (.tuple #[aggG (stepG wd sill (true, p, m) 1 i o).1, .int .i64 (stepG wd sill (true, p, m) 1 i o).2]) ∧ Below w.heap.size w w' := by
  have hob : openB true 1 i o = true := by simp [openB, hlt]
  have hnx : nextG wd sill (true, p, m) true i o = (true, p + flowZ wd sill i o, m) := rfl
  have hfl : ¬ ((1 : Int) = 1 ∧ i ≤ o) := by omega
  have K1 : Hid (gaB (p + flowZ wd sill i o) (m) = true → stepG wd sill (true, p, m) 1 i o = ((true, p + flowZ wd sill i o, m), 0)) := hd (by intro h; unfold stepG; rw [if_neg hfl]; simp only [hob, hnx, h, if_true])
  have K0 : Hid (gaB (p + flowZ wd sill i o) (m) = false → stepG wd sill (true, p, m) 1 i o = ((false, 0, 0), 5)) := hd (by intro h; unfold stepG; rw [if_neg hfl]; simp only [hob, hnx, h]; rfl)
  clear hob hnx hfl
  have hf := flowZ_bd h1 h4 h5
  obtain ⟨f1, f2⟩ := hf
  have h6 := h2
  simp only [gaB, Bool.and_eq_true, inB_iff] at h6
  obtain ⟨⟨p1, p2⟩, p3, p4⟩ := h6
  have s1 : Hid (IntKind.i64.wrap (p + flowZ wd sill i o) = p + flowZ wd sill i o) := hd (IntWalk.i64_in _ (by omega))
  have H1 := hd h1
  have H4 := hd h4
  have H5 := hd h5
  clear h1 h2 h4 h5
  go_enter Try.func59, Try.ntmps59
  go_upto_if 38 with fail
  go_cut [] from 39 to 46 (fun wx => wx.heap[w.heap.size + 1]? = some (Obj.cells #[Value.bool true, Value.int IntKind.i64 (p + flowZ wd sill i o), Value.int IntKind.i64 (m)] 44 (0, 0)) ∧ wx.heap[w.heap.size + 1 + 1]? = some (Obj.cells #[Value.bool false, Value.int IntKind.i64 (0), Value.int IntKind.i64 (0)] 44 (0, 0)) ∧ Below w.heap.size w wx)
  case first =>
    go_wp2_with fail
    obtain ⟨g0, g1, g2, d0⟩ := three_blk w (Obj.cells #[Value.int IntKind.i64 wd, Value.int IntKind.i64 sill] 47) (Obj.cells #[Value.bool true, Value.int IntKind.i64 (p), Value.int IntKind.i64 (m)] 44) (Obj.cells #[Value.bool false, Value.int IntKind.i64 (0), Value.int IntKind.i64 (0)] 44)
    generalize ((w.alloc (Obj.cells #[Value.int IntKind.i64 wd, Value.int IntKind.i64 sill] 47)).alloc (Obj.cells #[Value.bool true, Value.int IntKind.i64 (p), Value.int IntKind.i64 (m)] 44)).alloc (Obj.cells #[Value.bool false, Value.int IntKind.i64 (0), Value.int IntKind.i64 (0)] 44) = W0 at g0 g1 g2 d0 ⊢
    have c00 := blk_cell g0 0
    have c01 := blk_cell g0 1
    have c11 := blk_cell g1 1
    have z11 := blk_free g1 1
    go_region_with (go_at_call 70; refine (l09Flow_calls _ _ _ _ _ H1.out H4.out H5.out).mono ?_; rintro e w9 ⟨rfl, b9⟩; have q1 := (b9.block (w.heap.size + 1) (blk_lt g1)).trans g1; have q2 := (b9.block (w.heap.size + 1 + 1) (blk_lt g2)).trans g2; have c11' := blk_cell q1 1; have z11' := blk_free q1 1)
    all_goals
      have q3 := blk_set q1 1 (Value.int IntKind.i64 (IntKind.i64.wrap (p + flowZ wd sill i o)))
      have q4 := blk_far q2 (a := ⟨w.heap.size + 1, 1, none⟩) (by simp) (Value.int IntKind.i64 (IntKind.i64.wrap (p + flowZ wd sill i o)))
      have d4 := (d0.trans ((bdrew W0).trans (Below.mono b9 d0.size))).setCell (p := ⟨w.heap.size + 1, 1, none⟩) (by simp) (Value.int IntKind.i64 (IntKind.i64.wrap (p + flowZ wd sill i o)))
      clear q1 q2 c00 c01 c11 z11 c11' z11' g0 g1 g2
      go_wp2_with fail
      go_meet
      rw [s1.out] at q3 q4 d4
      rw [s1.out]
      exact ⟨by simpa using q3, q4, d4⟩
  case rest =>
    obtain ⟨r1, r2, d1⟩ := hcut
    have e0 := blk_cell r1 0
    have e1 := blk_cell r1 1
    have e2 := blk_cell r1 2
    have R1 := hd r1
    have R2 := hd r2
    clear r1 r2
    go_wp2_with fail
    refine (l09Gate_calls _ _ _ _).mono ?_
    rintro e w2 ⟨rfl, b2⟩
    have d2 := bnext d1 b2 (Nat.le_refl _)
    have q1 := blk_below R1.out b2 (blk_lt R1.out)
    have q2 := blk_below R2.out b2 (blk_lt R2.out)
    clear b2 e0 e1 e2 R1 R2
    have e0 := blk_cell q1 0
    have e1 := blk_cell q1 1
    have e2 := blk_cell q1 2
    have y0 := blk_cell q2 0
    have y1 := blk_cell q2 1
    have y2 := blk_cell q2 2
    have z0 := blk_free q2 0
    have z1 := blk_free q2 1
    have z2 := blk_free q2 2
    have Q2 := hd q2
    clear q1 q2
    cases hg : gaB (p + flowZ wd sill i o) (m)
    · have K := hd (K0.out hg)
      clear hg K0 K1
      go_wp2_with fail
      refine bodyPost_ret (results_cell_tmp rfl _ _ _ _ _ _ _ rfl (blk_set3 Q2.out _ _ _) Try.underlying44 rfl (by kernel_rfl)) rfl ⟨?_, below_set3 d2 (by omega) _ _ _⟩
      rw [K.out]; rfl
    · have K := hd (K1.out hg)
      clear hg K0 K1
      go_wp2_with fail
      refine bodyPost_ret (results_cell_tmp rfl _ _ _ _ _ _ _ rfl (blk_set3 Q2.out _ _ _) Try.underlying44 rfl (by kernel_rfl)) rfl ⟨?_, below_set3 d2 (by omega) _ _ _⟩
      rw [K.out]; rfl
theorem l09Step_1t0 (wd sill p m i o : Int) (w : World) (h1 : slB wd sill = true) (h2 : gaB p m = true) (h4 : lvB i = true) (h5 : lvB o = true) (hlt : i ≤ o) :
    Calls Try.prog 59 #[.agg #[.int .i64 wd, .int .i64 sill], .agg #[.bool true, .int .i64 p, .int .i64 m], .int .i64 1, .int .i64 i, .int .i64 o] w fun e w' => e = .returned (.tuple #[aggG (stepG wd sill (true, p, m) 1 i o).1, .int .i64 (stepG wd sill (true, p, m) 1 i o).2]) ∧ Below w.heap.size w w' := by
  have K := hd (show stepG wd sill (true, p, m) 1 i o = ((false, 0, 0), 10) by unfold stepG; rw [if_pos ⟨rfl, hlt⟩])
  clear h1 h2 h4 h5
  go_enter Try.func59, Try.ntmps59
  go_wp2_with fail
  obtain ⟨g0, g1, g2, d0⟩ := three_blk w (Obj.cells #[Value.int IntKind.i64 wd, Value.int IntKind.i64 sill] 47) (Obj.cells #[Value.bool true, Value.int IntKind.i64 (p), Value.int IntKind.i64 (m)] 44) (Obj.cells #[Value.bool false, Value.int IntKind.i64 (0), Value.int IntKind.i64 (0)] 44)
  refine bodyPost_ret (results_cell_tmp rfl _ _ _ _ _ _ _ rfl g2 Try.underlying44 rfl (by kernel_rfl)) rfl ⟨?_, d0⟩
  rw [K.out]; rfl
theorem l09Step_1f1 (wd sill p m i o : Int) (w : World) (h1 : slB wd sill = true) (h2 : gaB p m = true) (h4 : lvB i = true) (h5 : lvB o = true) (hlt : o < i) :
    Calls Try.prog 59 #[.agg #[.int .i64 wd, .int .i64 sill], .agg #[.bool false, .int .i64 p, .int .i64 m], .int .i64 1, .int .i64 i, .int .i64 o] w fun e w' => e = .returned (.tuple #[aggG (stepG wd sill (false, p, m) 1 i o).1, .int .i64 (stepG wd sill (false, p, m) 1 i o).2]) ∧ Below w.heap.size w w' := by
  have hob : openB false 1 i o = true := by simp [openB, hlt]
  have hnx : nextG wd sill (false, p, m) true i o = (true, p + flowZ wd sill i o, m + 1) := rfl
  have hfl : ¬ ((1 : Int) = 1 ∧ i ≤ o) := by omega
  have K1 : Hid (gaB (p + flowZ wd sill i o) (m + 1) = true → stepG wd sill (false, p, m) 1 i o = ((true, p + flowZ wd sill i o, m + 1), 0)) := hd (by intro h; unfold stepG; rw [if_neg hfl]; simp only [hob, hnx, h, if_true])
  have K0 : Hid (gaB (p + flowZ wd sill i o) (m + 1) = false → stepG wd sill (false, p, m) 1 i o = ((false, 0, 0), 5)) := hd (by intro h; unfold stepG; rw [if_neg hfl]; simp only [hob, hnx, h]; rfl)
  clear hob hnx hfl
  have hf := flowZ_bd h1 h4 h5
  obtain ⟨f1, f2⟩ := hf
  have h6 := h2
  simp only [gaB, Bool.and_eq_true, inB_iff] at h6
  obtain ⟨⟨p1, p2⟩, p3, p4⟩ := h6
  have s1 : Hid (IntKind.i64.wrap (p + flowZ wd sill i o) = p + flowZ wd sill i o) := hd (IntWalk.i64_in _ (by omega))
  have H1 := hd h1
  have H4 := hd h4
  have H5 := hd h5
  clear h1 h2 h4 h5
  go_enter Try.func59, Try.ntmps59
  go_upto_if 38 with fail
  go_cut [] from 39 to 46 (fun wx => wx.heap[w.heap.size + 1]? = some (Obj.cells #[Value.bool true, Value.int IntKind.i64 (p + flowZ wd sill i o), Value.int IntKind.i64 (m + 1)] 44 (0, 0)) ∧ wx.heap[w.heap.size + 1 + 1]? = some (Obj.cells #[Value.bool false, Value.int IntKind.i64 (0), Value.int IntKind.i64 (0)] 44 (0, 0)) ∧ Below w.heap.size w wx)
  case first =>
    go_wp2_with fail
    obtain ⟨g0, g1, g2, d0⟩ := three_blk w (Obj.cells #[Value.int IntKind.i64 wd, Value.int IntKind.i64 sill] 47) (Obj.cells #[Value.bool true, Value.int IntKind.i64 (p), Value.int IntKind.i64 (m + 1)] 44) (Obj.cells #[Value.bool false, Value.int IntKind.i64 (0), Value.int IntKind.i64 (0)] 44)
    generalize ((w.alloc (Obj.cells #[Value.int IntKind.i64 wd, Value.int IntKind.i64 sill] 47)).alloc (Obj.cells #[Value.bool true, Value.int IntKind.i64 (p), Value.int IntKind.i64 (m + 1)] 44)).alloc (Obj.cells #[Value.bool false, Value.int IntKind.i64 (0), Value.int IntKind.i64 (0)] 44) = W0 at g0 g1 g2 d0 ⊢
    have c00 := blk_cell g0 0
    have c01 := blk_cell g0 1
    have c11 := blk_cell g1 1
    have z11 := blk_free g1 1
    go_region_with (go_at_call 70; refine (l09Flow_calls _ _ _ _ _ H1.out H4.out H5.out).mono ?_; rintro e w9 ⟨rfl, b9⟩; have q1 := (b9.block (w.heap.size + 1) (blk_lt g1)).trans g1; have q2 := (b9.block (w.heap.size + 1 + 1) (blk_lt g2)).trans g2; have c11' := blk_cell q1 1; have z11' := blk_free q1 1)
    all_goals
      have q3 := blk_set q1 1 (Value.int IntKind.i64 (IntKind.i64.wrap (p + flowZ wd sill i o)))
      have q4 := blk_far q2 (a := ⟨w.heap.size + 1, 1, none⟩) (by simp) (Value.int IntKind.i64 (IntKind.i64.wrap (p + flowZ wd sill i o)))
      have d4 := (d0.trans ((bdrew W0).trans (Below.mono b9 d0.size))).setCell (p := ⟨w.heap.size + 1, 1, none⟩) (by simp) (Value.int IntKind.i64 (IntKind.i64.wrap (p + flowZ wd sill i o)))
      clear q1 q2 c00 c01 c11 z11 c11' z11' g0 g1 g2
      go_wp2_with fail
      go_meet
      rw [s1.out] at q3 q4 d4
      rw [s1.out]
      exact ⟨by simpa using q3, q4, d4⟩
  case rest =>
    obtain ⟨r1, r2, d1⟩ := hcut
    have e0 := blk_cell r1 0
    have e1 := blk_cell r1 1
    have e2 := blk_cell r1 2
    have R1 := hd r1
    have R2 := hd r2
    clear r1 r2
    go_wp2_with fail
    refine (l09Gate_calls _ _ _ _).mono ?_
    rintro e w2 ⟨rfl, b2⟩
    have d2 := bnext d1 b2 (Nat.le_refl _)
    have q1 := blk_below R1.out b2 (blk_lt R1.out)
    have q2 := blk_below R2.out b2 (blk_lt R2.out)
    clear b2 e0 e1 e2 R1 R2
    have e0 := blk_cell q1 0
    have e1 := blk_cell q1 1
    have e2 := blk_cell q1 2
    have y0 := blk_cell q2 0
    have y1 := blk_cell q2 1
    have y2 := blk_cell q2 2
    have z0 := blk_free q2 0
    have z1 := blk_free q2 1
    have z2 := blk_free q2 2
    have Q2 := hd q2
    clear q1 q2
    cases hg : gaB (p + flowZ wd sill i o) (m + 1)
    · have K := hd (K0.out hg)
      clear hg K0 K1
      go_wp2_with fail
      refine bodyPost_ret (results_cell_tmp rfl _ _ _ _ _ _ _ rfl (blk_set3 Q2.out _ _ _) Try.underlying44 rfl (by kernel_rfl)) rfl ⟨?_, below_set3 d2 (by omega) _ _ _⟩
      rw [K.out]; rfl
    · have K := hd (K1.out hg)
      clear hg K0 K1
      go_wp2_with fail
      refine bodyPost_ret (results_cell_tmp rfl _ _ _ _ _ _ _ rfl (blk_set3 Q2.out _ _ _) Try.underlying44 rfl (by kernel_rfl)) rfl ⟨?_, below_set3 d2 (by omega) _ _ _⟩
      rw [K.out]; rfl
theorem l09Step_1f0 (wd sill p m i o : Int) (w : World) (h1 : slB wd sill = true) (h2 : gaB p m = true) (h4 : lvB i = true) (h5 : lvB o = true) (hlt : i ≤ o) :
    Calls Try.prog 59 #[.agg #[.int .i64 wd, .int .i64 sill], .agg #[.bool false, .int .i64 p, .int .i64 m], .int .i64 1, .int .i64 i, .int .i64 o] w fun e w' => e = .returned (.tuple #[aggG (stepG wd sill (false, p, m) 1 i o).1, .int .i64 (stepG wd sill (false, p, m) 1 i o).2]) ∧ Below w.heap.size w w' := by
  have K := hd (show stepG wd sill (false, p, m) 1 i o = ((false, 0, 0), 10) by unfold stepG; rw [if_pos ⟨rfl, hlt⟩])
  clear h1 h2 h4 h5
  go_enter Try.func59, Try.ntmps59
  go_wp2_with fail
  obtain ⟨g0, g1, g2, d0⟩ := three_blk w (Obj.cells #[Value.int IntKind.i64 wd, Value.int IntKind.i64 sill] 47) (Obj.cells #[Value.bool false, Value.int IntKind.i64 (p), Value.int IntKind.i64 (m)] 44) (Obj.cells #[Value.bool false, Value.int IntKind.i64 (0), Value.int IntKind.i64 (0)] 44)
  refine bodyPost_ret (results_cell_tmp rfl _ _ _ _ _ _ _ rfl g2 Try.underlying44 rfl (by kernel_rfl)) rfl ⟨?_, d0⟩
  rw [K.out]; rfl
theorem l09Step_2t1 (wd sill p m i o : Int) (w : World) (h1 : slB wd sill = true) (h2 : gaB p m = true) (h4 : lvB i = true) (h5 : lvB o = true) (hlt : o < i) :
    Calls Try.prog 59 #[.agg #[.int .i64 wd, .int .i64 sill], .agg #[.bool true, .int .i64 p, .int .i64 m], .int .i64 2, .int .i64 i, .int .i64 o] w fun e w' => e = .returned (.tuple #[aggG (stepG wd sill (true, p, m) 2 i o).1, .int .i64 (stepG wd sill (true, p, m) 2 i o).2]) ∧ Below w.heap.size w w' := by
  have hob : openB true 2 i o = false := by simp [openB, hlt]
  have hnx : nextG wd sill (true, p, m) false i o = (false, p, m + 1) := rfl
  have hfl : ¬ ((2 : Int) = 1 ∧ i ≤ o) := by omega
  have K1 : Hid (gaB (p) (m + 1) = true → stepG wd sill (true, p, m) 2 i o = ((false, p, m + 1), 0)) := hd (by intro h; unfold stepG; rw [if_neg hfl]; simp only [hob, hnx, h, if_true])
  have K0 : Hid (gaB (p) (m + 1) = false → stepG wd sill (true, p, m) 2 i o = ((false, 0, 0), 5)) := hd (by intro h; unfold stepG; rw [if_neg hfl]; simp only [hob, hnx, h]; rfl)
  clear hob hnx hfl
  have hf := flowZ_bd h1 h4 h5
  obtain ⟨f1, f2⟩ := hf
  have h6 := h2
  simp only [gaB, Bool.and_eq_true, inB_iff] at h6
  obtain ⟨⟨p1, p2⟩, p3, p4⟩ := h6
  have s1 : Hid (IntKind.i64.wrap (p + flowZ wd sill i o) = p + flowZ wd sill i o) := hd (IntWalk.i64_in _ (by omega))
  have H1 := hd h1
  have H4 := hd h4
  have H5 := hd h5
  clear h1 h2 h4 h5
  go_enter Try.func59, Try.ntmps59
  go_upto_if 38 with fail
  go_cut [] from 39 to 46 (fun wx => wx.heap[w.heap.size + 1]? = some (Obj.cells #[Value.bool false, Value.int IntKind.i64 (p), Value.int IntKind.i64 (m + 1)] 44 (0, 0)) ∧ wx.heap[w.heap.size + 1 + 1]? = some (Obj.cells #[Value.bool false, Value.int IntKind.i64 (0), Value.int IntKind.i64 (0)] 44 (0, 0)) ∧ Below w.heap.size w wx)
  case first =>
    go_wp2_with fail
    go_meet
    obtain ⟨g0, g1, g2, d0⟩ := three_blk w (Obj.cells #[Value.int IntKind.i64 wd, Value.int IntKind.i64 sill] 47) (Obj.cells #[Value.bool false, Value.int IntKind.i64 (p), Value.int IntKind.i64 (m + 1)] 44) (Obj.cells #[Value.bool false, Value.int IntKind.i64 (0), Value.int IntKind.i64 (0)] 44)
    exact ⟨g1, g2, d0⟩
  case rest =>
    obtain ⟨r1, r2, d1⟩ := hcut
    have e0 := blk_cell r1 0
    have e1 := blk_cell r1 1
    have e2 := blk_cell r1 2
    have R1 := hd r1
    have R2 := hd r2
    clear r1 r2
    go_wp2_with fail
    refine (l09Gate_calls _ _ _ _).mono ?_
    rintro e w2 ⟨rfl, b2⟩
    have d2 := bnext d1 b2 (Nat.le_refl _)
    have q1 := blk_below R1.out b2 (blk_lt R1.out)
    have q2 := blk_below R2.out b2 (blk_lt R2.out)
    clear b2 e0 e1 e2 R1 R2
    have e0 := blk_cell q1 0
    have e1 := blk_cell q1 1
    have e2 := blk_cell q1 2
    have y0 := blk_cell q2 0
    have y1 := blk_cell q2 1
    have y2 := blk_cell q2 2
    have z0 := blk_free q2 0
    have z1 := blk_free q2 1
    have z2 := blk_free q2 2
    have Q2 := hd q2
    clear q1 q2
    cases hg : gaB (p) (m + 1)
    · have K := hd (K0.out hg)
      clear hg K0 K1
      go_wp2_with fail
      refine bodyPost_ret (results_cell_tmp rfl _ _ _ _ _ _ _ rfl (blk_set3 Q2.out _ _ _) Try.underlying44 rfl (by kernel_rfl)) rfl ⟨?_, below_set3 d2 (by omega) _ _ _⟩
      rw [K.out]; rfl
    · have K := hd (K1.out hg)
      clear hg K0 K1
      go_wp2_with fail
      refine bodyPost_ret (results_cell_tmp rfl _ _ _ _ _ _ _ rfl (blk_set3 Q2.out _ _ _) Try.underlying44 rfl (by kernel_rfl)) rfl ⟨?_, below_set3 d2 (by omega) _ _ _⟩
      rw [K.out]; rfl
theorem l09Step_2t0 (wd sill p m i o : Int) (w : World) (h1 : slB wd sill = true) (h2 : gaB p m = true) (h4 : lvB i = true) (h5 : lvB o = true) (hlt : i ≤ o) :
    Calls Try.prog 59 #[.agg #[.int .i64 wd, .int .i64 sill], .agg #[.bool true, .int .i64 p, .int .i64 m], .int .i64 2, .int .i64 i, .int .i64 o] w fun e w' => e = .returned (.tuple #[aggG (stepG wd sill (true, p, m) 2 i o).1, .int .i64 (stepG wd sill (true, p, m) 2 i o).2]) ∧ Below w.heap.size w w' := by
  have hob : openB true 2 i o = false := by simp [openB, Int.not_lt.2 hlt]
  have hnx : nextG wd sill (true, p, m) false i o = (false, p, m + 1) := rfl
  have hfl : ¬ ((2 : Int) = 1 ∧ i ≤ o) := by omega
  have K1 : Hid (gaB (p) (m + 1) = true → stepG wd sill (true, p, m) 2 i o = ((false, p, m + 1), 0)) := hd (by intro h; unfold stepG; rw [if_neg hfl]; simp only [hob, hnx, h, if_true])
  have K0 : Hid (gaB (p) (m + 1) = false → stepG wd sill (true, p, m) 2 i o = ((false, 0, 0), 5)) := hd (by intro h; unfold stepG; rw [if_neg hfl]; simp only [hob, hnx, h]; rfl)
  clear hob hnx hfl
  have hf := flowZ_bd h1 h4 h5
  obtain ⟨f1, f2⟩ := hf
  have h6 := h2
  simp only [gaB, Bool.and_eq_true, inB_iff] at h6
  obtain ⟨⟨p1, p2⟩, p3, p4⟩ := h6
  have s1 : Hid (IntKind.i64.wrap (p + flowZ wd sill i o) = p + flowZ wd sill i o) := hd (IntWalk.i64_in _ (by omega))
  have H1 := hd h1
  have H4 := hd h4
  have H5 := hd h5
  clear h1 h2 h4 h5
  go_enter Try.func59, Try.ntmps59
  go_upto_if 38 with fail
  go_cut [] from 39 to 46 (fun wx => wx.heap[w.heap.size + 1]? = some (Obj.cells #[Value.bool false, Value.int IntKind.i64 (p), Value.int IntKind.i64 (m + 1)] 44 (0, 0)) ∧ wx.heap[w.heap.size + 1 + 1]? = some (Obj.cells #[Value.bool false, Value.int IntKind.i64 (0), Value.int IntKind.i64 (0)] 44 (0, 0)) ∧ Below w.heap.size w wx)
  case first =>
    go_wp2_with fail
    go_meet
    obtain ⟨g0, g1, g2, d0⟩ := three_blk w (Obj.cells #[Value.int IntKind.i64 wd, Value.int IntKind.i64 sill] 47) (Obj.cells #[Value.bool false, Value.int IntKind.i64 (p), Value.int IntKind.i64 (m + 1)] 44) (Obj.cells #[Value.bool false, Value.int IntKind.i64 (0), Value.int IntKind.i64 (0)] 44)
    exact ⟨g1, g2, d0⟩
  case rest =>
    obtain ⟨r1, r2, d1⟩ := hcut
    have e0 := blk_cell r1 0
    have e1 := blk_cell r1 1
    have e2 := blk_cell r1 2
    have R1 := hd r1
    have R2 := hd r2
    clear r1 r2
    go_wp2_with fail
    refine (l09Gate_calls _ _ _ _).mono ?_
    rintro e w2 ⟨rfl, b2⟩
    have d2 := bnext d1 b2 (Nat.le_refl _)
    have q1 := blk_below R1.out b2 (blk_lt R1.out)
    have q2 := blk_below R2.out b2 (blk_lt R2.out)
    clear b2 e0 e1 e2 R1 R2
    have e0 := blk_cell q1 0
    have e1 := blk_cell q1 1
    have e2 := blk_cell q1 2
    have y0 := blk_cell q2 0
    have y1 := blk_cell q2 1
    have y2 := blk_cell q2 2
    have z0 := blk_free q2 0
    have z1 := blk_free q2 1
    have z2 := blk_free q2 2
    have Q2 := hd q2
    clear q1 q2
    cases hg : gaB (p) (m + 1)
    · have K := hd (K0.out hg)
      clear hg K0 K1
      go_wp2_with fail
      refine bodyPost_ret (results_cell_tmp rfl _ _ _ _ _ _ _ rfl (blk_set3 Q2.out _ _ _) Try.underlying44 rfl (by kernel_rfl)) rfl ⟨?_, below_set3 d2 (by omega) _ _ _⟩
      rw [K.out]; rfl
    · have K := hd (K1.out hg)
      clear hg K0 K1
      go_wp2_with fail
      refine bodyPost_ret (results_cell_tmp rfl _ _ _ _ _ _ _ rfl (blk_set3 Q2.out _ _ _) Try.underlying44 rfl (by kernel_rfl)) rfl ⟨?_, below_set3 d2 (by omega) _ _ _⟩
      rw [K.out]; rfl
theorem l09Step_2f1 (wd sill p m i o : Int) (w : World) (h1 : slB wd sill = true) (h2 : gaB p m = true) (h4 : lvB i = true) (h5 : lvB o = true) (hlt : o < i) :
    Calls Try.prog 59 #[.agg #[.int .i64 wd, .int .i64 sill], .agg #[.bool false, .int .i64 p, .int .i64 m], .int .i64 2, .int .i64 i, .int .i64 o] w fun e w' => e = .returned (.tuple #[aggG (stepG wd sill (false, p, m) 2 i o).1, .int .i64 (stepG wd sill (false, p, m) 2 i o).2]) ∧ Below w.heap.size w w' := by
  have hob : openB false 2 i o = false := by simp [openB, hlt]
  have hnx : nextG wd sill (false, p, m) false i o = (false, p, m) := rfl
  have hfl : ¬ ((2 : Int) = 1 ∧ i ≤ o) := by omega
  have K1 : Hid (gaB (p) (m) = true → stepG wd sill (false, p, m) 2 i o = ((false, p, m), 0)) := hd (by intro h; unfold stepG; rw [if_neg hfl]; simp only [hob, hnx, h, if_true])
  have K0 : Hid (gaB (p) (m) = false → stepG wd sill (false, p, m) 2 i o = ((false, 0, 0), 5)) := hd (by intro h; unfold stepG; rw [if_neg hfl]; simp only [hob, hnx, h]; rfl)
  clear hob hnx hfl
  have hf := flowZ_bd h1 h4 h5
  obtain ⟨f1, f2⟩ := hf
  have h6 := h2
  simp only [gaB, Bool.and_eq_true, inB_iff] at h6
  obtain ⟨⟨p1, p2⟩, p3, p4⟩ := h6
  have s1 : Hid (IntKind.i64.wrap (p + flowZ wd sill i o) = p + flowZ wd sill i o) := hd (IntWalk.i64_in _ (by omega))
  have H1 := hd h1
  have H4 := hd h4
  have H5 := hd h5
  clear h1 h2 h4 h5
  go_enter Try.func59, Try.ntmps59
  go_upto_if 38 with fail
  go_cut [] from 39 to 46 (fun wx => wx.heap[w.heap.size + 1]? = some (Obj.cells #[Value.bool false, Value.int IntKind.i64 (p), Value.int IntKind.i64 (m)] 44 (0, 0)) ∧ wx.heap[w.heap.size + 1 + 1]? = some (Obj.cells #[Value.bool false, Value.int IntKind.i64 (0), Value.int IntKind.i64 (0)] 44 (0, 0)) ∧ Below w.heap.size w wx)
  case first =>
    go_wp2_with fail
    go_meet
    obtain ⟨g0, g1, g2, d0⟩ := three_blk w (Obj.cells #[Value.int IntKind.i64 wd, Value.int IntKind.i64 sill] 47) (Obj.cells #[Value.bool false, Value.int IntKind.i64 (p), Value.int IntKind.i64 (m)] 44) (Obj.cells #[Value.bool false, Value.int IntKind.i64 (0), Value.int IntKind.i64 (0)] 44)
    exact ⟨g1, g2, d0⟩
  case rest =>
    obtain ⟨r1, r2, d1⟩ := hcut
    have e0 := blk_cell r1 0
    have e1 := blk_cell r1 1
    have e2 := blk_cell r1 2
    have R1 := hd r1
    have R2 := hd r2
    clear r1 r2
    go_wp2_with fail
    refine (l09Gate_calls _ _ _ _).mono ?_
    rintro e w2 ⟨rfl, b2⟩
    have d2 := bnext d1 b2 (Nat.le_refl _)
    have q1 := blk_below R1.out b2 (blk_lt R1.out)
    have q2 := blk_below R2.out b2 (blk_lt R2.out)
    clear b2 e0 e1 e2 R1 R2
    have e0 := blk_cell q1 0
    have e1 := blk_cell q1 1
    have e2 := blk_cell q1 2
    have y0 := blk_cell q2 0
    have y1 := blk_cell q2 1
    have y2 := blk_cell q2 2
    have z0 := blk_free q2 0
    have z1 := blk_free q2 1
    have z2 := blk_free q2 2
    have Q2 := hd q2
    clear q1 q2
    cases hg : gaB (p) (m)
    · have K := hd (K0.out hg)
      clear hg K0 K1
      go_wp2_with fail
      refine bodyPost_ret (results_cell_tmp rfl _ _ _ _ _ _ _ rfl (blk_set3 Q2.out _ _ _) Try.underlying44 rfl (by kernel_rfl)) rfl ⟨?_, below_set3 d2 (by omega) _ _ _⟩
      rw [K.out]; rfl
    · have K := hd (K1.out hg)
      clear hg K0 K1
      go_wp2_with fail
      refine bodyPost_ret (results_cell_tmp rfl _ _ _ _ _ _ _ rfl (blk_set3 Q2.out _ _ _) Try.underlying44 rfl (by kernel_rfl)) rfl ⟨?_, below_set3 d2 (by omega) _ _ _⟩
      rw [K.out]; rfl
theorem l09Step_2f0 (wd sill p m i o : Int) (w : World) (h1 : slB wd sill = true) (h2 : gaB p m = true) (h4 : lvB i = true) (h5 : lvB o = true) (hlt : i ≤ o) :
    Calls Try.prog 59 #[.agg #[.int .i64 wd, .int .i64 sill], .agg #[.bool false, .int .i64 p, .int .i64 m], .int .i64 2, .int .i64 i, .int .i64 o] w fun e w' => e = .returned (.tuple #[aggG (stepG wd sill (false, p, m) 2 i o).1, .int .i64 (stepG wd sill (false, p, m) 2 i o).2]) ∧ Below w.heap.size w w' := by
  have hob : openB false 2 i o = false := by simp [openB, Int.not_lt.2 hlt]
  have hnx : nextG wd sill (false, p, m) false i o = (false, p, m) := rfl
  have hfl : ¬ ((2 : Int) = 1 ∧ i ≤ o) := by omega
  have K1 : Hid (gaB (p) (m) = true → stepG wd sill (false, p, m) 2 i o = ((false, p, m), 0)) := hd (by intro h; unfold stepG; rw [if_neg hfl]; simp only [hob, hnx, h, if_true])
  have K0 : Hid (gaB (p) (m) = false → stepG wd sill (false, p, m) 2 i o = ((false, 0, 0), 5)) := hd (by intro h; unfold stepG; rw [if_neg hfl]; simp only [hob, hnx, h]; rfl)
  clear hob hnx hfl
  have hf := flowZ_bd h1 h4 h5
  obtain ⟨f1, f2⟩ := hf
  have h6 := h2
  simp only [gaB, Bool.and_eq_true, inB_iff] at h6
  obtain ⟨⟨p1, p2⟩, p3, p4⟩ := h6
  have s1 : Hid (IntKind.i64.wrap (p + flowZ wd sill i o) = p + flowZ wd sill i o) := hd (IntWalk.i64_in _ (by omega))
  have H1 := hd h1
  have H4 := hd h4
  have H5 := hd h5
  clear h1 h2 h4 h5
  go_enter Try.func59, Try.ntmps59
  go_upto_if 38 with fail
  go_cut [] from 39 to 46 (fun wx => wx.heap[w.heap.size + 1]? = some (Obj.cells #[Value.bool false, Value.int IntKind.i64 (p), Value.int IntKind.i64 (m)] 44 (0, 0)) ∧ wx.heap[w.heap.size + 1 + 1]? = some (Obj.cells #[Value.bool false, Value.int IntKind.i64 (0), Value.int IntKind.i64 (0)] 44 (0, 0)) ∧ Below w.heap.size w wx)
  case first =>
    go_wp2_with fail
    go_meet
    obtain ⟨g0, g1, g2, d0⟩ := three_blk w (Obj.cells #[Value.int IntKind.i64 wd, Value.int IntKind.i64 sill] 47) (Obj.cells #[Value.bool false, Value.int IntKind.i64 (p), Value.int IntKind.i64 (m)] 44) (Obj.cells #[Value.bool false, Value.int IntKind.i64 (0), Value.int IntKind.i64 (0)] 44)
    exact ⟨g1, g2, d0⟩
  case rest =>
    obtain ⟨r1, r2, d1⟩ := hcut
    have e0 := blk_cell r1 0
    have e1 := blk_cell r1 1
    have e2 := blk_cell r1 2
    have R1 := hd r1
    have R2 := hd r2
    clear r1 r2
    go_wp2_with fail
    refine (l09Gate_calls _ _ _ _).mono ?_
    rintro e w2 ⟨rfl, b2⟩
    have d2 := bnext d1 b2 (Nat.le_refl _)
    have q1 := blk_below R1.out b2 (blk_lt R1.out)
    have q2 := blk_below R2.out b2 (blk_lt R2.out)
    clear b2 e0 e1 e2 R1 R2
    have e0 := blk_cell q1 0
    have e1 := blk_cell q1 1
    have e2 := blk_cell q1 2
    have y0 := blk_cell q2 0
    have y1 := blk_cell q2 1
    have y2 := blk_cell q2 2
    have z0 := blk_free q2 0
    have z1 := blk_free q2 1
    have z2 := blk_free q2 2
    have Q2 := hd q2
    clear q1 q2
    cases hg : gaB (p) (m)
    · have K := hd (K0.out hg)
      clear hg K0 K1
      go_wp2_with fail
      refine bodyPost_ret (results_cell_tmp rfl _ _ _ _ _ _ _ rfl (blk_set3 Q2.out _ _ _) Try.underlying44 rfl (by kernel_rfl)) rfl ⟨?_, below_set3 d2 (by omega) _ _ _⟩
      rw [K.out]; rfl
    · have K := hd (K1.out hg)
      clear hg K0 K1
      go_wp2_with fail
      refine bodyPost_ret (results_cell_tmp rfl _ _ _ _ _ _ _ rfl (blk_set3 Q2.out _ _ _) Try.underlying44 rfl (by kernel_rfl)) rfl ⟨?_, below_set3 d2 (by omega) _ _ _⟩
      rw [K.out]; rfl
theorem l09Step_calls (wd sill : Int) (op : Bool) (p m order i o : Int) (w : World) (h1 : slB wd sill = true) (h2 : gaB p m = true) (h3 : orB order = true) (h4 : lvB i = true) (h5 : lvB o = true) :
    Calls Try.prog 59 #[.agg #[.int .i64 wd, .int .i64 sill], .agg #[.bool op, .int .i64 p, .int .i64 m], .int .i64 order, .int .i64 i, .int .i64 o] w fun e w' => e = .returned (.tuple #[aggG (stepG wd sill (op, p, m) order i o).1, .int .i64 (stepG wd sill (op, p, m) order i o).2]) ∧ Below w.heap.size w w' := by
  unfold orB at h3
  rw [inB_iff] at h3
  have hc : order = 0 ∨ order = 1 ∨ order = 2 := by omega
  by_cases hlt : o < i
  · rcases hc with rfl | rfl | rfl <;> cases op
    · exact l09Step_0f1 wd sill p m i o w h1 h2 h4 h5 hlt
    · exact l09Step_0t1 wd sill p m i o w h1 h2 h4 h5 hlt
    · exact l09Step_1f1 wd sill p m i o w h1 h2 h4 h5 hlt
    · exact l09Step_1t1 wd sill p m i o w h1 h2 h4 h5 hlt
    · exact l09Step_2f1 wd sill p m i o w h1 h2 h4 h5 hlt
    · exact l09Step_2t1 wd sill p m i o w h1 h2 h4 h5 hlt
  · have hle : i ≤ o := by omega
    rcases hc with rfl | rfl | rfl <;> cases op
    · exact l09Step_0f0 wd sill p m i o w h1 h2 h4 h5 hle
    · exact l09Step_0t0 wd sill p m i o w h1 h2 h4 h5 hle
    · exact l09Step_1f0 wd sill p m i o w h1 h2 h4 h5 hle
    · exact l09Step_1t0 wd sill p m i o w h1 h2 h4 h5 hle
    · exact l09Step_2f0 wd sill p m i o w h1 h2 h4 h5 hle
    · exact l09Step_2t0 wd sill p m i o w h1 h2 h4 h5 hle
theorem step_0t1 (wd sill p m i o : Int) (w : World) (h1 : slB wd sill = true) (h2 : gaB p m = true) (h4 : lvB i = true) (h5 : lvB o = true) (hlt : o < i) :
    Calls Try.prog 63 #[.agg #[.int .i64 wd, .int .i64 sill], .agg #[.bool true, .int .i64 p, .int .i64 m], .int .i64 0, .int .i64 i, .int .i64 o] w fun e w' => e = .returned (.tuple #[aggG (stepG wd sill (true, p, m) 0 i o).1, .int .i64 (stepG wd sill (true, p, m) 0 i o).2]) ∧ Below w.heap.size w w' := by
  have hob : openB true 0 i o = true := by simp [openB, hlt]
  have hnx : nextG wd sill (true, p, m) true i o = (true, p + flowZ wd sill i o, m) := rfl
  have hfl : ¬ ((0 : Int) = 1 ∧ i ≤ o) := by omega
  have K1 : Hid (gaB (p + flowZ wd sill i o) (m) = true → stepG wd sill (true, p, m) 0 i o = ((true, p + flowZ wd sill i o, m), 0)) := hd (by intro h; unfold stepG; rw [if_neg hfl]; simp only [hob, hnx, h, if_true])
  have K0 : Hid (gaB (p + flowZ wd sill i o) (m) = false → stepG wd sill (true, p, m) 0 i o = ((false, 0, 0), 5)) := hd (by intro h; unfold stepG; rw [if_neg hfl]; simp only [hob, hnx, h]; rfl)
  clear hob hnx hfl
  have hf := flowZ_bd h1 h4 h5
  obtain ⟨f1, f2⟩ := hf
  have h6 := h2
  simp only [gaB, Bool.and_eq_true, inB_iff] at h6
  obtain ⟨⟨p1, p2⟩, p3, p4⟩ := h6
  have s1 : Hid (IntKind.i64.wrap (p + flowZ wd sill i o) = p + flowZ wd sill i o) := hd (IntWalk.i64_in _ (by omega))
  have H1 := hd h1
  have H4 := hd h4
  have H5 := hd h5
  clear h1 h2 h4 h5
  go_enter Try.func63, Try.ntmps63
  go_upto_if 46 with fail
  go_cut [] from 47 to 54 (fun wx => wx.heap[w.heap.size + 1]? = some (Obj.cells #[Value.bool true, Value.int IntKind.i64 (p + flowZ wd sill i o), Value.int IntKind.i64 (m)] 44 (0, 0)) ∧ wx.heap[w.heap.size + 1 + 1]? = some (Obj.cells #[Value.bool false, Value.int IntKind.i64 (0), Value.int IntKind.i64 (0)] 44 (0, 0)) ∧ Below w.heap.size w wx)
  case first =>
    go_wp2_with fail
    obtain ⟨g0, g1, g2, d0⟩ := three_blk w (Obj.cells #[Value.int IntKind.i64 wd, Value.int IntKind.i64 sill] 47) (Obj.cells #[Value.bool true, Value.int IntKind.i64 (p), Value.int IntKind.i64 (m)] 44) (Obj.cells #[Value.bool false, Value.int IntKind.i64 (0), Value.int IntKind.i64 (0)] 44)
    generalize ((w.alloc (Obj.cells #[Value.int IntKind.i64 wd, Value.int IntKind.i64 sill] 47)).alloc (Obj.cells #[Value.bool true, Value.int IntKind.i64 (p), Value.int IntKind.i64 (m)] 44)).alloc (Obj.cells #[Value.bool false, Value.int IntKind.i64 (0), Value.int IntKind.i64 (0)] 44) = W0 at g0 g1 g2 d0 ⊢
    have c00 := blk_cell g0 0
    have c01 := blk_cell g0 1
    have c11 := blk_cell g1 1
    have z11 := blk_free g1 1
    go_region_with (go_at_call 71; refine (flow_calls _ _ _ _ _ H1.out H4.out H5.out).mono ?_; rintro e w9 ⟨rfl, b9⟩; have q1 := (b9.block (w.heap.size + 1) (blk_lt g1)).trans g1; have q2 := (b9.block (w.heap.size + 1 + 1) (blk_lt g2)).trans g2; have c11' := blk_cell q1 1; have z11' := blk_free q1 1)
    all_goals
      have q3 := blk_set q1 1 (Value.int IntKind.i64 (IntKind.i64.wrap (p + flowZ wd sill i o)))
      have q4 := blk_far q2 (a := ⟨w.heap.size + 1, 1, none⟩) (by simp) (Value.int IntKind.i64 (IntKind.i64.wrap (p + flowZ wd sill i o)))
      have d4 := (d0.trans ((bdrew W0).trans (Below.mono b9 d0.size))).setCell (p := ⟨w.heap.size + 1, 1, none⟩) (by simp) (Value.int IntKind.i64 (IntKind.i64.wrap (p + flowZ wd sill i o)))
      clear q1 q2 c00 c01 c11 z11 c11' z11' g0 g1 g2
      go_wp2_with fail
      go_meet
      rw [s1.out] at q3 q4 d4
      rw [s1.out]
      exact ⟨by simpa using q3, q4, d4⟩
  case rest =>
    obtain ⟨r1, r2, d1⟩ := hcut
    have e0 := blk_cell r1 0
    have e1 := blk_cell r1 1
    have e2 := blk_cell r1 2
    have R1 := hd r1
    have R2 := hd r2
    clear r1 r2
    go_wp2_with fail
    refine (ValidGate_calls _ _ _ _).mono ?_
    rintro e w2 ⟨rfl, b2⟩
    have d2 := bnext d1 b2 (Nat.le_refl _)
    have q1 := blk_below R1.out b2 (blk_lt R1.out)
    have q2 := blk_below R2.out b2 (blk_lt R2.out)
    clear b2 e0 e1 e2 R1 R2
    have e0 := blk_cell q1 0
    have e1 := blk_cell q1 1
    have e2 := blk_cell q1 2
    have y0 := blk_cell q2 0
    have y1 := blk_cell q2 1
    have y2 := blk_cell q2 2
    have z0 := blk_free q2 0
    have z1 := blk_free q2 1
    have z2 := blk_free q2 2
    have Q2 := hd q2
    clear q1 q2
    cases hg : gaB (p + flowZ wd sill i o) (m)
    · have K := hd (K0.out hg)
      clear hg K0 K1
      go_wp2_with fail
      refine bodyPost_ret (results_cell_tmp rfl _ _ _ _ _ _ _ rfl (blk_set3 Q2.out _ _ _) Try.underlying44 rfl (by kernel_rfl)) rfl ⟨?_, below_set3 d2 (by omega) _ _ _⟩
      rw [K.out]; rfl
    · have K := hd (K1.out hg)
      clear hg K0 K1
      go_wp2_with fail
      refine bodyPost_ret (results_cell_tmp rfl _ _ _ _ _ _ _ rfl (blk_set3 Q2.out _ _ _) Try.underlying44 rfl (by kernel_rfl)) rfl ⟨?_, below_set3 d2 (by omega) _ _ _⟩
      rw [K.out]; rfl
theorem step_0t0 (wd sill p m i o : Int) (w : World) (h1 : slB wd sill = true) (h2 : gaB p m = true) (h4 : lvB i = true) (h5 : lvB o = true) (hlt : i ≤ o) :
    Calls Try.prog 63 #[.agg #[.int .i64 wd, .int .i64 sill], .agg #[.bool true, .int .i64 p, .int .i64 m], .int .i64 0, .int .i64 i, .int .i64 o] w fun e w' => e = .returned (.tuple #[aggG (stepG wd sill (true, p, m) 0 i o).1, .int .i64 (stepG wd sill (true, p, m) 0 i o).2]) ∧ Below w.heap.size w w' := by
  have hob : openB true 0 i o = false := by simp [openB, Int.not_lt.2 hlt]
  have hnx : nextG wd sill (true, p, m) false i o = (false, p, m + 1) := rfl
  have hfl : ¬ ((0 : Int) = 1 ∧ i ≤ o) := by omega
  have K1 : Hid (gaB (p) (m + 1) = true → stepG wd sill (true, p, m) 0 i o = ((false, p, m + 1), 0)) := hd (by intro h; unfold stepG; rw [if_neg hfl]; simp only [hob, hnx, h, if_true])
  have K0 : Hid (gaB (p) (m + 1) = false → stepG wd sill (true, p, m) 0 i o = ((false, 0, 0), 5)) := hd (by intro h; unfold stepG; rw [if_neg hfl]; simp only [hob, hnx, h]; rfl)
  clear hob hnx hfl
  have hf := flowZ_bd h1 h4 h5
  obtain ⟨f1, f2⟩ := hf
  have h6 := h2
  simp only [gaB, Bool.and_eq_true, inB_iff] at h6
  obtain ⟨⟨p1, p2⟩, p3, p4⟩ := h6
  have s1 : Hid (IntKind.i64.wrap (p + flowZ wd sill i o) = p + flowZ wd sill i o) := hd (IntWalk.i64_in _ (by omega))
  have H1 := hd h1
  have H4 := hd h4
  have H5 := hd h5
  clear h1 h2 h4 h5
  have hbl : decide (o < i) = false := by simp; omega
  go_enter Try.func63, Try.ntmps63
  go_upto_if 46 with fail
  go_cut [] from 47 to 54 (fun wx => wx.heap[w.heap.size + 1]? = some (Obj.cells #[Value.bool false, Value.int IntKind.i64 (p), Value.int IntKind.i64 (m + 1)] 44 (0, 0)) ∧ wx.heap[w.heap.size + 1 + 1]? = some (Obj.cells #[Value.bool false, Value.int IntKind.i64 (0), Value.int IntKind.i64 (0)] 44 (0, 0)) ∧ Below w.heap.size w wx)
  case first =>
    go_wp2_with fail
    go_meet
    obtain ⟨g0, g1, g2, d0⟩ := three_blk w (Obj.cells #[Value.int IntKind.i64 wd, Value.int IntKind.i64 sill] 47) (Obj.cells #[Value.bool false, Value.int IntKind.i64 (p), Value.int IntKind.i64 (m + 1)] 44) (Obj.cells #[Value.bool false, Value.int IntKind.i64 (0), Value.int IntKind.i64 (0)] 44)
    exact ⟨g1, g2, d0⟩
  case rest =>
    obtain ⟨r1, r2, d1⟩ := hcut
    have e0 := blk_cell r1 0
    have e1 := blk_cell r1 1
    have e2 := blk_cell r1 2
    have R1 := hd r1
    have R2 := hd r2
    clear r1 r2
    go_wp2_with fail
    refine (ValidGate_calls _ _ _ _).mono ?_
    rintro e w2 ⟨rfl, b2⟩
    have d2 := bnext d1 b2 (Nat.le_refl _)
    have q1 := blk_below R1.out b2 (blk_lt R1.out)
    have q2 := blk_below R2.out b2 (blk_lt R2.out)
    clear b2 e0 e1 e2 R1 R2
    have e0 := blk_cell q1 0
    have e1 := blk_cell q1 1
    have e2 := blk_cell q1 2
    have y0 := blk_cell q2 0
    have y1 := blk_cell q2 1
    have y2 := blk_cell q2 2
    have z0 := blk_free q2 0
    have z1 := blk_free q2 1
    have z2 := blk_free q2 2
    have Q2 := hd q2
    clear q1 q2
    cases hg : gaB (p) (m + 1)
    · have K := hd (K0.out hg)
      clear hg K0 K1
      go_wp2_with fail
      refine bodyPost_ret (results_cell_tmp rfl _ _ _ _ _ _ _ rfl (blk_set3 Q2.out _ _ _) Try.underlying44 rfl (by kernel_rfl)) rfl ⟨?_, below_set3 d2 (by omega) _ _ _⟩
      rw [K.out]; rfl
    · have K := hd (K1.out hg)
      clear hg K0 K1
      go_wp2_with fail
      refine bodyPost_ret (results_cell_tmp rfl _ _ _ _ _ _ _ rfl (blk_set3 Q2.out _ _ _) Try.underlying44 rfl (by kernel_rfl)) rfl ⟨?_, below_set3 d2 (by omega) _ _ _⟩
      rw [K.out]; rfl
theorem step_0f1 (wd sill p m i o : Int) (w : World) (h1 : slB wd sill = true) (h2 : gaB p m = true) (h4 : lvB i = true) (h5 : lvB o = true) (hlt : o < i) :
    Calls Try.prog 63 #[.agg #[.int .i64 wd, .int .i64 sill], .agg #[.bool false, .int .i64 p, .int .i64 m], .int .i64 0, .int .i64 i, .int .i64 o] w fun e w' => e = .returned (.tuple #[aggG (stepG wd sill (false, p, m) 0 i o).1, .int .i64 (stepG wd sill (false, p, m) 0 i o).2]) ∧ Below w.heap.size w w' := by
  have hob : openB false 0 i o = false := by simp [openB, hlt]
  have hnx : nextG wd sill (false, p, m) false i o = (false, p, m) := rfl
  have hfl : ¬ ((0 : Int) = 1 ∧ i ≤ o) := by omega
  have K1 : Hid (gaB (p) (m) = true → stepG wd sill (false, p, m) 0 i o = ((false, p, m), 0)) := hd (by intro h; unfold stepG; rw [if_neg hfl]; simp only [hob, hnx, h, if_true])
  have K0 : Hid (gaB (p) (m) = false → stepG wd sill (false, p, m) 0 i o = ((false, 0, 0), 5)) := hd (by intro h; unfold stepG; rw [if_neg hfl]; simp only [hob, hnx, h]; rfl)
  clear hob hnx hfl
  have hf := flowZ_bd h1 h4 h5
  obtain ⟨f1, f2⟩ := hf
  have h6 := h2
  simp only [gaB, Bool.and_eq_true, inB_iff] at h6
  obtain ⟨⟨p1, p2⟩, p3, p4⟩ := h6
  have s1 : Hid (IntKind.i64.wrap (p + flowZ wd sill i o) = p + flowZ wd sill i o) := hd (IntWalk.i64_in _ (by omega))
  have H1 := hd h1
  have H4 := hd h4
  have H5 := hd h5
  clear h1 h2 h4 h5
  go_enter Try.func63, Try.ntmps63
  go_upto_if 46 with fail
  go_cut [] from 47 to 54 (fun wx => wx.heap[w.heap.size + 1]? = some (Obj.cells #[Value.bool false, Value.int IntKind.i64 (p), Value.int IntKind.i64 (m)] 44 (0, 0)) ∧ wx.heap[w.heap.size + 1 + 1]? = some (Obj.cells #[Value.bool false, Value.int IntKind.i64 (0), Value.int IntKind.i64 (0)] 44 (0, 0)) ∧ Below w.heap.size w wx)
  case first =>
    go_wp2_with fail
    go_meet
    obtain ⟨g0, g1, g2, d0⟩ := three_blk w (Obj.cells #[Value.int IntKind.i64 wd, Value.int IntKind.i64 sill] 47) (Obj.cells #[Value.bool false, Value.int IntKind.i64 (p), Value.int IntKind.i64 (m)] 44) (Obj.cells #[Value.bool false, Value.int IntKind.i64 (0), Value.int IntKind.i64 (0)] 44)
    exact ⟨g1, g2, d0⟩
  case rest =>
    obtain ⟨r1, r2, d1⟩ := hcut
    have e0 := blk_cell r1 0
    have e1 := blk_cell r1 1
    have e2 := blk_cell r1 2
    have R1 := hd r1
    have R2 := hd r2
    clear r1 r2
    go_wp2_with fail
    refine (ValidGate_calls _ _ _ _).mono ?_
    rintro e w2 ⟨rfl, b2⟩
    have d2 := bnext d1 b2 (Nat.le_refl _)
    have q1 := blk_below R1.out b2 (blk_lt R1.out)
    have q2 := blk_below R2.out b2 (blk_lt R2.out)
    clear b2 e0 e1 e2 R1 R2
    have e0 := blk_cell q1 0
    have e1 := blk_cell q1 1
    have e2 := blk_cell q1 2
    have y0 := blk_cell q2 0
    have y1 := blk_cell q2 1
    have y2 := blk_cell q2 2
    have z0 := blk_free q2 0
    have z1 := blk_free q2 1
    have z2 := blk_free q2 2
    have Q2 := hd q2
    clear q1 q2
    cases hg : gaB (p) (m)
    · have K := hd (K0.out hg)
      clear hg K0 K1
      go_wp2_with fail
      refine bodyPost_ret (results_cell_tmp rfl _ _ _ _ _ _ _ rfl (blk_set3 Q2.out _ _ _) Try.underlying44 rfl (by kernel_rfl)) rfl ⟨?_, below_set3 d2 (by omega) _ _ _⟩
      rw [K.out]; rfl
    · have K := hd (K1.out hg)
      clear hg K0 K1
      go_wp2_with fail
      refine bodyPost_ret (results_cell_tmp rfl _ _ _ _ _ _ _ rfl (blk_set3 Q2.out _ _ _) Try.underlying44 rfl (by kernel_rfl)) rfl ⟨?_, below_set3 d2 (by omega) _ _ _⟩
      rw [K.out]; rfl
theorem step_0f0 (wd sill p m i o : Int) (w : World) (h1 : slB wd sill = true) (h2 : gaB p m = true) (h4 : lvB i = true) (h5 : lvB o = true) (hlt : i ≤ o) :
    Calls Try.prog 63 #[.agg #[.int .i64 wd, .int .i64 sill], .agg #[.bool false, .int .i64 p, .int .i64 m], .int .i64 0, .int .i64 i, .int .i64 o] w fun e w' => e = .returned (.tuple #[aggG (stepG wd sill (false, p, m) 0 i o).1, .int .i64 (stepG wd sill (false, p, m) 0 i o).2]) ∧ Below w.heap.size w w' := by
  have hob : openB false 0 i o = false := by simp [openB, Int.not_lt.2 hlt]
  have hnx : nextG wd sill (false, p, m) false i o = (false, p, m) := rfl
  have hfl : ¬ ((0 : Int) = 1 ∧ i ≤ o) := by omega
  have K1 : Hid (gaB (p) (m) = true → stepG wd sill (false, p, m) 0 i o = ((false, p, m), 0)) := hd (by intro h; unfold stepG; rw [if_neg hfl]; simp only [hob, hnx, h, if_true])
  have K0 : Hid (gaB (p) (m) = false → stepG wd sill (false, p, m) 0 i o = ((false, 0, 0), 5)) := hd (by intro h; unfold stepG; rw [if_neg hfl]; simp only [hob, hnx, h]; rfl)
  clear hob hnx hfl
  have hf := flowZ_bd h1 h4 h5
  obtain ⟨f1, f2⟩ := hf
  have h6 := h2
  simp only [gaB, Bool.and_eq_true, inB_iff] at h6
  obtain ⟨⟨p1, p2⟩, p3, p4⟩ := h6
  have s1 : Hid (IntKind.i64.wrap (p + flowZ wd sill i o) = p + flowZ wd sill i o) := hd (IntWalk.i64_in _ (by omega))
  have H1 := hd h1
  have H4 := hd h4
  have H5 := hd h5
  clear h1 h2 h4 h5
  go_enter Try.func63, Try.ntmps63
  go_upto_if 46 with fail
  go_cut [] from 47 to 54 (fun wx => wx.heap[w.heap.size + 1]? = some (Obj.cells #[Value.bool false, Value.int IntKind.i64 (p), Value.int IntKind.i64 (m)] 44 (0, 0)) ∧ wx.heap[w.heap.size + 1 + 1]? = some (Obj.cells #[Value.bool false, Value.int IntKind.i64 (0), Value.int IntKind.i64 (0)] 44 (0, 0)) ∧ Below w.heap.size w wx)
  case first =>
    go_wp2_with fail
    go_meet
    obtain ⟨g0, g1, g2, d0⟩ := three_blk w (Obj.cells #[Value.int IntKind.i64 wd, Value.int IntKind.i64 sill] 47) (Obj.cells #[Value.bool false, Value.int IntKind.i64 (p), Value.int IntKind.i64 (m)] 44) (Obj.cells #[Value.bool false, Value.int IntKind.i64 (0), Value.int IntKind.i64 (0)] 44)
    exact ⟨g1, g2, d0⟩
  case rest =>
    obtain ⟨r1, r2, d1⟩ := hcut
    have e0 := blk_cell r1 0
    have e1 := blk_cell r1 1
    have e2 := blk_cell r1 2
    have R1 := hd r1
    have R2 := hd r2
    clear r1 r2
    go_wp2_with fail
    refine (ValidGate_calls _ _ _ _).mono ?_
    rintro e w2 ⟨rfl, b2⟩
    have d2 := bnext d1 b2 (Nat.le_refl _)
    have q1 := blk_below R1.out b2 (blk_lt R1.out)
    have q2 := blk_below R2.out b2 (blk_lt R2.out)
    clear b2 e0 e1 e2 R1 R2
    have e0 := blk_cell q1 0
    have e1 := blk_cell q1 1
    have e2 := blk_cell q1 2
    have y0 := blk_cell q2 0
    have y1 := blk_cell q2 1
    have y2 := blk_cell q2 2
    have z0 := blk_free q2 0
    have z1 := blk_free q2 1
    have z2 := blk_free q2 2
    have Q2 := hd q2
    clear q1 q2
    cases hg : gaB (p) (m)
    · have K := hd (K0.out hg)
      clear hg K0 K1
      go_wp2_with fail
      refine bodyPost_ret (results_cell_tmp rfl _ _ _ _ _ _ _ rfl (blk_set3 Q2.out _ _ _) Try.underlying44 rfl (by kernel_rfl)) rfl ⟨?_, below_set3 d2 (by omega) _ _ _⟩
      rw [K.out]; rfl
    · have K := hd (K1.out hg)
      clear hg K0 K1
      go_wp2_with fail
      refine bodyPost_ret (results_cell_tmp rfl _ _ _ _ _ _ _ rfl (blk_set3 Q2.out _ _ _) Try.underlying44 rfl (by kernel_rfl)) rfl ⟨?_, below_set3 d2 (by omega) _ _ _⟩
      rw [K.out]; rfl
theorem step_1t1 (wd sill p m i o : Int) (w : World) (h1 : slB wd sill = true) (h2 : gaB p m = true) (h4 : lvB i = true) (h5 : lvB o = true) (hlt : o < i) :
    Calls Try.prog 63 #[.agg #[.int .i64 wd, .int .i64 sill], .agg #[.bool true, .int .i64 p, .int .i64 m], .int .i64 1, .int .i64 i, .int .i64 o] w fun e w' => e = .returned (.tuple #[aggG (stepG wd sill (true, p, m) 1 i o).1, .int .i64 (stepG wd sill (true, p, m) 1 i o).2]) ∧ Below w.heap.size w w' := by
  have hob : openB true 1 i o = true := by simp [openB, hlt]
  have hnx : nextG wd sill (true, p, m) true i o = (true, p + flowZ wd sill i o, m) := rfl
  have hfl : ¬ ((1 : Int) = 1 ∧ i ≤ o) := by omega
  have K1 : Hid (gaB (p + flowZ wd sill i o) (m) = true → stepG wd sill (true, p, m) 1 i o = ((true, p + flowZ wd sill i o, m), 0)) := hd (by intro h; unfold stepG; rw [if_neg hfl]; simp only [hob, hnx, h, if_true])
  have K0 : Hid (gaB (p + flowZ wd sill i o) (m) = false → stepG wd sill (true, p, m) 1 i o = ((false, 0, 0), 5)) := hd (by intro h; unfold stepG; rw [if_neg hfl]; simp only [hob, hnx, h]; rfl)
  clear hob hnx hfl
  have hf := flowZ_bd h1 h4 h5
  obtain ⟨f1, f2⟩ := hf
  have h6 := h2
  simp only [gaB, Bool.and_eq_true, inB_iff] at h6
  obtain ⟨⟨p1, p2⟩, p3, p4⟩ := h6
  have s1 : Hid (IntKind.i64.wrap (p + flowZ wd sill i o) = p + flowZ wd sill i o) := hd (IntWalk.i64_in _ (by omega))
  have H1 := hd h1
  have H4 := hd h4
  have H5 := hd h5
  clear h1 h2 h4 h5
  go_enter Try.func63, Try.ntmps63
  go_upto_if 46 with fail
  go_cut [] from 47 to 54 (fun wx => wx.heap[w.heap.size + 1]? = some (Obj.cells #[Value.bool true, Value.int IntKind.i64 (p + flowZ wd sill i o), Value.int IntKind.i64 (m)] 44 (0, 0)) ∧ wx.heap[w.heap.size + 1 + 1]? = some (Obj.cells #[Value.bool false, Value.int IntKind.i64 (0), Value.int IntKind.i64 (0)] 44 (0, 0)) ∧ Below w.heap.size w wx)
  case first =>
    go_wp2_with fail
    obtain ⟨g0, g1, g2, d0⟩ := three_blk w (Obj.cells #[Value.int IntKind.i64 wd, Value.int IntKind.i64 sill] 47) (Obj.cells #[Value.bool true, Value.int IntKind.i64 (p), Value.int IntKind.i64 (m)] 44) (Obj.cells #[Value.bool false, Value.int IntKind.i64 (0), Value.int IntKind.i64 (0)] 44)
    generalize ((w.alloc (Obj.cells #[Value.int IntKind.i64 wd, Value.int IntKind.i64 sill] 47)).alloc (Obj.cells #[Value.bool true, Value.int IntKind.i64 (p), Value.int IntKind.i64 (m)] 44)).alloc (Obj.cells #[Value.bool false, Value.int IntKind.i64 (0), Value.int IntKind.i64 (0)] 44) = W0 at g0 g1 g2 d0 ⊢
    have c00 := blk_cell g0 0
    have c01 := blk_cell g0 1
    have c11 := blk_cell g1 1
    have z11 := blk_free g1 1
    go_region_with (go_at_call 71; refine (flow_calls _ _ _ _ _ H1.out H4.out H5.out).mono ?_; rintro e w9 ⟨rfl, b9⟩; have q1 := (b9.block (w.heap.size + 1) (blk_lt g1)).trans g1; have q2 := (b9.block (w.heap.size + 1 + 1) (blk_lt g2)).trans g2; have c11' := blk_cell q1 1; have z11' := blk_free q1 1)
    all_goals
      have q3 := blk_set q1 1 (Value.int IntKind.i64 (IntKind.i64.wrap (p + flowZ wd sill i o)))
      have q4 := blk_far q2 (a := ⟨w.heap.size + 1, 1, none⟩) (by simp) (Value.int IntKind.i64 (IntKind.i64.wrap (p + flowZ wd sill i o)))
      have d4 := (d0.trans ((bdrew W0).trans (Below.mono b9 d0.size))).setCell (p := ⟨w.heap.size + 1, 1, none⟩) (by simp) (Value.int IntKind.i64 (IntKind.i64.wrap (p + flowZ wd sill i o)))
      clear q1 q2 c00 c01 c11 z11 c11' z11' g0 g1 g2
      go_wp2_with fail
      go_meet
      rw [s1.out] at q3 q4 d4
      rw [s1.out]
      exact ⟨by simpa using q3, q4, d4⟩
  case rest =>
    obtain ⟨r1, r2, d1⟩ := hcut
    have e0 := blk_cell r1 0
    have e1 := blk_cell r1 1
    have e2 := blk_cell r1 2
    have R1 := hd r1
    have R2 := hd r2
    clear r1 r2
    go_wp2_with fail
    refine (ValidGate_calls _ _ _ _).mono ?_
    rintro e w2 ⟨rfl, b2⟩
    have d2 := bnext d1 b2 (Nat.le_refl _)
    have q1 := blk_below R1.out b2 (blk_lt R1.out)
    have q2 := blk_below R2.out b2 (blk_lt R2.out)
    clear b2 e0 e1 e2 R1 R2
    have e0 := blk_cell q1 0
    have e1 := blk_cell q1 1
    have e2 := blk_cell q1 2
    have y0 := blk_cell q2 0
    have y1 := blk_cell q2 1
    have y2 := blk_cell q2 2
    have z0 := blk_free q2 0
    have z1 := blk_free q2 1
    have z2 := blk_free q2 2
    have Q2 := hd q2
    clear q1 q2
    cases hg : gaB (p + flowZ wd sill i o) (m)
    · have K := hd (K0.out hg)
      clear hg K0 K1
      go_wp2_with fail
      refine bodyPost_ret (results_cell_tmp rfl _ _ _ _ _ _ _ rfl (blk_set3 Q2.out _ _ _) Try.underlying44 rfl (by kernel_rfl)) rfl ⟨?_, below_set3 d2 (by omega) _ _ _⟩
      rw [K.out]; rfl
    · have K := hd (K1.out hg)
      clear hg K0 K1
      go_wp2_with fail
      refine bodyPost_ret (results_cell_tmp rfl _ _ _ _ _ _ _ rfl (blk_set3 Q2.out _ _ _) Try.underlying44 rfl (by kernel_rfl)) rfl ⟨?_, below_set3 d2 (by omega) _ _ _⟩
      rw [K.out]; rfl
theorem step_1t0 (wd sill p m i o : Int) (w : World) (h1 : slB wd sill = true) (h2 : gaB p m = true) (h4 : lvB i = true) (h5 : lvB o = true) (hlt : i ≤ o) :
    Calls Try.prog 63 #[.agg #[.int .i64 wd, .int .i64 sill], .agg #[.bool true, .int .i64 p, .int .i64 m], .int .i64 1, .int .i64 i, .int .i64 o] w fun e w' => e = .returned (.tuple #[aggG (stepG wd sill (true, p, m) 1 i o).1, .int .i64 (stepG wd sill (true, p, m) 1 i o).2]) ∧ Below w.heap.size w w' := by
  have K := hd (show stepG wd sill (true, p, m) 1 i o = ((false, 0, 0), 10) by unfold stepG; rw [if_pos ⟨rfl, hlt⟩])
  clear h1 h2 h4 h5
  go_enter Try.func63, Try.ntmps63
  go_wp2_with fail
  obtain ⟨g0, g1, g2, d0⟩ := three_blk w (Obj.cells #[Value.int IntKind.i64 wd, Value.int IntKind.i64 sill] 47) (Obj.cells #[Value.bool true, Value.int IntKind.i64 (p), Value.int IntKind.i64 (m)] 44) (Obj.cells #[Value.bool false, Value.int IntKind.i64 (0), Value.int IntKind.i64 (0)] 44)
  refine bodyPost_ret (results_cell_tmp rfl _ _ _ _ _ _ _ rfl g2 Try.underlying44 rfl (by kernel_rfl)) rfl ⟨?_, d0⟩
  rw [K.out]; rfl
theorem step_1f1 (wd sill p m i o : Int) (w : World) (h1 : slB wd sill = true) (h2 : gaB p m = true) (h4 : lvB i = true) (h5 : lvB o = true) (hlt : o < i) :
    Calls Try.prog 63 #[.agg #[.int .i64 wd, .int .i64 sill], .agg #[.bool false, .int .i64 p, .int .i64 m], .int .i64 1, .int .i64 i, .int .i64 o] w fun e w' => e = .returned (.tuple #[aggG (stepG wd sill (false, p, m) 1 i o).1, .int .i64 (stepG wd sill (false, p, m) 1 i o).2]) ∧ Below w.heap.size w w' := by
  have hob : openB false 1 i o = true := by simp [openB, hlt]
  have hnx : nextG wd sill (false, p, m) true i o = (true, p + flowZ wd sill i o, m + 1) := rfl
  have hfl : ¬ ((1 : Int) = 1 ∧ i ≤ o) := by omega
  have K1 : Hid (gaB (p + flowZ wd sill i o) (m + 1) = true → stepG wd sill (false, p, m) 1 i o = ((true, p + flowZ wd sill i o, m + 1), 0)) := hd (by intro h; unfold stepG; rw [if_neg hfl]; simp only [hob, hnx, h, if_true])
  have K0 : Hid (gaB (p + flowZ wd sill i o) (m + 1) = false → stepG wd sill (false, p, m) 1 i o = ((false, 0, 0), 5)) := hd (by intro h; unfold stepG; rw [if_neg hfl]; simp only [hob, hnx, h]; rfl)
  clear hob hnx hfl
  have hf := flowZ_bd h1 h4 h5
  obtain ⟨f1, f2⟩ := hf
  have h6 := h2
  simp only [gaB, Bool.and_eq_true, inB_iff] at h6
  obtain ⟨⟨p1, p2⟩, p3, p4⟩ := h6
  have s1 : Hid (IntKind.i64.wrap (p + flowZ wd sill i o) = p + flowZ wd sill i o) := hd (IntWalk.i64_in _ (by omega))
  have H1 := hd h1
  have H4 := hd h4
  have H5 := hd h5
  clear h1 h2 h4 h5
  go_enter Try.func63, Try.ntmps63
  go_upto_if 46 with fail
  go_cut [] from 47 to 54 (fun wx => wx.heap[w.heap.size + 1]? = some (Obj.cells #[Value.bool true, Value.int IntKind.i64 (p + flowZ wd sill i o), Value.int IntKind.i64 (m + 1)] 44 (0, 0)) ∧ wx.heap[w.heap.size + 1 + 1]? = some (Obj.cells #[Value.bool false, Value.int IntKind.i64 (0), Value.int IntKind.i64 (0)] 44 (0, 0)) ∧ Below w.heap.size w wx)
  case first =>
    go_wp2_with fail
    obtain ⟨g0, g1, g2, d0⟩ := three_blk w (Obj.cells #[Value.int IntKind.i64 wd, Value.int IntKind.i64 sill] 47) (Obj.cells #[Value.bool true, Value.int IntKind.i64 (p), Value.int IntKind.i64 (m + 1)] 44) (Obj.cells #[Value.bool false, Value.int IntKind.i64 (0), Value.int IntKind.i64 (0)] 44)
    generalize ((w.alloc (Obj.cells #[Value.int IntKind.i64 wd, Value.int IntKind.i64 sill] 47)).alloc (Obj.cells #[Value.bool true, Value.int IntKind.i64 (p), Value.int IntKind.i64 (m + 1)] 44)).alloc (Obj.cells #[Value.bool false, Value.int IntKind.i64 (0), Value.int IntKind.i64 (0)] 44) = W0 at g0 g1 g2 d0 ⊢
    have c00 := blk_cell g0 0
    have c01 := blk_cell g0 1
    have c11 := blk_cell g1 1
    have z11 := blk_free g1 1
    go_region_with (go_at_call 71; refine (flow_calls _ _ _ _ _ H1.out H4.out H5.out).mono ?_; rintro e w9 ⟨rfl, b9⟩; have q1 := (b9.block (w.heap.size + 1) (blk_lt g1)).trans g1; have q2 := (b9.block (w.heap.size + 1 + 1) (blk_lt g2)).trans g2; have c11' := blk_cell q1 1; have z11' := blk_free q1 1)
    all_goals
      have q3 := blk_set q1 1 (Value.int IntKind.i64 (IntKind.i64.wrap (p + flowZ wd sill i o)))
      have q4 := blk_far q2 (a := ⟨w.heap.size + 1, 1, none⟩) (by simp) (Value.int IntKind.i64 (IntKind.i64.wrap (p + flowZ wd sill i o)))
      have d4 := (d0.trans ((bdrew W0).trans (Below.mono b9 d0.size))).setCell (p := ⟨w.heap.size + 1, 1, none⟩) (by simp) (Value.int IntKind.i64 (IntKind.i64.wrap (p + flowZ wd sill i o)))
      clear q1 q2 c00 c01 c11 z11 c11' z11' g0 g1 g2
      go_wp2_with fail
      go_meet
      rw [s1.out] at q3 q4 d4
      rw [s1.out]
      exact ⟨by simpa using q3, q4, d4⟩
  case rest =>
    obtain ⟨r1, r2, d1⟩ := hcut
    have e0 := blk_cell r1 0
    have e1 := blk_cell r1 1
    have e2 := blk_cell r1 2
    have R1 := hd r1
    have R2 := hd r2
    clear r1 r2
    go_wp2_with fail
    refine (ValidGate_calls _ _ _ _).mono ?_
    rintro e w2 ⟨rfl, b2⟩
    have d2 := bnext d1 b2 (Nat.le_refl _)
    have q1 := blk_below R1.out b2 (blk_lt R1.out)
    have q2 := blk_below R2.out b2 (blk_lt R2.out)
    clear b2 e0 e1 e2 R1 R2
    have e0 := blk_cell q1 0
    have e1 := blk_cell q1 1
    have e2 := blk_cell q1 2
    have y0 := blk_cell q2 0
    have y1 := blk_cell q2 1
    have y2 := blk_cell q2 2
    have z0 := blk_free q2 0
    have z1 := blk_free q2 1
    have z2 := blk_free q2 2
    have Q2 := hd q2
    clear q1 q2
    cases hg : gaB (p + flowZ wd sill i o) (m + 1)
    · have K := hd (K0.out hg)
      clear hg K0 K1
      go_wp2_with fail
      refine bodyPost_ret (results_cell_tmp rfl _ _ _ _ _ _ _ rfl (blk_set3 Q2.out _ _ _) Try.underlying44 rfl (by kernel_rfl)) rfl ⟨?_, below_set3 d2 (by omega) _ _ _⟩
      rw [K.out]; rfl
    · have K := hd (K1.out hg)
      clear hg K0 K1
      go_wp2_with fail
      refine bodyPost_ret (results_cell_tmp rfl _ _ _ _ _ _ _ rfl (blk_set3 Q2.out _ _ _) Try.underlying44 rfl (by kernel_rfl)) rfl ⟨?_, below_set3 d2 (by omega) _ _ _⟩
      rw [K.out]; rfl
theorem step_1f0 (wd sill p m i o : Int) (w : World) (h1 : slB wd sill = true) (h2 : gaB p m = true) (h4 : lvB i = true) (h5 : lvB o = true) (hlt : i ≤ o) :
    Calls Try.prog 63 #[.agg #[.int .i64 wd, .int .i64 sill], .agg #[.bool false, .int .i64 p, .int .i64 m], .int .i64 1, .int .i64 i, .int .i64 o] w fun e w' => e = .returned (.tuple #[aggG (stepG wd sill (false, p, m) 1 i o).1, .int .i64 (stepG wd sill (false, p, m) 1 i o).2]) ∧ Below w.heap.size w w' := by
  have K := hd (show stepG wd sill (false, p, m) 1 i o = ((false, 0, 0), 10) by unfold stepG; rw [if_pos ⟨rfl, hlt⟩])
  clear h1 h2 h4 h5
  go_enter Try.func63, Try.ntmps63
  go_wp2_with fail
  obtain ⟨g0, g1, g2, d0⟩ := three_blk w (Obj.cells #[Value.int IntKind.i64 wd, Value.int IntKind.i64 sill] 47) (Obj.cells #[Value.bool false, Value.int IntKind.i64 (p), Value.int IntKind.i64 (m)] 44) (Obj.cells #[Value.bool false, Value.int IntKind.i64 (0), Value.int IntKind.i64 (0)] 44)
  refine bodyPost_ret (results_cell_tmp rfl _ _ _ _ _ _ _ rfl g2 Try.underlying44 rfl (by kernel_rfl)) rfl ⟨?_, d0⟩
  rw [K.out]; rfl
theorem step_2t1 (wd sill p m i o : Int) (w : World) (h1 : slB wd sill = true) (h2 : gaB p m = true) (h4 : lvB i = true) (h5 : lvB o = true) (hlt : o < i) :
    Calls Try.prog 63 #[.agg #[.int .i64 wd, .int .i64 sill], .agg #[.bool true, .int .i64 p, .int .i64 m], .int .i64 2, .int .i64 i, .int .i64 o] w fun e w' => e = .returned (.tuple #[aggG (stepG wd sill (true, p, m) 2 i o).1, .int .i64 (stepG wd sill (true, p, m) 2 i o).2]) ∧ Below w.heap.size w w' := by
  have hob : openB true 2 i o = false := by simp [openB, hlt]
  have hnx : nextG wd sill (true, p, m) false i o = (false, p, m + 1) := rfl
  have hfl : ¬ ((2 : Int) = 1 ∧ i ≤ o) := by omega
  have K1 : Hid (gaB (p) (m + 1) = true → stepG wd sill (true, p, m) 2 i o = ((false, p, m + 1), 0)) := hd (by intro h; unfold stepG; rw [if_neg hfl]; simp only [hob, hnx, h, if_true])
  have K0 : Hid (gaB (p) (m + 1) = false → stepG wd sill (true, p, m) 2 i o = ((false, 0, 0), 5)) := hd (by intro h; unfold stepG; rw [if_neg hfl]; simp only [hob, hnx, h]; rfl)
  clear hob hnx hfl
  have hf := flowZ_bd h1 h4 h5
  obtain ⟨f1, f2⟩ := hf
  have h6 := h2
  simp only [gaB, Bool.and_eq_true, inB_iff] at h6
  obtain ⟨⟨p1, p2⟩, p3, p4⟩ := h6
  have s1 : Hid (IntKind.i64.wrap (p + flowZ wd sill i o) = p + flowZ wd sill i o) := hd (IntWalk.i64_in _ (by omega))
  have H1 := hd h1
  have H4 := hd h4
  have H5 := hd h5
  clear h1 h2 h4 h5
  go_enter Try.func63, Try.ntmps63
  go_upto_if 46 with fail
  go_cut [] from 47 to 54 (fun wx => wx.heap[w.heap.size + 1]? = some (Obj.cells #[Value.bool false, Value.int IntKind.i64 (p), Value.int IntKind.i64 (m + 1)] 44 (0, 0)) ∧ wx.heap[w.heap.size + 1 + 1]? = some (Obj.cells #[Value.bool false, Value.int IntKind.i64 (0), Value.int IntKind.i64 (0)] 44 (0, 0)) ∧ Below w.heap.size w wx)
  case first =>
    go_wp2_with fail
    go_meet
    obtain ⟨g0, g1, g2, d0⟩ := three_blk w (Obj.cells #[Value.int IntKind.i64 wd, Value.int IntKind.i64 sill] 47) (Obj.cells #[Value.bool false, Value.int IntKind.i64 (p), Value.int IntKind.i64 (m + 1)] 44) (Obj.cells #[Value.bool false, Value.int IntKind.i64 (0), Value.int IntKind.i64 (0)] 44)
    exact ⟨g1, g2, d0⟩
  case rest =>
    obtain ⟨r1, r2, d1⟩ := hcut
    have e0 := blk_cell r1 0
    have e1 := blk_cell r1 1
    have e2 := blk_cell r1 2
    have R1 := hd r1
    have R2 := hd r2
    clear r1 r2
    go_wp2_with fail
    refine (ValidGate_calls _ _ _ _).mono ?_
    rintro e w2 ⟨rfl, b2⟩
    have d2 := bnext d1 b2 (Nat.le_refl _)
    have q1 := blk_below R1.out b2 (blk_lt R1.out)
    have q2 := blk_below R2.out b2 (blk_lt R2.out)
    clear b2 e0 e1 e2 R1 R2
    have e0 := blk_cell q1 0
    have e1 := blk_cell q1 1
    have e2 := blk_cell q1 2
    have y0 := blk_cell q2 0
    have y1 := blk_cell q2 1
    have y2 := blk_cell q2 2
    have z0 := blk_free q2 0
    have z1 := blk_free q2 1
    have z2 := blk_free q2 2
    have Q2 := hd q2
    clear q1 q2
    cases hg : gaB (p) (m + 1)
    · have K := hd (K0.out hg)
      clear hg K0 K1
      go_wp2_with fail
      refine bodyPost_ret (results_cell_tmp rfl _ _ _ _ _ _ _ rfl (blk_set3 Q2.out _ _ _) Try.underlying44 rfl (by kernel_rfl)) rfl ⟨?_, below_set3 d2 (by omega) _ _ _⟩
      rw [K.out]; rfl
    · have K := hd (K1.out hg)
      clear hg K0 K1
      go_wp2_with fail
      refine bodyPost_ret (results_cell_tmp rfl _ _ _ _ _ _ _ rfl (blk_set3 Q2.out _ _ _) Try.underlying44 rfl (by kernel_rfl)) rfl ⟨?_, below_set3 d2 (by omega) _ _ _⟩
      rw [K.out]; rfl
theorem step_2t0 (wd sill p m i o : Int) (w : World) (h1 : slB wd sill = true) (h2 : gaB p m = true) (h4 : lvB i = true) (h5 : lvB o = true) (hlt : i ≤ o) :
    Calls Try.prog 63 #[.agg #[.int .i64 wd, .int .i64 sill], .agg #[.bool true, .int .i64 p, .int .i64 m], .int .i64 2, .int .i64 i, .int .i64 o] w fun e w' => e = .returned (.tuple #[aggG (stepG wd sill (true, p, m) 2 i o).1, .int .i64 (stepG wd sill (true, p, m) 2 i o).2]) ∧ Below w.heap.size w w' := by
  have hob : openB true 2 i o = false := by simp [openB, Int.not_lt.2 hlt]
  have hnx : nextG wd sill (true, p, m) false i o = (false, p, m + 1) := rfl
  have hfl : ¬ ((2 : Int) = 1 ∧ i ≤ o) := by omega
  have K1 : Hid (gaB (p) (m + 1) = true → stepG wd sill (true, p, m) 2 i o = ((false, p, m + 1), 0)) := hd (by intro h; unfold stepG; rw [if_neg hfl]; simp only [hob, hnx, h, if_true])
  have K0 : Hid (gaB (p) (m + 1) = false → stepG wd sill (true, p, m) 2 i o = ((false, 0, 0), 5)) := hd (by intro h; unfold stepG; rw [if_neg hfl]; simp only [hob, hnx, h]; rfl)
  clear hob hnx hfl
  have hf := flowZ_bd h1 h4 h5
  obtain ⟨f1, f2⟩ := hf
  have h6 := h2
  simp only [gaB, Bool.and_eq_true, inB_iff] at h6
  obtain ⟨⟨p1, p2⟩, p3, p4⟩ := h6
  have s1 : Hid (IntKind.i64.wrap (p + flowZ wd sill i o) = p + flowZ wd sill i o) := hd (IntWalk.i64_in _ (by omega))
  have H1 := hd h1
  have H4 := hd h4
  have H5 := hd h5
  clear h1 h2 h4 h5
  go_enter Try.func63, Try.ntmps63
  go_upto_if 46 with fail
  go_cut [] from 47 to 54 (fun wx => wx.heap[w.heap.size + 1]? = some (Obj.cells #[Value.bool false, Value.int IntKind.i64 (p), Value.int IntKind.i64 (m + 1)] 44 (0, 0)) ∧ wx.heap[w.heap.size + 1 + 1]? = some (Obj.cells #[Value.bool false, Value.int IntKind.i64 (0), Value.int IntKind.i64 (0)] 44 (0, 0)) ∧ Below w.heap.size w wx)
  case first =>
    go_wp2_with fail
    go_meet
    obtain ⟨g0, g1, g2, d0⟩ := three_blk w (Obj.cells #[Value.int IntKind.i64 wd, Value.int IntKind.i64 sill] 47) (Obj.cells #[Value.bool false, Value.int IntKind.i64 (p), Value.int IntKind.i64 (m + 1)] 44) (Obj.cells #[Value.bool false, Value.int IntKind.i64 (0), Value.int IntKind.i64 (0)] 44)
    exact ⟨g1, g2, d0⟩
  case rest =>
    obtain ⟨r1, r2, d1⟩ := hcut
    have e0 := blk_cell r1 0
    have e1 := blk_cell r1 1
    have e2 := blk_cell r1 2
    have R1 := hd r1
    have R2 := hd r2
    clear r1 r2
    go_wp2_with fail
    refine (ValidGate_calls _ _ _ _).mono ?_
    rintro e w2 ⟨rfl, b2⟩
    have d2 := bnext d1 b2 (Nat.le_refl _)
    have q1 := blk_below R1.out b2 (blk_lt R1.out)
    have q2 := blk_below R2.out b2 (blk_lt R2.out)
    clear b2 e0 e1 e2 R1 R2
    have e0 := blk_cell q1 0
    have e1 := blk_cell q1 1
    have e2 := blk_cell q1 2
    have y0 := blk_cell q2 0
    have y1 := blk_cell q2 1
    have y2 := blk_cell q2 2
    have z0 := blk_free q2 0
    have z1 := blk_free q2 1
    have z2 := blk_free q2 2
    have Q2 := hd q2
    clear q1 q2
    cases hg : gaB (p) (m + 1)
    · have K := hd (K0.out hg)
      clear hg K0 K1
      go_wp2_with fail
      refine bodyPost_ret (results_cell_tmp rfl _ _ _ _ _ _ _ rfl (blk_set3 Q2.out _ _ _) Try.underlying44 rfl (by kernel_rfl)) rfl ⟨?_, below_set3 d2 (by omega) _ _ _⟩
      rw [K.out]; rfl
    · have K := hd (K1.out hg)
      clear hg K0 K1
      go_wp2_with fail
      refine bodyPost_ret (results_cell_tmp rfl _ _ _ _ _ _ _ rfl (blk_set3 Q2.out _ _ _) Try.underlying44 rfl (by kernel_rfl)) rfl ⟨?_, below_set3 d2 (by omega) _ _ _⟩
      rw [K.out]; rfl
theorem step_2f1 (wd sill p m i o : Int) (w : World) (h1 : slB wd sill = true) (h2 : gaB p m = true) (h4 : lvB i = true) (h5 : lvB o = true) (hlt : o < i) :
    Calls Try.prog 63 #[.agg #[.int .i64 wd, .int .i64 sill], .agg #[.bool false, .int .i64 p, .int .i64 m], .int .i64 2, .int .i64 i, .int .i64 o] w fun e w' => e = .returned (.tuple #[aggG (stepG wd sill (false, p, m) 2 i o).1, .int .i64 (stepG wd sill (false, p, m) 2 i o).2]) ∧ Below w.heap.size w w' := by
  have hob : openB false 2 i o = false := by simp [openB, hlt]
  have hnx : nextG wd sill (false, p, m) false i o = (false, p, m) := rfl
  have hfl : ¬ ((2 : Int) = 1 ∧ i ≤ o) := by omega
  have K1 : Hid (gaB (p) (m) = true → stepG wd sill (false, p, m) 2 i o = ((false, p, m), 0)) := hd (by intro h; unfold stepG; rw [if_neg hfl]; simp only [hob, hnx, h, if_true])
  have K0 : Hid (gaB (p) (m) = false → stepG wd sill (false, p, m) 2 i o = ((false, 0, 0), 5)) := hd (by intro h; unfold stepG; rw [if_neg hfl]; simp only [hob, hnx, h]; rfl)
  clear hob hnx hfl
  have hf := flowZ_bd h1 h4 h5
  obtain ⟨f1, f2⟩ := hf
  have h6 := h2
  simp only [gaB, Bool.and_eq_true, inB_iff] at h6
  obtain ⟨⟨p1, p2⟩, p3, p4⟩ := h6
  have s1 : Hid (IntKind.i64.wrap (p + flowZ wd sill i o) = p + flowZ wd sill i o) := hd (IntWalk.i64_in _ (by omega))
  have H1 := hd h1
  have H4 := hd h4
  have H5 := hd h5
  clear h1 h2 h4 h5
  go_enter Try.func63, Try.ntmps63
  go_upto_if 46 with fail
  go_cut [] from 47 to 54 (fun wx => wx.heap[w.heap.size + 1]? = some (Obj.cells #[Value.bool false, Value.int IntKind.i64 (p), Value.int IntKind.i64 (m)] 44 (0, 0)) ∧ wx.heap[w.heap.size + 1 + 1]? = some (Obj.cells #[Value.bool false, Value.int IntKind.i64 (0), Value.int IntKind.i64 (0)] 44 (0, 0)) ∧ Below w.heap.size w wx)
  case first =>
    go_wp2_with fail
    go_meet
    obtain ⟨g0, g1, g2, d0⟩ := three_blk w (Obj.cells #[Value.int IntKind.i64 wd, Value.int IntKind.i64 sill] 47) (Obj.cells #[Value.bool false, Value.int IntKind.i64 (p), Value.int IntKind.i64 (m)] 44) (Obj.cells #[Value.bool false, Value.int IntKind.i64 (0), Value.int IntKind.i64 (0)] 44)
    exact ⟨g1, g2, d0⟩
  case rest =>
    obtain ⟨r1, r2, d1⟩ := hcut
    have e0 := blk_cell r1 0
    have e1 := blk_cell r1 1
    have e2 := blk_cell r1 2
    have R1 := hd r1
    have R2 := hd r2
    clear r1 r2
    go_wp2_with fail
    refine (ValidGate_calls _ _ _ _).mono ?_
    rintro e w2 ⟨rfl, b2⟩
    have d2 := bnext d1 b2 (Nat.le_refl _)
    have q1 := blk_below R1.out b2 (blk_lt R1.out)
    have q2 := blk_below R2.out b2 (blk_lt R2.out)
    clear b2 e0 e1 e2 R1 R2
    have e0 := blk_cell q1 0
    have e1 := blk_cell q1 1
    have e2 := blk_cell q1 2
    have y0 := blk_cell q2 0
    have y1 := blk_cell q2 1
    have y2 := blk_cell q2 2
    have z0 := blk_free q2 0
    have z1 := blk_free q2 1
    have z2 := blk_free q2 2
    have Q2 := hd q2
    clear q1 q2
    cases hg : gaB (p) (m)
    · have K := hd (K0.out hg)
      clear hg K0 K1
      go_wp2_with fail
      refine bodyPost_ret (results_cell_tmp rfl _ _ _ _ _ _ _ rfl (blk_set3 Q2.out _ _ _) Try.underlying44 rfl (by kernel_rfl)) rfl ⟨?_, below_set3 d2 (by omega) _ _ _⟩
      rw [K.out]; rfl
    · have K := hd (K1.out hg)
      clear hg K0 K1
      go_wp2_with fail
      refine bodyPost_ret (results_cell_tmp rfl _ _ _ _ _ _ _ rfl (blk_set3 Q2.out _ _ _) Try.underlying44 rfl (by kernel_rfl)) rfl ⟨?_, below_set3 d2 (by omega) _ _ _⟩
      rw [K.out]; rfl
theorem step_2f0 (wd sill p m i o : Int) (w : World) (h1 : slB wd sill = true) (h2 : gaB p m = true) (h4 : lvB i = true) (h5 : lvB o = true) (hlt : i ≤ o) :
    Calls Try.prog 63 #[.agg #[.int .i64 wd, .int .i64 sill], .agg #[.bool false, .int .i64 p, .int .i64 m], .int .i64 2, .int .i64 i, .int .i64 o] w fun e w' => e = .returned (.tuple #[aggG (stepG wd sill (false, p, m) 2 i o).1, .int .i64 (stepG wd sill (false, p, m) 2 i o).2]) ∧ Below w.heap.size w w' := by
  have hob : openB false 2 i o = false := by simp [openB, Int.not_lt.2 hlt]
  have hnx : nextG wd sill (false, p, m) false i o = (false, p, m) := rfl
  have hfl : ¬ ((2 : Int) = 1 ∧ i ≤ o) := by omega
  have K1 : Hid (gaB (p) (m) = true → stepG wd sill (false, p, m) 2 i o = ((false, p, m), 0)) := hd (by intro h; unfold stepG; rw [if_neg hfl]; simp only [hob, hnx, h, if_true])
  have K0 : Hid (gaB (p) (m) = false → stepG wd sill (false, p, m) 2 i o = ((false, 0, 0), 5)) := hd (by intro h; unfold stepG; rw [if_neg hfl]; simp only [hob, hnx, h]; rfl)
  clear hob hnx hfl
  have hf := flowZ_bd h1 h4 h5
  obtain ⟨f1, f2⟩ := hf
  have h6 := h2
  simp only [gaB, Bool.and_eq_true, inB_iff] at h6
  obtain ⟨⟨p1, p2⟩, p3, p4⟩ := h6
  have s1 : Hid (IntKind.i64.wrap (p + flowZ wd sill i o) = p + flowZ wd sill i o) := hd (IntWalk.i64_in _ (by omega))
  have H1 := hd h1
  have H4 := hd h4
  have H5 := hd h5
  clear h1 h2 h4 h5
  go_enter Try.func63, Try.ntmps63
  go_upto_if 46 with fail
  go_cut [] from 47 to 54 (fun wx => wx.heap[w.heap.size + 1]? = some (Obj.cells #[Value.bool false, Value.int IntKind.i64 (p), Value.int IntKind.i64 (m)] 44 (0, 0)) ∧ wx.heap[w.heap.size + 1 + 1]? = some (Obj.cells #[Value.bool false, Value.int IntKind.i64 (0), Value.int IntKind.i64 (0)] 44 (0, 0)) ∧ Below w.heap.size w wx)
  case first =>
    go_wp2_with fail
    go_meet
    obtain ⟨g0, g1, g2, d0⟩ := three_blk w (Obj.cells #[Value.int IntKind.i64 wd, Value.int IntKind.i64 sill] 47) (Obj.cells #[Value.bool false, Value.int IntKind.i64 (p), Value.int IntKind.i64 (m)] 44) (Obj.cells #[Value.bool false, Value.int IntKind.i64 (0), Value.int IntKind.i64 (0)] 44)
    exact ⟨g1, g2, d0⟩
  case rest =>
    obtain ⟨r1, r2, d1⟩ := hcut
    have e0 := blk_cell r1 0
    have e1 := blk_cell r1 1
    have e2 := blk_cell r1 2
    have R1 := hd r1
    have R2 := hd r2
    clear r1 r2
    go_wp2_with fail
    refine (ValidGate_calls _ _ _ _).mono ?_
    rintro e w2 ⟨rfl, b2⟩
    have d2 := bnext d1 b2 (Nat.le_refl _)
    have q1 := blk_below R1.out b2 (blk_lt R1.out)
    have q2 := blk_below R2.out b2 (blk_lt R2.out)
    clear b2 e0 e1 e2 R1 R2
    have e0 := blk_cell q1 0
    have e1 := blk_cell q1 1
    have e2 := blk_cell q1 2
    have y0 := blk_cell q2 0
    have y1 := blk_cell q2 1
    have y2 := blk_cell q2 2
    have z0 := blk_free q2 0
    have z1 := blk_free q2 1
    have z2 := blk_free q2 2
    have Q2 := hd q2
    clear q1 q2
    cases hg : gaB (p) (m)
    · have K := hd (K0.out hg)
      clear hg K0 K1
      go_wp2_with fail
      refine bodyPost_ret (results_cell_tmp rfl _ _ _ _ _ _ _ rfl (blk_set3 Q2.out _ _ _) Try.underlying44 rfl (by kernel_rfl)) rfl ⟨?_, below_set3 d2 (by omega) _ _ _⟩
      rw [K.out]; rfl
    · have K := hd (K1.out hg)
      clear hg K0 K1
      go_wp2_with fail
      refine bodyPost_ret (results_cell_tmp rfl _ _ _ _ _ _ _ rfl (blk_set3 Q2.out _ _ _) Try.underlying44 rfl (by kernel_rfl)) rfl ⟨?_, below_set3 d2 (by omega) _ _ _⟩
      rw [K.out]; rfl
theorem step_calls (wd sill : Int) (op : Bool) (p m order i o : Int) (w : World) (h1 : slB wd sill = true) (h2 : gaB p m = true) (h3 : orB order = true) (h4 : lvB i = true) (h5 : lvB o = true) :
    Calls Try.prog 63 #[.agg #[.int .i64 wd, .int .i64 sill], .agg #[.bool op, .int .i64 p, .int .i64 m], .int .i64 order, .int .i64 i, .int .i64 o] w fun e w' => e = .returned (.tuple #[aggG (stepG wd sill (op, p, m) order i o).1, .int .i64 (stepG wd sill (op, p, m) order i o).2]) ∧ Below w.heap.size w w' := by
  unfold orB at h3
  rw [inB_iff] at h3
  have hc : order = 0 ∨ order = 1 ∨ order = 2 := by omega
  by_cases hlt : o < i
  · rcases hc with rfl | rfl | rfl <;> cases op
    · exact step_0f1 wd sill p m i o w h1 h2 h4 h5 hlt
    · exact step_0t1 wd sill p m i o w h1 h2 h4 h5 hlt
    · exact step_1f1 wd sill p m i o w h1 h2 h4 h5 hlt
    · exact step_1t1 wd sill p m i o w h1 h2 h4 h5 hlt
    · exact step_2f1 wd sill p m i o w h1 h2 h4 h5 hlt
    · exact step_2t1 wd sill p m i o w h1 h2 h4 h5 hlt
  · have hle : i ≤ o := by omega
    rcases hc with rfl | rfl | rfl <;> cases op
    · exact step_0f0 wd sill p m i o w h1 h2 h4 h5 hle
    · exact step_0t0 wd sill p m i o w h1 h2 h4 h5 hle
    · exact step_1f0 wd sill p m i o w h1 h2 h4 h5 hle
    · exact step_1t0 wd sill p m i o w h1 h2 h4 h5 hle
    · exact step_2f0 wd sill p m i o w h1 h2 h4 h5 hle
    · exact step_2t0 wd sill p m i o w h1 h2 h4 h5 hle
end Go.Proofs.Ytppkljhnmifilaa
