/- More lemmas on worlds: blocks known whole, results that lie in a cell. No program in sight. -/
import Derived.Test.YtbbnjddgioaoeaaDoorAux
namespace Go.Proofs.YtbbnjddgioaoeaaDoor
open Go.RowKit
set_option linter.unusedVariables false

theorem blk_far {w : World} {g : Nat} {O : Obj} (h : w.heap[g]? = some O) {a : Addr} (hne : g ≠ a.block) (v : Value) : (w.setCell a v).heap[g]? = some O := (Below.heap_setCell w a v g hne).trans h
theorem blk_set2 {w : World} {g : Nat} {E : TypeId} {v0 v1 : Value} (h : w.heap[g]? = some (.cells #[v0, v1] E (0, 0))) (u0 u1 : Value) :
    ((w.setCell ⟨g, 0, none⟩ u0).setCell ⟨g, 1, none⟩ u1).heap[g]? = some (.cells #[u0, u1] E (0, 0)) := by
  have := blk_set (blk_set h 0 u0) 1 u1
  simpa using this
theorem blk_set3 {w : World} {g : Nat} {E : TypeId} {v0 v1 v2 : Value} (h : w.heap[g]? = some (.cells #[v0, v1, v2] E (0, 0))) (u0 u1 u2 : Value) :
    (((w.setCell ⟨g, 0, none⟩ u0).setCell ⟨g, 1, none⟩ u1).setCell ⟨g, 2, none⟩ u2).heap[g]? = some (.cells #[u0, u1, u2] E (0, 0)) := by
  have := blk_set (blk_set (blk_set h 0 u0) 1 u1) 2 u2
  simpa using this
theorem blk_set5 {w : World} {g : Nat} {E : TypeId} {v0 v1 v2 v3 v4 : Value} (h : w.heap[g]? = some (.cells #[v0, v1, v2, v3, v4] E (0, 0))) (u0 u1 u2 u3 u4 : Value) :
    (((((w.setCell ⟨g, 0, none⟩ u0).setCell ⟨g, 1, none⟩ u1).setCell ⟨g, 2, none⟩ u2).setCell ⟨g, 3, none⟩ u3).setCell ⟨g, 4, none⟩ u4).heap[g]? = some (.cells #[u0, u1, u2, u3, u4] E (0, 0)) := by
  have := blk_set (blk_set (blk_set (blk_set (blk_set h 0 u0) 1 u1) 2 u2) 3 u3) 4 u4
  simpa using this
theorem below_set2 {B : Nat} {a w : World} (h : Below B a w) {g : Nat} (hg : B ≤ g) (u0 u1 : Value) : Below B a ((w.setCell ⟨g, 0, none⟩ u0).setCell ⟨g, 1, none⟩ u1) := (h.setCell hg _).setCell hg _
theorem below_set3 {B : Nat} {a w : World} (h : Below B a w) {g : Nat} (hg : B ≤ g) (u0 u1 u2 : Value) : Below B a (((w.setCell ⟨g, 0, none⟩ u0).setCell ⟨g, 1, none⟩ u1).setCell ⟨g, 2, none⟩ u2) := (below_set2 h hg _ _).setCell hg _
theorem below_set5 {B : Nat} {a w : World} (h : Below B a w) {g : Nat} (hg : B ≤ g) (u0 u1 u2 u3 u4 : Value) : Below B a (((((w.setCell ⟨g, 0, none⟩ u0).setCell ⟨g, 1, none⟩ u1).setCell ⟨g, 2, none⟩ u2).setCell ⟨g, 3, none⟩ u3).setCell ⟨g, 4, none⟩ u4) := ((below_set3 h hg _ _ _).setCell hg _).setCell hg _

theorem blk_far5 {w : World} {g g' : Nat} {O : Obj} (h : w.heap[g]? = some O) (hne : g ≠ g') (u0 u1 u2 u3 u4 : Value) : (((((w.setCell ⟨g', 0, none⟩ u0).setCell ⟨g', 1, none⟩ u1).setCell ⟨g', 2, none⟩ u2).setCell ⟨g', 3, none⟩ u3).setCell ⟨g', 4, none⟩ u4).heap[g]? = some O :=
  blk_far (blk_far (blk_far (blk_far (blk_far h (a := ⟨g', 0, none⟩) hne _) (a := ⟨g', 1, none⟩) hne _) (a := ⟨g', 2, none⟩) hne _) (a := ⟨g', 3, none⟩) hne _) (a := ⟨g', 4, none⟩) hne _
theorem blk_far3 {w : World} {g g' : Nat} {O : Obj} (h : w.heap[g]? = some O) (hne : g ≠ g') (u0 u1 u2 : Value) : (((w.setCell ⟨g', 0, none⟩ u0).setCell ⟨g', 1, none⟩ u1).setCell ⟨g', 2, none⟩ u2).heap[g]? = some O :=
  blk_far (blk_far (blk_far h (a := ⟨g', 0, none⟩) hne _) (a := ⟨g', 1, none⟩) hne _) (a := ⟨g', 2, none⟩) hne _
theorem ret_sli {A : Option Addr} {n c : Nat} {x y : Int} (h : x = y) : Ending.returned (.tuple #[.slice A n c, .int .i64 x]) = .returned (.tuple #[.slice A n c, .int .i64 y]) := by rw [h]
theorem box_q {w w1 : World} {O : Obj} (h : Below (w.alloc O).heap.size (w.alloc O) w1) : w1.heap[w.heap.size]? = some O := blk_below (heap_alloc_new w O) h (by simp)
theorem results_cell_tmp {P : Program} {fn : Func} {p u : Tmp} {ty : TypeId} (h : fn.results = #[.cell p ty, .tmp u]) (tmps : Array Value) (w : World) (g : Nat) (t : TypeId) (cs : Array Value) (fr : Nat × Nat) (d : TypeDesc)
    (hp : tmps.getD p undef = .pointer (some ⟨g, 0, none⟩)) (hg : w.heap[g]? = some (.cells cs t fr))
    (hu : P.underlying ty = some d) (hd : (match d with | .struct _ | .array _ _ => true | _ => false) = true) (hi : (P.info? ty).map (·.size) = some cs.size) :
    (results fn tmps).run P w = .ok (.tuple #[.agg cs, tmps.getD u undef]) w := by
  have hp' : tmps[p]?.getD undef = .pointer (some ⟨g, 0, none⟩) := by simpa using hp
  simp [results, h, hp', asAddr, run_loadVar_row w g t ty cs fr d hg hu hd hi]
theorem results_tmp4 {P : Program} {fn : Func} {t u v x : Tmp} (h : fn.results = #[.tmp t, .tmp u, .tmp v, .tmp x]) (tmps : Array Value) (w : World) :
    (results fn tmps).run P w = .ok (.tuple #[tmps.getD t undef, tmps.getD u undef, tmps.getD v undef, tmps.getD x undef]) w := by simp [results, h]
end Go.Proofs.YtbbnjddgioaoeaaDoor
