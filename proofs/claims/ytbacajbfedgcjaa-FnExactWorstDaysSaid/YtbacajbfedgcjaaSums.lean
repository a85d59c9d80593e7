/- The sums of all days. -/
import Derived.Test.YtbacajbfedgcjaaDays
import Derived.Test.YtbacajbfedgcjaaAux2
import Derived.RegionTactic
namespace Go.Proofs.Ytbacajbfedgcjaa
open Go.RowKit
set_option linter.unusedVariables false

def add5 (a x : W5) : W5 := (a.1 + x.1, a.2.1 + x.2.1, a.2.2.1 + x.2.2.1, a.2.2.2.1 + x.2.2.2.1, a.2.2.2.2 + x.2.2.2.2)
def sumF (xs : List W5) : W5 := xs.foldl add5 (0, 0, 0, 0, 0)
theorem sumF_next {xs : List W5} {k : Nat} {x : W5} (h : xs[k]? = some x) : sumF (xs.take (k + 1)) = add5 (sumF (xs.take k)) x := by
  rw [take_next h]; unfold sumF; rw [List.foldl_append]; rfl
/-- Each sum of k valid days. -/
def Sb (k : Nat) (a : W5) : Prop := (0 ≤ a.1 ∧ a.1 ≤ k * 10000000) ∧ (0 ≤ a.2.1 ∧ a.2.1 ≤ k * 10000000) ∧ (0 ≤ a.2.2.1 ∧ a.2.2.1 ≤ k * 10000000) ∧ (0 ≤ a.2.2.2.1 ∧ a.2.2.2.1 ≤ k * 10000000) ∧ (0 ≤ a.2.2.2.2 ∧ a.2.2.2.2 ≤ k * 10000000)
theorem all_get {α : Type} {xs : List α} {p : α → Bool} (h : xs.all p = true) {k : Nat} {x : α} (hx : xs[k]? = some x) : p x = true := List.all_eq_true.1 h x (List.mem_of_getElem? hx)
theorem sumF_bd {xs : List W5} (h : xs.all waB = true) : ∀ k, k ≤ xs.length → Sb k (sumF (xs.take k)) := by
  intro k
  induction k with
  | zero => intro _; simp [sumF, Sb]
  | succ k ih =>
    intro hk
    have hx := List.getElem?_eq_getElem (show k < xs.length by omega)
    have hw := all_get h hx
    rw [sumF_next hx]
    have hi := ih (by omega)
    generalize sumF (xs.take k) = a at hi ⊢
    generalize xs[k] = x at hw ⊢
    obtain ⟨x0, x1, x2, x3, x4⟩ := x
    obtain ⟨a0, a1, a2, a3, a4⟩ := a
    obtain ⟨⟨h1, h2⟩, ⟨h3, h4⟩, ⟨h5, h6⟩, ⟨h7, h8⟩, h9, h10⟩ := waB_bd hw
    simp only [Sb, add5] at hi ⊢
    omega

theorem sumOf_calls (a : Option Addr) (n c : Nat) (xs : List W5) (w : World) (hr : RdWater w a n xs) (hv : xs.all waB = true) (hn : n ≤ 100) :
    Calls Try.prog 53 #[.slice a n c] w fun e w' => e = .returned (.agg #[.int .i64 (sumF xs).1, .int .i64 (sumF xs).2.1, .int .i64 (sumF xs).2.2.1, .int .i64 (sumF xs).2.2.2.1, .int .i64 (sumF xs).2.2.2.2]) ∧ Below w.heap.size w w' := by
  have Hl := hd hr.len
  have Hv := hd hv
  clear hv
  go_enter Try.func53, Try.ntmps53
  go_wp2_with fail
  go_loopw [9] (fun i wr => ∃ k : Nat, ∃ a0 a1 a2 a3 a4 : Int, k ≤ n ∧ i = .int .i64 k ∧ sumF (xs.take k) = (a0, a1, a2, a3, a4) ∧ wr.heap[w.heap.size]? = some (.cells #[.int .i64 0, .int .i64 0, .int .i64 0, .int .i64 0, .int .i64 0] 25 (0, 0)) ∧
    wr.heap[w.heap.size + 1]? = some (.cells #[.int .i64 a0, .int .i64 a1, .int .i64 a2, .int .i64 a3, .int .i64 a4] 25 (0, 0)) ∧ Below w.heap.size w wr) (fun i _ => n - (intOf i).toNat)
  case atStart => exact ⟨0, 0, 0, 0, 0, 0, Nat.zero_le _, rfl, rfl, heap_alloc2_old _ _ _, heap_alloc2_new _ _ _, by go_grown⟩
  case round =>
    obtain ⟨k, a0, a1, a2, a3, a4, hk, rfl, hs, hg0, hg1, hb⟩ := hrel
    have hbd := sumF_bd Hv.out k (by rw [Hl.out]; exact hk)
    rw [hs] at hbd
    simp only [Sb] at hbd
    obtain ⟨⟨p0, q0⟩, ⟨p1, q1⟩, ⟨p2, q2⟩, ⟨p3, q3⟩, p4, q4⟩ := hbd
    have Hs := hd hs
    have Hg0 := hd hg0
    have Hg1 := hd hg1
    have hl0 := blk_lt hg0
    have hl1 := blk_lt hg1
    clear hs hg0 hg1
    by_cases hlt : k < n
    · obtain ⟨b, o, f0, f1, f2, f3, f4, rfl, hbl, hx, hc0, hc1, hc2, hc3, hc4⟩ := getWater (hr.below hb) hlt
      obtain ⟨⟨r1, r2⟩, ⟨r3, r4⟩, ⟨r5, r6⟩, ⟨r7, r8⟩, r9, r10⟩ := waB_bd (all_get Hv.out hx)
      have Hx := hd hx
      clear hx
      have d0 := blk_cell Hg1.out 0
      have d1 := blk_cell Hg1.out 1
      have d2 := blk_cell Hg1.out 2
      have d3 := blk_cell Hg1.out 3
      have d4 := blk_cell Hg1.out 4
      have z0 := blk_free Hg1.out 0
      have z1 := blk_free Hg1.out 1
      have z2 := blk_free Hg1.out 2
      have z3 := blk_free Hg1.out 3
      have z4 := blk_free Hg1.out 4
      go_wp2_with fail
      go_roundw
      case rel => exact ⟨k + 1, _, _, _, _, _, by omega, by go_num, by rw [sumF_next Hx.out, Hs.out]; rfl, blk_alloc (blk_far (blk_far (blk_far (blk_far (blk_far Hg0.out (by simp) _) (by simp) _) (by simp) _) (by simp) _) (by simp) _) _, blk_alloc (blk_set5 Hg1.out _ _ _ _ _) _,
        (below_set5 hb (by simp) _ _ _ _ _).alloc (by simpa using hb.size) _⟩
      case measure => simp [intOf]; omega
    · obtain rfl : k = n := by omega
      have d0 := blk_cell Hg1.out 0
      have d1 := blk_cell Hg1.out 1
      have d2 := blk_cell Hg1.out 2
      have d3 := blk_cell Hg1.out 3
      have d4 := blk_cell Hg1.out 4
      have e0 := blk_cell Hg0.out 0
      have e1 := blk_cell Hg0.out 1
      have e2 := blk_cell Hg0.out 2
      have e3 := blk_cell Hg0.out 3
      have e4 := blk_cell Hg0.out 4
      have z0 := blk_free Hg0.out 0
      have z1 := blk_free Hg0.out 1
      have z2 := blk_free Hg0.out 2
      have z3 := blk_free Hg0.out 3
      have z4 := blk_free Hg0.out 4
      go_wp2_with fail
      have e : sumF xs = (a0, a1, a2, a3, a4) := by rw [← Hs.out, List.take_of_length_le (by rw [Hl.out]; exact Nat.le_refl _)]
      exact bodyPost_ret (results_cell_row rfl _ _ _ _ _ _ _ rfl (blk_set5 Hg0.out _ _ _ _ _) Try.underlying25 rfl (by kernel_rfl)) rfl ⟨by rw [e], below_set5 hb (Nat.le_refl _) _ _ _ _ _⟩
end Go.Proofs.Ytbacajbfedgcjaa
