/- The sums of all days: the reference. -/
import Derived.Test.YtbacajbfedgcjaaSums
import Derived.RegionTactic
import Derived.BigRegion
namespace Go.Proofs.Ytbacajbfedgcjaa
open Go.RowKit
set_option linter.unusedVariables false

set_option maxHeartbeats 1000000 in
theorem l13Sum_calls (a : Option Addr) (n c : Nat) (xs : List W5) (w : World) (hr : RdWater w a n xs) (hv : xs.all waB = true) (hn : n ≤ 100) :
    Calls Try.prog 51 #[.slice a n c] w fun e w' => e = .returned (.agg #[.int .i64 (sumF xs).1, .int .i64 (sumF xs).2.1, .int .i64 (sumF xs).2.2.1, .int .i64 (sumF xs).2.2.2.1, .int .i64 (sumF xs).2.2.2.2]) ∧ Below w.heap.size w w' := by
  have Hl := hd hr.len
  have Hv := hd hv
  clear hv
  go_enter Try.func51, Try.ntmps51
  go_wp2_with fail
  go_loopw [4] (fun i wr => ∃ k : Nat, ∃ a0 a1 a2 a3 a4 : Int, k ≤ n ∧ i = .int .i64 k ∧ sumF (xs.take k) = (a0, a1, a2, a3, a4) ∧ wr.heap[w.heap.size]? = some (.cells #[.int .i64 0, .int .i64 0, .int .i64 0, .int .i64 0, .int .i64 0] 25 (0, 0)) ∧
    wr.heap[w.heap.size + 1]? = some (.cells #[.int .i64 a0, .int .i64 a1, .int .i64 a2, .int .i64 a3, .int .i64 a4] 25 (0, 0)) ∧ Below w.heap.size w wr) (fun i _ => n - (intOf i).toNat)
  case atStart => exact ⟨0, 0, 0, 0, 0, 0, Nat.zero_le _, rfl, rfl, heap_alloc2_old _ _ _, heap_alloc2_new _ _ _, by go_grown⟩
  case round =>
    obtain ⟨k, a0, a1, a2, a3, a4, hk, rfl, hs, hg0, hg1, hb⟩ := hrel
    have hbd := sumF_bd Hv.out k (by rw [Hl.out]; exact hk)
    rw [hs] at hbd
    simp only [Sb] at hbd
    obtain ⟨⟨p0, q0⟩, ⟨p1, q1⟩, ⟨p2, q2⟩, ⟨p3, q3⟩, p4, q4⟩ := hbd
    have Hs := hd hs
    have Hg0 := hd hg0
    have Hg1 := hd hg1
    have hl0 := blk_lt hg0
    have hl1 := blk_lt hg1
    clear hs hg0 hg1
    by_cases hlt : k < n
    · obtain ⟨b, o, f0, f1, f2, f3, f4, rfl, hbl, hx, hc0, hc1, hc2, hc3, hc4⟩ := getWater hr hlt
      obtain ⟨⟨r1, r2⟩, ⟨r3, r4⟩, ⟨r5, r6⟩, ⟨r7, r8⟩, r9, r10⟩ := waB_bd (all_get Hv.out hx)
      have Hx := hd hx
      have y0 := (hb.cell (p := ⟨b, o + k * 5, none⟩) hbl).trans hc0
      have y1 := (hb.cell (p := ⟨b, o + k * 5 + 1, none⟩) hbl).trans hc1
      have y2 := (hb.cell (p := ⟨b, o + k * 5 + 2, none⟩) hbl).trans hc2
      have y3 := (hb.cell (p := ⟨b, o + k * 5 + 3, none⟩) hbl).trans hc3
      have y4 := (hb.cell (p := ⟨b, o + k * 5 + 4, none⟩) hbl).trans hc4
      clear hx hc0 hc1 hc2 hc3 hc4
      have d0 := blk_cell Hg1.out 0
      have d1 := blk_cell Hg1.out 1
      have d2 := blk_cell Hg1.out 2
      have d3 := blk_cell Hg1.out 3
      have d4 := blk_cell Hg1.out 4
      have z0 := blk_free Hg1.out 0
      have z1 := blk_free Hg1.out 1
      have z2 := blk_free Hg1.out 2
      have z3 := blk_free Hg1.out 3
      have z4 := blk_free Hg1.out 4
      go_wp2_with fail
      go_region
      go_wp2_with fail
      go_region
      go_wp2_with fail
      go_region
      go_wp2_with fail
      go_region
      go_wp2_with fail
      go_region
      go_wp2_with fail
      go_roundw
      case rel =>
        refine ⟨k + 1, _, _, _, _, _, by omega, by go_num, (by rw [sumF_next Hx.out, Hs.out]; try rfl), ?_, ?_, ?_⟩
        · simp only [heap_drew]
          exact blk_far5 Hg0.out (by omega) _ _ _ _ _
        · simp only [heap_drew]
          exact blk_set5 Hg1.out _ _ _ _ _
        · exact (below_set5 hb (by omega) _ _ _ _ _).drew.drew.drew.drew.drew
      case measure => simp [intOf]; omega
    · obtain rfl : k = n := by omega
      have d0 := blk_cell Hg1.out 0
      have d1 := blk_cell Hg1.out 1
      have d2 := blk_cell Hg1.out 2
      have d3 := blk_cell Hg1.out 3
      have d4 := blk_cell Hg1.out 4
      have e0 := blk_cell Hg0.out 0
      have e1 := blk_cell Hg0.out 1
      have e2 := blk_cell Hg0.out 2
      have e3 := blk_cell Hg0.out 3
      have e4 := blk_cell Hg0.out 4
      have z0 := blk_free Hg0.out 0
      have z1 := blk_free Hg0.out 1
      have z2 := blk_free Hg0.out 2
      have z3 := blk_free Hg0.out 3
      have z4 := blk_free Hg0.out 4
      go_wp2_with fail
      have e : sumF xs = (a0, a1, a2, a3, a4) := by rw [← Hs.out, List.take_of_length_le (by rw [Hl.out]; exact Nat.le_refl _)]
      exact bodyPost_ret (results_cell_row rfl _ _ _ _ _ _ _ rfl (blk_set5 Hg0.out _ _ _ _ _) Try.underlying25 rfl (by kernel_rfl)) rfl ⟨by rw [e], below_set5 hb (Nat.le_refl _) _ _ _ _ _⟩
end Go.Proofs.Ytbacajbfedgcjaa
