/- Plans: the water after each hour, the limits, the price. -/
import Derived.Test.YthabjlhfidcnoaaPump2
import Derived.Test.YthabjlhfidcnoaaStepApp
namespace Go.Proofs.Ythabjlhfidcnoaa
open Go.RowKit
set_option linter.unusedVariables false

theorem after_calls (S L H C : Int) (aI : Option Addr) (nI cI : Nat) (xI : List Int) (aP : Option Addr) (nP cP : Nat) (xP : List Int) (b : Option Addr) (m d : Nat) (ys : List Int) (w : World) (rI : RdInt64 w aI nI xI) (hI : nI ≤ 1048576) (rP : RdInt64 w aP nP xP) (hP : nP ≤ 1048576) (rY : RdInt64 w b m ys) (hm : m ≤ 1048576) (hv : VP S L H C xI xP) (hl : m = nI) (hy : ys.all (inC 40) = true) :
    Calls Try.prog 57 #[.agg #[.int .i64 S, .int .i64 L, .int .i64 H, .int .i64 C, .slice aI nI cI, .slice aP nP cP], .slice b m d] w fun e w' => ∃ A c, e = .returned (.slice A m c) ∧ Own 1 ci 2 w' w.heap.size w'.heap.size A m c (watF S xI ys m) ∧ Below w.heap.size w w' := by
  subst hl
  have LI := rI.len
  have LY := rY.len
  have hbd : Hid (∀ k, k ≤ m → -2000 ≤ watZ S xI ys k ∧ watZ S xI ys k ≤ 3000) := hd (fun k hk => watZ_bd hv hy (by omega) (by omega))
  have HU := hd hv.un
  have HY := hd hy
  have s0 := hv.l0
  have s1 := hv.ls
  have s2 := hv.sh
  have s3 := hv.h1
  clear hv hy
  obtain ⟨i0, hi, hz0, hz1, hz2⟩ := info_parts infoInt64
  have he := Own.empty (E := 2) (sz := 1) (cs := ci) (L := w.heap.size + 1) (U := w.heap.size + 2) (w.alloc (pmC S L H C aI m cI aP nP cP)) #[] rfl (by simp) (by simp)
  simp only [World.size_alloc] at he
  go_enter Try.func57, Try.ntmps57
  go_wp2_with fail
  go_loopw [5, 6, 14] (fun v t i wr => ∃ k : Nat, k ≤ m ∧ i = .int .i64 k ∧ t = .int .i64 (watZ S xI ys k) ∧ ∃ A c, v = .slice A k c ∧ Own 1 ci 2 wr (w.heap.size + 1) wr.heap.size A k c (watF S xI ys k) ∧ wr.heap[w.heap.size]? = some (pmC S L H C aI m cI aP nP cP) ∧ Below w.heap.size w wr) (fun _ _ i _ => m - (intOf i).toNat)
  case atStart => exact ⟨0, Nat.zero_le _, rfl, by rw [watZ_zero], _, 0, rfl, he.mono (Nat.le_refl _) (by simp), blk_alloc (heap_alloc_new w _) _, (((Below.refl _ _).alloc (Nat.le_refl _) _).alloc (by simp) _)⟩
  case round =>
    obtain ⟨k, hk, rfl, rfl, A, c', rfl, ho, hg, hb⟩ := hrel
    have Ho := hd ho
    clear ho
    have k4 := blk_cell hg 4
    have HG := hd hg
    have hgl := blk_lt hg
    clear hg
    obtain ⟨w1, w2⟩ := hbd.out k hk
    obtain ⟨W1, hW⟩ : ∃ W, W = wr := ⟨_, rfl⟩
    subst hW
    by_cases hlt : k < m
    · obtain ⟨b1, o1, f0, rfl, hbl, hx, hc0⟩ := getInt64 (rI.below hb) hlt
      obtain ⟨b2, o2, g0, rfl, hbl2, hy, hc1⟩ := getInt64 (rY.below hb) hlt
      obtain ⟨m1, m2⟩ := unB_iff.1 (all_at_ HU.out hx)
      obtain ⟨m3, m4⟩ := inB_iff.1 (all_at_ HY.out hy)
      have en := watZ_next (S := S) hx hy
      obtain ⟨n1, n2⟩ := hbd.out (k + 1) (by omega)
      rw [en] at n1 n2
      have Hn : Hid (watF S xI ys (k + 1) = watF S xI ys k ++ [watZ S xI ys k + (f0 - g0)]) := hd (by rw [watF_next, en])
      have En := hd en
      clear hx hy en
      generalize hz : watZ S xI ys k = z at w1 w2 n1 n2 Hn En ⊢
      clear hz
      have hb1 := hb
      have Ho1 := Ho
      go_wp2_with (at_builtin; refine wpList_app _ rfl _ _ 22 rfl 2 i0 _ 1 8 Try.underlying22 hi hz0 hz1 hz2 rfl (by decide) len_ci one_ci (w.heap.size + 1) W1.heap.size A k c' _ rfl (Ho1.out.alloc _) W1.heap.size (z + (f0 - g0) : Int) rfl (app_new _ _ _) (by omega) (by unfold maxLen; omega) (by simp; omega) ?_)
      intro A' c'' w2 ho2 hg2
      have hb2 := below_app (hb1.alloc hb1.size _) (Ho1.out.alloc _) hg2 (Nat.le_refl _) (Nat.le_succ _)
      have hgn := blk_only (blk_alloc HG.out _) hg2 (fun hg => by have := Ho1.out.row hg; omega)
      have Ho2 := hd ho2
      clear ho2 hg2
      go_wp2_with fail
      go_roundw
      case rel => exact ⟨k + 1, by omega, by go_num, by rw [En.out], A', c'', rfl, by rw [Hn.out]; exact Ho2.out, hgn, hb2⟩
      case measure => simp [intOf]; omega
    · obtain rfl : k = m := by omega
      go_wp2_with fail
      go_ret
      exact ⟨A, c', rfl, Ho.out.mono (Nat.le_succ _) (Nat.le_refl _), hb⟩
theorem isPlan1_calls (n : Int) (g : Nat) (S L H C : Int) (aI : Option Addr) (nI cI : Nat) (aP : Option Addr) (nP cP : Nat) (w : World) (hg : w.heap[g]? = some (pmC S L H C aI nI cI aP nP cP)) :
    Calls Try.prog 66 #[.int .i64 n, .pointer (some ⟨g, 0, none⟩)] w fun e w' => e = .returned (.bool (inB n L H)) ∧ w = w' := by
  have k1 := blk_cell hg 1
  have k2 := blk_cell hg 2
  go_enter Try.func66, Try.ntmps66
  go_wp2_with (go_at_call 49; refine (in_calls _ _ _ _).mono ?_; rintro e w' ⟨rfl, rfl⟩)
  go_ret
  exact ⟨rfl, rfl⟩
theorem isPlan_calls (S L H C : Int) (aI : Option Addr) (nI cI : Nat) (xI : List Int) (aP : Option Addr) (nP cP : Nat) (xP : List Int) (b : Option Addr) (m d : Nat) (ys : List Int) (w : World) (rI : RdInt64 w aI nI xI) (hI : nI ≤ 1048576) (rP : RdInt64 w aP nP xP) (hP : nP ≤ 1048576) (rY : RdInt64 w b m ys) (hm : m ≤ 1048576) (hv : VP S L H C xI xP) (hl : m = nI) (hy : ys.all (inC 40) = true) :
    Calls Try.prog 55 #[.agg #[.int .i64 S, .int .i64 L, .int .i64 H, .int .i64 C, .slice aI nI cI, .slice aP nP cP], .slice b m d] w fun e w' => e = .returned (.bool (keepB S L H xI ys m)) ∧ Below w.heap.size w w' := by
  have HL := hd hl
  clear hl
  have he1 := ent Try.func66 (by kernel_rfl) rfl
  go_enter Try.func55, Try.ntmps55
  go_wp2_with fail
  refine (after_calls S L H C aI nI cI xI aP nP cP xP b m d ys _ (rI.alloc _) hI (rP.alloc _) hP (rY.alloc _) hm hv HL.out hy).mono ?_
  rintro e w1 ⟨A, c', rfl, ho, b1⟩
  have hq := box_q b1
  have d1 := bbox1 b1
  clear b1
  have HC : ∀ z W, Below w1.heap.size w1 W → Calls Try.prog 66 (#[.int .i64 z] ++ #[.pointer (some ⟨w.heap.size, 0, none⟩)]) W fun e w' => e = .returned (.bool (inB z L H)) ∧ Below W.heap.size W w' := by
    intro z W bw
    rw [show (#[Value.int .i64 z] ++ #[Value.pointer (some ⟨w.heap.size, 0, none⟩)]) = #[.int .i64 z, .pointer (some ⟨w.heap.size, 0, none⟩)] from rfl]
    exact (isPlan1_calls z w.heap.size S L H C _ _ _ _ _ _ W (blk_below hq bw (blk_lt hq))).mono fun e w' ⟨h1, h2⟩ => ⟨h1, h2 ▸ Below.refl _ _⟩
  go_wp2_with fail
  refine (allInt64_calls 66 #[.pointer (some ⟨w.heap.size, 0, none⟩)] (fun x => inB x L H) _ _ _ _ _ (ho.rd len_ci) (by omega) he1 HC).mono ?_
  rintro e w2 ⟨rfl, b2⟩
  have d2 := bnext d1 b2 (Nat.le_refl _)
  go_wp2_with fail
  go_ret
  exact ⟨ret_bool (by unfold keepB; rfl), d2⟩
theorem price_calls (S L H C : Int) (aI : Option Addr) (nI cI : Nat) (xI : List Int) (aP : Option Addr) (nP cP : Nat) (xP : List Int) (b : Option Addr) (m d : Nat) (ys : List Int) (w : World) (rI : RdInt64 w aI nI xI) (hI : nI ≤ 1048576) (rP : RdInt64 w aP nP xP) (hP : nP ≤ 1048576) (rY : RdInt64 w b m ys) (hm : m ≤ 1048576) (hv : VP S L H C xI xP) (hl : m = nI) (hy : ys.all (inC 40) = true) :
    Calls Try.prog 53 #[.agg #[.int .i64 S, .int .i64 L, .int .i64 H, .int .i64 C, .slice aI nI cI, .slice aP nP cP], .slice b m d] w fun e w' => e = .returned (.int .i64 (costZ xP ys m)) ∧ Below w.heap.size w w' := by
  subst hl
  have LI := rI.len
  have LY := rY.len
  have LP := rP.len
  have hln := hv.len
  have h48 := hv.n48
  have hbd : Hid (∀ k, k ≤ m → 0 ≤ costZ xP ys k ∧ costZ xP ys k ≤ k * 40000) := hd (fun k hk => costZ_bd hv.pr hy (by omega) k (by omega))
  have HP := hd hv.pr
  have HY := hd hy
  clear hv hy
  go_enter Try.func53, Try.ntmps53
  go_wp2_with fail
  go_loopw [5, 10] (fun t i wr => ∃ k : Nat, k ≤ m ∧ i = .int .i64 k ∧ t = .int .i64 (costZ xP ys k) ∧ wr.heap[w.heap.size]? = some (pmC S L H C aI m cI aP nP cP) ∧ Below w.heap.size w wr) (fun _ i _ => m - (intOf i).toNat)
  case atStart => exact ⟨0, Nat.zero_le _, rfl, by simp [costZ], heap_alloc_new w _, (Below.refl _ _).alloc (Nat.le_refl _) _⟩
  case round =>
    obtain ⟨k, hk, rfl, rfl, hg, hb⟩ := hrel
    have k5 := blk_cell hg 5
    have HG := hd hg
    clear hg
    obtain ⟨w1, w2⟩ := hbd.out k hk
    by_cases hlt : k < m
    · obtain ⟨b1, o1, f0, rfl, hbl, hx, hc0⟩ := getInt64 (rP.below hb) (show k < nP by omega)
      obtain ⟨b2, o2, g0, rfl, hbl2, hy, hc1⟩ := getInt64 (rY.below hb) hlt
      obtain ⟨m1, m2⟩ := prB_iff.1 (all_at_ HP.out hx)
      obtain ⟨m3, m4⟩ := inB_iff.1 (all_at_ HY.out hy)
      have kb : (k : Int) < nP := by omega
      have hmb := mul_bd m3 m4 m1 m2
      obtain ⟨hm1, hm2⟩ := hmb
      have En := hd (costZ_next hy hx)
      clear hx hy
      generalize hz : costZ xP ys k = z at w1 w2 En ⊢
      clear hz
      go_wp2_with fail
      go_roundw
      case rel => exact ⟨k + 1, by omega, by go_num, by rw [En.out], HG.out, hb⟩
      case measure => simp [intOf]; omega
    · obtain rfl : k = m := by omega
      go_wp2_with fail
      go_ret
      exact ⟨rfl, hb⟩
theorem prices_calls (S L H C : Int) (aI : Option Addr) (nI cI : Nat) (xI : List Int) (aP : Option Addr) (nP cP : Nat) (xP : List Int) (z : Int) (w : World) (rI : RdInt64 w aI nI xI) (hI : nI ≤ 1048576) (rP : RdInt64 w aP nP xP) (hP : nP ≤ 1048576) :
    Calls Try.prog 58 #[.agg #[.int .i64 S, .int .i64 L, .int .i64 H, .int .i64 C, .slice aI nI cI, .slice aP nP cP], .int .i64 z] w fun e w' => ∃ A c, e = .returned (.slice A nI c) ∧ Own 1 ci 2 w' w.heap.size w'.heap.size A nI c (List.replicate nI z) ∧ Below w.heap.size w w' := by
  obtain ⟨i0, hi, hz0, hz1, hz2⟩ := info_parts infoInt64
  have he := Own.empty (E := 2) (sz := 1) (cs := ci) (L := w.heap.size) (U := w.heap.size + 2) (w.alloc (pmC S L H C aI nI cI aP nP cP)) #[] rfl (by simp) (by simp)
  simp only [World.size_alloc] at he
  go_enter Try.func58, Try.ntmps58
  go_wp2_with fail
  go_loopw [5, 10] (fun v i wr => ∃ k : Nat, k ≤ nI ∧ i = .int .i64 k ∧ ∃ A c, v = .slice A k c ∧ Own 1 ci 2 wr w.heap.size wr.heap.size A k c (List.replicate k z) ∧ Below w.heap.size w wr) (fun _ i _ => nI - (intOf i).toNat)
  case atStart => exact ⟨0, Nat.zero_le _, rfl, _, 0, rfl, he.mono (Nat.le_refl _) (by simp), (((Below.refl _ _).alloc (Nat.le_refl _) _).alloc (by simp) _)⟩
  case round =>
    obtain ⟨k, hk, rfl, A, c', rfl, ho, hb⟩ := hrel
    have Ho := hd ho
    clear ho
    obtain ⟨W1, hW⟩ : ∃ W, W = wr := ⟨_, rfl⟩
    subst hW
    by_cases hlt : k < nI
    · have hb1 := hb
      have Ho1 := Ho
      go_wp2_with (at_builtin; refine wpList_app _ rfl _ _ 22 rfl 2 i0 _ 1 8 Try.underlying22 hi hz0 hz1 hz2 rfl (by decide) len_ci one_ci w.heap.size W1.heap.size A k c' _ rfl (Ho1.out.alloc _) W1.heap.size (z : Int) rfl (app_new _ _ _) (by omega) (by unfold maxLen; omega) (by have := hb1.size; simp; omega) ?_)
      intro A' c'' w2 ho2 hg2
      have hb2 := below_app (hb1.alloc hb1.size _) (Ho1.out.alloc _) hg2 (Nat.le_refl _) (Nat.le_refl _)
      have Ho2 := hd ho2
      clear ho2 hg2
      go_wp2_with fail
      go_roundw
      case rel => exact ⟨k + 1, by omega, by go_num, A', c'', rfl, by rw [List.replicate_succ']; exact Ho2.out, hb2⟩
      case measure => simp [intOf]; omega
    · obtain rfl : k = nI := by omega
      go_wp2_with fail
      go_ret
      exact ⟨A, c', rfl, Ho.out, hb⟩
end Go.Proofs.Ythabjlhfidcnoaa
