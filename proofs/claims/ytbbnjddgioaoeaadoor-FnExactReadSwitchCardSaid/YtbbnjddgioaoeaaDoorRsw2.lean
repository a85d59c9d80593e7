/- ReadSwitch: the reference's side, and the law. -/
import Derived.Test.YtbbnjddgioaoeaaDoorRsw
namespace Go.Proofs.YtbbnjddgioaoeaaDoor
open Go.RowKit
set_option linter.unusedVariables false

theorem str_is {x y : List UInt8} (h : x = y) : ((mkS x).toList == y) = true := by rw [ByteArray.toList_eq, mkS_list, h]; exact beq_self_eq_true _
theorem str_not {x y : List UInt8} (h : x ≠ y) : ((mkS x).toList == y) = false := by rw [ByteArray.toList_eq, mkS_list, beq_eq_false_iff_ne]; exact h
theorem sp_word (l : List UInt8) : ∀ cur, ∀ x ∈ sp cur l, x.length ≤ cur.length + l.length := by
  induction l with
  | nil =>
    intro cur x hx
    obtain rfl : x = cur := by simpa [sp] using hx
    simp
  | cons b r ih =>
    intro cur x hx
    rw [sp] at hx
    split at hx
    · rcases List.mem_cons.1 hx with rfl | hx
      · omega
      · have := ih [] x hx
        simp at this ⊢
        omega
    · have := ih _ x hx
      simp at this ⊢
      omega

theorem list4 {α : Type} {xs : List α} (h : xs.length = 4) : ∃ a b c d, xs = [a, b, c, d] := by
  match xs, h with
  | [a, b, c, d], _ => exact ⟨a, b, c, d, rfl⟩
theorem sw_sp_no {l : List UInt8} (h : (sp [] l).length ≠ 4) : SwIs l 0 0 false := sw_no fun x y _ e => h (by rw [← e, sw_sp]; rfl)
theorem sw_w0 {l x0 x1 x2 x3 : List UInt8} (hs : sp [] l = [x0, x1, x2, x3]) (h : x0 ≠ [111, 110]) : SwIs l 0 0 false := sw_no fun x y _ e => by
  rw [← e, sw_sp] at hs
  simp only [List.cons.injEq, and_true] at hs
  exact h hs.1.symm
theorem sw_w2 {l x0 x1 x2 x3 : List UInt8} (hs : sp [] l = [x0, x1, x2, x3]) (h : x2 ≠ [111, 102, 102]) : SwIs l 0 0 false := sw_no fun x y _ e => by
  rw [← e, sw_sp] at hs
  simp only [List.cons.injEq, and_true] at hs
  exact h hs.2.2.1.symm
theorem sw_spec {l x0 x1 x2 x3 : List UInt8} {a b : Int} {oa ob : Bool} (hs : sp [] l = [x0, x1, x2, x3]) (h0 : x0 = [111, 110]) (h2 : x2 = [111, 102, 102]) (h1 : NumIs x1 a oa) (h3 : NumIs x3 b ob) :
    (oa = false ∨ ob = false ∨ swB a b = false → SwIs l 0 0 false) ∧ (oa = true → ob = true → swB a b = true → SwIs l a b true) := by
  constructor
  · intro h
    refine sw_no fun x y hv e => ?_
    have h4 := hs
    rw [← e, sw_sp] at h4
    simp only [List.cons.injEq, and_true] at h4
    obtain ⟨_, e1, _, e3⟩ := h4
    have s1 := num_yes (l := x1) (sw_sm hv).1 e1
    have s3 := num_yes (l := x3) (sw_sm hv).2 e3
    obtain ⟨rfl, rfl⟩ := s1.uniq h1
    obtain ⟨rfl, rfl⟩ := s3.uniq h3
    rcases h with h | h | h
    · cases h
    · cases h
    · rw [hv] at h; cases h
  · rintro rfl rfl hv
    refine sw_yes hv ?_
    obtain ⟨x, xs, e, hj⟩ := sp_join l []
    rw [hs] at e
    injection e with e1 e2
    subst e1 e2
    rw [List.nil_append] at hj
    rw [hj, h0, h2, ← (h1.1 rfl).2, ← (h3.1 rfl).2]
    unfold swL
    simp
set_option maxRecDepth 100000 in
set_option maxHeartbeats 1000000 in
theorem specReadSwitch_calls (l : List UInt8) (w : World) (hl : l.length ≤ 1048576) :
    Calls Tryd.prog 10 #[.string (mkS l)] w fun e w' => SwEnd l e ∧ Below w.heap.size w w' := by
  have HSZ := hd hl
  have hg := heap_alloc_new w (swC 0 0)
  have dd := (Below.refl w.heap.size w).alloc (Nat.le_refl _) (swC 0 0)
  clear hl
  go_enter Tryd.func10, Tryd.ntmps10
  go_upto_region 1 with fail
  generalize w.alloc (swC 0 0) = W1 at dd hg ⊢
  go_wp2_with fail
  refine (l01Split_calls l _ HSZ.out).mono ?_
  rintro e w1 ⟨A, n, c, rfl, ho, hn, b1⟩
  have d1 := bnext dd b1 (Nat.le_refl _)
  have g1 := blk_below hg b1 (blk_lt hg)
  have HO := hd (ho.rd len_cStr)
  have hlen := ho.len
  rw [List.length_map] at hlen
  clear ho hg dd b1
  by_cases hn4 : n = 4
  · subst hn4
    obtain ⟨x0, x1, x2, x3, hs⟩ := list4 hlen
    have HS := hd hs
    rw [hs] at HO
    obtain ⟨bo, oo, s0, rfl, hbl, e0, c0⟩ := getStr HO.out (k := 0) (by omega)
    obtain ⟨b', o', s1, e', -, e1, c1⟩ := getStr HO.out (k := 1) (by omega)
    obtain ⟨rfl, rfl⟩ : bo = b' ∧ oo = o' := by simpa using e'
    obtain ⟨b', o', s2, e', -, e2, c2⟩ := getStr HO.out (k := 2) (by omega)
    obtain ⟨rfl, rfl⟩ : bo = b' ∧ oo = o' := by simpa using e'
    obtain ⟨b', o', s3, e', -, e3, c3⟩ := getStr HO.out (k := 3) (by omega)
    obtain ⟨rfl, rfl⟩ : bo = b' ∧ oo = o' := by simpa using e'
    obtain rfl : mkS x0 = s0 := by simpa using e0
    obtain rfl : mkS x1 = s1 := by simpa using e1
    obtain rfl : mkS x2 = s2 := by simpa using e2
    obtain rfl : mkS x3 = s3 := by simpa using e3
    rw [Nat.add_zero] at c0
    clear e0 e1 e2 e3 e' hlen hs
    have w1l : x1.length ≤ 1048576 := by
      have := sp_word l [] x1 (by rw [HS.out]; simp)
      have := HSZ.out
      simp at *
      omega
    have w3l : x3.length ≤ 1048576 := by
      have := sp_word l [] x3 (by rw [HS.out]; simp)
      have := HSZ.out
      simp at *
      omega
    by_cases h0 : x0 = [111, 110]
    case neg =>
      have q0 := str_not h0
      have FF := hd (sw_w0 HS.out h0)
      clear h0
      have k0 := blk_cell g1 0
      have k1 := blk_cell g1 1
      have f0 := blk_free g1 0
      have f1 := blk_free g1 1
      have G9 := hd g1
      clear g1
      go_wp2_with fail
      refine bodyPost_ret (results_cell_tmp rfl _ _ _ _ _ _ _ rfl (blk_set2 G9.out _ _) Tryd.underlying23 rfl (by kernel_rfl)) rfl ⟨⟨_, _, _, rfl, FF.out⟩, below_set2 d1 (Nat.le_refl _) _ _⟩
    by_cases h2 : x2 = [111, 102, 102]
    case neg =>
      have q0 := str_is h0
      have q2 := str_not h2
      have FF := hd (sw_w2 HS.out h2)
      clear h0 h2
      have k0 := blk_cell g1 0
      have k1 := blk_cell g1 1
      have f0 := blk_free g1 0
      have f1 := blk_free g1 1
      have G9 := hd g1
      clear g1
      go_wp2_with fail
      refine bodyPost_ret (results_cell_tmp rfl _ _ _ _ _ _ _ rfl (blk_set2 G9.out _ _) Tryd.underlying23 rfl (by kernel_rfl)) rfl ⟨⟨_, _, _, rfl, FF.out⟩, below_set2 d1 (Nat.le_refl _) _ _⟩
    have q0 := str_is h0
    have q2 := str_is h2
    have H0 := hd h0
    have H2 := hd h2
    clear h0 h2
    go_wp2_with fail
    refine (l01Number_calls x1 _ w1l).mono ?_
    rintro e w2 ⟨⟨a, oa, rfl, hna⟩, b2⟩
    have HNA := hd hna
    have d2 := bnext d1 b2 (Nat.le_refl _)
    have g2 := blk_below g1 b2 (blk_lt g1)
    have c3' := (b2.cell (p := ⟨bo, oo + 3, none⟩) hbl).trans c3
    clear c0 c1 c2 c3 hna d1 g1 q0 q2 b2 HO hbl
    go_wp2_with fail
    refine (l01Number_calls x3 _ w3l).mono ?_
    rintro e w3 ⟨⟨b, ob, rfl, hnb⟩, b3⟩
    have HNB := hd hnb
    have d3 := bnext d2 b3 (Nat.le_refl _)
    have g3 := blk_below g2 b3 (blk_lt g2)
    have HSPEC := hd (sw_spec HS.out H0.out H2.out HNA.out HNB.out)
    have hB := heap_alloc_new w3 (swC a b)
    have d4 := d3.alloc d3.size (swC a b)
    have g4 := blk_alloc g3 (swC a b)
    clear c3' hnb d2 g2 b3 g3 d3
    go_upto_region 7 with fail
    generalize w3.alloc (swC a b) = W4 at hB d4 g4 ⊢
    obtain ⟨gb, hgb⟩ : ∃ g, w3.heap.size = g := ⟨_, rfl⟩
    rw [hgb] at hB ⊢
    clear hgb
    cases oa
    · have FF := hd (HSPEC.out.1 (.inl rfl))
      clear hB HSPEC
      have k0 := blk_cell g4 0
      have k1 := blk_cell g4 1
      have f0 := blk_free g4 0
      have f1 := blk_free g4 1
      have G9 := hd g4
      clear g4
      go_wp2_with fail
      refine bodyPost_ret (results_cell_tmp rfl _ _ _ _ _ _ _ rfl (blk_set2 G9.out _ _) Tryd.underlying23 rfl (by kernel_rfl)) rfl ⟨⟨_, _, _, rfl, FF.out⟩, below_set2 d4 (Nat.le_refl _) _ _⟩
    cases ob
    · have FF := hd (HSPEC.out.1 (.inr (.inl rfl)))
      clear hB HSPEC
      have k0 := blk_cell g4 0
      have k1 := blk_cell g4 1
      have f0 := blk_free g4 0
      have f1 := blk_free g4 1
      have G9 := hd g4
      clear g4
      go_wp2_with fail
      refine bodyPost_ret (results_cell_tmp rfl _ _ _ _ _ _ _ rfl (blk_set2 G9.out _ _) Tryd.underlying23 rfl (by kernel_rfl)) rfl ⟨⟨_, _, _, rfl, FF.out⟩, below_set2 d4 (Nat.le_refl _) _ _⟩
    have c0 := blk_cell hB 0
    have c1 := blk_cell hB 1
    go_wp2_with fail
    refine (l14Ok_calls a b _).mono ?_
    rintro e w5 ⟨he, b5⟩
    have d5 := bnext d4 b5 (Nat.le_refl _)
    have g5 := blk_below g4 b5 (blk_lt g4)
    have hB5 := blk_below hB b5 (blk_lt hB)
    clear c0 c1 hB d4 g4 b5
    cases hv : swB a b
    · rw [hv] at he
      subst he
      have FF := hd (HSPEC.out.1 (.inr (.inr hv)))
      clear hB5 HSPEC hv
      have k0 := blk_cell g5 0
      have k1 := blk_cell g5 1
      have f0 := blk_free g5 0
      have f1 := blk_free g5 1
      have G9 := hd g5
      clear g5
      go_wp2_with fail
      refine bodyPost_ret (results_cell_tmp rfl _ _ _ _ _ _ _ rfl (blk_set2 G9.out _ _) Tryd.underlying23 rfl (by kernel_rfl)) rfl ⟨⟨_, _, _, rfl, FF.out⟩, below_set2 d5 (Nat.le_refl _) _ _⟩
    · rw [hv] at he
      subst he
      have FF := hd (HSPEC.out.2 (by trivial) (by trivial) hv)
      have c0 := blk_cell hB5 0
      have c1 := blk_cell hB5 1
      clear hB5 HSPEC hv
      have k0 := blk_cell g5 0
      have k1 := blk_cell g5 1
      have f0 := blk_free g5 0
      have f1 := blk_free g5 1
      have G9 := hd g5
      clear g5
      go_wp2_with fail
      refine bodyPost_ret (results_cell_tmp rfl _ _ _ _ _ _ _ rfl (blk_set2 G9.out _ _) Tryd.underlying23 rfl (by kernel_rfl)) rfl ⟨⟨_, _, _, rfl, FF.out⟩, below_set2 d5 (Nat.le_refl _) _ _⟩
  · have hn4' : ¬ ((n : Int) = 4) := by omega
    have FF := hd (sw_sp_no (l := l) (by rw [hlen]; exact hn4))
    have k0 := blk_cell g1 0
    have k1 := blk_cell g1 1
    have f0 := blk_free g1 0
    have f1 := blk_free g1 1
    have G1 := hd g1
    clear g1 hn4 hlen
    go_wp2_with fail
    refine bodyPost_ret (results_cell_tmp rfl _ _ _ _ _ _ _ rfl (blk_set2 G1.out _ _) Tryd.underlying23 rfl (by kernel_rfl)) rfl ⟨⟨_, _, _, rfl, FF.out⟩, below_set2 d1 (Nat.le_refl _) _ _⟩
set_option maxRecDepth 100000 in
set_option maxHeartbeats 1000000 in
theorem FnExactReadSwitch_calls (s : ByteArray) (w : World) (ws : s.size ≤ maxLen) (hE : Env w) :
    Calls Tryd.prog 3 #[.string s] w fun e w' => e = .returned (.bool true) ∧ Below w.heap.size w w' := by
  obtain ⟨l, rfl⟩ : ∃ l, s = mkS l := ⟨s.data.toList, rfl⟩
  have hsz := mkS_size l
  unfold maxLen at ws
  have HE := hd hE
  clear hE
  by_cases h20 : l.length ≤ 1048576
  · have h20' : ¬ (1048576 : Int) < (l.length : Int) := by omega
    go_enter Tryd.func3, Tryd.ntmps3
    go_wp2_with fail
    refine (specReadSwitch_calls l _ h20).mono ?_
    rintro e w1 ⟨⟨a, b, ok, rfl, h1⟩, b1⟩
    have H1 := hd h1
    have hB := heap_alloc_new w1 (swC a b)
    have d1 := b1.alloc b1.size (swC a b)
    clear h1 b1
    go_upto_region 4 with fail
    generalize w1.alloc (swC a b) = W1 at hB d1 ⊢
    obtain ⟨gb, hgb⟩ : ∃ g, w1.heap.size = g := ⟨_, rfl⟩
    rw [hgb] at hB ⊢
    clear hgb
    go_wp2_with fail
    refine (ReadSwitch_calls l _ h20 (HE.out.below d1)).mono ?_
    rintro e w2 ⟨⟨a', b', ok', rfl, h2⟩, b2⟩
    obtain ⟨rfl, rfl, rfl⟩ := H1.out.uniq h2
    have hB2 := blk_alloc (blk_below hB b2 (blk_lt hB)) (swC a b)
    have hC := heap_alloc_new w2 (swC a b)
    have d2 := bnext d1 b2 (Nat.le_refl _)
    have d3 := d2.alloc d2.size (swC a b)
    clear h2 b2 hB d1 d2
    go_upto_region 5 with fail
    generalize w2.alloc (swC a b) = W2 at hB2 hC d3 ⊢
    obtain ⟨gc, hgc⟩ : ∃ g, w2.heap.size = g := ⟨_, rfl⟩
    rw [hgc] at hC ⊢
    clear hgc
    have k0 := blk_cell hB2 0
    have k1 := blk_cell hB2 1
    have c0 := blk_cell hC 0
    have c1 := blk_cell hC 1
    clear hB2 hC
    go_wp2_with fail
    refine (eqSwitch_calls a b a b _).mono ?_
    rintro e w3 ⟨he, b3⟩
    rw [show ((a, b) == (a, b)) = true by simp] at he
    subst he
    have d4 := bnext d3 b3 (Nat.le_refl _)
    clear k0 k1 c0 c1 d3 b3
    cases ok
    · go_wp2_with fail
      go_ret
      exact ⟨rfl, d4⟩
    · go_wp2_with fail
      go_ret
      exact ⟨rfl, d4⟩
  · have h20' : (1048576 : Int) < (l.length : Int) := by omega
    go_enter Tryd.func3, Tryd.ntmps3
    go_wp2_with fail
    go_ret
    exact ⟨rfl, Below.refl _ _⟩
end Go.Proofs.YtbbnjddgioaoeaaDoor
