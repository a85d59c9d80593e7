/- ReadBreach: the reference's side, and the law. -/
import Derived.Test.YtbbnjddgioaoeaaDoorRbr
namespace Go.Proofs.YtbbnjddgioaoeaaDoor
open Go.RowKit
set_option linter.unusedVariables false

theorem list5 {α : Type} {xs : List α} (h : xs.length = 5) : ∃ a b c d e, xs = [a, b, c, d, e] := by
  match xs, h with
  | [a, b, c, d, e], _ => exact ⟨a, b, c, d, e, rfl⟩
theorem str_is {x y : List UInt8} (h : x = y) : ((mkS x).toList == y) = true := by rw [ByteArray.toList_eq, mkS_list, h]; exact beq_self_eq_true _
theorem str_not {x y : List UInt8} (h : x ≠ y) : ((mkS x).toList == y) = false := by rw [ByteArray.toList_eq, mkS_list, beq_eq_false_iff_ne]; exact h
theorem sp_word (l : List UInt8) : ∀ cur, ∀ x ∈ sp cur l, x.length ≤ cur.length + l.length := by
  induction l with
  | nil =>
    intro cur x hx
    obtain rfl : x = cur := by simpa [sp] using hx
    simp
  | cons b r ih =>
    intro cur x hx
    rw [sp] at hx
    split at hx
    · rcases List.mem_cons.1 hx with rfl | hx
      · omega
      · have := ih [] x hx
        simp at this ⊢
        omega
    · have := ih _ x hx
      simp at this ⊢
      omega
theorem sp_pos (l : List UInt8) : 1 ≤ (sp [] l).length := by
  obtain ⟨x, xs, e, _⟩ := sp_join l []
  rw [e]
  simp
theorem br_len_no {l : List UInt8} (h : (sp [] l).length ≠ 5) : BrIs l 0 0 0 false := br_no fun x y z _ e => h (by rw [← e, br_sp]; rfl)
theorem br_x0 {l x0 x1 x2 x3 x4 : List UInt8} (hs : sp [] l = [x0, x1, x2, x3, x4]) (h : ∀ z, x0 ≠ Lib.itoa z ++ [109]) : BrIs l 0 0 0 false := br_no fun x y z _ e => by
  rw [← e, br_sp] at hs
  simp only [List.cons.injEq, and_true] at hs
  exact h x hs.1.symm
theorem br_w1 {l x0 x1 x2 x3 x4 : List UInt8} (hs : sp [] l = [x0, x1, x2, x3, x4]) (h : x1 ≠ [115, 105, 108, 108]) : BrIs l 0 0 0 false := br_no fun x y z _ e => by
  rw [← e, br_sp] at hs
  simp only [List.cons.injEq, and_true] at hs
  exact h hs.2.1.symm
theorem br_w3 {l x0 x1 x2 x3 x4 : List UInt8} (hs : sp [] l = [x0, x1, x2, x3, x4]) (h : x3 ≠ [119, 97, 116, 101, 114]) : BrIs l 0 0 0 false := br_no fun x y z _ e => by
  rw [← e, br_sp] at hs
  simp only [List.cons.injEq, and_true] at hs
  exact h hs.2.2.2.1.symm
theorem br_spec {l u x1 x2 x3 x4 : List UInt8} {a b c : Int} {oa ob oc : Bool} (hs : sp [] l = [u ++ [109], x1, x2, x3, x4]) (h1 : x1 = [115, 105, 108, 108]) (h3 : x3 = [119, 97, 116, 101, 114]) (n0 : NumIs u a oa) (n2 : NumIs x2 b ob) (n4 : NumIs x4 c oc) :
    (oa = false ∨ ob = false ∨ oc = false ∨ brP a b c = false → BrIs l 0 0 0 false) ∧ (oa = true → ob = true → oc = true → brP a b c = true → BrIs l a b c true) := by
  constructor
  · intro h
    refine br_no fun x y z hv e => ?_
    have h4 := hs
    rw [← e, br_sp] at h4
    simp only [List.cons.injEq, and_true] at h4
    obtain ⟨e0, _, e2, _, e4⟩ := h4
    obtain ⟨t0, t2, t4⟩ := br_sm hv
    have e0' : Lib.itoa x = u := List.append_cancel_right e0
    obtain ⟨rfl, rfl⟩ := (num_yes t0 e0').uniq n0
    obtain ⟨rfl, rfl⟩ := (num_yes t2 e2).uniq n2
    obtain ⟨rfl, rfl⟩ := (num_yes t4 e4).uniq n4
    rcases h with h | h | h | h
    · cases h
    · cases h
    · cases h
    · rw [hv] at h; cases h
  · rintro rfl rfl rfl hv
    refine br_yes hv ?_
    obtain ⟨x, xs, e, hj⟩ := sp_join l []
    rw [hs] at e
    injection e with e1 e2
    subst e1 e2
    rw [List.nil_append] at hj
    rw [hj, h1, h3, ← (n0.1 rfl).2, ← (n2.1 rfl).2, ← (n4.1 rfl).2]
    unfold brL
    simp
set_option maxRecDepth 100000 in
set_option maxHeartbeats 1000000 in
theorem specReadBreach_calls (l : List UInt8) (w : World) (hl : l.length ≤ 1048576) :
    Calls Tryd.prog 16 #[.string (mkS l)] w fun e w' => BrEnd l e ∧ Below w.heap.size w w' := by
  have HSZ := hd hl
  have hg := heap_alloc_new w (brO 0 0 0)
  have dd := (Below.refl w.heap.size w).alloc (Nat.le_refl _) (brO 0 0 0)
  clear hl
  go_enter Tryd.func16, Tryd.ntmps16
  go_upto_region 1 with fail
  generalize w.alloc (brO 0 0 0) = W1 at dd hg ⊢
  go_wp2_with fail
  refine (l01Split_calls l _ HSZ.out).mono ?_
  rintro e w1 ⟨A, n, c, rfl, ho, hn, b1⟩
  have d1 := bnext dd b1 (Nat.le_refl _)
  have g1 := blk_below hg b1 (blk_lt hg)
  have HO := hd (ho.rd len_cStr)
  have hlen := ho.len
  rw [List.length_map] at hlen
  clear ho hg dd b1
  by_cases hn4 : n = 5
  · subst hn4
    obtain ⟨x0, x1, x2, x3, x4, hs⟩ := list5 hlen
    have HS := hd hs
    rw [hs] at HO
    obtain ⟨bo, oo, s0, rfl, hbl, e0, c0⟩ := getStr HO.out (k := 0) (by omega)
    obtain ⟨b', o', s1, e', -, e1, c1⟩ := getStr HO.out (k := 1) (by omega)
    obtain ⟨rfl, rfl⟩ : bo = b' ∧ oo = o' := by simpa using e'
    obtain ⟨b', o', s2, e', -, e2, c2⟩ := getStr HO.out (k := 2) (by omega)
    obtain ⟨rfl, rfl⟩ : bo = b' ∧ oo = o' := by simpa using e'
    obtain ⟨b', o', s3, e', -, e3, c3⟩ := getStr HO.out (k := 3) (by omega)
    obtain ⟨rfl, rfl⟩ : bo = b' ∧ oo = o' := by simpa using e'
    obtain ⟨b', o', s4, e', -, e4, c4⟩ := getStr HO.out (k := 4) (by omega)
    obtain ⟨rfl, rfl⟩ : bo = b' ∧ oo = o' := by simpa using e'
    obtain rfl : mkS x0 = s0 := by simpa using e0
    obtain rfl : mkS x1 = s1 := by simpa using e1
    obtain rfl : mkS x2 = s2 := by simpa using e2
    obtain rfl : mkS x3 = s3 := by simpa using e3
    obtain rfl : mkS x4 = s4 := by simpa using e4
    rw [Nat.add_zero] at c0
    have hwl : ∀ x ∈ sp [] l, x.length ≤ 1048576 := fun x hx => by
      have h1 := sp_word l [] x hx
      have h2 := HSZ.out
      simp at h1
      omega
    rw [hs] at hwl
    have w0l := hwl x0 (by simp)
    have w2l := hwl x2 (by simp)
    have w4l := hwl x4 (by simp)
    clear e0 e1 e2 e3 e4 e' hlen hs hwl
    by_cases hz : x0 = []
    · have FF := hd (br_x0 HS.out (fun z e => by rw [hz] at e; simp at e))
      subst hz
      have hs0 : (mkS []).size = 0 := rfl
      have k0 := blk_cell g1 0
      have k1 := blk_cell g1 1
      have k2 := blk_cell g1 2
      have f0 := blk_free g1 0
      have f1 := blk_free g1 1
      have f2 := blk_free g1 2
      have G9 := hd g1
      clear g1
      go_wp2_with fail
      refine bodyPost_ret (results_cell_tmp rfl _ _ _ _ _ _ _ rfl (blk_set3 G9.out _ _ _) Tryd.underlying34 rfl (by kernel_rfl)) rfl ⟨⟨_, _, _, _, rfl, FF.out⟩, below_set3 d1 (Nat.le_refl _) _ _ _⟩
    obtain ⟨u, cc, hu⟩ : ∃ u cc, x0 = u ++ [cc] := ⟨x0.dropLast, x0.getLast hz, (List.dropLast_concat_getLast hz).symm⟩
    obtain ⟨n0, hn0⟩ : ∃ n0, u.length = n0 := ⟨_, rfl⟩
    have hx0l : x0.length = n0 + 1 := by rw [hu, List.length_append, hn0]; rfl
    have hs0 : (mkS x0).size = n0 + 1 := by rw [mkS_size, hx0l]
    have hls : n0 < (mkS x0).size := by omega
    have hll : n0 < x0.length := by omega
    obtain ⟨d, hdd⟩ : ∃ d, cc.toNat = d := ⟨_, rfl⟩
    have hcc : ((mkS x0)[n0]'hls).toNat = d := by
      rw [mkS_get hll, ← hdd]
      congr 1
      subst hu
      subst hn0
      simp
    have HX : Hid ((mkS x0).extract 0 n0 = mkS u) := hd (by
      rw [mkS_ext, hu, ← hn0]
      simp)
    have HU := hd hu
    have HDD := hd hdd
    have i1 : (0 : Int) ≤ (n0 : Int) := by omega
    have i2 : (n0 : Int) < ((mkS x0).size : Int) := by omega
    have ul : u.length ≤ 1048576 := by omega
    have HUL := hd ul
    clear hz hu hx0l hdd hn0 ul
    by_cases h109 : d = 109
    case neg =>
      have FF := hd (br_x0 HS.out (fun z e => h109 (by
        rw [HU.out] at e
        have e2 := (List.append_inj_right' e rfl)
        rw [← HDD.out]
        obtain rfl : cc = 109 := by simpa using e2
        rfl)))
      have q5 : ((d : Int) == 109) = false := by simp; omega
      have q6 : ((d : Int) != 109) = true := by simp; omega
      clear h109
      have k0 := blk_cell g1 0
      have k1 := blk_cell g1 1
      have k2 := blk_cell g1 2
      have f0 := blk_free g1 0
      have f1 := blk_free g1 1
      have f2 := blk_free g1 2
      have G9 := hd g1
      clear g1
      go_wp2_with fail
      refine bodyPost_ret (results_cell_tmp rfl _ _ _ _ _ _ _ rfl (blk_set3 G9.out _ _ _) Tryd.underlying34 rfl (by kernel_rfl)) rfl ⟨⟨_, _, _, _, rfl, FF.out⟩, below_set3 d1 (Nat.le_refl _) _ _ _⟩
    have hc109 : cc = 109 := UInt8.toNat_inj.1 (by rw [HDD.out, h109]; rfl)
    have HSU : Hid (sp [] l = [u ++ [109], x1, x2, x3, x4]) := hd (by rw [HS.out, HU.out, hc109])
    have q5 : ((d : Int) == 109) = true := by simp; omega
    have q6 : ((d : Int) != 109) = false := by simp; omega
    clear h109 hc109
    by_cases h1 : x1 = [115, 105, 108, 108]
    case neg =>
      have q0 := str_not h1
      have FF := hd (br_w1 HS.out h1)
      clear h1
      have k0 := blk_cell g1 0
      have k1 := blk_cell g1 1
      have k2 := blk_cell g1 2
      have f0 := blk_free g1 0
      have f1 := blk_free g1 1
      have f2 := blk_free g1 2
      have G9 := hd g1
      clear g1
      go_wp2_with fail
      refine bodyPost_ret (results_cell_tmp rfl _ _ _ _ _ _ _ rfl (blk_set3 G9.out _ _ _) Tryd.underlying34 rfl (by kernel_rfl)) rfl ⟨⟨_, _, _, _, rfl, FF.out⟩, below_set3 d1 (Nat.le_refl _) _ _ _⟩
    by_cases h3 : x3 = [119, 97, 116, 101, 114]
    case neg =>
      have q0 := str_is h1
      have q2 := str_not h3
      have FF := hd (br_w3 HS.out h3)
      clear h1 h3
      have k0 := blk_cell g1 0
      have k1 := blk_cell g1 1
      have k2 := blk_cell g1 2
      have f0 := blk_free g1 0
      have f1 := blk_free g1 1
      have f2 := blk_free g1 2
      have G9 := hd g1
      clear g1
      go_wp2_with fail
      refine bodyPost_ret (results_cell_tmp rfl _ _ _ _ _ _ _ rfl (blk_set3 G9.out _ _ _) Tryd.underlying34 rfl (by kernel_rfl)) rfl ⟨⟨_, _, _, _, rfl, FF.out⟩, below_set3 d1 (Nat.le_refl _) _ _ _⟩
    have q0 := str_is h1
    have q2 := str_is h3
    have H1 := hd h1
    have H3 := hd h3
    clear h1 h3
    go_wp2_with fail
    rw [HX.out]
    refine (l01Number_calls u _ HUL.out).mono ?_
    rintro e w2 ⟨⟨a, oa, rfl, hna⟩, b2⟩
    have HNA := hd hna
    have d2 := bnext d1 b2 (Nat.le_refl _)
    have g2 := blk_below g1 b2 (blk_lt g1)
    have c2' := (b2.cell (p := ⟨bo, oo + 2, none⟩) hbl).trans c2
    have c4' := (b2.cell (p := ⟨bo, oo + 4, none⟩) hbl).trans c4
    have hbl2 : bo < w2.heap.size := Nat.lt_of_lt_of_le hbl b2.size
    clear c0 c1 c2 c3 c4 hna d1 g1 q0 q2 q5 q6 b2 HO hbl hcc hs0 i1 i2
    go_wp2_with fail
    refine (l01Number_calls x2 _ w2l).mono ?_
    rintro e w3 ⟨⟨b, ob, rfl, hnb⟩, b3⟩
    have HNB := hd hnb
    have d3 := bnext d2 b3 (Nat.le_refl _)
    have g3 := blk_below g2 b3 (blk_lt g2)
    have c4'' := (b3.cell (p := ⟨bo, oo + 4, none⟩) hbl2).trans c4'
    clear c2' c4' hnb d2 g2 b3 hbl2
    go_wp2_with fail
    refine (l01Number_calls x4 _ w4l).mono ?_
    rintro e w4 ⟨⟨c, oc, rfl, hnc⟩, b4⟩
    have HNC := hd hnc
    have d4 := bnext d3 b4 (Nat.le_refl _)
    have g4 := blk_below g3 b4 (blk_lt g3)
    have HSPEC := hd (br_spec HSU.out H1.out H3.out HNA.out HNB.out HNC.out)
    have hB := heap_alloc_new w4 (brO a b c)
    have d5 := d4.alloc d4.size (brO a b c)
    have g5 := blk_alloc g4 (brO a b c)
    clear c4'' hnc d3 g3 b4 g4 d4
    go_upto_region 9 with fail
    generalize w4.alloc (brO a b c) = W5 at hB d5 g5 ⊢
    obtain ⟨gb, hgb⟩ : ∃ g, w4.heap.size = g := ⟨_, rfl⟩
    rw [hgb] at hB ⊢
    clear hgb
    cases oa
    · have FF := hd (HSPEC.out.1 (.inl rfl))
      clear hB HSPEC
      have k0 := blk_cell g5 0
      have k1 := blk_cell g5 1
      have k2 := blk_cell g5 2
      have f0 := blk_free g5 0
      have f1 := blk_free g5 1
      have f2 := blk_free g5 2
      have G9 := hd g5
      clear g5
      go_wp2_with fail
      refine bodyPost_ret (results_cell_tmp rfl _ _ _ _ _ _ _ rfl (blk_set3 G9.out _ _ _) Tryd.underlying34 rfl (by kernel_rfl)) rfl ⟨⟨_, _, _, _, rfl, FF.out⟩, below_set3 d5 (Nat.le_refl _) _ _ _⟩
    cases ob
    · have FF := hd (HSPEC.out.1 (.inr (.inl rfl)))
      clear hB HSPEC
      have k0 := blk_cell g5 0
      have k1 := blk_cell g5 1
      have k2 := blk_cell g5 2
      have f0 := blk_free g5 0
      have f1 := blk_free g5 1
      have f2 := blk_free g5 2
      have G9 := hd g5
      clear g5
      go_wp2_with fail
      refine bodyPost_ret (results_cell_tmp rfl _ _ _ _ _ _ _ rfl (blk_set3 G9.out _ _ _) Tryd.underlying34 rfl (by kernel_rfl)) rfl ⟨⟨_, _, _, _, rfl, FF.out⟩, below_set3 d5 (Nat.le_refl _) _ _ _⟩
    cases oc
    · have FF := hd (HSPEC.out.1 (.inr (.inr (.inl rfl))))
      clear hB HSPEC
      have k0 := blk_cell g5 0
      have k1 := blk_cell g5 1
      have k2 := blk_cell g5 2
      have f0 := blk_free g5 0
      have f1 := blk_free g5 1
      have f2 := blk_free g5 2
      have G9 := hd g5
      clear g5
      go_wp2_with fail
      refine bodyPost_ret (results_cell_tmp rfl _ _ _ _ _ _ _ rfl (blk_set3 G9.out _ _ _) Tryd.underlying34 rfl (by kernel_rfl)) rfl ⟨⟨_, _, _, _, rfl, FF.out⟩, below_set3 d5 (Nat.le_refl _) _ _ _⟩
    have c0 := blk_cell hB 0
    have c1 := blk_cell hB 1
    have c2 := blk_cell hB 2
    go_wp2_with fail
    refine (plain_calls a b c _).mono ?_
    rintro e w6 ⟨he, b6⟩
    have d6 := bnext d5 b6 (Nat.le_refl _)
    have g6 := blk_below g5 b6 (blk_lt g5)
    have hB6 := blk_below hB b6 (blk_lt hB)
    clear c0 c1 c2 hB d5 g5 b6
    cases hv : brP a b c
    · rw [hv] at he
      subst he
      have FF := hd (HSPEC.out.1 (.inr (.inr (.inr hv))))
      clear hB6 HSPEC hv
      have k0 := blk_cell g6 0
      have k1 := blk_cell g6 1
      have k2 := blk_cell g6 2
      have f0 := blk_free g6 0
      have f1 := blk_free g6 1
      have f2 := blk_free g6 2
      have G9 := hd g6
      clear g6
      go_wp2_with fail
      refine bodyPost_ret (results_cell_tmp rfl _ _ _ _ _ _ _ rfl (blk_set3 G9.out _ _ _) Tryd.underlying34 rfl (by kernel_rfl)) rfl ⟨⟨_, _, _, _, rfl, FF.out⟩, below_set3 d6 (Nat.le_refl _) _ _ _⟩
    · rw [hv] at he
      subst he
      have FF := hd (HSPEC.out.2 (by trivial) (by trivial) (by trivial) hv)
      have c0 := blk_cell hB6 0
      have c1 := blk_cell hB6 1
      have c2 := blk_cell hB6 2
      clear hB6 HSPEC hv
      have k0 := blk_cell g6 0
      have k1 := blk_cell g6 1
      have k2 := blk_cell g6 2
      have f0 := blk_free g6 0
      have f1 := blk_free g6 1
      have f2 := blk_free g6 2
      have G9 := hd g6
      clear g6
      go_wp2_with fail
      refine bodyPost_ret (results_cell_tmp rfl _ _ _ _ _ _ _ rfl (blk_set3 G9.out _ _ _) Tryd.underlying34 rfl (by kernel_rfl)) rfl ⟨⟨_, _, _, _, rfl, FF.out⟩, below_set3 d6 (Nat.le_refl _) _ _ _⟩
  · have hn4' : ¬ ((n : Int) = 5) := by omega
    have FF := hd (br_len_no (l := l) (by rw [hlen]; exact hn4))
    have hp := sp_pos l
    obtain ⟨bo, oo, s0, rfl, hbl, e0, c0⟩ := getStr HO.out (k := 0) (by omega)
    rw [Nat.add_zero] at c0
    have hn0 : (0 : Int) < (n : Int) := by omega
    have hss : s0.size ≤ 1048576 := by
      rw [List.getElem?_map] at e0
      cases hx : (sp [] l)[0]? with
      | none => rw [hx] at e0; cases e0
      | some x =>
        rw [hx] at e0
        obtain rfl := Option.some.inj e0
        rw [mkS_size]
        have h1 := sp_word l [] x (List.mem_of_getElem? hx)
        have h2 := HSZ.out
        simp at h1
        omega
    clear hn4 hlen hp e0
    have k0 := blk_cell g1 0
    have k1 := blk_cell g1 1
    have k2 := blk_cell g1 2
    have f0 := blk_free g1 0
    have f1 := blk_free g1 1
    have f2 := blk_free g1 2
    have G9 := hd g1
    clear g1
    go_wp2_with fail
    refine bodyPost_ret (results_cell_tmp rfl _ _ _ _ _ _ _ rfl (blk_set3 G9.out _ _ _) Tryd.underlying34 rfl (by kernel_rfl)) rfl ⟨⟨_, _, _, _, rfl, FF.out⟩, below_set3 d1 (Nat.le_refl _) _ _ _⟩
set_option maxRecDepth 100000 in
set_option maxHeartbeats 1000000 in
theorem FnExactReadBreach_calls (s : ByteArray) (w : World) (ws : s.size ≤ maxLen) (hEM : Env w ∧ Mx w) :
    Calls Tryd.prog 5 #[.string s] w fun e w' => e = .returned (.bool true) ∧ Below w.heap.size w w' := by
  obtain ⟨l, rfl⟩ : ∃ l, s = mkS l := ⟨s.data.toList, rfl⟩
  have hsz := mkS_size l
  unfold maxLen at ws
  have HE := hd hEM.1
  have HM := hd hEM.2
  clear hEM
  by_cases h20 : l.length ≤ 1048576
  · have h20' : ¬ (1048576 : Int) < (l.length : Int) := by omega
    go_enter Tryd.func5, Tryd.ntmps5
    go_wp2_with fail
    refine (specReadBreach_calls l _ h20).mono ?_
    rintro e w1 ⟨⟨a, b, c, ok, rfl, h1⟩, b1⟩
    have H1 := hd h1
    have hB := heap_alloc_new w1 (brO a b c)
    have d1 := b1.alloc b1.size (brO a b c)
    clear h1 b1
    go_upto_region 4 with fail
    generalize w1.alloc (brO a b c) = W1 at hB d1 ⊢
    obtain ⟨gb, hgb⟩ : ∃ g, w1.heap.size = g := ⟨_, rfl⟩
    rw [hgb] at hB ⊢
    clear hgb
    go_wp2_with fail
    refine (ReadBreach_calls l _ h20 (HE.out.below d1) (HM.out.below d1)).mono ?_
    rintro e w2 ⟨⟨a', b', c', ok', rfl, h2⟩, b2⟩
    obtain ⟨⟨rfl, rfl, rfl⟩, rfl⟩ := H1.out.uniq h2
    have hB2 := blk_alloc (blk_below hB b2 (blk_lt hB)) (brO a b c)
    have hC := heap_alloc_new w2 (brO a b c)
    have d2 := bnext d1 b2 (Nat.le_refl _)
    have d3 := d2.alloc d2.size (brO a b c)
    clear h2 b2 hB d1 d2
    go_upto_region 5 with fail
    generalize w2.alloc (brO a b c) = W2 at hB2 hC d3 ⊢
    obtain ⟨gc, hgc⟩ : ∃ g, w2.heap.size = g := ⟨_, rfl⟩
    rw [hgc] at hC ⊢
    clear hgc
    have k0 := blk_cell hB2 0
    have k1 := blk_cell hB2 1
    have k2 := blk_cell hB2 2
    have c0 := blk_cell hC 0
    have c1 := blk_cell hC 1
    have c2 := blk_cell hC 2
    clear hB2 hC
    go_wp2_with fail
    refine (eqBreach_calls a b c a b c _).mono ?_
    rintro e w3 ⟨he, b3⟩
    rw [show ((a, b, c) == (a, b, c)) = true by simp] at he
    subst he
    have d4 := bnext d3 b3 (Nat.le_refl _)
    clear k0 k1 k2 c0 c1 c2 d3 b3
    cases ok
    · go_wp2_with fail
      go_ret
      exact ⟨rfl, d4⟩
    · go_wp2_with fail
      go_ret
      exact ⟨rfl, d4⟩
  · have h20' : (1048576 : Int) < (l.length : Int) := by omega
    go_enter Tryd.func5, Tryd.ntmps5
    go_wp2_with fail
    go_ret
    exact ⟨rfl, Below.refl _ _⟩
end Go.Proofs.YtbbnjddgioaoeaaDoor
