/- ReadWater: the reference's side. -/
import Derived.Test.YtbbnjddgioaoeaaDoorRwa
namespace Go.Proofs.YtbbnjddgioaoeaaDoor
open Go.RowKit
set_option linter.unusedVariables false

theorem str_is {x y : List UInt8} (h : x = y) : ((mkS x).toList == y) = true := by rw [ByteArray.toList_eq, mkS_list, h]; exact beq_self_eq_true _
theorem str_not {x y : List UInt8} (h : x ≠ y) : ((mkS x).toList == y) = false := by rw [ByteArray.toList_eq, mkS_list, beq_eq_false_iff_ne]; exact h
theorem sp_word (l : List UInt8) : ∀ cur, ∀ x ∈ sp cur l, x.length ≤ cur.length + l.length := by
  induction l with
  | nil =>
    intro cur x hx
    obtain rfl : x = cur := by simpa [sp] using hx
    simp
  | cons b r ih =>
    intro cur x hx
    rw [sp] at hx
    split at hx
    · rcases List.mem_cons.1 hx with rfl | hx
      · omega
      · have := ih [] x hx
        simp at this ⊢
        omega
    · have := ih _ x hx
      simp at this ⊢
      omega
/-- The words and the numbers of a text of water. -/
theorem wa_parts (r s e p q : Int) {j : Nat} (hj : j < 5) : (sp [] (waL r s e p q))[2 * j]? = some (wordL j) ∧ (sp [] (waL r s e p q))[2 * j + 1]? = some (Lib.itoa (numL r s e p q j)) := by
  rw [wa_sp]
  rcases (show j = 0 ∨ j = 1 ∨ j = 2 ∨ j = 3 ∨ j = 4 by omega) with rfl | rfl | rfl | rfl | rfl <;> exact ⟨rfl, rfl⟩
theorem numL_sm {r s e p q : Int} (h : waB (r, s, e, p, q) = true) (j : Nat) : Sm (numL r s e p q j) := by
  obtain ⟨h1, h2, h3, h4, h5⟩ := wa_sm h
  exact numL_P (P := Sm) h1 h2 h3 h4 h5 j
/-- The first i numbers are read. -/
def Good (ps : List (List UInt8)) (xs : List Int) (i : Nat) : Prop := xs.length = i ∧ ∀ j, j < i → ∃ z x, xs[j]? = some z ∧ ps[2 * j]? = some (wordL j) ∧ ps[2 * j + 1]? = some x ∧ NumIs x z true
theorem Good.next {ps : List (List UInt8)} {xs : List Int} {i : Nat} {x : List UInt8} {z : Int} (h : Good ps xs i) (h0 : ps[2 * i]? = some (wordL i)) (h1 : ps[2 * i + 1]? = some x) (hn : NumIs x z true) : Good ps (xs ++ [z]) (i + 1) := by
  refine ⟨by rw [List.length_append, h.1]; rfl, fun j hj => ?_⟩
  rcases Nat.lt_or_eq_of_le (Nat.le_of_lt_succ hj) with hl | rfl
  · obtain ⟨z', x', a, b, c, d⟩ := h.2 j hl
    exact ⟨z', x', by rw [List.getElem?_append_left (by rw [h.1]; exact hl)]; exact a, b, c, d⟩
  · exact ⟨z, x, by rw [List.getElem?_append_right (by rw [h.1]; exact Nat.le_refl _), h.1, Nat.sub_self]; rfl, h0, h1, hn⟩
theorem wa_len_no {l : List UInt8} (h : (sp [] l).length ≠ 10) : WaIs l 0 0 0 0 0 false := wa_no fun a b c d f _ e => h (by rw [← e, wa_sp]; rfl)
theorem wa_num_no {l : List UInt8} {j : Nat} {x : List UInt8} {v : Int} (hj : j < 5) (hx : (sp [] l)[2 * j + 1]? = some x) (h : NumIs x v false) : WaIs l 0 0 0 0 0 false := wa_no fun a b c d f hv e => by
  have h1 := (wa_parts a b c d f hj).2
  rw [e, hx] at h1
  exact (h.2 rfl).2 _ (numL_sm hv j) (Option.some.inj h1).symm
theorem wa_word_no {l : List UInt8} {j : Nat} {x : List UInt8} (hj : j < 5) (hx : (sp [] l)[2 * j]? = some x) (h : x ≠ wordL j) : WaIs l 0 0 0 0 0 false := wa_no fun a b c d f hv e => by
  have h1 := (wa_parts a b c d f hj).1
  rw [e, hx] at h1
  exact h (Option.some.inj h1)
theorem wa_end {l : List UInt8} {xs : List Int} (hl : (sp [] l).length = 10) (h : Good (sp [] l) xs 5) : ∃ a b c d f, xs = [a, b, c, d, f] ∧ waL a b c d f = l ∧ (waB (a, b, c, d, f) = false → WaIs l 0 0 0 0 0 false) := by
  obtain ⟨hlen, H⟩ := h
  obtain ⟨z0, y0, a0, b0, c0, d0⟩ := H 0 (by omega)
  obtain ⟨z1, y1, a1, b1, c1, d1⟩ := H 1 (by omega)
  obtain ⟨z2, y2, a2, b2, c2, d2⟩ := H 2 (by omega)
  obtain ⟨z3, y3, a3, b3, c3, d3⟩ := H 3 (by omega)
  obtain ⟨z4, y4, a4, b4, c4, d4⟩ := H 4 (by omega)
  have hxs : xs = [z0, z1, z2, z3, z4] := by
    match xs, hlen, a0, a1, a2, a3, a4 with
    | [u0, u1, u2, u3, u4], _, h2, h3, h4, h5, h6 =>
      obtain rfl : u0 = z0 := by simpa using h2
      obtain rfl : u1 = z1 := by simpa using h3
      obtain rfl : u2 = z2 := by simpa using h4
      obtain rfl : u3 = z3 := by simpa using h5
      obtain rfl : u4 = z4 := by simpa using h6
      rfl
  have hsp : sp [] l = [wordL 0, y0, wordL 1, y1, wordL 2, y2, wordL 3, y3, wordL 4, y4] := by
    match hh : sp [] l, hl with
    | [u0, u1, u2, u3, u4, u5, u6, u7, u8, u9], _ =>
      rw [hh] at b0 c0 b1 c1 b2 c2 b3 c3 b4 c4
      obtain rfl : u0 = wordL 0 := by simpa using b0
      obtain rfl : u1 = y0 := by simpa using c0
      obtain rfl : u2 = wordL 1 := by simpa using b1
      obtain rfl : u3 = y1 := by simpa using c1
      obtain rfl : u4 = wordL 2 := by simpa using b2
      obtain rfl : u5 = y2 := by simpa using c2
      obtain rfl : u6 = wordL 3 := by simpa using b3
      obtain rfl : u7 = y3 := by simpa using c3
      obtain rfl : u8 = wordL 4 := by simpa using b4
      obtain rfl : u9 = y4 := by simpa using c4
      rfl
  have hL : waL z0 z1 z2 z3 z4 = l := by
    obtain ⟨x, ys, e, hj⟩ := sp_join l []
    rw [hsp] at e
    injection e with e1 e2
    subst e1 e2
    rw [List.nil_append] at hj
    rw [hj, ← (d0.1 rfl).2, ← (d1.1 rfl).2, ← (d2.1 rfl).2, ← (d3.1 rfl).2, ← (d4.1 rfl).2]
    simp [waL, wordL]
  refine ⟨z0, z1, z2, z3, z4, hxs, hL, fun hv => wa_no fun a b c d f hw e => ?_⟩
  have e5 := wa_sp a b c d f
  rw [e, hsp] at e5
  simp only [List.cons.injEq, and_true] at e5
  obtain ⟨_, g0, _, g1, _, g2, _, g3, _, g4⟩ := e5
  obtain ⟨s0, s1, s2, s3, s4⟩ := wa_sm hw
  obtain ⟨rfl, _⟩ := d0.uniq (num_yes s0 g0.symm)
  obtain ⟨rfl, _⟩ := d1.uniq (num_yes s1 g1.symm)
  obtain ⟨rfl, _⟩ := d2.uniq (num_yes s2 g2.symm)
  obtain ⟨rfl, _⟩ := d3.uniq (num_yes s3 g3.symm)
  obtain ⟨rfl, _⟩ := d4.uniq (num_yes s4 g4.symm)
  rw [hw] at hv
  cases hv
set_option maxRecDepth 100000 in
set_option maxHeartbeats 1000000 in
theorem specReadWater_calls (l : List UInt8) (w : World) (hl : l.length ≤ 1048576) :
    Calls Tryd.prog 13 #[.string (mkS l)] w fun e w' => WaEnd l e ∧ Below w.heap.size w w' := by
  have HSZ := hd hl
  have hg := heap_alloc_new w (waC 0 0 0 0 0)
  have dd := (Below.refl w.heap.size w).alloc (Nat.le_refl _) (waC 0 0 0 0 0)
  clear hl
  go_enter Tryd.func13, Tryd.ntmps13
  go_upto_region 1 with fail
  generalize w.alloc (waC 0 0 0 0 0) = W1 at dd hg ⊢
  go_wp2_with fail
  refine (l01Split_calls l _ HSZ.out).mono ?_
  rintro e w1 ⟨A, n, c, rfl, ho, hn, b1⟩
  have d1 := bnext dd b1 (Nat.le_refl _)
  have g1 := blk_below hg b1 (blk_lt hg)
  have HO := hd ho
  have hlen := ho.len
  rw [List.length_map] at hlen
  have HLEN := hd hlen
  clear ho hg dd b1 hlen
  go_upto_region 3 with fail
  have g2 := blk_alloc g1 (.cells wordsC 9)
  have d2 := d1.alloc d1.size (.cells wordsC 9)
  have hW := heap_alloc_new w1 (.cells wordsC 9)
  have HO2 := hd (HO.out.alloc (.cells wordsC 9))
  have lW : w1.heap.size < (w1.alloc (.cells wordsC 9)).heap.size := by simp
  clear g1 d1 HO
  show Code.wp _ _ _ _ (w1.alloc (.cells wordsC 9))
  generalize w1.alloc (.cells wordsC 9) = W2 at g2 d2 hW HO2 lW ⊢
  obtain ⟨gW, hgW⟩ : ∃ g, w1.heap.size = g := ⟨_, rfl⟩
  rw [hgW] at hW lW ⊢
  clear hgW
  by_cases hn10 : n = 10
  · subst hn10
    obtain ⟨bo, cur, rfl, hgb, hblk, hcs, -, -, hhas⟩ := own_block len_cStr HO2.out.2.1 (by omega)
    have lB := blk_lt hblk
    have lG := blk_lt g2
    have HC : Hid (∀ k x, (sp [] l)[k]? = some x → cur[k]? = some (Value.string (mkS x))) := hd (fun k x hx => by
      have hk := lt_of_get hx
      rw [HLEN.out] at hk
      have h1 := hhas k (mkS x) hk (by rw [List.getElem?_map, hx]; rfl) 0 (.string (mkS x)) rfl
      simpa using h1)
    have gE := heap_alloc_new W2 (.cells #[] 2)
    have d3 := d2.alloc d2.size (.cells #[] 2)
    have g3 := blk_alloc g2 (.cells #[] 2)
    have hW3 := blk_alloc hW (.cells #[] 2)
    have hP3 := blk_alloc hblk (.cells #[] 2)
    have own0 := Own.empty (sz := 1) (cs := cInt64) (E := 2) (L := W2.heap.size) (U := W2.heap.size + 1) W2 #[] rfl (Nat.le_refl _) (by simp)
    have OWN0 := hd own0
    have lL : (W2.alloc (.cells #[] 2)).heap.size = W2.heap.size + 1 := by simp
    have hdL := d2.size
    clear hblk hgb hcs hhas gE d2 g2 hW HO2 own0
    go_upto_region 6 with fail
    generalize W2.alloc (.cells #[] 2) = W3 at d3 g3 hW3 hP3 OWN0 lL ⊢
    obtain ⟨L, hL⟩ : ∃ L, W2.heap.size = L := ⟨_, rfl⟩
    rw [hL] at lB lG lW lL OWN0 hdL ⊢
    clear hL
    obtain ⟨i0, hi, hz0, hz1, hz2⟩ := info_parts infoInt64
    have G3 := hd g3
    have W3W := hd hW3
    have W3P := hd hP3
    clear g3 hW3 hP3
    go_wp2_with fail
    go_loopw [6, 7] (fun s6 s7 wr => ∃ i : Nat, ∃ A' c' xs, i ≤ 5 ∧ s7 = .int .i64 i ∧ s6 = .slice A' i c' ∧ Own 1 cInt64 2 wr L wr.heap.size A' i c' xs ∧ Good (sp [] l) xs i ∧ Below L W3 wr) (fun _ i _ => 5 - (intOf i).toNat)
    case atStart => exact ⟨0, _, 0, [], Nat.zero_le _, rfl, rfl, OWN0.out.mono (Nat.le_refl _) (by omega), ⟨rfl, fun j hj => absurd hj (Nat.not_lt_zero _)⟩, Below.refl _ _⟩
    case round =>
      clear OWN0
      obtain ⟨i, A', c', xs, hi5, rfl, rfl, ho, hgood, hb⟩ := hrel
      have HO := hd ho
      have HGD := hd hgood
      clear ho hgood
      by_cases hlt : i < 5
      · obtain ⟨x0, hx0⟩ : ∃ x, (sp [] l)[2 * i]? = some x := ⟨_, List.getElem?_eq_getElem (by rw [HLEN.out]; omega)⟩
        obtain ⟨x1, hx1⟩ : ∃ x, (sp [] l)[2 * i + 1]? = some x := ⟨_, List.getElem?_eq_getElem (by rw [HLEN.out]; omega)⟩
        have w1l : x1.length ≤ 1048576 := by
          have h1 := sp_word l [] x1 (List.mem_of_getElem? hx1)
          have h2 := HSZ.out
          simp at h1
          omega
        have gP := blk_below W3P.out hb lB
        have hc1 := (blk_cell gP (2 * i + 1)).trans (HC.out _ _ hx1)
        have HX0 := hd hx0
        have HX1 := hd hx1
        have i1 : (0 : Int) ≤ (i : Int) := by omega
        have i2 : (i : Int) < 5 := by omega
        have i3 : (0 : Int) ≤ 2 * (i : Int) + 1 := by omega
        have i4 : 2 * (i : Int) + 1 < 10 := by omega
        clear hx0 hx1
        go_wp2_with fail
        refine (l01Number_calls x1 _ w1l).mono ?_
        rintro e w5 ⟨⟨v, ok, rfl, hnv⟩, b5⟩
        have HNV := hd hnv
        have hb5 : Below L W3 w5 := hb.trans (b5.mono (by have := hb.size; omega))
        have HO5 := hd ((HO.out.below b5).mono (Nat.le_refl _) b5.size)
        have gP5 := blk_below W3P.out hb5 lB
        have gW5 := blk_below W3W.out hb5 lW
        have hc0 := (blk_cell gP5 (2 * i)).trans (HC.out _ _ HX0.out)
        have hcw := (blk_cell gW5 i).trans (words_at hlt)
        clear hc1 gP gP5 gW5 hnv HO b5 hb
        cases ok
        · have FF := hd (wa_num_no hlt HX1.out HNV.out)
          have dz : Below w.heap.size w w5 := d3.trans (hb5.mono hdL)
          have g5 := blk_below G3.out hb5 lG
          clear hc0 hcw HNV HO5
          go_wp2_with fail
          go_quiet (fail)
          have dz6 := bdrewN dz nq
          have g6 : (w5.drewN nq).heap[w.heap.size]? = some (waC 0 0 0 0 0) := g5
          generalize w5.drewN nq = w6 at dz6 g6 ⊢
          clear dz g5
          have k0 := blk_cell g6 0
          have k1 := blk_cell g6 1
          have k2 := blk_cell g6 2
          have k3 := blk_cell g6 3
          have k4 := blk_cell g6 4
          have f0 := blk_free g6 0
          have f1 := blk_free g6 1
          have f2 := blk_free g6 2
          have f3 := blk_free g6 3
          have f4 := blk_free g6 4
          have G9 := hd g6
          clear g6
          go_wp2_with fail
          refine bodyPost_ret (results_cell_tmp rfl _ _ _ _ _ _ _ rfl (blk_set5 G9.out _ _ _ _ _) Tryd.underlying29 rfl (by kernel_rfl)) rfl ⟨⟨_, _, _, _, _, _, rfl, FF.out⟩, below_set5 dz6 (Nat.le_refl _) _ _ _ _ _⟩
        · obtain ⟨D, hD⟩ : ∃ D, (⟨(wordL i).toArray⟩ : ByteArray) = D := ⟨_, rfl⟩
          rw [hD] at hcw
          have i5 : (0 : Int) ≤ 2 * (i : Int) := by omega
          have i6 : 2 * (i : Int) < 10 := by omega
          by_cases hq : x0 = wordL i
          · have hqq : ((mkS x0).toList == D.toList) = true := str_eq (by rw [← hD, hq]; rfl)
            have HNEXT := hd (HGD.out.next (by rw [← hq]; exact HX0.out) HX1.out HNV.out)
            clear hD hq
            go_wp2_with fail
            go_quiet (fail)
            have hb6 := bdrewN hb5 nq
            have HO6 : Hid (Own 1 cInt64 2 (w5.drewN nq) L (w5.drewN nq).heap.size A' i c' xs) := hd (HO5.out.below (bdrewN (Below.refl _ _) nq))
            generalize w5.drewN nq = w6 at hb6 HO6 ⊢
            clear hc0 hcw hb5 HO5 hqq
            have lW6 := hb6.size
            go_wp2_with (at_builtin; refine wpList_app _ rfl _ _ 50 rfl 2 i0 _ 1 8 Tryd.underlying50 hi hz0 hz1 hz2 rfl (by decide) len_ci one_ci L w6.heap.size A' i c' xs rfl (HO6.out.alloc _) w6.heap.size v rfl (app_new _ _ _) (by omega) (by unfold maxLen; omega) (by simp; omega) ?_)
            intro A'' c'' w7 ho7 hg7
            have hb7 := below_app (hb6.alloc (by omega) _) (HO6.out.alloc _) hg7 (by omega) (Nat.le_refl _)
            have HO7 := hd ho7
            clear ho7 hg7
            go_wp2_with fail
            go_roundw
            case rel => exact ⟨i + 1, A'', c'', xs ++ [v], by omega, by go_num, rfl, HO7.out, HNEXT.out, hb7⟩
            case measure => simp [intOf]; omega
          · have hqq : ((mkS x0).toList == D.toList) = false := str_ne (by rw [← hD]; exact mkS_ne hq)
            have FF := hd (wa_word_no hlt HX0.out hq)
            have dz : Below w.heap.size w w5 := d3.trans (hb5.mono hdL)
            have g5 := blk_below G3.out hb5 lG
            clear hD hq HNV HO5
            go_wp2_with fail
            go_quiet (fail)
            have dz6 := bdrewN dz nq
            have g6 : (w5.drewN nq).heap[w.heap.size]? = some (waC 0 0 0 0 0) := g5
            generalize w5.drewN nq = w6 at dz6 g6 ⊢
            clear dz g5 hc0 hcw hb5
            have k0 := blk_cell g6 0
            have k1 := blk_cell g6 1
            have k2 := blk_cell g6 2
            have k3 := blk_cell g6 3
            have k4 := blk_cell g6 4
            have f0 := blk_free g6 0
            have f1 := blk_free g6 1
            have f2 := blk_free g6 2
            have f3 := blk_free g6 3
            have f4 := blk_free g6 4
            have G9 := hd g6
            clear g6
            go_wp2_with fail
            refine bodyPost_ret (results_cell_tmp rfl _ _ _ _ _ _ _ rfl (blk_set5 G9.out _ _ _ _ _) Tryd.underlying29 rfl (by kernel_rfl)) rfl ⟨⟨_, _, _, _, _, _, rfl, FF.out⟩, below_set5 dz6 (Nat.le_refl _) _ _ _ _ _⟩
      · obtain rfl : i = 5 := by omega
        obtain ⟨a, b, cc, d, f, rfl, hL, hno⟩ := wa_end HLEN.out HGD.out
        have HL := hd hL
        have HNO := hd hno
        have dz : Below w.heap.size w wr := d3.trans (hb.mono hdL)
        have gz := blk_below G3.out hb lG
        have hrd := HO.out.rd len_ci
        obtain ⟨br, or, z0, rfl, hbl, hz0', hc0⟩ := getInt64 hrd (k := 0) (by omega)
        obtain ⟨b', o', z1, e', -, hz1', hc1⟩ := getInt64 hrd (k := 1) (by omega)
        obtain ⟨rfl, rfl⟩ : br = b' ∧ or = o' := by simpa using e'
        obtain ⟨b', o', z2, e', -, hz2', hc2⟩ := getInt64 hrd (k := 2) (by omega)
        obtain ⟨rfl, rfl⟩ : br = b' ∧ or = o' := by simpa using e'
        obtain ⟨b', o', z3, e', -, hz3', hc3⟩ := getInt64 hrd (k := 3) (by omega)
        obtain ⟨rfl, rfl⟩ : br = b' ∧ or = o' := by simpa using e'
        obtain ⟨b', o', z4, e', -, hz4', hc4⟩ := getInt64 hrd (k := 4) (by omega)
        obtain ⟨rfl, rfl⟩ : br = b' ∧ or = o' := by simpa using e'
        rw [Nat.add_zero] at hc0
        obtain rfl : a = z0 := by simpa using hz0'
        obtain rfl : b = z1 := by simpa using hz1'
        obtain rfl : cc = z2 := by simpa using hz2'
        obtain rfl : d = z3 := by simpa using hz3'
        obtain rfl : f = z4 := by simpa using hz4'
        have GZ := hd gz
        clear hL hno hrd hz0' hz1' hz2' hz3' hz4' e' HO HGD hb gz
        go_wp2_with fail
        go_region_held3 (fun w' => w'.cell? ⟨br, or, none⟩ = some (.int .i64 a) ∧ w'.cell? ⟨br, or + 1, none⟩ = some (.int .i64 b) ∧ w'.cell? ⟨br, or + 2, none⟩ = some (.int .i64 cc) ∧ w'.cell? ⟨br, or + 3, none⟩ = some (.int .i64 d) ∧ w'.cell? ⟨br, or + 4, none⟩ = some (.int .i64 f))
          (first | exact ⟨hc0, hc1, hc2, hc3, hc4⟩ | go_keep) (first | fail)
        have hB : ((wr.alloc (waC a b cc d f)).drew).heap[wr.heap.size]? = some (waC a b cc d f) := heap_alloc_new wr (waC a b cc d f)
        have d9 : Below w.heap.size w ((wr.alloc (waC a b cc d f)).drew) := (dz.alloc dz.size _).drew
        have g9 : ((wr.alloc (waC a b cc d f)).drew).heap[w.heap.size]? = some (waC 0 0 0 0 0) := blk_alloc GZ.out _
        clear hc0 hc1 hc2 hc3 hc4 hbl dz GZ
        show Exit.then _ _ Exit.normal _ ((wr.alloc (waC a b cc d f)).drew)
        generalize (wr.alloc (waC a b cc d f)).drew = W9 at hB d9 g9 ⊢
        obtain ⟨gb, hgb⟩ : ∃ g, wr.heap.size = g := ⟨_, rfl⟩
        rw [hgb] at hB ⊢
        clear hgb
        go_wp2_with fail
        refine (l13Ok_calls gb 0 a b cc d f _ (blk_cell hB 0) (blk_cell hB 1) (blk_cell hB 2) (blk_cell hB 3) (blk_cell hB 4)).mono ?_
        rintro e W10 ⟨he, rfl⟩
        cases hv : waB (a, b, cc, d, f)
        · rw [hv] at he
          subst he
          have FF := hd (HNO.out hv)
          clear hv hB
          have k0 := blk_cell g9 0
          have k1 := blk_cell g9 1
          have k2 := blk_cell g9 2
          have k3 := blk_cell g9 3
          have k4 := blk_cell g9 4
          have f0 := blk_free g9 0
          have f1 := blk_free g9 1
          have f2 := blk_free g9 2
          have f3 := blk_free g9 3
          have f4 := blk_free g9 4
          have G9 := hd g9
          clear g9
          go_wp2_with fail
          refine bodyPost_ret (results_cell_tmp rfl _ _ _ _ _ _ _ rfl (blk_set5 G9.out _ _ _ _ _) Tryd.underlying29 rfl (by kernel_rfl)) rfl ⟨⟨_, _, _, _, _, _, rfl, FF.out⟩, below_set5 d9 (Nat.le_refl _) _ _ _ _ _⟩
        · rw [hv] at he
          subst he
          have FF := hd (wa_yes hv HL.out)
          have c0 := blk_cell hB 0
          have c1 := blk_cell hB 1
          have c2 := blk_cell hB 2
          have c3 := blk_cell hB 3
          have c4 := blk_cell hB 4
          clear hv hB
          have k0 := blk_cell g9 0
          have k1 := blk_cell g9 1
          have k2 := blk_cell g9 2
          have k3 := blk_cell g9 3
          have k4 := blk_cell g9 4
          have f0 := blk_free g9 0
          have f1 := blk_free g9 1
          have f2 := blk_free g9 2
          have f3 := blk_free g9 3
          have f4 := blk_free g9 4
          have G9 := hd g9
          clear g9
          go_wp2_with fail
          refine bodyPost_ret (results_cell_tmp rfl _ _ _ _ _ _ _ rfl (blk_set5 G9.out _ _ _ _ _) Tryd.underlying29 rfl (by kernel_rfl)) rfl ⟨⟨_, _, _, _, _, _, rfl, FF.out⟩, below_set5 d9 (Nat.le_refl _) _ _ _ _ _⟩
  · have hn10' : ¬ ((n : Int) = 10) := by omega
    have FF := hd (wa_len_no (l := l) (by rw [HLEN.out]; exact hn10))
    clear hn10 hW HO2
    have k0 := blk_cell g2 0
    have k1 := blk_cell g2 1
    have k2 := blk_cell g2 2
    have k3 := blk_cell g2 3
    have k4 := blk_cell g2 4
    have f0 := blk_free g2 0
    have f1 := blk_free g2 1
    have f2 := blk_free g2 2
    have f3 := blk_free g2 3
    have f4 := blk_free g2 4
    have G9 := hd g2
    clear g2
    go_wp2_with fail
    refine bodyPost_ret (results_cell_tmp rfl _ _ _ _ _ _ _ rfl (blk_set5 G9.out _ _ _ _ _) Tryd.underlying29 rfl (by kernel_rfl)) rfl ⟨⟨_, _, _, _, _, _, rfl, FF.out⟩, below_set5 d2 (Nat.le_refl _) _ _ _ _ _⟩
set_option maxRecDepth 100000 in
set_option maxHeartbeats 1000000 in
theorem FnExactReadWater_calls (s : ByteArray) (w : World) (ws : s.size ≤ maxLen) (hE : Env w) :
    Calls Tryd.prog 4 #[.string s] w fun e w' => e = .returned (.bool true) ∧ Below w.heap.size w w' := by
  obtain ⟨l, rfl⟩ : ∃ l, s = mkS l := ⟨s.data.toList, rfl⟩
  have hsz := mkS_size l
  unfold maxLen at ws
  have HE := hd hE
  clear hE
  by_cases h20 : l.length ≤ 1048576
  · have h20' : ¬ (1048576 : Int) < (l.length : Int) := by omega
    go_enter Tryd.func4, Tryd.ntmps4
    go_wp2_with fail
    refine (specReadWater_calls l _ h20).mono ?_
    rintro e w1 ⟨⟨a, b, c, d, f, ok, rfl, h1⟩, b1⟩
    have H1 := hd h1
    have hB := heap_alloc_new w1 (waC a b c d f)
    have d1 := b1.alloc b1.size (waC a b c d f)
    clear h1 b1
    go_upto_region 4 with fail
    generalize w1.alloc (waC a b c d f) = W1 at hB d1 ⊢
    obtain ⟨gb, hgb⟩ : ∃ g, w1.heap.size = g := ⟨_, rfl⟩
    rw [hgb] at hB ⊢
    clear hgb
    go_wp2_with fail
    refine (ReadWater_calls l _ h20 (HE.out.below d1)).mono ?_
    rintro e w2 ⟨⟨a', b', c', d', f', ok', rfl, h2⟩, b2⟩
    obtain ⟨⟨rfl, rfl, rfl, rfl, rfl⟩, rfl⟩ := H1.out.uniq h2
    have hB2 := blk_alloc (blk_below hB b2 (blk_lt hB)) (waC a b c d f)
    have hC := heap_alloc_new w2 (waC a b c d f)
    have d2 := bnext d1 b2 (Nat.le_refl _)
    have d3 := d2.alloc d2.size (waC a b c d f)
    clear h2 b2 hB d1 d2
    go_upto_region 5 with fail
    generalize w2.alloc (waC a b c d f) = W2 at hB2 hC d3 ⊢
    obtain ⟨gc, hgc⟩ : ∃ g, w2.heap.size = g := ⟨_, rfl⟩
    rw [hgc] at hC ⊢
    clear hgc
    have k0 := blk_cell hB2 0
    have k1 := blk_cell hB2 1
    have k2 := blk_cell hB2 2
    have k3 := blk_cell hB2 3
    have k4 := blk_cell hB2 4
    have c0 := blk_cell hC 0
    have c1 := blk_cell hC 1
    have c2 := blk_cell hC 2
    have c3 := blk_cell hC 3
    have c4 := blk_cell hC 4
    clear hB2 hC
    go_wp2_with fail
    refine (eqWater_calls a b c d f a b c d f _).mono ?_
    rintro e w3 ⟨he, b3⟩
    rw [show ((a, b, c, d, f) == (a, b, c, d, f)) = true by simp] at he
    subst he
    have d4 := bnext d3 b3 (Nat.le_refl _)
    clear k0 k1 k2 k3 k4 c0 c1 c2 c3 c4 d3 b3
    cases ok
    · go_wp2_with fail
      go_ret
      exact ⟨rfl, d4⟩
    · go_wp2_with fail
      go_ret
      exact ⟨rfl, d4⟩
  · have h20' : (1048576 : Int) < (l.length : Int) := by omega
    go_enter Tryd.func4, Tryd.ntmps4
    go_wp2_with fail
    go_ret
    exact ⟨rfl, Below.refl _ _⟩
end Go.Proofs.YtbbnjddgioaoeaaDoor
