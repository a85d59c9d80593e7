/- Storage curves: the volume at a level, the least level with a volume. -/
import Derived.Test.YtieomdjcnaaopaaCur
namespace Go.Proofs.Ytieomdjcnaaopaa
open Go.RowKit
set_option linter.unusedVariables false

theorem lastZ_n {xs : List Int} {n : Nat} (h : xs.length = n) : lastZ xs = at0 xs (n - 1) := by unfold lastZ; rw [h]
theorem vol_at {ls vs : List Int} {level : Int} {k : Nat} {l0 l1 v0 v1 : Int} (hk : knot ls level = k) (h1 : at0 ls k = l0) (h2 : at0 ls (k + 1) = l1) (h3 : at0 vs k = v0) (h4 : at0 vs (k + 1) = v1) : volZ ls vs level = v0 + ((v1 - v0) * (level - l0)).tdiv (l1 - l0) := by
  unfold volZ
  rw [hk, h1, h2, h3, h4]
theorem vol_in {ls vs : List Int} (h : CV ls vs) {level : Int} (h0 : at0 ls 0 ≤ level) (h1 : level ≤ lastZ ls) : 0 ≤ volZ ls vs level ∧ volZ ls vs level ≤ 1000000000 := by
  have a := (vol_bd h h0 h1).2
  have hl := knot_lt h.n2 level
  have b := h.vb (knot ls level) (by omega)
  have c := h.vb (knot ls level + 1) hl
  omega
theorem lv_down {ls vs : List Int} (h : CV ls vs) {v m : Int} (h0 : at0 ls 0 ≤ m) (h1 : m ≤ lastZ ls) (h2 : volZ ls vs m < v) : ∀ y, at0 ls 0 ≤ y → y < m + 1 → volZ ls vs y < v := by
  intro y a b
  have := vol_mono h a (show y ≤ m by omega) h1
  omega

set_option maxRecDepth 100000 in
set_option maxHeartbeats 1000000 in
theorem volume_calls (aL : Option Addr) (nL cL : Nat) (xL : List Int) (aV : Option Addr) (nV cV : Nat) (xV : List Int) (level : Int) (w : World) (rL : RdInt64 w aL nL xL) (hL : nL ≤ 1048576) (rV : RdInt64 w aV nV xV) (hV : nV ≤ 1048576) (cv : CV xL xV) (hlo : at0 xL 0 ≤ level) (hhi : level ≤ lastZ xL) :
    Calls Try.prog 101 #[.agg #[.slice aL nL cL, .slice aV nV cV], .int .i64 level] w fun e w' => e = .returned (.int .i64 (volZ xL xV level)) ∧ Below w.heap.size w w' := by
  have LL := rL.len
  have LV := rV.len
  have n2 := cv.n2
  have n12 := cv.n12
  have hln := cv.len
  rw [LL] at n2 n12 hln
  rw [LV] at hln
  subst hln
  obtain ⟨bL, oL, hbL, hl1, hcL⟩ := rdBase rL (by omega)
  obtain ⟨bV, oV, hbV, hl2, hcV⟩ := rdBase rV (by omega)
  obtain ⟨k, hk⟩ : ∃ k, knot xL level = k := ⟨_, rfl⟩
  have hkl := knot_lt cv.n2 level
  have hb := vol_bd cv hlo hhi
  have hi := knot_in cv hlo hhi
  rw [LL, hk] at hkl
  rw [hk] at hb hi
  have A := cv.li k (by rw [LL]; exact hkl)
  have B := cv.vi k (by rw [LL]; exact hkl)
  have C1 := cv.lb k (by rw [LL]; omega)
  have C2 := cv.lb (k + 1) (by rw [LL]; exact hkl)
  have E1 := cv.vb k (by rw [LL]; omega)
  have E2 := cv.vb (k + 1) (by rw [LL]; exact hkl)
  obtain ⟨l0, hl0⟩ : ∃ x, at0 xL k = x := ⟨_, rfl⟩
  obtain ⟨l1, hl1'⟩ : ∃ x, at0 xL (k + 1) = x := ⟨_, rfl⟩
  obtain ⟨v0, hv0⟩ : ∃ x, at0 xV k = x := ⟨_, rfl⟩
  obtain ⟨v1, hv1⟩ : ∃ x, at0 xV (k + 1) = x := ⟨_, rfl⟩
  have FF := hd (vol_at (vs := xV) hk hl0 hl1' hv0 hv1)
  have HK := hd hk
  have c0 := hcL k (by omega)
  have c1 := hcL (k + 1) hkl
  have c2 := hcV k (by omega)
  have c3 := hcV (k + 1) hkl
  rw [hl0] at c0 hb hi A C1
  rw [hl1'] at c1 hi A C2
  rw [hv0] at c2 hb B E1
  rw [hv1] at c3 hb B E2
  obtain ⟨⟨m0, m1⟩, m2, m3⟩ := hb
  rw [FF.out] at m2 m3
  obtain ⟨i0, i1⟩ := hi
  obtain ⟨C1a, C1b⟩ := C1
  obtain ⟨C2a, C2b⟩ := C2
  obtain ⟨E1a, E1b⟩ := E1
  obtain ⟨E2a, E2b⟩ := E2
  have HCV := hd cv
  clear hk hl0 hl1' hv0 hv1 hcL hcV LL LV cv hlo hhi
  have hdz : (l1 - l0 == 0) = false := by simp; omega
  have q0 : (0 : Int) ≤ (k : Int) := by omega
  have q1 : (k : Int) < (nV : Int) := by omega
  have q2 : (0 : Int) ≤ (k : Int) + 1 := by omega
  have q3 : (k : Int) + 1 < (nV : Int) := by omega
  subst hbL
  subst hbV
  go_enter Try.func101, Try.ntmps101
  go_wp2_with fail
  refine (part_calls _ nV cL xL _ nV cV xV level _ (rL.alloc _) hL (rV.alloc _) hV HCV.out).mono ?_
  rintro e w1 ⟨he, b1⟩
  rw [HK.out] at he
  subst he
  have hg1 := box_q b1
  have d1 := bbox1 b1
  clear b1
  have k0 := blk_cell hg1 0
  have k1 := blk_cell hg1 1
  have c0' := (d1.cell (p := ⟨bL, oL + k, none⟩) hl1).trans c0
  have c1' := (d1.cell (p := ⟨bL, oL + (k + 1), none⟩) hl1).trans c1
  have c2' := (d1.cell (p := ⟨bV, oV + k, none⟩) hl2).trans c2
  have c3' := (d1.cell (p := ⟨bV, oV + (k + 1), none⟩) hl2).trans c3
  clear c0 c1 c2 c3
  go_wp2_with fail
  go_quiet (fail)
  go_wp2_with fail
  go_ret
  exact ⟨ret_int (by rw [FF.out]), below_drewN d1 _⟩
set_option maxRecDepth 100000 in
set_option maxHeartbeats 1000000 in
theorem l05Volume_calls (g : Nat) (aL : Option Addr) (nL cL : Nat) (xL : List Int) (aV : Option Addr) (nV cV : Nat) (xV : List Int) (level : Int) (w : World) (hg : w.heap[g]? = some (cvC aL nL cL aV nV cV)) (rL : RdInt64 w aL nL xL) (hL : nL ≤ 1048576) (rV : RdInt64 w aV nV xV) (hV : nV ≤ 1048576) (cv : CV xL xV) (hlo : at0 xL 0 ≤ level) (hhi : level ≤ lastZ xL) :
    Calls Try.prog 92 #[.pointer (some ⟨g, 0, none⟩), .int .i64 level] w fun e w' => e = .returned (.int .i64 (volZ xL xV level)) ∧ Below w.heap.size w w' := by
  have LL := rL.len
  have LV := rV.len
  have n2 := cv.n2
  have n12 := cv.n12
  have hln := cv.len
  rw [LL] at n2 n12 hln
  rw [LV] at hln
  subst hln
  obtain ⟨bL, oL, hbL, hl1, hcL⟩ := rdBase rL (by omega)
  obtain ⟨bV, oV, hbV, hl2, hcV⟩ := rdBase rV (by omega)
  obtain ⟨k, hk⟩ : ∃ k, knot xL level = k := ⟨_, rfl⟩
  have hkl := knot_lt cv.n2 level
  have hb := vol_bd cv hlo hhi
  have hi := knot_in cv hlo hhi
  rw [LL, hk] at hkl
  rw [hk] at hb hi
  have A := cv.li k (by rw [LL]; exact hkl)
  have B := cv.vi k (by rw [LL]; exact hkl)
  have C1 := cv.lb k (by rw [LL]; omega)
  have C2 := cv.lb (k + 1) (by rw [LL]; exact hkl)
  have E1 := cv.vb k (by rw [LL]; omega)
  have E2 := cv.vb (k + 1) (by rw [LL]; exact hkl)
  obtain ⟨l0, hl0⟩ : ∃ x, at0 xL k = x := ⟨_, rfl⟩
  obtain ⟨l1, hl1'⟩ : ∃ x, at0 xL (k + 1) = x := ⟨_, rfl⟩
  obtain ⟨v0, hv0⟩ : ∃ x, at0 xV k = x := ⟨_, rfl⟩
  obtain ⟨v1, hv1⟩ : ∃ x, at0 xV (k + 1) = x := ⟨_, rfl⟩
  have FF := hd (vol_at (vs := xV) hk hl0 hl1' hv0 hv1)
  have HK := hd hk
  have c0 := hcL k (by omega)
  have c1 := hcL (k + 1) hkl
  have c2 := hcV k (by omega)
  have c3 := hcV (k + 1) hkl
  rw [hl0] at c0 hb hi A C1
  rw [hl1'] at c1 hi A C2
  rw [hv0] at c2 hb B E1
  rw [hv1] at c3 hb B E2
  obtain ⟨⟨m0, m1⟩, m2, m3⟩ := hb
  rw [FF.out] at m2 m3
  obtain ⟨i0, i1⟩ := hi
  obtain ⟨C1a, C1b⟩ := C1
  obtain ⟨C2a, C2b⟩ := C2
  obtain ⟨E1a, E1b⟩ := E1
  obtain ⟨E2a, E2b⟩ := E2
  have HCV := hd cv
  clear hk hl0 hl1' hv0 hv1 hcL hcV LL LV cv hlo hhi
  have hdz : (l1 - l0 == 0) = false := by simp; omega
  have q0 : (0 : Int) ≤ (k : Int) := by omega
  have q1 : (k : Int) < (nV : Int) := by omega
  have q2 : (0 : Int) ≤ (k : Int) + 1 := by omega
  have q3 : (k : Int) + 1 < (nV : Int) := by omega
  have HG := hd hg
  have hgl := blk_lt hg
  clear hg
  go_enter Try.func92, Try.ntmps92
  go_wp2_with fail
  refine (l05Knot_calls g aL nV cL xL aV nV cV xV level _ HG.out rL hL rV hV HCV.out).mono ?_
  rintro e w1 ⟨he, d1⟩
  rw [HK.out] at he
  subst he
  have hg1 := blk_below HG.out d1 hgl
  subst hbL
  subst hbV
  have k0 := blk_cell hg1 0
  have k1 := blk_cell hg1 1
  have c0' := (d1.cell (p := ⟨bL, oL + k, none⟩) hl1).trans c0
  have c1' := (d1.cell (p := ⟨bL, oL + (k + 1), none⟩) hl1).trans c1
  have c2' := (d1.cell (p := ⟨bV, oV + k, none⟩) hl2).trans c2
  have c3' := (d1.cell (p := ⟨bV, oV + (k + 1), none⟩) hl2).trans c3
  clear c0 c1 c2 c3
  go_wp2_with fail
  go_quiet (fail)
  generalize hD : w1.drewN _ = W5
  have b5 : Below w1.heap.size w1 W5 := hD ▸ below_drewN (Below.refl _ _) _
  have d5 : Below w.heap.size w W5 := bnext d1 b5 (Nat.le_refl _)
  have hg5 := blk_below hg1 b5 (blk_lt hg1)
  have s5 := d1.size
  clear k0 k1
  have k0 := blk_cell hg5 0
  have k1 := blk_cell hg5 1
  have c0 := (b5.cell (p := ⟨bL, oL + k, none⟩) (Nat.lt_of_lt_of_le hl1 s5)).trans c0'
  have c1 := (b5.cell (p := ⟨bL, oL + (k + 1), none⟩) (Nat.lt_of_lt_of_le hl1 s5)).trans c1'
  have c2 := (b5.cell (p := ⟨bV, oV + k, none⟩) (Nat.lt_of_lt_of_le hl2 s5)).trans c2'
  have c3 := (b5.cell (p := ⟨bV, oV + (k + 1), none⟩) (Nat.lt_of_lt_of_le hl2 s5)).trans c3'
  clear c0' c1' c2' c3' hD
  go_wp2_with fail
  go_quiet (fail)
  go_wp2_with fail
  go_ret
  exact ⟨ret_int (by rw [FF.out]), below_drewN d5 _⟩
set_option maxRecDepth 100000 in
set_option maxHeartbeats 1000000 in
theorem level_calls (aL : Option Addr) (nL cL : Nat) (xL : List Int) (aV : Option Addr) (nV cV : Nat) (xV : List Int) (v : Int) (w : World) (rL : RdInt64 w aL nL xL) (hL : nL ≤ 1048576) (rV : RdInt64 w aV nV xV) (hV : nV ≤ 1048576) (cv : CV xL xV) :
    Calls Try.prog 88 #[.agg #[.slice aL nL cL, .slice aV nV cV], .int .i64 v] w fun e w' => e = .returned (.int .i64 (lvZ xL xV v)) ∧ Below w.heap.size w w' := by
  have LL := rL.len
  have n2 := cv.n2
  have n12 := cv.n12
  rw [LL] at n2 n12
  obtain ⟨bL, oL, hbL, hl1, hcL⟩ := rdBase rL (by omega)
  have HLN := hd (lastZ_n LL)
  have b0 := cv.lb 0 (by rw [LL]; omega)
  have b1 := cv.lb (nL - 1) (by rw [LL]; omega)
  have HLE : at0 xL 0 ≤ at0 xL (nL - 1) := inc_le (n := xL.length) cv.li (Nat.zero_le _) (by rw [LL]; omega)
  rw [← HLN.out] at HLE b1
  obtain ⟨l0, hl0⟩ : ∃ x, at0 xL 0 = x := ⟨_, rfl⟩
  obtain ⟨ll, hll⟩ : ∃ x, lastZ xL = x := ⟨_, rfl⟩
  have c0 := hcL 0 (by omega)
  have c1 := hcL (nL - 1) (by omega)
  rw [← HLN.out, hll] at c1
  rw [hl0] at c0 HLE b0
  rw [hll] at HLE b1
  obtain ⟨b0a, b0b⟩ := b0
  obtain ⟨b1a, b1b⟩ := b1
  have HCV := hd cv
  have HL0 := hd hl0
  have HLL := hd hll
  simp only [Nat.add_zero] at c0
  obtain ⟨nn, rfl⟩ : ∃ nn, nL = nn + 1 := ⟨nL - 1, by omega⟩
  rw [Nat.add_sub_cancel] at c1
  have q1 : (0 : Int) < (nn : Int) + 1 := by omega
  have HDN := hd (fun m (a : l0 ≤ m) (b : m ≤ ll) (c : volZ xL xV m < v) => lv_down HCV.out (by rw [HL0.out]; exact a) (by rw [HLL.out]; exact b) c)
  clear hl0 hll hcL cv LL HLN
  subst hbL
  go_enter Try.func88, Try.ntmps88
  go_upto_region 1 with fail
  have hgb := heap_alloc_new w (cvC (some ⟨bL, oL, none⟩) (nn + 1) cL aV nV cV)
  have d0 : Below w.heap.size w (w.alloc (cvC (some ⟨bL, oL, none⟩) (nn + 1) cL aV nV cV)) := (Below.refl _ _).alloc (Nat.le_refl _) _
  generalize w.alloc (cvC (some ⟨bL, oL, none⟩) (nn + 1) cL aV nV cV) = w0 at hgb d0 ⊢
  have k0 := blk_cell hgb 0
  have c0' := (d0.cell (p := ⟨bL, oL, none⟩) hl1).trans c0
  have RL0 := hd (rL.below d0)
  go_quiet ((go_at_call 102; exact Calls.quiet_of_same ((last_calls _ _ _ xL _ (RL0.out.below (below_drewN (Below.refl _ _) _)) hL (by omega)).mono (fun _ _ h => ⟨h.1, h.2.symm⟩))))
  rw [HLL.out]
  generalize hD : w0.drewN _ = W5
  have d5 : Below w.heap.size w W5 := hD ▸ below_drewN d0 _
  have hg5 : W5.heap[w.heap.size]? = some (cvC (some ⟨bL, oL, none⟩) (nn + 1) cL aV nV cV) := hD ▸ blk_below hgb (below_drewN (Below.refl _ _) _) (blk_lt hgb)
  clear hD k0 c0' c0 c1 hgb d0 RL0
  go_wp2_with fail
  go_loopw [5, 6] (fun t s wr => ∃ lo hi : Int, t = .int .i64 lo ∧ s = .int .i64 hi ∧ (l0 ≤ lo ∧ lo ≤ hi) ∧ hi ≤ ll ∧ (∀ y, at0 xL 0 ≤ y → y < lo → volZ xL xV y < v) ∧ (v ≤ volZ xL xV hi ∨ hi = ll) ∧ wr.heap[w.heap.size]? = some (cvC (some ⟨bL, oL, none⟩) (nn + 1) cL aV nV cV) ∧ Below w.heap.size w wr) (fun t s _ => (intOf s - intOf t).toNat)
  case atStart => exact ⟨l0, ll, rfl, rfl, ⟨Int.le_refl _, HLE⟩, Int.le_refl _, fun y a b => by rw [HL0.out] at a; omega, .inr rfl, hg5, d5⟩
  case round =>
    clear hg5 d5
    obtain ⟨lo, hi, rfl, rfl, ⟨r0, r1⟩, r2, hdn, hup, hg, hb⟩ := hrel
    have HG := hd hg
    have HD := hd hdn
    have HU := hd hup
    have k0 := blk_cell hg 0
    have k1 := blk_cell hg 1
    clear hg hdn hup
    by_cases hlt : lo < hi
    · have hm : Hid ((lo + hi) / 2 = (lo + hi) / 2) := hd rfl
      go_wp2_with fail
      refine (floorDiv_calls (lo + hi) 2 _ (by omega) (by omega) (by omega) (by omega)).mono ?_
      rintro e w' ⟨rfl, rfl⟩
      obtain ⟨mid, hmid⟩ : ∃ m, (lo + hi) / 2 = m := ⟨_, rfl⟩
      have hm0 : lo ≤ mid := by omega
      have hm1 : mid < hi := by omega
      rw [hmid]
      clear hmid hm
      go_wp2_with fail
      refine (volume_calls (some ⟨bL, oL, none⟩) (nn + 1) cL xL aV nV cV xV mid _ (rL.below hb) hL (rV.below hb) hV HCV.out (by rw [HL0.out]; omega) (by rw [HLL.out]; omega)).mono ?_
      rintro e w2 ⟨rfl, b2⟩
      have d2 := bnext hb b2 (Nat.le_refl _)
      have hg2 := hd (blk_below HG.out b2 (blk_lt HG.out))
      clear k0 k1
      by_cases hv : v ≤ volZ xL xV mid
      · have HVV := hd hv
        generalize volZ xL xV mid = z at hv ⊢
        go_wp2_with fail
        go_roundw
        case rel => exact ⟨lo, mid, rfl, rfl, ⟨r0, hm0⟩, by omega, HD.out, .inl HVV.out, hg2.out, d2⟩
        case measure => simp [intOf]; omega
      · have HVV := hd (HDN.out mid (by omega) (by omega) (by omega))
        generalize volZ xL xV mid = z at hv ⊢
        go_wp2_with fail
        go_roundw
        case rel => exact ⟨mid + 1, hi, by go_num, rfl, ⟨by omega, by omega⟩, r2, HVV.out, HU.out, hg2.out, d2⟩
        case measure => simp [intOf]; omega
    · obtain rfl : lo = hi := by omega
      have FF : Hid (lvZ xL xV v = lo) := hd (lv_eq (by rw [HL0.out]; exact r0) (by rw [HLL.out]; exact r2) (by rw [HLL.out]; exact HU.out) HD.out)
      go_wp2_with fail
      go_ret
      exact ⟨ret_int FF.out.symm, hb⟩
set_option maxRecDepth 100000 in
set_option maxHeartbeats 1000000 in
theorem l05Level_calls (g : Nat) (aL : Option Addr) (nL cL : Nat) (xL : List Int) (aV : Option Addr) (nV cV : Nat) (xV : List Int) (v : Int) (w : World) (hg : w.heap[g]? = some (cvC aL nL cL aV nV cV)) (rL : RdInt64 w aL nL xL) (hL : nL ≤ 1048576) (rV : RdInt64 w aV nV xV) (hV : nV ≤ 1048576) (cv : CV xL xV) :
    Calls Try.prog 94 #[.pointer (some ⟨g, 0, none⟩), .int .i64 v] w fun e w' => e = .returned (.int .i64 (lvZ xL xV v)) ∧ Below w.heap.size w w' := by
  have LL := rL.len
  have n2 := cv.n2
  have n12 := cv.n12
  rw [LL] at n2 n12
  obtain ⟨bL, oL, hbL, hl1, hcL⟩ := rdBase rL (by omega)
  have HLN := hd (lastZ_n LL)
  have b0 := cv.lb 0 (by rw [LL]; omega)
  have b1 := cv.lb (nL - 1) (by rw [LL]; omega)
  have HLE : at0 xL 0 ≤ at0 xL (nL - 1) := inc_le (n := xL.length) cv.li (Nat.zero_le _) (by rw [LL]; omega)
  rw [← HLN.out] at HLE b1
  obtain ⟨l0, hl0⟩ : ∃ x, at0 xL 0 = x := ⟨_, rfl⟩
  obtain ⟨ll, hll⟩ : ∃ x, lastZ xL = x := ⟨_, rfl⟩
  have c0 := hcL 0 (by omega)
  have c1 := hcL (nL - 1) (by omega)
  rw [← HLN.out, hll] at c1
  rw [hl0] at c0 HLE b0
  rw [hll] at HLE b1
  obtain ⟨b0a, b0b⟩ := b0
  obtain ⟨b1a, b1b⟩ := b1
  have HCV := hd cv
  have HL0 := hd hl0
  have HLL := hd hll
  simp only [Nat.add_zero] at c0
  obtain ⟨nn, rfl⟩ : ∃ nn, nL = nn + 1 := ⟨nL - 1, by omega⟩
  rw [Nat.add_sub_cancel] at c1
  have q1 : (0 : Int) < (nn : Int) + 1 := by omega
  have HDN := hd (fun m (a : l0 ≤ m) (b : m ≤ ll) (c : volZ xL xV m < v) => lv_down HCV.out (by rw [HL0.out]; exact a) (by rw [HLL.out]; exact b) c)
  clear hl0 hll hcL cv LL HLN
  have hgl := blk_lt hg
  have HGP := hd hg
  have k0 := blk_cell hg 0
  clear hg
  have q2 : (0 : Int) ≤ (nn : Int) := by omega
  have q3 : (nn : Int) < (nn : Int) + 1 := by omega
  subst hbL
  go_enter Try.func94, Try.ntmps94
  go_wp2_with fail
  go_quiet (fail)
  generalize hD : w.drewN _ = W5
  have d5 : Below w.heap.size w W5 := hD ▸ below_drewN (Below.refl _ _) _
  clear hD k0 c0 c1
  go_wp2_with fail
  go_loopw [5, 6] (fun t s wr => ∃ lo hi : Int, t = .int .i64 lo ∧ s = .int .i64 hi ∧ (l0 - 1 ≤ lo ∧ lo < hi) ∧ hi ≤ ll ∧ (∀ y, at0 xL 0 ≤ y → y < lo + 1 → volZ xL xV y < v) ∧ (v ≤ volZ xL xV hi ∨ hi = ll) ∧ Below w.heap.size w wr) (fun t s _ => (intOf s - intOf t).toNat)
  case atStart => exact ⟨l0 - 1, ll, rfl, rfl, ⟨Int.le_refl _, by omega⟩, Int.le_refl _, fun y a b => by rw [HL0.out] at a; omega, .inr rfl, d5⟩
  case round =>
    clear d5
    obtain ⟨lo, hi, rfl, rfl, ⟨r0, r1⟩, r2, hdn, hup, hb⟩ := hrel
    have HD := hd hdn
    have HU := hd hup
    clear hdn hup
    by_cases hlt : 1 < hi - lo
    · go_wp2_with fail
      refine (l02Floor_calls (lo + hi) 2 _ (by omega) (by omega) (by omega) (by omega)).mono ?_
      rintro e w' ⟨rfl, rfl⟩
      obtain ⟨mid, hmid⟩ : ∃ m, (lo + hi) / 2 = m := ⟨_, rfl⟩
      have hm0 : lo < mid := by omega
      have hm1 : mid < hi := by omega
      rw [hmid]
      clear hmid
      go_wp2_with fail
      refine (l05Volume_calls g (some ⟨bL, oL, none⟩) (nn + 1) cL xL aV nV cV xV mid _ (blk_below HGP.out hb hgl) (rL.below hb) hL (rV.below hb) hV HCV.out (by rw [HL0.out]; omega) (by rw [HLL.out]; omega)).mono ?_
      rintro e w2 ⟨rfl, b2⟩
      have d2 := bnext hb b2 (Nat.le_refl _)
      by_cases hv : v ≤ volZ xL xV mid
      · have HVV := hd hv
        generalize volZ xL xV mid = z at hv ⊢
        go_wp2_with fail
        go_roundw
        case rel => exact ⟨lo, mid, rfl, rfl, ⟨r0, hm0⟩, by omega, HD.out, .inl HVV.out, d2⟩
        case measure => simp [intOf]; omega
      · have HVV := hd (HDN.out mid (by omega) (by omega) (by omega))
        generalize volZ xL xV mid = z at hv ⊢
        go_wp2_with fail
        go_roundw
        case rel => exact ⟨mid, hi, rfl, rfl, ⟨by omega, by omega⟩, r2, HVV.out, HU.out, d2⟩
        case measure => simp [intOf]; omega
    · obtain rfl : hi = lo + 1 := by omega
      have FF : Hid (lvZ xL xV v = lo + 1) := hd (lv_eq (by rw [HL0.out]; omega) (by rw [HLL.out]; exact r2) (by rw [HLL.out]; exact HU.out) HD.out)
      go_wp2_with fail
      go_ret
      exact ⟨ret_int FF.out.symm, hb⟩
end Go.Proofs.Ytieomdjcnaaopaa
