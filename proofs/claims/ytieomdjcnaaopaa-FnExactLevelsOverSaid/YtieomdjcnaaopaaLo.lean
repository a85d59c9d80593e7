/- Levels over days: LevelsOver. -/
import Derived.Test.YtieomdjcnaaopaaCtl3
import Derived.Test.YtieomdjcnaaopaaVolsB
namespace Go.Proofs.Ytieomdjcnaaopaa
open Go.RowKit
set_option linter.unusedVariables false

def inC (ls : List Int) (level : Int) : Bool := inB level (at0 ls 0) (lastZ ls)
def c5Z (ls vs : List Int) (level : Int) : Int := if cvB ls vs then (if inC ls level then 0 else 2) else 1
def lo1 (ls vs : List Int) : List Int → List Int → List Int × Int
  | acc, [] => (acc, 0)
  | acc, n :: r => if n < 0 then ([], 6) else if lastZ vs < n then ([], 10) else lo1 ls vs (acc ++ [lvZ ls vs n]) r
def loZ (ls vs : List Int) (level : Int) (xs : List W5) : List Int × Int :=
  if xs.all waB && cvB ls vs then (if xs.length ≤ 100 ∧ inC ls level = true then lo1 ls vs [] (volF (volZ ls vs level) xs).2 else ([], 2)) else ([], 1)
theorem drop_at {L : List Int} {k : Nat} {y : Int} (h : L[k]? = some y) : L.drop k = y :: L.drop (k + 1) := by
  obtain ⟨hl, rfl⟩ := List.getElem?_eq_some_iff.1 h
  exact List.drop_eq_getElem_cons hl
theorem lo1_neg {ls vs acc L : List Int} {k : Nat} {y : Int} {R : List Int × Int} (h : L[k]? = some y) (hR : lo1 ls vs acc (L.drop k) = R) (hy : y < 0) : R = ([], 6) := by
  rw [drop_at h] at hR; simp only [lo1, if_pos hy] at hR; exact hR.symm
theorem lo1_big {ls vs acc L : List Int} {k : Nat} {y : Int} {R : List Int × Int} (h : L[k]? = some y) (hR : lo1 ls vs acc (L.drop k) = R) (hy : ¬ y < 0) (h2 : lastZ vs < y) : R = ([], 10) := by
  rw [drop_at h] at hR; simp only [lo1, if_neg hy, if_pos h2] at hR; exact hR.symm
theorem lo1_next {ls vs acc L : List Int} {k : Nat} {y : Int} {R : List Int × Int} (h : L[k]? = some y) (hR : lo1 ls vs acc (L.drop k) = R) (hy : ¬ y < 0) (h2 : ¬ lastZ vs < y) : lo1 ls vs (acc ++ [lvZ ls vs y]) (L.drop (k + 1)) = R := by
  rw [drop_at h] at hR; simp only [lo1, if_neg hy, if_neg h2] at hR; exact hR
theorem lo1_end {ls vs acc L : List Int} {k : Nat} {R : List Int × Int} (hk : L.length ≤ k) (hR : lo1 ls vs acc (L.drop k) = R) : R = (acc, 0) := by
  rw [List.drop_of_length_le hk] at hR; exact hR.symm
theorem volF_at {s : Int} {xs : List W5} {k : Nat} {x : W5} {v : Int} (h : xs[k]? = some x) (hv : (volF s (xs.take k)).1 = v) (hl : (volF s (xs.take k)).2.length = k) : (volF s xs).2[k]? = some (v + netW x) := by
  obtain ⟨r, hr⟩ := volF_pre s xs (k + 1)
  rw [hr, volF_next h]
  unfold volS
  rw [hv]
  simp [hl]
theorem volZ_c5 {ls vs : List Int} {level : Int} (hc : cvB ls vs = true) (h : inC ls level = true) : 0 ≤ volZ ls vs level ∧ volZ ls vs level ≤ 1000000000 := by
  obtain ⟨a, b⟩ := inB_iff.1 h
  exact vol_in (cv_of hc) a b
set_option maxRecDepth 100000 in
set_option maxHeartbeats 1000000 in
theorem isOn_calls (aL : Option Addr) (nL cL : Nat) (xL : List Int) (aV : Option Addr) (nV cV : Nat) (xV : List Int) (level : Int) (w : World) (rL : RdInt64 w aL nL xL) (hL : nL ≤ 1048576) (rV : RdInt64 w aV nV xV) (hV : nV ≤ 1048576) (hc : cvB xL xV = true) :
    Calls Try.prog 99 #[.agg #[.slice aL nL cL, .slice aV nV cV], .int .i64 level] w fun e w' => e = .returned (.bool (inC xL level)) ∧ Below w.heap.size w w' := by
  have cv := cv_of hc
  have LL := rL.len
  have n2 := cv.n2
  have hpos : 0 < nL := by omega
  have HP := hd hpos
  have hg := heap_alloc_new w (cvC aL nL cL aV nV cV)
  have dd : Below w.heap.size w (w.alloc (cvC aL nL cL aV nV cV)) := (Below.refl _ _).alloc (Nat.le_refl _) _
  have rL1 := rL.below dd
  obtain ⟨bL, oL, hbL, hl2, hcL⟩ := rdBase rL1 hpos
  have RL1 := hd rL1
  have c0 := blw_cell (hcL 0 hpos)
  simp only [Nat.add_zero] at c0
  have k0 := blw_cell (blk_cell hg 0)
  have k1 := blw_cell (blk_cell hg 1)
  have q2 : (0 : Int) < (nL : Int) := by omega
  clear cv LL n2 hcL hc hpos rL1 hl2
  subst hbL
  go_enter Try.func99, Try.ntmps99
  go_upto_region 1 with fail
  generalize w.alloc (cvC (some ⟨bL, oL, none⟩) nL cL aV nV cV) = W1 at k0 k1 c0 dd RL1 hg ⊢
  clear hg
  refine wp_region_blw (by kernel_rfl) (by kernel_rfl) ?_
  repeat (go_big_quiet_step (first | (go_at_call 102; with_reducible exact blw_same (last_calls _ _ _ xL _ (RL1.out.below (Blw.out _)) hL HP.out)) | (go_at_call 125; with_reducible exact blw_same (in_calls _ _ _ _))))
  refine wpQuiet_nil ?_
  rintro _ ⟨D, rfl⟩
  go_wp2_with fail
  go_ret
  exact ⟨rfl, bnext dd D.out (Nat.le_refl _)⟩
set_option maxRecDepth 100000 in
set_option maxHeartbeats 1000000 in
theorem l05CodeG_calls (g : Nat) (aL : Option Addr) (nL cL : Nat) (xL : List Int) (aV : Option Addr) (nV cV : Nat) (xV : List Int) (level : Int) (w : World) (hg : w.heap[g]? = some (cvC aL nL cL aV nV cV)) (rL : RdInt64 w aL nL xL) (hL : nL ≤ 1048576) (rV : RdInt64 w aV nV xV) (hV : nV ≤ 1048576) :
    Calls Try.prog 90 #[.pointer (some ⟨g, 0, none⟩), .int .i64 level] w fun e w' => e = .returned (.int .i64 (c5Z xL xV level)) ∧ Below w.heap.size w w' := by
  go_enter Try.func90, Try.ntmps90
  go_wp2_with fail
  refine (l05Ok_calls g aL nL cL xL aV nV cV xV _ hg rL hL rV hV).mono ?_
  rintro e w1 ⟨he, b1⟩
  cases hc : cvB xL xV
  · rw [hc] at he
    subst he
    have HC := hd hc
    clear hc
    go_wp2_with fail
    go_ret
    exact ⟨ret_int (by unfold c5Z; rw [HC.out]; rfl), b1⟩
  · rw [hc] at he
    subst he
    have HC := hd hc
    clear hc
    go_wp2_with fail
    refine (l05In_calls g aL nL cL xL aV nV cV xV level _ (blk_below hg b1 (blk_lt hg)) (rL.below b1) hL (rV.below b1) hV HC.out).mono ?_
    rintro e w2 ⟨he, b2⟩
    cases hi : inC xL level
    all_goals
      have hi' := hi
      unfold inC at hi'
      rw [hi'] at he
      subst he
      have HI := hd hi
      clear hi hi'
      go_wp2_with fail
      go_ret
      exact ⟨ret_int (by unfold c5Z; rw [HC.out, HI.out]; rfl), bnext b1 b2 (Nat.le_refl _)⟩
set_option maxRecDepth 100000 in
set_option maxHeartbeats 1000000 in
theorem LevelsOver_calls (aL : Option Addr) (nL cL : Nat) (xL : List Int) (aV : Option Addr) (nV cV : Nat) (xV : List Int) (level : Int) (a : Option Addr) (n c : Nat) (xs : List W5) (w : World) (rL : RdInt64 w aL nL xL) (hL : nL ≤ 1048576) (rV : RdInt64 w aV nV xV) (hV : nV ≤ 1048576) (hr : RdWater w a n xs) (hn : n ≤ 1048576) :
    Calls Try.prog 41 #[.agg #[.slice aL nL cL, .slice aV nV cV], .int .i64 level, .slice a n c] w fun e w' => ∃ A m c, e = .returned (.tuple #[.slice A m c, .int .i64 (loZ xL xV level xs).2]) ∧ Own 1 ci 2 w' w.heap.size w'.heap.size A m c (loZ xL xV level xs).1 ∧ m ≤ 1048576 ∧ Below w.heap.size w w' := by
  have LX := hd hr.len
  have he := ent Try.func97 (by kernel_rfl) rfl
  obtain ⟨R, hR⟩ : ∃ R, loZ xL xV level xs = R := ⟨_, rfl⟩
  have hR' := hR
  unfold loZ at hR'
  have HR := hd hR'
  rw [hR]
  clear hR hR'
  obtain ⟨i0, hi, hz0, hz1, hz2⟩ := info_parts infoInt64
  have hg := heap_alloc_new w (cvC aL nL cL aV nV cV)
  have dd : Below w.heap.size w (w.alloc (cvC aL nL cL aV nV cV)) := (Below.refl _ _).alloc (Nat.le_refl _) _
  have hs0 : w.heap.size < (w.alloc (cvC aL nL cL aV nV cV)).heap.size := by simp
  go_enter Try.func41, Try.ntmps41
  go_upto_region 1 with fail
  generalize w.alloc (cvC aL nL cL aV nV cV) = W1 at hg dd hs0 ⊢
  go_wp2_with fail
  refine (allWater_calls 97 #[] waB _ _ _ _ _ (hr.below dd) (by omega) he (fun f0 f1 f2 f3 f4 W _ => by rw [Array.append_empty]; exact ValidWater_calls f0 f1 f2 f3 f4 W)).mono ?_
  rintro e w1 ⟨rfl, b1⟩
  have d1 := bnext dd b1 (Nat.le_refl _)
  have g1 := blk_below hg b1 (blk_lt hg)
  clear b1 hg dd hs0 he
  cases hall : xs.all waB
  · have FF : Hid (R = ([], 1)) := hd (by have := HR.out; rw [hall] at this; exact this.symm)
    clear hall g1
    go_wp2_with fail
    go_ret2
    exact ⟨_, 0, 0, ret_sli (by rw [FF.out]), by rw [FF.out]; exact Own.empty _ _ rfl d1.size (by simp), by omega, d1.alloc d1.size _⟩
  have HALL := hd hall
  clear hall
  have k0 := blk_cell g1 0
  have k1 := blk_cell g1 1
  go_wp2_with fail
  refine (ValidCurve_calls aL nL cL xL aV nV cV xV _ (rL.below d1) hL (rV.below d1) hV).mono ?_
  rintro e w2 ⟨he, b2⟩
  have d2 := bnext d1 b2 (Nat.le_refl _)
  have g2 := blk_below g1 b2 (blk_lt g1)
  clear b2 g1 d1 k0 k1
  cases hc : cvB xL xV
  · rw [hc] at he
    subst he
    have FF : Hid (R = ([], 1)) := hd (by have := HR.out; rw [hc, HALL.out] at this; exact this.symm)
    clear hc g2
    go_wp2_with fail
    go_ret2
    exact ⟨_, 0, 0, ret_sli (by rw [FF.out]), by rw [FF.out]; exact Own.empty _ _ rfl d2.size (by simp), by omega, d2.alloc d2.size _⟩
  rw [hc] at he
  subst he
  have HC := hd hc
  clear hc
  have lz := lastV (cv_of HC.out)
  have HPV : Hid (0 < nV) := hd (by have := (cv_of HC.out).n2; have := (cv_of HC.out).len; have := rV.len; omega)
  have HR1 : Hid ((if xs.length ≤ 100 ∧ inC xL level = true then lo1 xL xV [] (volF (volZ xL xV level) xs).2 else ([], 2)) = R) := hd (by have := HR.out; rw [HC.out, HALL.out] at this; exact this)
  clear HR
  have k0 := blk_cell g2 0
  have k1 := blk_cell g2 1
  by_cases hle : (100 : Int) < n
  · have FF : Hid (R = ([], 2)) := hd (by have := HR1.out; rw [LX.out, if_neg (by omega)] at this; exact this.symm)
    clear HR1
    go_wp2_with fail
    go_ret2
    exact ⟨_, 0, 0, ret_sli (by rw [FF.out]), by rw [FF.out]; exact Own.empty _ _ rfl d2.size (by simp), by omega, d2.alloc d2.size _⟩
  go_wp2_with fail
  refine (isOn_calls aL nL cL xL aV nV cV xV level _ (rL.below d2) hL (rV.below d2) hV HC.out).mono ?_
  rintro e w3 ⟨he, b3⟩
  have d3 := bnext d2 b3 (Nat.le_refl _)
  have g3 := blk_below g2 b3 (blk_lt g2)
  clear b3 g2 d2 k0 k1
  cases hon : inC xL level
  · rw [hon] at he
    subst he
    have FF : Hid (R = ([], 2)) := hd (by have := HR1.out; rw [hon, if_neg (by simp)] at this; exact this.symm)
    clear HR1 hon g3
    go_wp2_with fail
    go_ret2
    exact ⟨_, 0, 0, ret_sli (by rw [FF.out]), by rw [FF.out]; exact Own.empty _ _ rfl d3.size (by simp), by omega, d3.alloc d3.size _⟩
  rw [hon] at he
  subst he
  have HON := hd hon
  clear hon
  have hn1 : n ≤ 100 := by omega
  have HR2 : Hid (lo1 xL xV [] (volF (volZ xL xV level) xs).2 = R) := hd (by have := HR1.out; rw [LX.out, if_pos ⟨hn1, HON.out⟩] at this; exact this)
  clear HR1
  have vb := volZ_c5 HC.out HON.out
  obtain ⟨v0, hv0⟩ : ∃ v, volZ xL xV level = v := ⟨_, rfl⟩
  have HV0 := hd hv0
  rw [hv0] at HR2 vb
  clear hv0
  obtain ⟨vb0, vb1⟩ := vb
  have ga := blk_alloc g3 (.cells #[] 2)
  have da := d3.alloc d3.size (.cells #[] 2)
  have own0 := Own.empty (sz := 1) (cs := ci) (E := 2) (L := w.heap.size + 1) (U := (w3.alloc (.cells #[] 2)).heap.size) w3 #[] rfl (blk_lt g3) (by simp)
  have hlt0 : w3.heap.size < (w3.alloc (.cells #[] 2)).heap.size := by simp
  go_upto_region 6 with fail
  generalize w3.alloc (.cells #[] 2) = W3 at ga da own0 hlt0 ⊢
  clear g3 d3
  have k0 := blk_cell ga 0
  have k1 := blk_cell ga 1
  go_wp2_with fail
  refine (volume_calls aL nL cL xL aV nV cV xV level _ (rL.below da) hL (rV.below da) hV (cv_of HC.out) (inB_iff.1 HON.out).1 (inB_iff.1 HON.out).2).mono ?_
  rintro e w4 ⟨he, b4⟩
  rw [HV0.out] at he
  subst he
  have d4 := bnext da b4 (Nat.le_refl _)
  have g4 := blk_below ga b4 (blk_lt ga)
  have own4 := (own0.below b4).mono (Nat.le_refl _) b4.size
  have hlt4 : w3.heap.size < w4.heap.size := Nat.lt_of_lt_of_le hlt0 b4.size
  clear b4 da ga own0 hlt0 k0 k1
  go_wp2_with fail
  refine (volumes_calls v0 _ _ _ xs _ (hr.below d4) HALL.out hn1 vb0 vb1).mono ?_
  rintro e w5 ⟨AV, m, cc, rfl, hov, b5⟩
  have d5 := bnext d4 b5 (Nat.le_refl _)
  have g5 := blk_below g4 b5 (blk_lt g4)
  have own5 := (own4.below b5).mono (Nat.le_refl _) b5.size
  obtain ⟨L, hLL⟩ : ∃ L, (volF v0 xs).2 = L := ⟨_, rfl⟩
  have hlen := hov.len
  rw [hLL] at hov hlen HR2
  have hm : m = n := by rw [← hlen, ← hLL, volF_len]; exact LX.out
  subst hm
  have HLEN := hd hlen
  have HOV := hd hov
  have hof : ∀ x, w4.heap.size ≤ x → x < w5.heap.size → Off (some ⟨w3.heap.size, 0, none⟩) x := fun x h1 _ a' ha e => by
    obtain rfl := Option.some.inj ha
    simp only [] at e
    omega
  have HOF := hd hof
  have G5 := hd g5
  have O5 := hd own5
  clear hof g5 own5 b5 hov hlen own4 g4 d4 hlt4 hLL
  obtain ⟨ll, hll⟩ : ∃ x, lastZ xV = x := ⟨_, rfl⟩
  rw [hll] at lz
  obtain ⟨lz0, lz1⟩ := lz
  have HLL := hd hll
  clear hll
  go_wp2_with fail
  go_loopw [8, 39] (fun s8 s39 wr => ∃ k : Nat, ∃ acc : List Int, k ≤ m ∧ s39 = .int .i64 k ∧ ∃ A c', s8 = .slice A k c' ∧ lo1 xL xV acc (L.drop k) = R ∧ Own 1 ci 2 wr (w.heap.size + 1) wr.heap.size A k c' acc ∧ Own 1 ci 2 wr w4.heap.size w5.heap.size AV m cc L ∧ (∀ x, w4.heap.size ≤ x → x < w5.heap.size → Off A x) ∧ wr.heap[w.heap.size]? = some (cvC aL nL cL aV nV cV) ∧ Below w.heap.size w wr ∧ w5.heap.size ≤ wr.heap.size) (fun _ i _ => m - (intOf i).toNat)
  case atStart => exact ⟨0, [], Nat.zero_le _, rfl, _, 0, rfl, HR2.out, O5.out, HOV.out, HOF.out, G5.out, d5, Nat.le_refl _⟩
  case round =>
    clear HOF G5 O5 HOV d5
    obtain ⟨k, acc, hk, rfl, A, c', rfl, hlo, hown, hov, hoff, hg, hb, hsz⟩ := hrel
    have HLO := hd hlo
    have Hown := hd hown
    have HOV := hd hov
    have HOFF := hd hoff
    have HG := hd hg
    clear hlo hown hoff hg
    by_cases hlt : k < m
    · obtain ⟨bo, oo, f0, rfl, hbl, hx, hc0⟩ := getInt64 (hov.rd len_ci) hlt
      have HX := hd hx
      have i1 : (0 : Int) ≤ (k : Int) := by omega
      have i2 : (k : Int) < (m : Int) := by omega
      have hk100 : k ≤ 100 := by omega
      clear hov hx
      have k0 := blk_cell HG.out 0
      have k1 := blk_cell HG.out 1
      by_cases hneg : f0 < 0
      · have FF := hd (lo1_neg HX.out HLO.out hneg)
        clear HLO
        go_wp2_with fail
        go_ret2
        exact ⟨_, 0, 0, ret_sli (by rw [FF.out]), by rw [FF.out]; exact Own.empty _ _ rfl hb.size (by simp), by omega, hb.alloc hb.size _⟩
      · by_cases hbig : ll < f0
        · have FF := hd (lo1_big HX.out HLO.out hneg (by rw [HLL.out]; exact hbig))
          clear HLO
          go_wp2_with (go_at_call 102; refine (last_calls _ _ _ xV _ (rV.below hb) hV HPV.out).mono ?_; rintro e w9 ⟨he, rfl⟩; rw [HLL.out] at he; subst he)
          go_ret2
          exact ⟨_, 0, 0, ret_sli (by rw [FF.out]), by rw [FF.out]; exact Own.empty _ _ rfl hb.size (by simp), by omega, hb.alloc hb.size _⟩
        · have HN := hd (lo1_next HX.out HLO.out hneg (by rw [HLL.out]; exact hbig))
          obtain ⟨z, hz⟩ : ∃ z, lvZ xL xV f0 = z := ⟨_, rfl⟩
          have HZ := hd hz
          rw [hz] at HN
          clear HLO hz
          go_wp2_with (go_at_call 102; refine (last_calls _ _ _ xV _ (rV.below hb) hV HPV.out).mono ?_; rintro e w9 ⟨he, rfl⟩; rw [HLL.out] at he; subst he)
          refine (level_calls aL nL cL xL aV nV cV xV f0 _ (rL.below hb) hL (rV.below hb) hV (cv_of HC.out)).mono ?_
          rintro e w7 ⟨he, b7⟩
          rw [HZ.out] at he
          subst he
          have hb7 := bnext hb b7 (Nat.le_refl _)
          have HG7 := hd (blk_below HG.out b7 (blk_lt HG.out))
          have HO7 := hd ((Hown.out.below b7).mono (Nat.le_refl _) b7.size)
          have HV7 := hd (HOV.out.below b7)
          have hsz7 := Nat.le_trans hsz b7.size
          clear b7 k0 k1 hc0 HG Hown HOV
          go_wp2_with (at_builtin; refine wpList_app_at _ rfl _ _ 22 rfl 2 i0 _ 1 8 Try.underlying22 hi hz0 hz1 hz2 rfl (by decide) len_ci one_ci (w.heap.size + 1) w7.heap.size A k c' acc rfl (HO7.out.alloc _) w7.heap.size z rfl (app_new _ _ _) (by omega) (by unfold maxLen; omega) (by have := blk_lt HG7.out; simp; omega) ?_)
          intro A' c'' w8 ho8 hg8 hoff8
          have rG := blk_grown (blk_alloc HG7.out _) hg8 (own_off HO7.out (by omega))
          have hb8 := below_app (hb7.alloc hb7.size _) (HO7.out.alloc _) hg8 (Nat.le_refl _) (by omega)
          have rV8 := (HV7.out.alloc (.cells #[.int .i64 z] 2)).only hg8 (fun g hg => by
            cases hA : A with
            | none => rw [hA] at hg; cases hg
            | some a' =>
              rw [hA] at hg
              have e : a'.block = g := Option.some.inj hg
              by_cases h1 : g < w4.heap.size
              · exact .inl h1
              · by_cases h2 : g < w5.heap.size
                · exact absurd e (HOFF.out g (by omega) h2 a' hA)
                · exact .inr (by omega))
          have hsz8 : w5.heap.size ≤ w8.heap.size := by have := hg8.size; simp at this; omega
          have off8 : ∀ x, w4.heap.size ≤ x → x < w5.heap.size → Off A' x := fun x h1 h2 => hoff8 x (HOFF.out x h1 h2) (by first | omega | (simp; omega))
          have Ho8 := hd ho8
          have RG := hd rG
          have RV8 := hd rV8
          have OF8 := hd off8
          clear ho8 hg8 hoff8 rG rV8 off8 HG7 HO7 HV7 HOFF
          go_wp2_with fail
          go_roundw
          case rel => exact ⟨k + 1, acc ++ [z], by omega, by go_num, A', c'', rfl, HN.out, Ho8.out, RV8.out, OF8.out, RG.out, hb8, hsz8⟩
          case measure => simp [intOf]; omega
    · obtain rfl : k = m := by omega
      have FF := hd (lo1_end (by rw [HLEN.out]; exact Nat.le_refl _) HLO.out)
      have hk100 : k ≤ 1048576 := by omega
      clear HLO
      go_wp2_with fail
      go_ret2
      exact ⟨A, k, c', ret_sli (by rw [FF.out]), by rw [FF.out]; exact Hown.out.mono (by omega) (Nat.le_refl _), hk100, hb⟩
end Go.Proofs.Ytieomdjcnaaopaa
