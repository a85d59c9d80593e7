/- Control: FewestSwitches. -/
import Derived.Test.YtieomdjcnaaopaaCtl3
import Derived.Deep.DeepCutAuto
namespace Go.Proofs.Ytieomdjcnaaopaa
open Go.RowKit
set_option linter.unusedVariables false

def fwS (s : Int × Int) (i : Int) (ok : Bool) (n : Int) : Int × Int := if ok && (decide (s.1 < 0) || decide (n < s.2)) then (i, n) else s
def fwAt (ls vs : List Int) (v rate : Int) (xs : List Int) (level : Int) (xz : List (Int × Int)) : Nat → Int × Int
  | 0 => (-1, 0)
  | k + 1 => fwS (fwAt ls vs v rate xs level xz k) k (kpB ls vs (xz.getD k (0, 0)).1 (xz.getD k (0, 0)).2 v rate xs level) (swN (rcZ ls vs (xz.getD k (0, 0)).1 (xz.getD k (0, 0)).2 v rate xs).1)
def fwZ (ls vs : List Int) (xz : List (Int × Int)) (v rate : Int) (xs : List Int) (level : Int) : Int × Int × Int :=
  if ctZ ls vs (xz.all swP) v xs (rtB rate && (lvB level && decide (xz.length ≤ 12))) = 0 then (if (fwAt ls vs v rate xs level xz xz.length).1 < 0 then (0, 0, 3) else ((fwAt ls vs v rate xs level xz xz.length).1, (fwAt ls vs v rate xs level xz xz.length).2, 0)) else (0, 0, ctZ ls vs (xz.all swP) v xs (rtB rate && (lvB level && decide (xz.length ≤ 12))))
theorem fwAt_next {ls vs : List Int} {v rate : Int} {xs : List Int} {level : Int} {xz : List (Int × Int)} {k : Nat} {b f x y : Int} (h : fwAt ls vs v rate xs level xz k = (b, f)) (hx : xz[k]? = some (x, y)) :
    fwAt ls vs v rate xs level xz (k + 1) = fwS (b, f) k (kpB ls vs x y v rate xs level) (swN (rcZ ls vs x y v rate xs).1) := by
  have e : xz.getD k (0, 0) = (x, y) := by simp [List.getD, hx]
  simp only [fwAt, h, e]
theorem fwS_cases {b f i n : Int} {ok : Bool} {S : Int × Int} (h : fwS (b, f) i ok n = S) : (ok = false ∧ S = (b, f)) ∨ (ok = true ∧ b < 0 ∧ S = (i, n)) ∨ (ok = true ∧ 0 ≤ b ∧ n < f ∧ S = (i, n)) ∨ (ok = true ∧ 0 ≤ b ∧ f ≤ n ∧ S = (b, f)) := by
  unfold fwS at h
  cases ok
  · exact .inl ⟨rfl, h.symm⟩
  · by_cases h1 : b < 0
    · simp [h1] at h; exact .inr (.inl ⟨rfl, h1, h.symm⟩)
    · by_cases h2 : n < f
      · simp [h1, h2] at h; exact .inr (.inr (.inl ⟨rfl, by omega, h2, h.symm⟩))
      · simp [h1, h2] at h; exact .inr (.inr (.inr ⟨rfl, by omega, by omega, h.symm⟩))
theorem results_t3 {P : Program} {fn : Func} {t u v : Tmp} (h : fn.results = #[.tmp t, .tmp u, .tmp v]) (tmps : Array Value) (w : World) :
    (results fn tmps).run P w = .ok (.tuple #[tmps.getD t undef, tmps.getD u undef, tmps.getD v undef]) w := by simp [results, h]
theorem ret_3 {a b c : Int} {R : Int × Int × Int} (h : R = (a, b, c)) : Ending.returned (.tuple #[.int .i64 a, .int .i64 b, .int .i64 c]) = .returned (.tuple #[.int .i64 R.1, .int .i64 R.2.1, .int .i64 R.2.2]) := by rw [h]
set_option maxRecDepth 100000 in
set_option maxHeartbeats 1000000 in
theorem FewestSwitches_calls (aL : Option Addr) (nL cL : Nat) (xL : List Int) (aV : Option Addr) (nV cV : Nat) (xV : List Int) (az : Option Addr) (nz cz : Nat) (xz : List (Int × Int)) (v rate : Int) (ax : Option Addr) (nx cx : Nat) (xs : List Int) (level : Int) (w : World) (rL : RdInt64 w aL nL xL) (hL : nL ≤ 1048576) (rV : RdInt64 w aV nV xV) (hV : nV ≤ 1048576) (rz : RdSwitch w az nz xz) (hz : nz ≤ 1048576) (rx : RdInt64 w ax nx xs) (hx : nx ≤ 1048576) :
    Calls Try.prog 59 #[.agg #[.slice aL nL cL, .slice aV nV cV], .slice az nz cz, .int .i64 v, .int .i64 rate, .slice ax nx cx, .int .i64 level] w fun e w' => e = .returned (.tuple #[.int .i64 (fwZ xL xV xz v rate xs level).1, .int .i64 (fwZ xL xV xz v rate xs level).2.1, .int .i64 (fwZ xL xV xz v rate xs level).2.2]) ∧ Below w.heap.size w w' := by
  have LZ := hd rz.len
  have hoth := ctZ_other xL xV (xz.all swP) v xs (rtB rate) (lvB level && decide (xz.length ≤ 12))
  obtain ⟨c, hc⟩ : ∃ c, ctZ xL xV (xz.all swP) v xs (rtB rate) = c := ⟨_, rfl⟩
  have HC := hd hc
  obtain ⟨R, hR⟩ : ∃ R, fwZ xL xV xz v rate xs level = R := ⟨_, rfl⟩
  have hR' := hR
  unfold fwZ at hR'
  rw [hc] at hoth
  rw [hoth] at hR'
  have HR := hd hR'
  rw [hR]
  clear hc hR hR' hoth
  have ga := heap_alloc_new w (cvC aL nL cL aV nV cV)
  have dd : Below w.heap.size w (w.alloc (cvC aL nL cL aV nV cV)) := (Below.refl _ _).alloc (Nat.le_refl _) _
  go_enter Try.func59, Try.ntmps59
  go_upto_region 1 with fail
  generalize w.alloc (cvC aL nL cL aV nV cV) = W1 at ga dd ⊢
  have k0 := blk_cell ga 0
  have k1 := blk_cell ga 1
  go_wp2_with fail
  have q1 := heap_alloc_new W1 (.cells #[.int .i64 rate] 2)
  have d0 := dd.alloc dd.size (.cells #[.int .i64 rate] 2)
  have ga0 := blk_alloc ga (.cells #[.int .i64 rate] 2)
  refine (controlCode_calls aL nL cL xL aV nV cV xV _ _ _ xz v _ _ _ [rate] _ _ _ xs _ (rL.below d0) hL (rV.below d0) hV (rz.below d0) hz (rd_one q1) (by decide) (rx.below d0) hx).mono ?_
  rintro e w1 ⟨he, b1⟩
  have d1 := bnext d0 b1 (Nat.le_refl _)
  have ga1 := blk_below ga0 b1 (blk_lt ga0)
  clear k0 k1 ga ga0 q1 b1 dd d0
  rw [one_all, HC.out] at he
  by_cases hz0 : c = 0
  · subst hz0
    subst he
    have OK := hd (ctZ_0 HC.out)
    cases hlv : lvB level
    · have HV := hd hlv
      have FF : Hid (R = (0, 0, 2)) := hd (by have := HR.out; rw [hlv] at this; exact this.symm)
      clear hlv ga1
      go_wp2_with (go_at_call 80; refine (ValidLevel_callsB HV.out _).mono ?_; rintro e w' ⟨rfl, rfl⟩)
      refine bodyPost_ret (results_t3 rfl _ _) rfl ⟨?_, d1⟩
      exact ret_3 FF.out
    · have HV := hd hlv
      by_cases h12 : (nz : Int) ≤ 12
      · have HRZ : Hid (R = if (fwAt xL xV v rate xs level xz nz).1 < 0 then (0, 0, 3) else ((fwAt xL xV v rate xs level xz nz).1, (fwAt xL xV v rate xs level xz nz).2, 0)) := hd (by
          have := HR.out
          rw [hlv, show decide (xz.length ≤ 12) = true by rw [LZ.out]; simp; omega, LZ.out] at this
          exact this.symm)
        have GA := hd ga1
        clear hlv ga1 HR
        go_wp2_with (go_at_call 80; refine (ValidLevel_callsB HV.out _).mono ?_; rintro e w' ⟨rfl, rfl⟩)
        go_loopw [16, 17, 43] (fun s16 s17 i wr => ∃ k : Nat, ∃ b f : Int, k ≤ nz ∧ i = .int .i64 k ∧ s16 = .int .i64 b ∧ s17 = .int .i64 f ∧ fwAt xL xV v rate xs level xz k = (b, f) ∧ wr.heap[w.heap.size]? = some (cvC aL nL cL aV nV cV) ∧ Below w.heap.size w wr) (fun _ _ i _ => nz - (intOf i).toNat)
        case atStart => exact ⟨0, -1, 0, Nat.zero_le _, rfl, rfl, rfl, rfl, GA.out, d1⟩
        case round =>
          clear GA d1
          obtain ⟨k, b, f, hk, rfl, rfl, rfl, hat, hgA, hb⟩ := hrel
          have HAT := hd hat
          have HGA := hd hgA
          clear hat hgA
          by_cases hlt : k < nz
          · obtain ⟨bo, oo, on, off, rfl, hbl, hx0, hc0, hc1⟩ := getSwitch (rz.below hb) hlt
            have HN := hd (fwAt_next HAT.out hx0)
            obtain ⟨ok, hok⟩ : ∃ b, kpB xL xV on off v rate xs level = b := ⟨_, rfl⟩
            obtain ⟨H1, hH1⟩ : ∃ b, (rcZ xL xV on off v rate xs).1 = b := ⟨_, rfl⟩
            have HOK := hd hok
            have HH1 := hd hH1
            rw [hok, hH1] at HN
            obtain ⟨n, hn⟩ : ∃ n, swN H1 = n := ⟨_, rfl⟩
            have HSN := hd hn
            rw [hn] at HN
            clear hok hH1 hn hx0
            have n0 := World.new_ne wr _ hc0
            have n1 := World.new_ne wr _ hc1
            have hgA' := blk_alloc HGA.out (swC on off)
            have hgN := heap_alloc_new wr (swC on off)
            have hb' := hb.alloc hb.size (swC on off)
            go_upto_region 10 with fail
            clear HGA hb n0 n1 hc0 hc1
            obtain ⟨gg, hgg⟩ : ∃ g, wr.heap.size = g := ⟨_, rfl⟩
            rw [hgg] at hgN ⊢
            clear hgg
            generalize wr.alloc (swC on off) = W3 at hgA' hgN hb' ⊢
            have k0 := blk_cell hgA' 0
            have k1 := blk_cell hgA' 1
            have k2 := blk_cell hgN 0
            have k3 := blk_cell hgN 1
            have HGA := hd hgA'
            clear hgA' hgN
            go_wp2_with fail
            refine (keeps_calls aL nL cL xL aV nV cV xV on off v rate _ _ _ xs level _ (rL.below hb') hL (rV.below hb') hV (rx.below hb') hx OK.out.1.1 OK.out.2.2.1.1 OK.out.2.2.1.2 OK.out.2.1 OK.out.2.2.2.1).mono ?_
            rintro e w2 ⟨A, m, c, he, ho, hm, b2⟩
            rw [HOK.out] at he
            subst he
            rw [HH1.out] at ho
            have HGA2 := hd (blk_below HGA.out b2 (blk_lt HGA.out))
            have hb2 := bnext hb' b2 (Nat.le_refl _)
            clear k0 k1 k2 k3 HGA b2 hb'
            go_wp2_with fail
            refine (switches_calls _ _ _ H1 _ (ho.rd len_cHour) hm).mono ?_
            rintro e w3 ⟨he, b3⟩
            rw [HSN.out] at he
            subst he
            have HGA3 := hd (blk_below HGA2.out b3 (blk_lt HGA2.out))
            have hb3 := bnext hb2 b3 (Nat.le_refl _)
            clear HGA2 ho hm b3 hb2
            rcases fwS_cases HN.out.symm with ⟨hok, hS⟩ | ⟨hok, h1, hS⟩ | ⟨hok, h1, h2, hS⟩ | ⟨hok, h1, h2, hS⟩
            all_goals
              subst hok
              have HS := hd hS
              clear hS
              go_wp2_with fail
              go_roundw
              case rel => exact ⟨k + 1, _, _, by omega, by go_num, rfl, rfl, HS.out, HGA3.out, hb3⟩
              case measure => simp [intOf]; omega
          · obtain rfl : k = nz := by omega
            by_cases hneg : b < 0
            · have FF : Hid (R = (0, 0, 3)) := hd (by rw [HRZ.out, HAT.out, if_pos hneg])
              clear HGA
              go_wp2_with fail
              refine bodyPost_ret (results_t3 rfl _ _) rfl ⟨?_, hb⟩
              exact ret_3 FF.out
            · have FF : Hid (R = (b, f, 0)) := hd (by rw [HRZ.out, HAT.out, if_neg hneg])
              have hneg' : 0 ≤ b := by omega
              clear HGA
              go_wp2_with fail
              refine bodyPost_ret (results_t3 rfl _ _) rfl ⟨?_, hb⟩
              exact ret_3 FF.out
      · have h12' : (12 : Int) < nz := by omega
        have FF : Hid (R = (0, 0, 2)) := hd (by
          have := HR.out
          rw [hlv, show decide (xz.length ≤ 12) = false by rw [LZ.out]; simp; omega] at this
          exact this.symm)
        clear hlv ga1
        go_wp2_with (go_at_call 80; refine (ValidLevel_callsB HV.out _).mono ?_; rintro e w' ⟨rfl, rfl⟩)
        refine bodyPost_ret (results_t3 rfl _ _) rfl ⟨?_, d1⟩
        exact ret_3 FF.out
  · subst he
    have FF : Hid (R = (0, 0, c)) := hd (by rw [← HR.out, if_neg hz0, if_neg hz0])
    clear ga1
    go_wp2_with fail
    refine bodyPost_ret (results_t3 rfl _ _) rfl ⟨?_, d1⟩
    exact ret_3 FF.out
set_option maxRecDepth 100000 in
set_option maxHeartbeats 1000000 in
theorem specFewestSwitches_calls (aL : Option Addr) (nL cL : Nat) (xL : List Int) (aV : Option Addr) (nV cV : Nat) (xV : List Int) (az : Option Addr) (nz cz : Nat) (xz : List (Int × Int)) (v rate : Int) (ax : Option Addr) (nx cx : Nat) (xs : List Int) (level : Int) (w : World) (rL : RdInt64 w aL nL xL) (hL : nL ≤ 1048576) (rV : RdInt64 w aV nV xV) (hV : nV ≤ 1048576) (rz : RdSwitch w az nz xz) (hz : nz ≤ 1048576) (rx : RdInt64 w ax nx xs) (hx : nx ≤ 1048576) :
    Calls Try.prog 57 #[.agg #[.slice aL nL cL, .slice aV nV cV], .slice az nz cz, .int .i64 v, .int .i64 rate, .slice ax nx cx, .int .i64 level] w fun e w' => e = .returned (.tuple #[.int .i64 (fwZ xL xV xz v rate xs level).1, .int .i64 (fwZ xL xV xz v rate xs level).2.1, .int .i64 (fwZ xL xV xz v rate xs level).2.2]) ∧ Below w.heap.size w w' := by
  have LZ := hd rz.len
  obtain ⟨R, hR⟩ : ∃ R, fwZ xL xV xz v rate xs level = R := ⟨_, rfl⟩
  have HR := hd hR
  rw [hR]
  clear hR
  obtain ⟨cvb, hcv⟩ : ∃ b, cvB xL xV = b := ⟨_, rfl⟩
  have HCVB := hd hcv
  clear hcv
  have ga := heap_alloc_new w (cvC aL nL cL aV nV cV)
  have dd : Below w.heap.size w (w.alloc (cvC aL nL cL aV nV cV)) := (Below.refl _ _).alloc (Nat.le_refl _) _
  go_enter Try.func57, Try.ntmps57
  go_upto_region 1 with fail
  generalize w.alloc (cvC aL nL cL aV nV cV) = W1 at ga dd ⊢
  have k0 := blk_cell ga 0
  have k1 := blk_cell ga 1
  go_wp2_with fail
  refine (specValidCurve_calls aL nL cL xL aV nV cV xV _ (rL.below dd) hL (rV.below dd) hV).mono ?_
  rintro e w1 ⟨he, b1⟩
  rw [HCVB.out] at he
  subst he
  have d1 := bnext dd b1 (Nat.le_refl _)
  have GA := hd (blk_below ga b1 (blk_lt ga))
  clear k0 k1 ga b1 dd
  go_wp2_with fail
  go_loopw [15, 16] (fun f i wr => ∃ k : Nat, k ≤ nz ∧ i = .int .i64 k ∧ f = .bool (cvb && (xz.take k).all swP) ∧ Below w1.heap.size w1 wr) (fun _ i _ => nz - (intOf i).toNat)
  case atStart => exact ⟨0, Nat.zero_le _, rfl, by simp, Below.refl _ _⟩
  case round =>
  obtain ⟨k, hk, rfl, rfl, hb⟩ := hrel
  obtain ⟨f, hf⟩ : ∃ f : Bool, (cvb && (xz.take k).all swP) = f := ⟨_, rfl⟩
  have HF := hd hf
  rw [hf]
  clear hf
  by_cases hlt : k < nz
  · obtain ⟨bo, oo, on, off, rfl, hbl, hx0, hc0, hc1⟩ := getSwitch ((rz.below d1).below hb) hlt
    have HN : Hid ((cvb && (xz.take (k + 1)).all swP) = (f && swB on off)) := hd (by rw [take_next hx0, List.all_append, ← HF.out]; simp [Bool.and_assoc, swP])
    clear hx0
    cases f
    · have HN' : Hid ((cvb && (xz.take (k + 1)).all swP) = false) := hd (by rw [HN.out, Bool.false_and])
      clear hc0 hc1
      go_wp2_with fail
      go_roundw
      case rel => exact ⟨k + 1, by omega, by go_num, by rw [HN'.out], hb⟩
      case measure => simp [intOf]; omega
    · have HN' : Hid ((cvb && (xz.take (k + 1)).all swP) = swB on off) := hd (by rw [HN.out, Bool.true_and])
      go_wp2_with fail
      refine (l14Ok_calls on off _).mono ?_
      rintro e w2 ⟨rfl, b2⟩
      have hb2 := bnext hb b2 (Nat.le_refl _)
      clear hc0 hc1
      go_wp2_with fail
      go_roundw
      case rel => exact ⟨k + 1, by omega, by go_num, by rw [HN'.out], hb2⟩
      case measure => simp [intOf]; omega
  · obtain rfl : nz = k := by omega
    have HFF : Hid (f = (cvB xL xV && xz.all swP)) := hd (by rw [← HF.out, HCVB.out, List.take_of_length_le (by rw [LZ.out]; exact Nat.le_refl _)])
    obtain ⟨w3, hw3⟩ : ∃ W, W = wr := ⟨_, rfl⟩
    subst hw3
    have d3 := bnext d1 hb (Nat.le_refl _)
    have GA3 := hd (blk_below GA.out hb (blk_lt GA.out))
    clear GA hb d1
    cases f
    · have FF : Hid (R = (0, 0, 1)) := hd (by rw [← HR.out]; unfold fwZ; rw [ctZ_cv HFF.out.symm]; rfl)
      go_wp2_with fail
      refine bodyPost_ret (results_t3 rfl _ _) rfl ⟨?_, d3⟩
      exact ret_3 FF.out
    · obtain ⟨hcv, hsw⟩ := Bool.and_eq_true_iff.1 HFF.out.symm
      have HCV := hd hcv
      obtain ⟨oth, hoth⟩ : ∃ b, (rtB rate && (lvB level && decide (nz ≤ 12))) = b := ⟨_, rfl⟩
      have HOTH := hd hoth
      obtain ⟨c, hc⟩ : ∃ c, ctZ xL xV true v xs oth = c := ⟨_, rfl⟩
      have HC := hd hc
      have hR' := HR.out
      unfold fwZ at hR'
      rw [hsw, LZ.out, hoth, hc] at hR'
      have HR' := hd hR'
      have KEY : Hid (∀ w', Below w3.heap.size w3 w' → Calls Try.prog 75 #[.pointer (some ⟨w.heap.size, 0, none⟩), .int .i64 v, .slice ax nx cx, .bool oth] w' fun e w'' => e = .returned (.int .i64 c) ∧ Below w'.heap.size w' w'') := hd (fun w' hw' =>
        (l14Code_calls _ aL nL cL xL aV nV cV xV v _ _ _ xs oth w' (blk_below GA3.out hw' (blk_lt GA3.out)) ((rL.below d3).below hw') hL ((rV.below d3).below hw') hV ((rx.below d3).below hw') hx HCV.out).mono fun _ _ h => ⟨h.1.trans (ret_int HC.out), h.2⟩)
      have hcase : (rtB rate = false ∧ oth = false) ∨ (rtB rate = true ∧ lvB level = false ∧ oth = false) ∨ (rtB rate = true ∧ lvB level = true ∧ (nz : Int) ≤ 12 ∧ oth = true) ∨ (rtB rate = true ∧ lvB level = true ∧ (12 : Int) < nz ∧ oth = false) := by
        rw [← hoth]
        cases rtB rate
        · exact .inl ⟨rfl, rfl⟩
        · cases lvB level
          · exact .inr (.inl ⟨rfl, rfl, rfl⟩)
          · by_cases h : nz ≤ 12
            · exact .inr (.inr (.inl ⟨rfl, rfl, by omega, by simp [h]⟩))
            · exact .inr (.inr (.inr ⟨rfl, rfl, by omega, by simp; omega⟩))
      clear hcv hsw hoth hc hR'
      go_upto_region 8 with fail
      go_cut [17] (fun s17 wx => s17 = .int .i64 c ∧ Below w3.heap.size w3 wx)
      case first =>
        rcases hcase with ⟨h1, h4⟩ | ⟨h1, h2, h4⟩ | ⟨h1, h2, h3, h4⟩ | ⟨h1, h2, h3, h4⟩
        · have A1 := hd h1
          have K := KEY.out
          rw [h4] at K
          have K' := hd K
          clear h1 h4 K
          go_wp2_with (go_at_call 76; refine (l14Rate_calls _ _).mono ?_; rintro e w9 ⟨he, rfl⟩; rw [A1.out] at he; subst he)
          refine (K'.out _ (Below.refl _ _)).mono ?_
          rintro e w4 ⟨rfl, b4⟩
          go_wp2_with fail
          go_meet
          exact ⟨rfl, b4⟩
        · have A1 := hd h1
          have A2 := hd h2
          have K := KEY.out
          rw [h4] at K
          have K' := hd K
          clear h1 h2 h4 K
          go_wp2_with (first | (go_at_call 76; refine (l14Rate_calls _ _).mono ?_; rintro e w9 ⟨he, rfl⟩; rw [A1.out] at he; subst he) | (go_at_call 77; refine (l02Level_calls _ _).mono ?_; rintro e w9 ⟨he, rfl⟩; rw [A2.out] at he; subst he))
          refine (K'.out _ (Below.refl _ _)).mono ?_
          rintro e w4 ⟨rfl, b4⟩
          go_wp2_with fail
          go_meet
          exact ⟨rfl, b4⟩
        · have A1 := hd h1
          have A2 := hd h2
          have K := KEY.out
          rw [h4] at K
          have K' := hd K
          have hd12 : decide ((nz : Int) ≤ 12) = true := by simp; omega
          clear h1 h2 h4 K
          go_wp2_with (first | (go_at_call 76; refine (l14Rate_calls _ _).mono ?_; rintro e w9 ⟨he, rfl⟩; rw [A1.out] at he; subst he) | (go_at_call 77; refine (l02Level_calls _ _).mono ?_; rintro e w9 ⟨he, rfl⟩; rw [A2.out] at he; subst he))
          refine (K'.out _ (Below.refl _ _)).mono ?_
          rintro e w4 ⟨rfl, b4⟩
          go_wp2_with fail
          go_meet
          exact ⟨rfl, b4⟩
        · have A1 := hd h1
          have A2 := hd h2
          have K := KEY.out
          rw [h4] at K
          have K' := hd K
          have hd12 : decide ((nz : Int) ≤ 12) = false := by simp; omega
          clear h1 h2 h4 K
          go_wp2_with (first | (go_at_call 76; refine (l14Rate_calls _ _).mono ?_; rintro e w9 ⟨he, rfl⟩; rw [A1.out] at he; subst he) | (go_at_call 77; refine (l02Level_calls _ _).mono ?_; rintro e w9 ⟨he, rfl⟩; rw [A2.out] at he; subst he))
          refine (K'.out _ (Below.refl _ _)).mono ?_
          rintro e w4 ⟨rfl, b4⟩
          go_wp2_with fail
          go_meet
          exact ⟨rfl, b4⟩
      case rest =>
      obtain ⟨rfl, b4⟩ := hcut
      have d4 := bnext d3 b4 (Nat.le_refl _)
      have GA4 := hd (blk_below GA3.out b4 (blk_lt GA3.out))
      clear hcase KEY GA3 d3 b4 hk hlt
      by_cases hz0 : c = 0
      · subst hz0
        have OK := hd (ctZ_0 HC.out)
        have HRT : Hid (rtB rate = true) := hd (by have h1 := OK.out.2.1; have h2 := HOTH.out; rw [h1] at h2; exact (Bool.and_eq_true_iff.1 h2).1)
        have HRZ : Hid (R = if (fwAt xL xV v rate xs level xz nz).1 < 0 then (0, 0, 3) else ((fwAt xL xV v rate xs level xz nz).1, (fwAt xL xV v rate xs level xz nz).2, 0)) := hd (by have := HR'.out; rw [if_pos rfl] at this; exact this.symm)
        go_wp2_with fail
        go_loopw [18, 19, 20] (fun s18 s19 i wr => ∃ k : Nat, ∃ b f : Int, k ≤ nz ∧ s18 = .int .i64 b ∧ s19 = .int .i64 f ∧ i = .int .i64 k ∧ fwAt xL xV v rate xs level xz k = (b, f) ∧ wr.heap[w.heap.size]? = some (cvC aL nL cL aV nV cV) ∧ Below w.heap.size w wr) (fun _ _ i _ => nz - (intOf i).toNat)
        case atStart => exact ⟨0, -1, 0, Nat.zero_le _, rfl, rfl, rfl, rfl, GA4.out, d4⟩
        case round =>
        clear GA4 d4
        obtain ⟨k, b, f, hk, rfl, rfl, rfl, hat, hgA, hb⟩ := hrel
        have HAT := hd hat
        have HGA0 := hd hgA
        clear hat hgA
        by_cases hlt : k < nz
        · obtain ⟨bo, oo, on, off, rfl, hbl, hx0, hc0, hc1⟩ := getSwitch (rz.below hb) hlt
          have HN := hd (fwAt_next HAT.out hx0)
          obtain ⟨ok, hok⟩ : ∃ b, kpB xL xV on off v rate xs level = b := ⟨_, rfl⟩
          obtain ⟨H1, hH1⟩ : ∃ b, (rcZ xL xV on off v rate xs).1 = b := ⟨_, rfl⟩
          have HOK := hd hok
          have HH1 := hd hH1
          rw [hok, hH1] at HN
          obtain ⟨n, hn⟩ : ∃ n, swN H1 = n := ⟨_, rfl⟩
          have HSN := hd hn
          rw [hn] at HN
          clear hok hH1 hn hx0
          go_wp2_with fail
          refine (l14Keeps_calls _ aL nL cL xL aV nV cV xV on off v rate _ _ _ xs level _ HGA0.out (rL.below hb) hL (rV.below hb) hV (rx.below hb) hx OK.out.1.1 OK.out.2.2.1.1 OK.out.2.2.1.2 HRT.out OK.out.2.2.2.1).mono ?_
          rintro e w2 ⟨A, m, c, he, ho, hm, b2⟩
          rw [HOK.out] at he
          subst he
          rw [HH1.out] at ho
          have HO := hd ho
          have HGA := hd (blk_below HGA0.out b2 (blk_lt HGA0.out))
          have hb2 := bnext hb b2 (Nat.le_refl _)
          clear hc0 hc1 HGA0 b2 hb ho
          rcases fwS_cases HN.out.symm with ⟨hok, hS⟩ | ⟨hok, h1, hS⟩ | ⟨hok, h1, h2, hS⟩ | ⟨hok, h1, h2, hS⟩
          · subst hok
            have HS := hd hS
            clear hS
            go_wp2_with fail
            go_roundw
            case rel => exact ⟨k + 1, _, _, by omega, rfl, rfl, by go_num, HS.out, HGA.out, hb2⟩
            case measure => simp [intOf]; omega
          · subst hok
            have HS := hd hS
            clear hS
            go_wp2_with fail
            refine (l14Switches_calls _ _ _ H1 _ (HO.out.rd len_cHour) hm).mono ?_
            rintro e w5 ⟨he, b5⟩
            rw [HSN.out] at he
            subst he
            replace HO := hd (HO.out.below b5)
            replace HGA := hd (blk_below HGA.out b5 (blk_lt HGA.out))
            replace hb2 := bnext hb2 b5 (Nat.le_refl _)
            clear b5
            go_wp2_with fail
            go_roundw
            case rel => exact ⟨k + 1, _, _, by omega, rfl, rfl, by go_num, HS.out, HGA.out, hb2⟩
            case measure => simp [intOf]; omega
          · subst hok
            have HS := hd hS
            clear hS
            go_wp2_with fail
            refine (l14Switches_calls _ _ _ H1 _ (HO.out.rd len_cHour) hm).mono ?_
            rintro e w5 ⟨he, b5⟩
            rw [HSN.out] at he
            subst he
            replace HO := hd (HO.out.below b5)
            replace HGA := hd (blk_below HGA.out b5 (blk_lt HGA.out))
            replace hb2 := bnext hb2 b5 (Nat.le_refl _)
            clear b5
            go_wp2_with fail
            refine (l14Switches_calls _ _ _ H1 _ (HO.out.rd len_cHour) hm).mono ?_
            rintro e w5 ⟨he, b5⟩
            rw [HSN.out] at he
            subst he
            replace HO := hd (HO.out.below b5)
            replace HGA := hd (blk_below HGA.out b5 (blk_lt HGA.out))
            replace hb2 := bnext hb2 b5 (Nat.le_refl _)
            clear b5
            go_wp2_with fail
            go_roundw
            case rel => exact ⟨k + 1, _, _, by omega, rfl, rfl, by go_num, HS.out, HGA.out, hb2⟩
            case measure => simp [intOf]; omega
          · subst hok
            have HS := hd hS
            clear hS
            go_wp2_with fail
            refine (l14Switches_calls _ _ _ H1 _ (HO.out.rd len_cHour) hm).mono ?_
            rintro e w5 ⟨he, b5⟩
            rw [HSN.out] at he
            subst he
            replace HO := hd (HO.out.below b5)
            replace HGA := hd (blk_below HGA.out b5 (blk_lt HGA.out))
            replace hb2 := bnext hb2 b5 (Nat.le_refl _)
            clear b5
            go_wp2_with fail
            go_roundw
            case rel => exact ⟨k + 1, _, _, by omega, rfl, rfl, by go_num, HS.out, HGA.out, hb2⟩
            case measure => simp [intOf]; omega
        · obtain rfl : nz = k := by omega
          by_cases hneg : b < 0
          · have FF : Hid (R = (0, 0, 3)) := hd (by rw [HRZ.out, HAT.out, if_pos hneg])
            go_wp2_with fail
            refine bodyPost_ret (results_t3 rfl _ _) rfl ⟨?_, hb⟩
            exact ret_3 FF.out
          · have FF : Hid (R = (b, f, 0)) := hd (by rw [HRZ.out, HAT.out, if_neg hneg])
            have hneg' : 0 ≤ b := by omega
            go_wp2_with fail
            refine bodyPost_ret (results_t3 rfl _ _) rfl ⟨?_, hb⟩
            exact ret_3 FF.out
      · have FF : Hid (R = (0, 0, c)) := hd (by rw [← HR'.out, if_neg hz0])
        go_wp2_with fail
        refine bodyPost_ret (results_t3 rfl _ _) rfl ⟨?_, d4⟩
        exact ret_3 FF.out
end Go.Proofs.Ytieomdjcnaaopaa
