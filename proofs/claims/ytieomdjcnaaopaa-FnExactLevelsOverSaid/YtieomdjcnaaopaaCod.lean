/- Breaches: the codes; HeadOf, InflowOf. -/
import Derived.Test.YtieomdjcnaaopaaStp2
namespace Go.Proofs.Ytieomdjcnaaopaa
open Go.RowKit
set_option linter.unusedVariables false

theorem rd_one {w : World} {g : Nat} {v : Int} {E : TypeId} (h : w.heap[g]? = some (.cells #[.int .i64 v] E (0, 0))) : Rd 1 ci w (some ⟨g, 0, none⟩) 1 [v] := by
  refine ⟨rfl, fun _ => ⟨g, 0, rfl, fun i x hx j u hu => ?_⟩⟩
  cases i with
  | succ i => simp at hx
  | zero =>
    obtain rfl : v = x := by simpa using hx
    cases j with
    | succ j => simp [ci] at hu
    | zero =>
      obtain rfl : Value.int IntKind.i64 v = u := by simpa [ci] using hu
      have := blk_cell h 0
      simpa using this
theorem areStones_calls (n : Int) (w : World) : Calls Try.prog 84 #[.int .i64 n] w fun e w' => e = .returned (.bool (inB n 0 1000)) ∧ w = w' := by
  go_enter Try.func84, Try.ntmps84
  go_wp2_with fail
  refine (in_calls _ _ _ _).mono ?_
  rintro e w' ⟨rfl, rfl⟩
  go_wp2_with fail
  go_ret
  exact ⟨rfl, rfl⟩
theorem l12Stones_calls (n : Int) (w : World) : Calls Try.prog 82 #[.int .i64 n] w fun e w' => e = .returned (.bool (inB n 0 1000)) ∧ w = w' := by
  go_enter Try.func82, Try.ntmps82
  go_wp2_with fail
  refine (l00In_calls _ _ _ _).mono ?_
  rintro e w' ⟨rfl, rfl⟩
  go_wp2_with fail
  go_ret
  exact ⟨rfl, rfl⟩
set_option maxRecDepth 100000 in
set_option maxHeartbeats 1000000 in
theorem breachCode_calls (aL : Option Addr) (nL cL : Nat) (xL : List Int) (aV : Option Addr) (nV cV : Nat) (xV : List Int) (wd sl wt : Int) (ao : Option Addr) (no co : Nat) (xo : List Int) (w : World) (rL : RdInt64 w aL nL xL) (hL : nL ≤ 1048576) (rV : RdInt64 w aV nV xV) (hV : nV ≤ 1048576) (ro : RdInt64 w ao no xo) (ho : no ≤ 1048576) :
    Calls Try.prog 69 #[.agg #[.slice aL nL cL, .slice aV nV cV], .agg #[.int .i64 wd, .int .i64 sl, .int .i64 wt], .slice ao no co] w fun e w' => e = .returned (.int .i64 (bcZ xL xV wd sl wt xo true)) ∧ Below w.heap.size w w' := by
  have lo := ro.len
  have LO := hd lo
  clear lo
  go_enter Try.func69, Try.ntmps69
  go_upto_region 1 with fail
  obtain ⟨ga, gb, dd⟩ := two_blk2 w (cvC aL nL cL aV nV cV) (brC wd sl wt)
  generalize (w.alloc (cvC aL nL cL aV nV cV)).alloc (brC wd sl wt) = W1 at ga gb dd ⊢
  have k0 := blk_cell ga 0
  have k1 := blk_cell ga 1
  have k2 := blk_cell gb 0
  have k3 := blk_cell gb 1
  have k4 := blk_cell gb 2
  go_wp2_with fail
  refine (ValidBreach_calls aL nL cL xL aV nV cV xV wd sl wt _ (rL.below dd) hL (rV.below dd) hV).mono ?_
  rintro e w1 ⟨he, b1⟩
  have d1 := bnext dd b1 (Nat.le_refl _)
  clear k0 k1 k2 k3 k4 ga gb b1 dd
  cases hb : brB xL xV wd sl wt
  · rw [hb] at he
    subst he
    have HB := hd hb
    clear hb
    go_wp2_with fail
    go_ret
    exact ⟨ret_int (by unfold bcZ; rw [HB.out]; rfl), d1⟩
  · rw [hb] at he
    subst he
    have HB := hd hb
    clear hb
    by_cases hn : (no : Int) ≤ 100
    · go_wp2_with fail
      refine (areLevels_calls _ _ _ xo _ (ro.below d1) ho).mono ?_
      rintro e w2 ⟨he, b2⟩
      have d2 := bnext d1 b2 (Nat.le_refl _)
      clear b2
      cases hl : xo.all lvB
      · rw [hl] at he
        subst he
        have HLL := hd hl
        clear hl
        go_wp2_with fail
        go_ret
        exact ⟨ret_int (by unfold bcZ; rw [HB.out, HLL.out]; rfl), d2⟩
      · rw [hl] at he
        subst he
        have HLL := hd hl
        clear hl
        go_wp2_with fail
        go_ret
        exact ⟨ret_int (by unfold bcZ; rw [HB.out, HLL.out, LO.out, if_pos rfl]; rw [if_pos (by simp; omega)]), d2⟩
    · have hn' : (100 : Int) < no := by omega
      go_wp2_with fail
      go_ret
      exact ⟨ret_int (by unfold bcZ; rw [HB.out, LO.out, if_pos rfl]; rw [if_neg (by simp; omega)]), d1⟩
set_option maxRecDepth 100000 in
set_option maxHeartbeats 1000000 in
theorem l12Code_calls (g : Nat) (aL : Option Addr) (nL cL : Nat) (xL : List Int) (aV : Option Addr) (nV cV : Nat) (xV : List Int) (wd sl wt : Int) (outside : Int) (w : World) (hg : w.heap[g]? = some (cvC aL nL cL aV nV cV)) (rL : RdInt64 w aL nL xL) (hL : nL ≤ 1048576) (rV : RdInt64 w aV nV xV) (hV : nV ≤ 1048576) :
    Calls Try.prog 67 #[.pointer (some ⟨g, 0, none⟩), .agg #[.int .i64 wd, .int .i64 sl, .int .i64 wt], .int .i64 outside] w fun e w' => e = .returned (.int .i64 (bcZ xL xV wd sl wt [outside] true)) ∧ Below w.heap.size w w' := by
  go_enter Try.func67, Try.ntmps67
  go_wp2_with fail
  refine (l12Ok_calls g aL nL cL xL aV nV cV xV wd sl wt _ (blk_alloc hg _) (rL.alloc _) hL (rV.alloc _) hV).mono ?_
  rintro e w1 ⟨he, b1⟩
  have d1 := bbox1 b1
  clear b1
  cases hb : brB xL xV wd sl wt
  · rw [hb] at he
    subst he
    have HB := hd hb
    clear hb
    go_wp2_with fail
    go_ret
    exact ⟨ret_int (by unfold bcZ; rw [HB.out]; rfl), d1⟩
  · rw [hb] at he
    subst he
    have HB := hd hb
    clear hb
    cases hl : lvB outside
    · have HLL := hd hl
      go_wp2_with (go_at_call 77; refine (l02Level_calls _ _).mono ?_; rintro e w' ⟨rfl, rfl⟩)
      go_ret
      exact ⟨ret_int (by unfold bcZ; rw [HB.out]; simp [HLL.out]), d1⟩
    · have HLL := hd hl
      go_wp2_with (go_at_call 77; refine (l02Level_calls _ _).mono ?_; rintro e w' ⟨rfl, rfl⟩)
      go_ret
      exact ⟨ret_int (by unfold bcZ; rw [HB.out]; simp [HLL.out]), d1⟩
set_option maxRecDepth 100000 in
set_option maxHeartbeats 1000000 in
theorem l12List_calls (g : Nat) (aL : Option Addr) (nL cL : Nat) (xL : List Int) (aV : Option Addr) (nV cV : Nat) (xV : List Int) (wd sl wt : Int) (ao : Option Addr) (no co : Nat) (xo : List Int) (other : Bool) (w : World) (hg : w.heap[g]? = some (cvC aL nL cL aV nV cV)) (rL : RdInt64 w aL nL xL) (hL : nL ≤ 1048576) (rV : RdInt64 w aV nV xV) (hV : nV ≤ 1048576) (ro : RdInt64 w ao no xo) (ho : no ≤ 1048576) :
    Calls Try.prog 86 #[.pointer (some ⟨g, 0, none⟩), .agg #[.int .i64 wd, .int .i64 sl, .int .i64 wt], .slice ao no co, .bool other] w fun e w' => e = .returned (.int .i64 (bcZ xL xV wd sl wt xo other)) ∧ Below w.heap.size w w' := by
  have lo := ro.len
  have LO := hd lo
  clear lo
  go_enter Try.func86, Try.ntmps86
  go_wp2_with fail
  refine (l12Ok_calls g aL nL cL xL aV nV cV xV wd sl wt _ (blk_alloc hg _) (rL.alloc _) hL (rV.alloc _) hV).mono ?_
  rintro e w1 ⟨he, b1⟩
  have d1 := bbox1 b1
  clear b1
  cases hb : brB xL xV wd sl wt
  · rw [hb] at he
    subst he
    have HB := hd hb
    clear hb
    go_wp2_with fail
    go_ret
    exact ⟨ret_int (by unfold bcZ; rw [HB.out]; rfl), d1⟩
  · rw [hb] at he
    subst he
    have HB := hd hb
    clear hb
    go_wp2_with fail
    go_loopw [9] (fun i wr => ∃ k : Nat, k ≤ no ∧ i = .int .i64 k ∧ (xo.take k).all lvB = true ∧ Below w.heap.size w wr) (fun i _ => no - (intOf i).toNat)
    case atStart => exact ⟨0, Nat.zero_le _, rfl, rfl, d1⟩
    case round =>
      clear d1
      obtain ⟨k, hk, rfl, hp, hb'⟩ := hrel
      have Hp := hd hp
      clear hp
      by_cases hlt : k < no
      · obtain ⟨b1, o1, f0, rfl, hbl, hx, hc0⟩ := getInt64 (ro.below hb') hlt
        have Hx := hd hx
        clear hx
        cases h3 : lvB f0
        · have H3 := hd h3
          go_wp2_with (go_at_call 77; refine (l02Level_calls _ _).mono ?_; rintro e w' ⟨rfl, rfl⟩)
          go_ret
          exact ⟨ret_int (by unfold bcZ; rw [HB.out, all_stop' Hx.out H3.out]; rfl), hb'⟩
        · have H3 := hd h3
          go_wp2_with (go_at_call 77; refine (l02Level_calls _ _).mono ?_; rintro e w' ⟨rfl, rfl⟩)
          go_roundw
          case rel => exact ⟨k + 1, by omega, by go_num, all_take_next Hx.out H3.out Hp.out, hb'⟩
          case measure => simp [intOf]; omega
      · have e1 := all_take_done (by rw [LO.out]; omega) Hp.out
        have E1 := hd e1
        clear e1
        by_cases hn : (no : Int) ≤ 100
        · cases other
          · go_wp2_with fail
            go_ret
            exact ⟨ret_int (by unfold bcZ; rw [HB.out, E1.out, LO.out]; simp), hb'⟩
          · go_wp2_with fail
            go_ret
            exact ⟨ret_int (by unfold bcZ; rw [HB.out, E1.out, LO.out, if_pos rfl]; rw [if_pos (by simp; omega)]), hb'⟩
        · have hn' : (100 : Int) < no := by omega
          go_wp2_with fail
          go_ret
          exact ⟨ret_int (by unfold bcZ; rw [HB.out, LO.out, if_pos rfl]; rw [if_neg (by simp; omega)]), hb'⟩
theorem bc1 {ls vs : List Int} {wd sl wt o : Int} (h : bcZ ls vs wd sl wt [o] true = 0) : brB ls vs wd sl wt = true ∧ lvB o = true := by
  obtain ⟨a, b, -, -⟩ := bcZ_0 h
  exact ⟨a, by simpa using b⟩
/-- A code and, where it is 0, a number. -/
def okZ (c z : Int) : Int × Int := if c = 0 then (z, 0) else (0, c)
set_option maxRecDepth 100000 in
set_option maxHeartbeats 1000000 in
theorem HeadOf_calls (aL : Option Addr) (nL cL : Nat) (xL : List Int) (aV : Option Addr) (nV cV : Nat) (xV : List Int) (wd sl wt : Int) (outside : Int) (w : World) (rL : RdInt64 w aL nL xL) (hL : nL ≤ 1048576) (rV : RdInt64 w aV nV xV) (hV : nV ≤ 1048576) :
    Calls Try.prog 20 #[.agg #[.slice aL nL cL, .slice aV nV cV], .agg #[.int .i64 wd, .int .i64 sl, .int .i64 wt], .int .i64 outside] w fun e w' => e = .returned (.tuple #[.int .i64 (okZ (bcZ xL xV wd sl wt [outside] true) (hdZ xL xV sl wt outside)).1, .int .i64 (okZ (bcZ xL xV wd sl wt [outside] true) (hdZ xL xV sl wt outside)).2]) ∧ Below w.heap.size w w' := by
  obtain ⟨c, hc⟩ : ∃ c, bcZ xL xV wd sl wt [outside] true = c := ⟨_, rfl⟩
  have HC := hd hc
  rw [hc]
  clear hc
  go_enter Try.func20, Try.ntmps20
  go_upto_region 1 with fail
  obtain ⟨ga, gb, dd⟩ := two_blk2 w (cvC aL nL cL aV nV cV) (brC wd sl wt)
  generalize (w.alloc (cvC aL nL cL aV nV cV)).alloc (brC wd sl wt) = W1 at ga gb dd ⊢
  have k0 := blk_cell ga 0
  have k1 := blk_cell ga 1
  have k2 := blk_cell gb 0
  have k3 := blk_cell gb 1
  have k4 := blk_cell gb 2
  go_wp2_with fail
  have d0 := dd.alloc dd.size (.cells #[.int .i64 outside] 2)
  refine (breachCode_calls aL nL cL xL aV nV cV xV wd sl wt _ _ _ [outside] _ (rL.below d0) hL (rV.below d0) hV (rd_one (heap_alloc_new _ _)) (by decide)).mono ?_
  rintro e w1 ⟨he, b1⟩
  have d1 := bnext d0 b1 (Nat.le_refl _)
  have ga1 := blk_below (blk_alloc ga _) b1 (by have := blk_lt ga; simp; omega)
  have gb1 := blk_below (blk_alloc gb _) b1 (by have := blk_lt gb; simp; omega)
  clear k0 k1 k2 k3 k4 ga gb b1 dd d0
  rw [HC.out] at he
  by_cases hz : c = 0
  · subst hz
    subst he
    have HB := hd (bc1 HC.out)
    have k0 := blk_cell ga1 0
    have k1 := blk_cell ga1 1
    have k2 := blk_cell gb1 0
    have k3 := blk_cell gb1 1
    have k4 := blk_cell gb1 2
    go_wp2_with fail
    refine (head_calls wd sl wt aL nL cL xL aV nV cV xV outside _ (rL.below d1) hL (rV.below d1) hV (cv_of (br_of HB.out.1).1) (br_of HB.out.1).2.2.1 HB.out.2).mono ?_
    rintro e w2 ⟨rfl, b2⟩
    go_wp2_with fail
    go_ret2
    exact ⟨rfl, bnext d1 b2 (Nat.le_refl _)⟩
  · subst he
    clear ga1 gb1
    go_wp2_with fail
    go_ret2
    exact ⟨ret_ints (by unfold okZ; rw [if_neg hz]) (by unfold okZ; rw [if_neg hz]), d1⟩
set_option maxRecDepth 100000 in
set_option maxHeartbeats 1000000 in
theorem specHeadOf_calls (aL : Option Addr) (nL cL : Nat) (xL : List Int) (aV : Option Addr) (nV cV : Nat) (xV : List Int) (wd sl wt : Int) (outside : Int) (w : World) (rL : RdInt64 w aL nL xL) (hL : nL ≤ 1048576) (rV : RdInt64 w aV nV xV) (hV : nV ≤ 1048576) :
    Calls Try.prog 17 #[.agg #[.slice aL nL cL, .slice aV nV cV], .agg #[.int .i64 wd, .int .i64 sl, .int .i64 wt], .int .i64 outside] w fun e w' => e = .returned (.tuple #[.int .i64 (okZ (bcZ xL xV wd sl wt [outside] true) (hdZ xL xV sl wt outside)).1, .int .i64 (okZ (bcZ xL xV wd sl wt [outside] true) (hdZ xL xV sl wt outside)).2]) ∧ Below w.heap.size w w' := by
  obtain ⟨c, hc⟩ : ∃ c, bcZ xL xV wd sl wt [outside] true = c := ⟨_, rfl⟩
  have HC := hd hc
  rw [hc]
  clear hc
  go_enter Try.func17, Try.ntmps17
  go_upto_region 1 with fail
  obtain ⟨ga, gb, dd⟩ := two_blk2 w (cvC aL nL cL aV nV cV) (brC wd sl wt)
  generalize (w.alloc (cvC aL nL cL aV nV cV)).alloc (brC wd sl wt) = W1 at ga gb dd ⊢
  have k2 := blk_cell gb 0
  have k3 := blk_cell gb 1
  have k4 := blk_cell gb 2
  go_wp2_with fail
  refine (l12Code_calls _ aL nL cL xL aV nV cV xV wd sl wt outside _ ga (rL.below dd) hL (rV.below dd) hV).mono ?_
  rintro e w1 ⟨he, b1⟩
  have d1 := bnext dd b1 (Nat.le_refl _)
  have ga1 := blk_below ga b1 (blk_lt ga)
  have gb1 := blk_below gb b1 (blk_lt gb)
  clear k2 k3 k4 ga gb b1 dd
  rw [HC.out] at he
  by_cases hz : c = 0
  · subst hz
    subst he
    have HB := hd (bc1 HC.out)
    have k2 := blk_cell gb1 0
    have k3 := blk_cell gb1 1
    have k4 := blk_cell gb1 2
    go_wp2_with fail
    refine (l12Head_calls _ aL nL cL xL aV nV cV xV wd sl wt outside _ ga1 (rL.below d1) hL (rV.below d1) hV (br_of HB.out.1).1 (br_of HB.out.1).2.2.2.1 (br_of HB.out.1).2.2.2.2 (br_of HB.out.1).2.2.1 HB.out.2).mono ?_
    rintro e w2 ⟨rfl, b2⟩
    go_wp2_with fail
    go_ret2
    exact ⟨rfl, bnext d1 b2 (Nat.le_refl _)⟩
  · subst he
    clear ga1 gb1
    go_wp2_with fail
    go_ret2
    exact ⟨ret_ints (by unfold okZ; rw [if_neg hz]) (by unfold okZ; rw [if_neg hz]), d1⟩
set_option maxRecDepth 100000 in
set_option maxHeartbeats 1000000 in
theorem InflowOf_calls (aL : Option Addr) (nL cL : Nat) (xL : List Int) (aV : Option Addr) (nV cV : Nat) (xV : List Int) (wd sl wt : Int) (outside : Int) (w : World) (rL : RdInt64 w aL nL xL) (hL : nL ≤ 1048576) (rV : RdInt64 w aV nV xV) (hV : nV ≤ 1048576) :
    Calls Try.prog 23 #[.agg #[.slice aL nL cL, .slice aV nV cV], .agg #[.int .i64 wd, .int .i64 sl, .int .i64 wt], .int .i64 outside] w fun e w' => e = .returned (.tuple #[.int .i64 (okZ (bcZ xL xV wd sl wt [outside] true) (infZ xL xV wd sl wt outside)).1, .int .i64 (okZ (bcZ xL xV wd sl wt [outside] true) (infZ xL xV wd sl wt outside)).2]) ∧ Below w.heap.size w w' := by
  obtain ⟨c, hc⟩ : ∃ c, bcZ xL xV wd sl wt [outside] true = c := ⟨_, rfl⟩
  have HC := hd hc
  rw [hc]
  clear hc
  go_enter Try.func23, Try.ntmps23
  go_upto_region 1 with fail
  obtain ⟨ga, gb, dd⟩ := two_blk2 w (cvC aL nL cL aV nV cV) (brC wd sl wt)
  generalize (w.alloc (cvC aL nL cL aV nV cV)).alloc (brC wd sl wt) = W1 at ga gb dd ⊢
  have k0 := blk_cell ga 0
  have k1 := blk_cell ga 1
  have k2 := blk_cell gb 0
  have k3 := blk_cell gb 1
  have k4 := blk_cell gb 2
  go_wp2_with fail
  have d0 := dd.alloc dd.size (.cells #[.int .i64 outside] 2)
  refine (breachCode_calls aL nL cL xL aV nV cV xV wd sl wt _ _ _ [outside] _ (rL.below d0) hL (rV.below d0) hV (rd_one (heap_alloc_new _ _)) (by decide)).mono ?_
  rintro e w1 ⟨he, b1⟩
  have d1 := bnext d0 b1 (Nat.le_refl _)
  have ga1 := blk_below (blk_alloc ga _) b1 (by have := blk_lt ga; simp; omega)
  have gb1 := blk_below (blk_alloc gb _) b1 (by have := blk_lt gb; simp; omega)
  clear k0 k1 k2 k3 k4 ga gb b1 dd d0
  rw [HC.out] at he
  by_cases hz : c = 0
  · subst hz
    subst he
    have HB := hd (bc1 HC.out)
    have k0 := blk_cell ga1 0
    have k1 := blk_cell ga1 1
    have k2 := blk_cell gb1 0
    have k3 := blk_cell gb1 1
    have k4 := blk_cell gb1 2
    go_wp2_with fail
    refine (inflow_calls wd sl wt aL nL cL xL aV nV cV xV outside _ (rL.below d1) hL (rV.below d1) hV HB.out.1 HB.out.2).mono ?_
    rintro e w2 ⟨rfl, b2⟩
    go_wp2_with fail
    go_ret2
    exact ⟨rfl, bnext d1 b2 (Nat.le_refl _)⟩
  · subst he
    clear ga1 gb1
    go_wp2_with fail
    go_ret2
    exact ⟨ret_ints (by unfold okZ; rw [if_neg hz]) (by unfold okZ; rw [if_neg hz]), d1⟩
set_option maxRecDepth 100000 in
set_option maxHeartbeats 1000000 in
theorem specInflowOf_calls (aL : Option Addr) (nL cL : Nat) (xL : List Int) (aV : Option Addr) (nV cV : Nat) (xV : List Int) (wd sl wt : Int) (outside : Int) (w : World) (rL : RdInt64 w aL nL xL) (hL : nL ≤ 1048576) (rV : RdInt64 w aV nV xV) (hV : nV ≤ 1048576) :
    Calls Try.prog 22 #[.agg #[.slice aL nL cL, .slice aV nV cV], .agg #[.int .i64 wd, .int .i64 sl, .int .i64 wt], .int .i64 outside] w fun e w' => e = .returned (.tuple #[.int .i64 (okZ (bcZ xL xV wd sl wt [outside] true) (infZ xL xV wd sl wt outside)).1, .int .i64 (okZ (bcZ xL xV wd sl wt [outside] true) (infZ xL xV wd sl wt outside)).2]) ∧ Below w.heap.size w w' := by
  obtain ⟨c, hc⟩ : ∃ c, bcZ xL xV wd sl wt [outside] true = c := ⟨_, rfl⟩
  have HC := hd hc
  rw [hc]
  clear hc
  go_enter Try.func22, Try.ntmps22
  go_upto_region 1 with fail
  obtain ⟨ga, gb, dd⟩ := two_blk2 w (cvC aL nL cL aV nV cV) (brC wd sl wt)
  generalize (w.alloc (cvC aL nL cL aV nV cV)).alloc (brC wd sl wt) = W1 at ga gb dd ⊢
  have k2 := blk_cell gb 0
  have k3 := blk_cell gb 1
  have k4 := blk_cell gb 2
  go_wp2_with fail
  refine (l12Code_calls _ aL nL cL xL aV nV cV xV wd sl wt outside _ ga (rL.below dd) hL (rV.below dd) hV).mono ?_
  rintro e w1 ⟨he, b1⟩
  have d1 := bnext dd b1 (Nat.le_refl _)
  have ga1 := blk_below ga b1 (blk_lt ga)
  have gb1 := blk_below gb b1 (blk_lt gb)
  clear k2 k3 k4 ga gb b1 dd
  rw [HC.out] at he
  by_cases hz : c = 0
  · subst hz
    subst he
    have HB := hd (bc1 HC.out)
    have k2 := blk_cell gb1 0
    have k3 := blk_cell gb1 1
    have k4 := blk_cell gb1 2
    go_wp2_with fail
    refine (l12Inflow_calls _ aL nL cL xL aV nV cV xV wd sl wt outside _ ga1 (rL.below d1) hL (rV.below d1) hV HB.out.1 HB.out.2).mono ?_
    rintro e w2 ⟨rfl, b2⟩
    go_wp2_with fail
    go_ret2
    exact ⟨rfl, bnext d1 b2 (Nat.le_refl _)⟩
  · subst he
    clear ga1 gb1
    go_wp2_with fail
    go_ret2
    exact ⟨ret_ints (by unfold okZ; rw [if_neg hz]) (by unfold okZ; rw [if_neg hz]), d1⟩
end Go.Proofs.Ytieomdjcnaaopaa
