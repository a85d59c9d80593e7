/- Breaches: HoursToClose, StonesNeeded. -/
import Derived.Test.YtieomdjcnaaopaaLst
namespace Go.Proofs.Ytieomdjcnaaopaa
open Go.RowKit
set_option linter.unusedVariables false

def tcZ (ls vs : List Int) (wd sl wt : Int) (os : List Int) (st : Int) : Int × Int :=
  match findK (fun i => (bAt ls vs sl os (cstS st) (wd, wt) i).1 == 0) (os.length + 1) with | some i => ((i : Int), clS ls vs sl os (cstS st) (wd, wt) i) | none => (-1, 0)
def ccZ (ls vs : List Int) (wd sl wt : Int) (os : List Int) (st : Int) : Int :=
  if bcZ ls vs wd sl wt os (inB st 0 1000) = 0 then (if (tcZ ls vs wd sl wt os st).1 < 0 then 3 else 0) else bcZ ls vs wd sl wt os (inB st 0 1000)
def hcZ (ls vs : List Int) (wd sl wt : Int) (os : List Int) (st : Int) : Int × Int := okZ (ccZ ls vs wd sl wt os st) (tcZ ls vs wd sl wt os st).1
def snZ (ls vs : List Int) (wd sl wt : Int) (os : List Int) (st : Int) : Int × Int := okZ (ccZ ls vs wd sl wt os st) (tcZ ls vs wd sl wt os st).2
theorem tcZ_some {ls vs : List Int} {wd sl wt : Int} {os : List Int} {st : Int} {i : Nat} (h : findK (fun i => (bAt ls vs sl os (cstS st) (wd, wt) i).1 == 0) (os.length + 1) = some i) : tcZ ls vs wd sl wt os st = ((i : Int), clS ls vs sl os (cstS st) (wd, wt) i) := by unfold tcZ; rw [h]
theorem tcZ_none {ls vs : List Int} {wd sl wt : Int} {os : List Int} {st : Int} (h : findK (fun i => (bAt ls vs sl os (cstS st) (wd, wt) i).1 == 0) (os.length + 1) = none) : tcZ ls vs wd sl wt os st = (-1, 0) := by unfold tcZ; rw [h]
theorem clS_next {ls vs : List Int} {sl : Int} {os : List Int} {s : Nat → Int} {b : Int × Int} {k : Nat} {p q o st : Int} (h : bAt ls vs sl os s b k = (p, q)) (ho : os[k]? = some o) (hs : s k = st) :
    clS ls vs sl os s b (k + 1) = clS ls vs sl os s b k + clZ p (hdZ ls vs sl q o) st := by
  simp only [clS, h, at0_get ho, hs]
set_option maxRecDepth 100000 in
set_option maxHeartbeats 1000000 in
theorem toClose_calls (wd sl wt : Int) (aL : Option Addr) (nL cL : Nat) (xL : List Int) (aV : Option Addr) (nV cV : Nat) (xV : List Int) (ao : Option Addr) (no co : Nat) (xo : List Int) (st : Int) (w : World) (rL : RdInt64 w aL nL xL) (hL : nL ≤ 1048576) (rV : RdInt64 w aV nV xV) (hV : nV ≤ 1048576) (ro : RdInt64 w ao no xo) (ho : no ≤ 100) (hbr : brB xL xV wd sl wt = true) (hall : xo.all lvB = true) (hs0 : 0 ≤ st) (hs1 : st ≤ 1000) :
    Calls Try.prog 109 #[.agg #[.int .i64 wd, .int .i64 sl, .int .i64 wt], .agg #[.slice aL nL cL, .slice aV nV cV], .slice ao no co, .int .i64 st] w fun e w' => e = .returned (.tuple #[.int .i64 (tcZ xL xV wd sl wt xo st).1, .int .i64 (tcZ xL xV wd sl wt xo st).2]) ∧ Below w.heap.size w w' := by
  have lo := ro.len
  have LO := hd lo
  have OK := hd (And.intro hbr hall)
  obtain ⟨R, hR⟩ : ∃ R, tcZ xL xV wd sl wt xo st = R := ⟨_, rfl⟩
  have HR : Hid (∀ {x}, tcZ xL xV wd sl wt xo st = x → R = x) := hd (fun h => hR.symm.trans h)
  rw [hR]
  clear lo hbr hall hR
  obtain ⟨gb, ga, dd⟩ := two_blk2 w (brC wd sl wt) (cvC aL nL cL aV nV cV)
  have GP := hd ga
  have GB := hd gb
  clear ga gb
  go_enter Try.func109, Try.ntmps109
  go_wp2_with fail
  go_loopw [10, 11] (fun t i wr => ∃ k : Nat, ∃ p q cs : Int, k ≤ no ∧ i = .int .i64 k ∧ t = .int .i64 cs ∧ bAt xL xV sl xo (cstS st) (wd, wt) k = (p, q) ∧ clS xL xV sl xo (cstS st) (wd, wt) k = cs ∧ (∀ j, j < k → ((bAt xL xV sl xo (cstS st) (wd, wt) j).1 == 0) = false) ∧ wr.heap[w.heap.size + 1]? = some (cvC aL nL cL aV nV cV) ∧ wr.heap[w.heap.size]? = some (brC p sl q) ∧ Below w.heap.size w wr) (fun _ i _ => no + 1 - (intOf i).toNat)
  case atStart => exact ⟨0, wd, wt, 0, Nat.zero_le _, rfl, rfl, rfl, rfl, fun j hj => absurd hj (Nat.not_lt_zero _), GP.out, GB.out, dd⟩
  case round =>
    clear dd
    clear GP GB
    obtain ⟨k, p, q, cs, hk, rfl, rfl, hpq, hcs, hne, hgA, hgB, hb⟩ := hrel
    have hbr := bAt_ok (b := (wd, wt)) (s := cstS st) OK.out.1 (all_at0 OK.out.2) (fun i hi => hs0) k (by rw [LO.out]; exact hk)
    have hcb := clS_bd (b := (wd, wt)) (s := cstS st) OK.out.1 (all_at0 OK.out.2) (fun i hi => hs0) k (by rw [LO.out]; exact hk)
    rw [hcs] at hcb
    obtain ⟨cb0, cb1⟩ := hcb
    rw [hpq] at hbr
    have HBR := hd hbr
    obtain ⟨hc, ⟨hw0, hw1⟩, hsl, h0, h1⟩ := br_of hbr
    have HPQ := hd hpq
    have HCS := hd hcs
    have HNE := hd hne
    have HSL := hd hsl
    have HCV := hd (cv_of hc)
    clear hbr hc hsl h1 h0 hpq hcs hne
    have HGA := hd hgA
    have HGB := hd hgB
    have lA := blk_lt hgA
    have lB := blk_lt hgB
    have k0 := blk_cell hgA 0
    have k1 := blk_cell hgA 1
    have k2 := blk_cell hgB 0
    have k3 := blk_cell hgB 1
    have k4 := blk_cell hgB 2
    clear hgA hgB
    by_cases hp : p = 0
    · have FF := hd (HR.out (tcZ_some (findK_some (by rw [LO.out]; omega) (by rw [HPQ.out]; simp [hp]) HNE.out)))
      subst hp
      go_wp2_with fail
      go_ret2
      exact ⟨ret_ints (by rw [FF.out]) (by rw [FF.out, HCS.out]), hb⟩
    · have HNE' : Hid (∀ j, j < k + 1 → ((bAt xL xV sl xo (cstS st) (wd, wt) j).1 == 0) = false) := hd (fun j hj => by
        rcases Nat.lt_or_eq_of_le (Nat.le_of_lt_succ hj) with hl | rfl
        · exact HNE.out j hl
        · rw [HPQ.out]; simpa using hp)
      clear HNE
      by_cases hlt : k < no
      · obtain ⟨bo, oo, f0, rfl, hbl, hx, hc0⟩ := getInt64 (ro.below hb) hlt
        have hF := all_at OK.out.2 hx
        have HF := hd hF
        have HN := hd (bAt_next HPQ.out hx (show cstS st k = st from rfl))
        have HCN := hd (clS_next HPQ.out hx (show cstS st k = st from rfl))
        have hh := hd_bd' HCV.out sl q f0 HSL.out hF
        have hn := (nw_bd hw0 hw1 hh.1 hh.2 hs0).2
        obtain ⟨np, hnp⟩ : ∃ x, nwZ p (hdZ xL xV sl q f0) st = x := ⟨_, rfl⟩
        obtain ⟨nq, hnq⟩ : ∃ x, q + infZ xL xV p sl q f0 = x := ⟨_, rfl⟩
        obtain ⟨cl, hcl⟩ : ∃ x, clZ p (hdZ xL xV sl q f0) st = x := ⟨_, rfl⟩
        rw [hcl] at hn
        obtain ⟨n0', n1'⟩ := hn
        have hc1' : cs + cl ≤ 1000000000 := by omega
        have HNP := hd hnp
        have HNQ := hd hnq
        have HCL := hd hcl
        clear hx hF hh hnp hnq hcl
        have i1 : (0 : Int) ≤ (k : Int) := by omega
        have i2 : (k : Int) < (no : Int) := by omega
        have i3 : ¬ (k : Int) = (no : Int) := by omega
        have RL := hd (rL.below hb)
        have RV := hd (rV.below hb)
        go_upto_region 8 with fail
        go_cut [12, 13] (fun s12 s13 wx => ∃ gg : Nat, s12 = .pointer (some ⟨gg, 0, none⟩) ∧ s13 = .int .i64 cl ∧ wx.heap[gg]? = some (brC np sl nq) ∧ Below wr.heap.size wr wx ∧ wr.heap.size ≤ gg)
        case first =>
          have n0 := World.new_ne wr _ k0
          have n1 := World.new_ne wr _ k1
          have n2 := World.new_ne wr _ k2
          have n3 := World.new_ne wr _ k3
          have n4 := World.new_ne wr _ k4
          have n5 := World.new_ne wr _ hc0
          go_region_held3 (fun w' => w'.cell? ⟨w.heap.size + 1, 0, none⟩ = some (.slice aL nL cL) ∧ w'.cell? ⟨w.heap.size + 1, 1, none⟩ = some (.slice aV nV cV) ∧ w'.cell? ⟨w.heap.size, 0, none⟩ = some (.int .i64 p) ∧ w'.cell? ⟨w.heap.size, 1, none⟩ = some (.int .i64 sl) ∧ w'.cell? ⟨w.heap.size, 2, none⟩ = some (.int .i64 q) ∧ w'.cell? ⟨bo, oo + k, none⟩ = some (.int .i64 f0)) (first | exact ⟨r0, r1, r2, r3, r4, r5⟩ | go_keep)
            (first | (go_at_call 85; refine (step_calls p sl q aL nL cL xL aV nV cV xV f0 st _ (RL.out.below (by go_grown)) hL (RV.out.below (by go_grown)) hV HBR.out HF.out hs0 hs1).mono ?_; rintro e w9 ⟨he, b9⟩; rw [HNP.out, HNQ.out, HCL.out] at he; subst he; have b9w : Below wr.heap.size wr w9 := Below.trans (by go_grown) (b9.mono (by simp)); have r0 := (b9w.cell (p := ⟨w.heap.size + 1, 0, none⟩) lA).trans k0; have r1 := (b9w.cell (p := ⟨w.heap.size + 1, 1, none⟩) lA).trans k1; have r2 := (b9w.cell (p := ⟨w.heap.size, 0, none⟩) lB).trans k2; have r3 := (b9w.cell (p := ⟨w.heap.size, 1, none⟩) lB).trans k3; have r4 := (b9w.cell (p := ⟨w.heap.size, 2, none⟩) lB).trans k4; have r5 := (b9w.cell (p := ⟨bo, oo + k, none⟩) hbl).trans hc0; (first | (have hq9 : w9.heap[wr.heap.size]? = some (brC 0 0 0) := (b9.block wr.heap.size (by simp)).trans (heap_alloc_new wr _); have t0 := blk_cell hq9 0; have t1 := blk_cell hq9 1; have t2 := blk_cell hq9 2; have u0 := blk_free hq9 0; have u1 := blk_free hq9 1; have u2 := blk_free hq9 2) | skip)))
          all_goals
            go_wp2_with fail
            go_meet
            first
              | exact ⟨_, rfl, rfl, heap_alloc_new _ _, b9w.alloc b9w.size _, b9w.size⟩
              | exact ⟨_, rfl, rfl, blk_set3 hq9 _ _ _, below_set3 b9w (Nat.le_refl _) _ _ _, Nat.le_refl _⟩
        case rest =>
          obtain ⟨gg, rfl, rfl, gn, b1, lgg⟩ := hcut
          have hgA := blk_below HGA.out b1 lA
          have hgB := blk_below HGB.out b1 lB
          have hb1 := bnext hb b1 (Nat.le_refl _)
          clear k0 k1 k2 k3 k4 b1 RL RV HGA HGB hc0 lA lB
          have k2 := blk_cell hgB 0
          have k3 := blk_cell hgB 1
          have k4 := blk_cell hgB 2
          have f2 := blk_free hgB 0
          have f3 := blk_free hgB 1
          have f4 := blk_free hgB 2
          have y0 := blk_cell gn 0
          have y1 := blk_cell gn 1
          have y2 := blk_cell gn 2
          have HGA := hd hgA
          have HGB := hd hgB
          clear hgA hgB gn
          have j1 : IntKind.i64.wrap (cs + cl) = cs + cl := IntWalk.i64_in _ (by omega)
          go_wp2_with fail
          go_roundw
          case rel => exact ⟨k + 1, np, nq, cs + cl, by omega, by go_num, by go_num, by rw [HN.out, HNP.out, HNQ.out], by rw [HCN.out, HCS.out, HCL.out], HNE'.out, blk_far3 HGA.out (by omega) _ _ _, blk_set3 HGB.out _ _ _, below_set3 hb1 (by omega) _ _ _⟩
          case measure => simp [intOf]; omega
      · obtain rfl : k = no := by omega
        have FF := hd (HR.out (tcZ_none (findK_none (fun j hj => HNE'.out j (by rw [LO.out] at hj; exact hj)))))
        go_wp2_with fail
        go_ret2
        exact ⟨ret_ints (by rw [FF.out]) (by rw [FF.out]), hb⟩
set_option maxRecDepth 100000 in
set_option maxHeartbeats 1000000 in
theorem l12Close_calls (g : Nat) (aL : Option Addr) (nL cL : Nat) (xL : List Int) (aV : Option Addr) (nV cV : Nat) (xV : List Int) (wd sl wt : Int) (ao : Option Addr) (no co : Nat) (xo : List Int) (st : Int) (w : World) (hg : w.heap[g]? = some (cvC aL nL cL aV nV cV)) (rL : RdInt64 w aL nL xL) (hL : nL ≤ 1048576) (rV : RdInt64 w aV nV xV) (hV : nV ≤ 1048576) (ro : RdInt64 w ao no xo) (ho : no ≤ 100) (hbr : brB xL xV wd sl wt = true) (hall : xo.all lvB = true) (hs0 : 0 ≤ st) (hs1 : st ≤ 1000) :
    Calls Try.prog 107 #[.pointer (some ⟨g, 0, none⟩), .agg #[.int .i64 wd, .int .i64 sl, .int .i64 wt], .slice ao no co, .int .i64 st] w fun e w' => e = .returned (.tuple #[.int .i64 (tcZ xL xV wd sl wt xo st).1, .int .i64 (tcZ xL xV wd sl wt xo st).2]) ∧ Below w.heap.size w w' := by
  have lo := ro.len
  have LO := hd lo
  have OK := hd (And.intro hbr hall)
  have hgl := blk_lt hg
  obtain ⟨R, hR⟩ : ∃ R, tcZ xL xV wd sl wt xo st = R := ⟨_, rfl⟩
  have HR : Hid (∀ {x}, tcZ xL xV wd sl wt xo st = x → R = x) := hd (fun h => hR.symm.trans h)
  rw [hR]
  clear lo hbr hall hR
  have GP := hd (blk_alloc hg (brC wd sl wt))
  have GB := hd (heap_alloc_new w (brC wd sl wt))
  go_enter Try.func107, Try.ntmps107
  go_wp2_with fail
  go_loopw [10, 11] (fun t i wr => ∃ k : Nat, ∃ p q cs : Int, k ≤ no ∧ i = .int .i64 k ∧ t = .int .i64 cs ∧ bAt xL xV sl xo (cstS st) (wd, wt) k = (p, q) ∧ clS xL xV sl xo (cstS st) (wd, wt) k = cs ∧ (∀ j, j < k → ((bAt xL xV sl xo (cstS st) (wd, wt) j).1 == 0) = false) ∧ wr.heap[g]? = some (cvC aL nL cL aV nV cV) ∧ wr.heap[w.heap.size]? = some (brC p sl q) ∧ Below w.heap.size w wr) (fun _ i _ => no + 1 - (intOf i).toNat)
  case atStart => exact ⟨0, wd, wt, 0, Nat.zero_le _, rfl, rfl, rfl, rfl, fun j hj => absurd hj (Nat.not_lt_zero _), GP.out, GB.out, (Below.refl _ _).alloc (Nat.le_refl _) _⟩
  case round =>
    clear GP GB
    obtain ⟨k, p, q, cs, hk, rfl, rfl, hpq, hcs, hne, hgA, hgB, hb⟩ := hrel
    have hbr := bAt_ok (b := (wd, wt)) (s := cstS st) OK.out.1 (all_at0 OK.out.2) (fun i hi => hs0) k (by rw [LO.out]; exact hk)
    have hcb := clS_bd (b := (wd, wt)) (s := cstS st) OK.out.1 (all_at0 OK.out.2) (fun i hi => hs0) k (by rw [LO.out]; exact hk)
    rw [hcs] at hcb
    obtain ⟨cb0, cb1⟩ := hcb
    rw [hpq] at hbr
    have HBR := hd hbr
    obtain ⟨hc, ⟨hw0, hw1⟩, hsl, h0, h1⟩ := br_of hbr
    have HPQ := hd hpq
    have HCS := hd hcs
    have HNE := hd hne
    have HSL := hd hsl
    have HCV := hd (cv_of hc)
    clear hbr hc hsl h1 h0 hpq hcs hne
    have HGA := hd hgA
    have HGB := hd hgB
    have lA := blk_lt hgA
    have lB := blk_lt hgB
    have k0 := blk_cell hgA 0
    have k1 := blk_cell hgA 1
    have k2 := blk_cell hgB 0
    have k3 := blk_cell hgB 1
    have k4 := blk_cell hgB 2
    clear hgA hgB
    by_cases hp : p = 0
    · have FF := hd (HR.out (tcZ_some (findK_some (by rw [LO.out]; omega) (by rw [HPQ.out]; simp [hp]) HNE.out)))
      subst hp
      go_wp2_with fail
      go_ret2
      exact ⟨ret_ints (by rw [FF.out]) (by rw [FF.out, HCS.out]), hb⟩
    · have HNE' : Hid (∀ j, j < k + 1 → ((bAt xL xV sl xo (cstS st) (wd, wt) j).1 == 0) = false) := hd (fun j hj => by
        rcases Nat.lt_or_eq_of_le (Nat.le_of_lt_succ hj) with hl | rfl
        · exact HNE.out j hl
        · rw [HPQ.out]; simpa using hp)
      clear HNE
      by_cases hlt : k < no
      · obtain ⟨bo, oo, f0, rfl, hbl, hx, hc0⟩ := getInt64 (ro.below hb) hlt
        have hF := all_at OK.out.2 hx
        have HF := hd hF
        have HN := hd (bAt_next HPQ.out hx (show cstS st k = st from rfl))
        have HCN := hd (clS_next HPQ.out hx (show cstS st k = st from rfl))
        have hh := hd_bd' HCV.out sl q f0 HSL.out hF
        have hn := (nw_bd hw0 hw1 hh.1 hh.2 hs0).2
        obtain ⟨np, hnp⟩ : ∃ x, nwZ p (hdZ xL xV sl q f0) st = x := ⟨_, rfl⟩
        obtain ⟨nq, hnq⟩ : ∃ x, q + infZ xL xV p sl q f0 = x := ⟨_, rfl⟩
        obtain ⟨cl, hcl⟩ : ∃ x, clZ p (hdZ xL xV sl q f0) st = x := ⟨_, rfl⟩
        rw [hcl] at hn
        obtain ⟨n0', n1'⟩ := hn
        have hc1' : cs + cl ≤ 1000000000 := by omega
        have HNP := hd hnp
        have HNQ := hd hnq
        have HCL := hd hcl
        clear hx hF hh hnp hnq hcl
        have i1 : (0 : Int) ≤ (k : Int) := by omega
        have i2 : (k : Int) < (no : Int) := by omega
        have i3 : ¬ (k : Int) = (no : Int) := by omega
        have RL := hd (rL.below hb)
        have RV := hd (rV.below hb)
        go_upto_region 8 with fail
        go_cut [12, 13] (fun s12 s13 wx => ∃ gg : Nat, s12 = .pointer (some ⟨gg, 0, none⟩) ∧ s13 = .int .i64 cl ∧ wx.heap[gg]? = some (brC np sl nq) ∧ Below wr.heap.size wr wx ∧ wr.heap.size ≤ gg)
        case first =>
          have n0 := World.new_ne wr _ k0
          have n1 := World.new_ne wr _ k1
          have n2 := World.new_ne wr _ k2
          have n3 := World.new_ne wr _ k3
          have n4 := World.new_ne wr _ k4
          have n5 := World.new_ne wr _ hc0
          go_region_held3 (fun w' =>  w'.cell? ⟨w.heap.size, 0, none⟩ = some (.int .i64 p) ∧ w'.cell? ⟨w.heap.size, 1, none⟩ = some (.int .i64 sl) ∧ w'.cell? ⟨w.heap.size, 2, none⟩ = some (.int .i64 q) ∧ w'.cell? ⟨bo, oo + k, none⟩ = some (.int .i64 f0)) (first | exact ⟨ r2, r3, r4, r5⟩ | go_keep)
            (first | (go_at_call 83; refine (l12Step_calls g aL nL cL xL aV nV cV xV p sl q f0 st _ (blk_below HGA.out (by go_grown) lA) (RL.out.below (by go_grown)) hL (RV.out.below (by go_grown)) hV HBR.out HF.out hs0 hs1).mono ?_; rintro e w9 ⟨he, b9⟩; rw [HNP.out, HNQ.out, HCL.out] at he; subst he; have b9w : Below wr.heap.size wr w9 := Below.trans (by go_grown) (b9.mono (by simp)); have r0 := (b9w.cell (p := ⟨g, 0, none⟩) lA).trans k0; have r1 := (b9w.cell (p := ⟨g, 1, none⟩) lA).trans k1; have r2 := (b9w.cell (p := ⟨w.heap.size, 0, none⟩) lB).trans k2; have r3 := (b9w.cell (p := ⟨w.heap.size, 1, none⟩) lB).trans k3; have r4 := (b9w.cell (p := ⟨w.heap.size, 2, none⟩) lB).trans k4; have r5 := (b9w.cell (p := ⟨bo, oo + k, none⟩) hbl).trans hc0; (first | (have hq9 : w9.heap[wr.heap.size]? = some (brC 0 0 0) := (b9.block wr.heap.size (by simp)).trans (heap_alloc_new wr _); have t0 := blk_cell hq9 0; have t1 := blk_cell hq9 1; have t2 := blk_cell hq9 2; have u0 := blk_free hq9 0; have u1 := blk_free hq9 1; have u2 := blk_free hq9 2) | skip)))
          all_goals
            go_wp2_with fail
            go_meet
            first
              | exact ⟨_, rfl, rfl, heap_alloc_new _ _, b9w.alloc b9w.size _, b9w.size⟩
              | exact ⟨_, rfl, rfl, blk_set3 hq9 _ _ _, below_set3 b9w (Nat.le_refl _) _ _ _, Nat.le_refl _⟩
        case rest =>
          obtain ⟨gg, rfl, rfl, gn, b1, lgg⟩ := hcut
          have hgA := blk_below HGA.out b1 lA
          have hgB := blk_below HGB.out b1 lB
          have hb1 := bnext hb b1 (Nat.le_refl _)
          clear k0 k1 k2 k3 k4 b1 RL RV HGA HGB hc0 lA lB
          have k2 := blk_cell hgB 0
          have k3 := blk_cell hgB 1
          have k4 := blk_cell hgB 2
          have f2 := blk_free hgB 0
          have f3 := blk_free hgB 1
          have f4 := blk_free hgB 2
          have y0 := blk_cell gn 0
          have y1 := blk_cell gn 1
          have y2 := blk_cell gn 2
          have HGA := hd hgA
          have HGB := hd hgB
          clear hgA hgB gn
          have j1 : IntKind.i64.wrap (cs + cl) = cs + cl := IntWalk.i64_in _ (by omega)
          go_wp2_with fail
          go_roundw
          case rel => exact ⟨k + 1, np, nq, cs + cl, by omega, by go_num, by go_num, by rw [HN.out, HNP.out, HNQ.out], by rw [HCN.out, HCS.out, HCL.out], HNE'.out, blk_far3 HGA.out (by omega) _ _ _, blk_set3 HGB.out _ _ _, below_set3 hb1 (by omega) _ _ _⟩
          case measure => simp [intOf]; omega
      · obtain rfl : k = no := by omega
        have FF := hd (HR.out (tcZ_none (findK_none (fun j hj => HNE'.out j (by rw [LO.out] at hj; exact hj)))))
        go_wp2_with fail
        go_ret2
        exact ⟨ret_ints (by rw [FF.out]) (by rw [FF.out]), hb⟩
end Go.Proofs.Ytieomdjcnaaopaa
