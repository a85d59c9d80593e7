/- Lists of names: the reference. -/
import Derived.Test.YtomobdajnlfphaaLst2
namespace Go.Proofs.Ytomobdajnlfphaa
open Go.RowKit
set_option linter.unusedVariables false

theorem lists_f {xss : List (List ByteArray)} {k : Nat} {xs : List ByteArray} (h : xss[k]? = some xs) (hp : rowB xs = false) : listsB xss = false := by unfold listsB; rw [all_stop h hp, Bool.and_false]
theorem row_len {xs : List ByteArray} (h : ¬ xs.length ≤ 12) : rowB xs = false := by unfold rowB; rw [decide_eq_false h]; rfl
theorem row_stop {xs : List ByteArray} {k : Nat} {s : ByteArray} (h : xs[k]? = some s) (hp : nameB s = false) : rowB xs = false := by unfold rowB; rw [all_stop h hp, Bool.and_false]
theorem row_ok {xs : List ByteArray} (h : xs.length ≤ 12) (ha : xs.all nameB = true) : rowB xs = true := by unfold rowB; rw [decide_eq_true h, ha]; rfl
set_option maxRecDepth 100000 in
set_option maxHeartbeats 1000000 in
theorem l16Lists_calls (a : Option Addr) (n c : Nat) (zs : List SL) (xss : List (List ByteArray)) (w : World) (hr : RdSL w a n zs) (hn : n ≤ 1048576) (hi : InS w zs xss) (hs : SzL zs) :
    Calls Try.prog 10 #[.slice a n c] w fun e w' => e = .returned (.bool (listsB xss)) ∧ Below w.heap.size w w' := by
  have HL : Hid (xss.length = n) := hd (by rw [← hi.1, List.length_map]; exact hr.len)
  have HI := hd hi
  have HS := hd hs
  clear hi hs
  go_enter Try.func10, Try.ntmps10
  go_wp2_with fail
  go_loopw [3] (fun i wr => ∃ k : Nat, k ≤ n ∧ i = .int .i64 k ∧ (xss.take k).all rowB = true ∧ Below w.heap.size w wr) (fun i _ => n - (intOf i).toNat)
  case atStart => exact ⟨0, Nat.zero_le _, rfl, rfl, Below.refl _ _⟩
  case round =>
    obtain ⟨k, hk, rfl, ha, hb⟩ := hrel
    have HA := hd ha
    clear ha
    by_cases hlt : k < n
    · obtain ⟨bo, oo, ⟨az, nz, cz, tz⟩, rfl, hbl, hx, hc0⟩ := getSL hr hlt
      simp only [] at hc0
      have HX := hd (HI.out.at_ hx).1
      have rz := (HI.out.at_ hx).2
      have hz := HS.out _ (List.mem_of_getElem? hx)
      simp only [] at hz HX rz
      obtain ⟨hz1, hz2⟩ := hz
      have HZ2 := hd hz2
      have HC0 := hd hc0
      have HZL := hd rz.len
      have c0 := ((bcell hb).1 _ _ hbl).trans hc0
      clear hx hc0 hz2
      by_cases hl : (12 : Int) < nz
      · have FF := hd (lists_f HX.out (row_len (by rw [HZL.out]; omega)))
        go_wp2_with fail
        go_ret
        exact ⟨ret_bool (by rw [FF.out]), hb⟩
      · have hl' : nz ≤ 12 := by omega
        go_wp2_with fail
        clear c0
        go_loopw [4] (fun i wr' => ∃ j : Nat, j ≤ nz ∧ i = .int .i64 j ∧ (tz.take j).all nameB = true ∧ Below w.heap.size w wr') (fun i _ => nz - (intOf i).toNat)
        case atStart => exact ⟨0, Nat.zero_le _, rfl, rfl, hb⟩
        case round =>
          obtain ⟨j, hj, rfl, haj, hb'⟩ := hrel
          have HAJ := hd haj
          clear haj
          have c0 := ((bcell hb').1 _ _ hbl).trans HC0.out
          by_cases hlj : j < nz
          · obtain ⟨b', o', s, rfl, hbl', hy, hc1⟩ := getStr rz hlj
            have HY := hd hy
            have HM := hd (HZ2.out s (List.mem_of_getElem? hy))
            have c1 := ((bcell hb').1 _ _ hbl').trans hc1
            clear hy hc1
            go_wp2_with fail
            refine (specIsName_calls s _ HM.out).mono ?_
            rintro e w3 ⟨he, b3⟩
            have hb3 := bnext hb' b3 (Nat.le_refl _)
            clear b3 c0 c1
            cases hq : nameB s
            · rw [hq] at he
              subst he
              have FF := hd (lists_f HX.out (row_stop HY.out hq))
              clear hq
              go_wp2_with fail
              go_ret
              exact ⟨ret_bool (by rw [FF.out]), hb3⟩
            · rw [hq] at he
              subst he
              have HN := hd (all_next HY.out HAJ.out hq)
              clear hq
              go_wp2_with fail
              go_roundw
              case rel => exact ⟨j + 1, by omega, by go_num, HN.out, hb3⟩
              case measure => simp [intOf]; omega
          · obtain rfl : j = nz := by omega
            have HN := hd (all_next HX.out HA.out (row_ok (by rw [HZL.out]; exact hl') (all_done HZL.out (Nat.le_refl _) HAJ.out)))
            go_wp2_with fail
            go_roundw
            case rel => exact ⟨k + 1, by omega, by go_num, HN.out, hb'⟩
            case measure => simp [intOf]; omega
    · have HAA := hd (all_done HL.out (by omega) HA.out)
      by_cases h5 : (n : Int) ≤ 5
      · have FF : Hid (listsB xss = true) := hd (by unfold listsB; rw [HAA.out, HL.out, decide_eq_true (by omega)]; rfl)
        go_wp2_with fail
        go_ret
        exact ⟨ret_bool (by rw [FF.out]), hb⟩
      · have h5' : (5 : Int) < n := by omega
        have FF : Hid (listsB xss = false) := hd (by unfold listsB; rw [HL.out, decide_eq_false (by omega)]; rfl)
        go_wp2_with fail
        go_ret
        exact ⟨ret_bool (by rw [FF.out]), hb⟩
set_option maxRecDepth 100000 in
set_option maxHeartbeats 1000000 in
theorem specStageOfName_calls (a : Option Addr) (n c : Nat) (zs : List SL) (xss : List (List ByteArray)) (name : ByteArray) (w : World) (hr : RdSL w a n zs) (hn : n ≤ 1048576) (hi : InS w zs xss) (hs : SzL zs) (hm : name.size ≤ 1048576) :
    Calls Try.prog 5 #[.slice a n c, .string name] w fun e w' => e = .returned (.tuple #[.int .i64 (snZ xss name).1, .int .i64 (snZ xss name).2]) ∧ Below w.heap.size w w' := by
  have HL : Hid (xss.length = n) := hd (by rw [← hi.1, List.length_map]; exact hr.len)
  obtain ⟨R, hR⟩ : ∃ R, snZ xss name = R := ⟨_, rfl⟩
  rw [hR]
  unfold snZ at hR
  have HR := hd hR
  clear hR
  have HI := hd hi
  have HS := hd hs
  go_enter Try.func5, Try.ntmps5
  go_wp2_with fail
  refine (l16Lists_calls _ _ _ zs xss _ hr hn hi hs).mono ?_
  rintro e w1 ⟨he, b1⟩
  clear hi hs
  cases hl : listsB xss
  · rw [hl] at he
    subst he
    have FF : Hid (R = (0, 1)) := hd (by have := HR.out; rw [hl] at this; exact this.symm)
    clear hl
    go_wp2_with fail
    go_ret2
    exact ⟨ret_ii (by rw [FF.out]), b1⟩
  rw [hl] at he
  subst he
  have HLL := hd hl
  clear hl
  go_wp2_with fail
  refine (specIsName_calls name _ hm).mono ?_
  rintro e w2 ⟨he, b2⟩
  replace b1 := bnext b1 b2 (Nat.le_refl _)
  clear b2
  cases hq : nameB name
  · rw [hq] at he
    subst he
    have FF : Hid (R = (0, 2)) := hd (by have := HR.out; rw [HLL.out, hq] at this; exact this.symm)
    clear hq
    go_wp2_with fail
    go_ret2
    exact ⟨ret_ii (by rw [FF.out]), b1⟩
  rw [hq] at he
  subst he
  have HG : Hid (goS name 0 xss = R) := hd (by have := HR.out; rw [HLL.out, hq] at this; exact this)
  clear hq HR HLL
  go_wp2_with fail
  go_loopw [6] (fun i wr => ∃ k : Nat, k ≤ n ∧ i = .int .i64 k ∧ goS name (k : Int) (xss.drop k) = R ∧ Below w.heap.size w wr) (fun i _ => n - (intOf i).toNat)
  case atStart => exact ⟨0, Nat.zero_le _, rfl, HG.out, b1⟩
  case round =>
    clear b1 HG
    obtain ⟨k, hk, rfl, hg, hb⟩ := hrel
    have HG := hd hg
    clear hg
    by_cases hlt : k < n
    · obtain ⟨bo, oo, ⟨az, nz, cz, tz⟩, rfl, hbl, hx, hc0⟩ := getSL hr hlt
      simp only [] at hc0
      have HX := hd (HI.out.at_ hx).1
      have rz := (HI.out.at_ hx).2
      have hz := HS.out _ (List.mem_of_getElem? hx)
      simp only [] at hz HX rz
      obtain ⟨hz1, -⟩ := hz
      have HC0 := hd hc0
      have HZL := hd rz.len
      clear hx hc0
      go_wp2_with fail
      go_loopw [7] (fun i wr' => ∃ j : Nat, j ≤ nz ∧ i = .int .i64 j ∧ (tz.take j).any (fun s => s.toList == name.toList) = false ∧ Below w.heap.size w wr') (fun i _ => nz - (intOf i).toNat)
      case atStart => exact ⟨0, Nat.zero_le _, rfl, rfl, hb⟩
      case round =>
        obtain ⟨j, hj, rfl, haj, hb'⟩ := hrel
        have HAJ := hd haj
        clear haj
        have c0 := ((bcell hb').1 _ _ hbl).trans HC0.out
        by_cases hlj : j < nz
        · obtain ⟨b', o', s, rfl, hbl', hy, hc1⟩ := getStr rz hlj
          have HY := hd hy
          have c1 := ((bcell hb').1 _ _ hbl').trans hc1
          clear hy hc1
          cases hq : (s.toList == name.toList)
          · have HN := hd (any_next HY.out HAJ.out hq)
            go_wp2_with fail
            go_roundw
            case rel => exact ⟨j + 1, by omega, by go_num, HN.out, hb'⟩
            case measure => simp [intOf]; omega
          · have FF := hd (goS_yes HX.out HG.out (any_stop HY.out hq))
            clear HG
            go_wp2_with fail
            go_ret2
            exact ⟨ret_ii (by rw [FF.out]), hb'⟩
        · obtain rfl : j = nz := by omega
          have HN := hd (goS_no HX.out HG.out (any_done (by rw [HZL.out]; exact Nat.le_refl _) HAJ.out))
          clear HG
          go_wp2_with fail
          go_roundw
          case rel => exact ⟨k + 1, by omega, by go_num, HN.out, hb'⟩
          case measure => simp [intOf]; omega
    · have FF := hd (goS_end (by rw [HL.out]; omega) HG.out)
      clear HG
      go_wp2_with fail
      go_ret2
      exact ⟨ret_ii (by rw [FF.out]), hb⟩
end Go.Proofs.Ytomobdajnlfphaa
