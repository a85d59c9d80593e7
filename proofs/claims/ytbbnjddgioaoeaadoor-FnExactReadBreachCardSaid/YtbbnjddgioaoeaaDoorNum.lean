/- Numbers in decimal: the reference's l01Number. -/
import Derived.Test.YtbbnjddgioaoeaaDoorPnu
import Derived.WalkSpells
namespace Go.Proofs.YtbbnjddgioaoeaaDoor
open Go.RowKit
set_option linter.unusedVariables false

def NumEnd (l : List UInt8) (e : Ending) : Prop := ∃ v ok, e = .returned (.tuple #[.int .i64 v, .bool ok]) ∧ NumIs l v ok

theorem str_eq {a b : ByteArray} (h : a = b) : (a.toList == b.toList) = true := by rw [h]; exact beq_self_eq_true _
theorem str_ne {a b : ByteArray} (h : a ≠ b) : (a.toList == b.toList) = false := by
  rw [beq_eq_false_iff_ne, ByteArray.toList_eq, ByteArray.toList_eq]
  intro e
  apply h
  apply ByteArray.ext
  exact Array.ext' e
theorem mkS_ne {a b : List UInt8} (h : a ≠ b) : mkS a ≠ mkS b := fun e => h (mkS_inj e)
theorem mkS_full {c : UInt8} {r : List UInt8} : (mkS (c :: r)).isEmpty = false := rfl
theorem ret_num {a c : Int} {b d : Bool} (h : a = c) (k : b = d) : Ending.returned (.tuple #[.int .i64 a, .bool b]) = .returned (.tuple #[.int .i64 c, .bool d]) := by rw [h, k]
theorem dval_b {l : List UInt8} (h : ∀ b ∈ l, isDg b = true) (hl : l.length ≤ 17) : dval 0 l < 100000000000000000 := by
  have h1 := dval_lt _ h 0
  have h2 : 10 ^ l.length ≤ 10 ^ 17 := Nat.pow_le_pow_right (by omega) hl
  omega
theorem l01Digit_calls (b : UInt8) (c : Nat) (hc : b.toNat = c) (w : World) : Calls Tryd.prog 53 #[.int .u8 (c : Int)] w fun e w' => e = .returned (.bool (isDg b)) ∧ w = w' := by
  by_cases h1 : 48 ≤ c
  · by_cases h2 : c ≤ 57
    · have e1 : (48 : Int) ≤ (c : Int) := by omega
      have e2 : (c : Int) ≤ 57 := by omega
      have K : Hid (isDg b = true) := hd (by rw [isDg_iff]; omega)
      clear hc
      go_enter Tryd.func53, Tryd.ntmps53
      go_wp2_with fail
      go_ret
      exact ⟨ret_bool (by rw [K.out]), rfl⟩
    · have e1 : (48 : Int) ≤ (c : Int) := by omega
      have e2 : decide ((c : Int) ≤ 57) = false := by simp; omega
      have K : Hid (isDg b = false) := hd (by unfold isDg; rw [decide_eq_false]; omega)
      clear hc
      go_enter Tryd.func53, Tryd.ntmps53
      go_wp2_with fail
      go_ret
      exact ⟨ret_bool (by rw [K.out]), rfl⟩
  · have e1 : decide ((48 : Int) ≤ (c : Int)) = false := by simp; omega
    have K : Hid (isDg b = false) := hd (by unfold isDg; rw [decide_eq_false]; omega)
    clear hc
    go_enter Tryd.func53, Tryd.ntmps53
    go_wp2_with fail
    go_ret
    exact ⟨ret_bool (by rw [K.out]), rfl⟩
set_option maxRecDepth 100000 in
set_option maxHeartbeats 1000000 in
theorem l01Number_calls (l : List UInt8) (w : World) (hl : l.length ≤ 1048576) :
    Calls Tryd.prog 33 #[.string (mkS l)] w fun e w' => NumEnd l e ∧ Below w.heap.size w w' := by
  have hS := mkS_size l
  by_cases hz : l = []
  · have FF := hd (num_len (l := l) (.inl (by subst hz; decide)))
    have e0 : mkS l = ByteArray.empty := by subst hz; rfl
    rw [e0]
    clear e0 hz hS
    go_enter Tryd.func33, Tryd.ntmps33
    go_wp2_with fail
    go_ret2
    exact ⟨⟨_, _, rfl, FF.out⟩, Below.refl _ _⟩
  have hemp : (mkS l).toList.isEmpty = false := by
    rw [ByteArray.toList_eq, mkS_list]
    cases l with
    | nil => exact absurd rfl hz
    | cons c r => rfl
  obtain ⟨c, r, hle⟩ : ∃ c r, l = c :: r := by cases l with | nil => exact absurd rfl hz | cons c r => exact ⟨c, r, rfl⟩
  have hll : l.length = r.length + 1 := by rw [hle]; rfl
  obtain ⟨n, hn⟩ : ∃ n, r.length = n := ⟨_, rfl⟩
  rw [hn] at hll
  rw [hll] at hS hl
  have hlt : 0 < (mkS l).size := by omega
  have hcc : ((mkS l)[0]'hlt).toNat = c.toNat := by
    rw [mkS_get (l := l) (k := 0) (by omega)]
    simp only [hle, List.getElem_cons_zero]
  have HLE := hd hle
  have HLL := hd hll
  clear hz hle hll
  have i0 : (0 : Int) < ((mkS l).size : Int) := by omega
  by_cases h45 : c.toNat = 45
  · have hcq : c = 45 := UInt8.toNat_inj.1 h45
    rw [h45] at hcc
    have hun : un l = r := by
      rw [HLE.out, un_neg (by rw [hcq]; rfl)]
      rfl
    have hsg : ∀ x : Nat, sgn l x = -(x : Int) := fun x => by unfold sgn; rw [HLE.out, if_pos (by rw [hcq]; rfl)]
    have hx : (mkS l).extract 1 (n + 1) = mkS r := by
      rw [HLE.out, mkS_ext, ← hn]
      simp
    have hT : (mkS r).size = n := by rw [mkS_size, hn]
    have HUN := hd hun
    have HX := hd hx
    have HSG := hd hsg
    have HLT := hd hn
    have hxs : ((mkS l).extract 1 (n + 1)).size = n := by rw [HX.out, hT]
    clear hun hx h45 hsg hcq hn
    by_cases c1 : n < 1
    · have FF := hd (num_len (l := l) (.inl (by rw [HUN.out, HLT.out]; exact c1)))
      go_enter Tryd.func33, Tryd.ntmps33
      go_wp2_with fail
      go_ret2
      exact ⟨⟨_, _, rfl, FF.out⟩, Below.refl _ _⟩
    by_cases c2 : 18 < n
    · have FF := hd (num_len (l := l) (.inr (by rw [HUN.out, HLT.out]; exact c2)))
      have c3 : (18 : Int) < (n : Int) := by omega
      go_enter Tryd.func33, Tryd.ntmps33
      go_wp2_with fail
      go_ret2
      exact ⟨⟨_, _, rfl, FF.out⟩, Below.refl _ _⟩
    have c3 : (1 : Int) ≤ (n : Int) := by omega
    have c4 : (n : Int) ≤ 18 := by omega
    go_enter Tryd.func33, Tryd.ntmps33
    go_wp2_with fail
    rw [HX.out]
    go_loopw [5, 6] (fun s5 s6 wr => ∃ k u : Nat, k ≤ n ∧ s6 = .int .i64 k ∧ s5 = .int .i64 u ∧ dval 0 (r.take k) = u ∧ (∀ b ∈ r.take k, isDg b = true) ∧ Below w.heap.size w wr) (fun _ i _ => n - (intOf i).toNat)
    case atStart => exact ⟨0, 0, Nat.zero_le _, rfl, rfl, rfl, fun b hb => (by simp at hb), Below.refl _ _⟩
    case round =>
      obtain ⟨k, u, hk, rfl, rfl, hu, hall, hb⟩ := hrel
      have HU := hd hu
      have HA := hd hall
      clear hu hall
      by_cases hkm : k < n
      · have hkl : k < r.length := by rw [HLT.out]; exact hkm
        obtain ⟨b, hbk⟩ : ∃ b, r[k]? = some b := ⟨r[k], List.getElem?_eq_getElem hkl⟩
        have hks : k < (mkS r).size := by omega
        obtain ⟨d, hbd⟩ : ∃ d, b.toNat = d := ⟨_, rfl⟩
        have hcc : ((mkS r)[k]'hks).toNat = d := by
          rw [mkS_get hkl, ← hbd]
          congr 1
          have := List.getElem?_eq_getElem hkl
          rw [hbk] at this
          exact (Option.some.inj this).symm
        have HBK := hd hbk
        have HBD := hd hbd
        have j1 : (0 : Int) ≤ (k : Int) := by omega
        have j2 : (k : Int) < (n : Int) := by omega
        have hu17 : u < 100000000000000000 := by
          rw [← HU.out]
          exact dval_b HA.out (by rw [List.length_take]; omega)
        have hd255 : d ≤ 255 := by rw [← hbd]; have := b.toNat_lt; omega
        clear hbk hbd hkl
        cases hdg : isDg b
        · have HDG := hd hdg
          have hdn := fun w => hdg ▸ l01Digit_calls b d HBD.out w
          have HDN := hd hdn
          clear hdg hdn
          go_wp2_with (go_at_call 53; refine (HDN.out _).mono ?_; rintro e w' ⟨rfl, rfl⟩)
          go_ret2
          exact ⟨⟨_, _, rfl, num_dig (by rw [HUN.out]; exact HBK.out) HDG.out⟩, hb⟩
        · have HDG := hd hdg
          obtain ⟨d0, d1⟩ := isDg_iff.1 hdg
          rw [HBD.out] at d0 d1
          have hdn := fun w => hdg ▸ l01Digit_calls b d HBD.out w
          have HDN := hd hdn
          clear hdg hdn
          go_wp2_with (go_at_call 53; refine (HDN.out _).mono ?_; rintro e w' ⟨rfl, rfl⟩)
          go_roundw
          case rel => exact ⟨k + 1, 10 * u + (d - 48), by omega, by go_num, by go_num, by rw [take_next HBK.out, dval_snoc, HU.out, HBD.out], (by
            rw [take_next HBK.out]
            intro x hx
            rcases List.mem_append.1 hx with hx | hx
            · exact HA.out x hx
            · obtain rfl : x = b := by simpa using hx
              exact HDG.out), hb⟩
          case measure => simp [intOf]; omega
      · obtain rfl : k = n := by omega
        have htk : r.take k = r := List.take_of_length_le (by rw [HLT.out]; exact Nat.le_refl _)
        rw [htk] at HU HA
        have hsm := num_val (l := l) (by rw [HUN.out]; exact HA.out) (by rw [HUN.out, HLT.out]; omega)
        rw [HUN.out, HU.out, HSG.out] at hsm
        have HV : Hid (sgn l (dval 0 (un l)) = - (u : Int)) := hd (by rw [HUN.out, HU.out, HSG.out])
        have HSM := hd hsm
        unfold Sm at hsm
        clear htk
        obtain ⟨v, hv⟩ : ∃ v, - (u : Int) = v := ⟨_, rfl⟩
        rw [hv] at hsm HV HSM
        have HV2 := hd hv
        have HW64 : Hid (wrap64 v = v) := hd (by unfold wrap64; omega)
        clear hv
        by_cases hq : Lib.itoa v = l
        · have HQ := hd hq
          have hqq : ((⟨(Lib.itoa v).toArray⟩ : ByteArray).toList == (mkS l).toList) = true := str_eq (by rw [hq]; rfl)
          clear hq
          obtain ⟨D, hD⟩ : ∃ D, (⟨(Lib.itoa v).toArray⟩ : ByteArray) = D := ⟨_, rfl⟩
          rw [hD] at hqq
          have HDD := hd hD
          clear hD
          go_wp2_with fail
          rw [HV2.out]; rw [HW64.out]
          refine (l01Dec_calls v _ (by omega) (by omega)).mono ?_
          rintro e w5 ⟨he, b5⟩
          rw [HDD.out] at he
          subst he
          go_wp2_with fail
          go_ret2
          exact ⟨⟨_, _, rfl, num_yes HSM.out HQ.out⟩, bnext hb b5 (Nat.le_refl _)⟩
        · have HQ := hd hq
          have hqq : ((⟨(Lib.itoa v).toArray⟩ : ByteArray).toList == (mkS l).toList) = false := str_ne (mkS_ne hq)
          clear hq
          obtain ⟨D, hD⟩ : ∃ D, (⟨(Lib.itoa v).toArray⟩ : ByteArray) = D := ⟨_, rfl⟩
          rw [hD] at hqq
          have HDD := hd hD
          clear hD
          go_wp2_with fail
          rw [HV2.out]; rw [HW64.out]
          refine (l01Dec_calls v _ (by omega) (by omega)).mono ?_
          rintro e w5 ⟨he, b5⟩
          rw [HDD.out] at he
          subst he
          go_wp2_with fail
          go_ret2
          exact ⟨⟨_, _, rfl, num_ne HV.out HQ.out⟩, bnext hb b5 (Nat.le_refl _)⟩
  · have hcq : ¬ c = 45 := fun e => h45 (by rw [e]; rfl)
    have hhd : ¬ l.head? = some 45 := by
      rw [HLE.out]
      intro e
      exact hcq (Option.some.inj e)
    have hun : un l = l := un_pos hhd
    have hsg : ∀ x : Nat, sgn l x = (x : Int) := fun x => by unfold sgn; rw [if_neg hhd]
    have HUN := hd hun
    have HSG := hd hsg
    have h46 : ¬ ((c.toNat : Int) = 45) := by omega
    obtain ⟨d0, hd0⟩ : ∃ d, c.toNat = d := ⟨_, rfl⟩
    rw [hd0] at hcc h46
    have h47 : ((d0 : Int) == 45) = false := by simp; omega
    clear hun h45 hsg hcq hhd hn hd0
    obtain ⟨n1, hn1⟩ : ∃ n1, n + 1 = n1 := ⟨_, rfl⟩
    rw [hn1] at hS hl
    have HLT := hd (HLL.out.trans hn1)
    have hT := hS
    have c0 : 1 ≤ n1 := by omega
    clear hn1 HLL
    obtain ⟨n, hnn⟩ : ∃ n, n1 = n := ⟨_, rfl⟩
    subst hnn
    by_cases c2 : 18 < n1
    · have FF := hd (num_len (l := l) (.inr (by rw [HUN.out, HLT.out]; exact c2)))
      have c3 : (18 : Int) < (n1 : Int) := by omega
      go_enter Tryd.func33, Tryd.ntmps33
      go_wp2_with fail
      go_ret2
      exact ⟨⟨_, _, rfl, FF.out⟩, Below.refl _ _⟩
    have c3 : (1 : Int) ≤ (n1 : Int) := by omega
    have c4 : (n1 : Int) ≤ 18 := by omega
    obtain ⟨n, hnn⟩ : ∃ n, n = n1 := ⟨_, rfl⟩
    subst hnn
    go_enter Tryd.func33, Tryd.ntmps33
    go_wp2_with fail
    go_loopw [5, 6] (fun s5 s6 wr => ∃ k u : Nat, k ≤ n ∧ s6 = .int .i64 k ∧ s5 = .int .i64 u ∧ dval 0 (l.take k) = u ∧ (∀ b ∈ l.take k, isDg b = true) ∧ Below w.heap.size w wr) (fun _ i _ => n - (intOf i).toNat)
    case atStart => exact ⟨0, 0, Nat.zero_le _, rfl, rfl, rfl, fun b hb => (by simp at hb), Below.refl _ _⟩
    case round =>
      obtain ⟨k, u, hk, rfl, rfl, hu, hall, hb⟩ := hrel
      have HU := hd hu
      have HA := hd hall
      clear hu hall
      by_cases hkm : k < n
      · have hkl : k < l.length := by rw [HLT.out]; exact hkm
        obtain ⟨b, hbk⟩ : ∃ b, l[k]? = some b := ⟨l[k], List.getElem?_eq_getElem hkl⟩
        have hks : k < (mkS l).size := by omega
        obtain ⟨d, hbd⟩ : ∃ d, b.toNat = d := ⟨_, rfl⟩
        have hcc : ((mkS l)[k]'hks).toNat = d := by
          rw [mkS_get hkl, ← hbd]
          congr 1
          have := List.getElem?_eq_getElem hkl
          rw [hbk] at this
          exact (Option.some.inj this).symm
        have HBK := hd hbk
        have HBD := hd hbd
        have j1 : (0 : Int) ≤ (k : Int) := by omega
        have j2 : (k : Int) < (n : Int) := by omega
        have hu17 : u < 100000000000000000 := by
          rw [← HU.out]
          exact dval_b HA.out (by rw [List.length_take]; omega)
        have hd255 : d ≤ 255 := by rw [← hbd]; have := b.toNat_lt; omega
        clear hbk hbd hkl
        cases hdg : isDg b
        · have HDG := hd hdg
          have hdn := fun w => hdg ▸ l01Digit_calls b d HBD.out w
          have HDN := hd hdn
          clear hdg hdn
          go_wp2_with (go_at_call 53; refine (HDN.out _).mono ?_; rintro e w' ⟨rfl, rfl⟩)
          go_ret2
          exact ⟨⟨_, _, rfl, num_dig (by rw [HUN.out]; exact HBK.out) HDG.out⟩, hb⟩
        · have HDG := hd hdg
          obtain ⟨d0, d1⟩ := isDg_iff.1 hdg
          rw [HBD.out] at d0 d1
          have hdn := fun w => hdg ▸ l01Digit_calls b d HBD.out w
          have HDN := hd hdn
          clear hdg hdn
          go_wp2_with (go_at_call 53; refine (HDN.out _).mono ?_; rintro e w' ⟨rfl, rfl⟩)
          go_roundw
          case rel => exact ⟨k + 1, 10 * u + (d - 48), by omega, by go_num, by go_num, by rw [take_next HBK.out, dval_snoc, HU.out, HBD.out], (by
            rw [take_next HBK.out]
            intro x hx
            rcases List.mem_append.1 hx with hx | hx
            · exact HA.out x hx
            · obtain rfl : x = b := by simpa using hx
              exact HDG.out), hb⟩
          case measure => simp [intOf]; omega
      · obtain rfl : k = n := by omega
        have htk : l.take k = l := List.take_of_length_le (by rw [HLT.out]; exact Nat.le_refl _)
        rw [htk] at HU HA
        have hsm := num_val (l := l) (by rw [HUN.out]; exact HA.out) (by rw [HUN.out, HLT.out]; omega)
        rw [HUN.out, HU.out, HSG.out] at hsm
        have HV : Hid (sgn l (dval 0 (un l)) =  (u : Int)) := hd (by rw [HUN.out, HU.out, HSG.out])
        have HSM := hd hsm
        unfold Sm at hsm
        clear htk
        obtain ⟨v, hv⟩ : ∃ v,  (u : Int) = v := ⟨_, rfl⟩
        rw [hv] at hsm HV HSM
        have HV2 := hd hv
        have HW64 : Hid (wrap64 v = v) := hd (by unfold wrap64; omega)
        clear hv
        by_cases hq : Lib.itoa v = l
        · have HQ := hd hq
          have hqq : ((⟨(Lib.itoa v).toArray⟩ : ByteArray).toList == (mkS l).toList) = true := str_eq (by rw [hq]; rfl)
          clear hq
          obtain ⟨D, hD⟩ : ∃ D, (⟨(Lib.itoa v).toArray⟩ : ByteArray) = D := ⟨_, rfl⟩
          rw [hD] at hqq
          have HDD := hd hD
          clear hD
          go_wp2_with fail
          rw [HV2.out]
          refine (l01Dec_calls v _ (by omega) (by omega)).mono ?_
          rintro e w5 ⟨he, b5⟩
          rw [HDD.out] at he
          subst he
          go_wp2_with fail
          go_ret2
          exact ⟨⟨_, _, rfl, num_yes HSM.out HQ.out⟩, bnext hb b5 (Nat.le_refl _)⟩
        · have HQ := hd hq
          have hqq : ((⟨(Lib.itoa v).toArray⟩ : ByteArray).toList == (mkS l).toList) = false := str_ne (mkS_ne hq)
          clear hq
          obtain ⟨D, hD⟩ : ∃ D, (⟨(Lib.itoa v).toArray⟩ : ByteArray) = D := ⟨_, rfl⟩
          rw [hD] at hqq
          have HDD := hd hD
          clear hD
          go_wp2_with fail
          rw [HV2.out]
          refine (l01Dec_calls v _ (by omega) (by omega)).mono ?_
          rintro e w5 ⟨he, b5⟩
          rw [HDD.out] at he
          subst he
          go_wp2_with fail
          go_ret2
          exact ⟨⟨_, _, rfl, num_ne HV.out HQ.out⟩, bnext hb b5 (Nat.le_refl _)⟩
end Go.Proofs.YtbbnjddgioaoeaaDoor
