/- Lists of names: the law's helpers. -/
import Derived.Test.YtomobdajnlfphaaLst3
import Derived.RegionTactic
import Derived.StillTail
import Derived.Deep.DeepCutAuto
import Derived.Test.YtomobdajnlfphaaBq
import Derived.Test.YtomobdajnlfphaaApp
namespace Go.Proofs.Ytomobdajnlfphaa
open Go.RowKit
set_option linter.unusedVariables false

theorem own_off4 {α : Type} {sz : Nat} {cs : α → List Value} {E : TypeId} {w : World} {L U : Nat} {A : Option Addr} {n c : Nat} {xs : List α} (h : Own sz cs E w L U A n c xs) {g : Nat} (hg : g < L) : Off A g := fun a ha e => by
  have := (h.row (g := a.block) (by rw [ha]; rfl)).1
  omega
theorem infoStr : (Try.prog.info? 9).map (fun i => (i.zero, i.size, i.bytes)) = some (some (.string ByteArray.empty), 1, 16) := by kernel_rfl
theorem infoSL : (Try.prog.info? 30).map (fun i => (i.zero, i.size, i.bytes)) = some (some (.slice none 0 0), 1, 24) := by kernel_rfl
theorem len_cSL (z : SL) : (cSL z).length = 1 := rfl
theorem hasnStr {cur : Array Value} {k n : Nat} {xs : List ByteArray} {f0 : ByteArray} (h : Has 1 cStr cur k xs) (hx : xs[k]? = some f0) (hs : cur.size = n * 1) (hk : k < n) :
    Has 1 cStr (cur.setIfInBounds (k) (.string f0)) (k + 1) xs := by
  intro i x hi hxi j v hv
  have hj : j < 1 := by have := lt_of_get hv; simpa [cStr] using this
  by_cases hik : i = k
  · subst hik
    rw [hx] at hxi
    obtain rfl := Option.some.inj hxi
    obtain rfl : j = 0 := by omega
    simp [cStr] at hv; subst hv
    simp only [Nat.add_zero, Nat.mul_one]
    rw [Array.getElem?_setIfInBounds_self_of_lt (by first | omega | (simp; omega))]
  · rw [Array.getElem?_setIfInBounds_ne (by omega)]
    exact h i x (by omega) hxi j v hv
theorem hasnSL {cur : Array Value} {k n : Nat} {zs : List SL} {z : SL} (h : Has 1 cSL cur k zs) (hl : zs.length = k) (hs : cur.size = n * 1) (hk : k < n) :
    Has 1 cSL (cur.setIfInBounds (k) (.slice z.1 z.2.1 z.2.2.1)) (k + 1) (zs ++ [z]) := by
  intro i x hi hxi j v hv
  have hj : j < 1 := by have := lt_of_get hv; simpa [cSL] using this
  by_cases hik : i = k
  · subst hik
    rw [List.getElem?_append_right (by omega), hl] at hxi
    simp at hxi
    subst hxi
    obtain rfl : j = 0 := by omega
    simp [cSL] at hv; subst hv
    simp only [Nat.add_zero, Nat.mul_one]
    rw [Array.getElem?_setIfInBounds_self_of_lt (by first | omega | (simp; omega))]
  · rw [Array.getElem?_setIfInBounds_ne (by omega)]
    rw [List.getElem?_append_left (by omega)] at hxi
    exact h i x (by omega) hxi j v hv
/-- What a size count answers. -/
def SzT (l : Int) (n : Nat) (xs : List ByteArray) (r : Int) : Prop := r = -1 ∨ (0 ≤ r ∧ r ≤ l ∧ (n : Int) ≤ l ∧ ∀ s ∈ xs, (s.size : Int) ≤ l)
set_option maxRecDepth 100000 in
theorem szStringS_calls (a : Option Addr) (n c : Nat) (xs : List ByteArray) (l : Int) (w : World) (hr : RdStr w a n xs) (hn : n ≤ maxLen) (ho : ∀ s ∈ xs, OkStr s) (h0 : 0 ≤ l) (h1 : l ≤ 1048576) :
    Calls Try.prog 9 #[.slice a n c, .int .i64 l] w fun e w' => ∃ r : Int, e = .returned (.int .i64 r) ∧ SzT l n xs r ∧ w = w' := by
  unfold maxLen at hn
  have HL := hd hr.len
  by_cases hlt0 : l < n
  · go_enter Try.func9, Try.ntmps9
    go_wp2_with fail
    go_ret
    exact ⟨_, rfl, .inl rfl, rfl⟩
  have HO := hd ho
  clear ho
  have hn1 : n ≤ 1048576 := by omega
  go_enter Try.func9, Try.ntmps9
  go_wp2_with fail
  go_loopw [1, 5] (fun r i wr => ∃ k : Nat, ∃ q : Int, k ≤ n ∧ i = .int .i64 k ∧ r = .int .i64 q ∧ (0 ≤ q ∧ q ≤ l) ∧ (∀ j s, j < k → xs[j]? = some s → (s.size : Int) ≤ l) ∧ w = wr) (fun _ i _ => n - (intOf i).toNat)
  case atStart => exact ⟨0, l - n, Nat.zero_le _, rfl, rfl, ⟨by omega, by omega⟩, fun j s hj => absurd hj (Nat.not_lt_zero _), rfl⟩
  case round =>
    obtain ⟨k, q, hk, rfl, rfl, ⟨q0, q1⟩, hall, rfl⟩ := hrel
    have HA := hd hall
    clear hall
    by_cases hlt : k < n
    · obtain ⟨b, o, s, rfl, hbl, hx, hc0⟩ := getStr hr hlt
      have HX := hd hx
      have hsz := HO.out s (List.mem_of_getElem? hx)
      unfold OkStr maxLen at hsz
      clear hx
      by_cases hq : q - (s.size : Int) < 0
      · go_wp2_with fail
        go_ret
        exact ⟨_, rfl, .inl rfl, rfl⟩
      · go_wp2_with fail
        go_roundw
        case rel =>
          refine ⟨k + 1, q - (s.size : Int), by omega, by go_num, rfl, ⟨by omega, by omega⟩, fun j t hj ht => ?_, by first | trivial | rfl⟩
          rcases Nat.lt_or_eq_of_le (Nat.le_of_lt_succ hj) with h | rfl
          · exact HA.out j t h ht
          · rw [HX.out] at ht
            obtain rfl := Option.some.inj ht
            omega
        case measure => simp [intOf]; omega
    · obtain rfl : k = n := by omega
      go_wp2_with fail
      go_ret
      refine ⟨_, rfl, .inr ⟨q0, q1, by omega, fun s hs => ?_⟩, rfl⟩
      obtain ⟨j, hj⟩ := List.getElem?_of_mem hs
      exact HA.out j s (by have := lt_of_get hj; have := HL.out; omega) hj
set_option maxRecDepth 100000 in
theorem szStringSS_calls (a : Option Addr) (n c : Nat) (zs : List SL) (w : World) (hr : RdSL w a n zs) (hn : n ≤ maxLen) (ho : ∀ z ∈ zs, OkSL w z) :
    Calls Try.prog 4 #[.slice a n c, .int .i64 1048576] w fun e w' => ∃ r : Int, e = .returned (.int .i64 r) ∧ (r = -1 ∨ (0 ≤ r ∧ n ≤ 1048576 ∧ SzL zs)) ∧ w = w' := by
  unfold maxLen at hn
  have HL := hd hr.len
  by_cases hlt0 : (1048576 : Int) < n
  · go_enter Try.func4, Try.ntmps4
    go_wp2_with fail
    go_ret
    exact ⟨_, rfl, .inl rfl, rfl⟩
  have HO := hd ho
  clear ho
  have hn1 : n ≤ 1048576 := by omega
  go_enter Try.func4, Try.ntmps4
  go_wp2_with fail
  go_loopw [1, 5] (fun r i wr => ∃ k : Nat, ∃ q : Int, k ≤ n ∧ i = .int .i64 k ∧ r = .int .i64 q ∧ (0 ≤ q ∧ q ≤ 1048576) ∧ (∀ j z, j < k → zs[j]? = some z → z.2.1 ≤ 1048576 ∧ SzS z.2.2.2) ∧ w = wr) (fun _ i _ => n - (intOf i).toNat)
  case atStart => exact ⟨0, 1048576 - n, Nat.zero_le _, rfl, rfl, ⟨by omega, by omega⟩, fun j s hj => absurd hj (Nat.not_lt_zero _), rfl⟩
  case round =>
    obtain ⟨k, q, hk, rfl, rfl, ⟨q0, q1⟩, hall, rfl⟩ := hrel
    have HA := hd hall
    clear hall
    by_cases hlt : k < n
    · obtain ⟨b, o, z, rfl, hbl, hx, hc0⟩ := getSL hr hlt
      have HX := hd hx
      have HZ := hd (HO.out z (List.mem_of_getElem? hx))
      clear hx
      go_wp2_with fail
      refine (szStringS_calls z.1 z.2.1 z.2.2.1 z.2.2.2 q _ HZ.out.1 (Nat.le_trans HZ.out.2.1 HZ.out.2.2.1) HZ.out.2.2.2 q0 q1).mono ?_
      rintro e w1 ⟨r, rfl, hsz, rfl⟩
      rcases hsz with rfl | ⟨r0, r1, hzn, hall⟩
      · go_wp2_with fail
        go_ret
        exact ⟨_, rfl, .inl rfl, rfl⟩
      · have hr0 : ¬ r < 0 := by omega
        have HZN : Hid (z.2.1 ≤ 1048576 ∧ SzS z.2.2.2) := hd ⟨by omega, fun s hs => by have := hall s hs; omega⟩
        clear hall hzn
        go_wp2_with fail
        go_roundw
        case rel =>
          refine ⟨k + 1, r, by omega, by go_num, rfl, ⟨by omega, by omega⟩, fun j t hj ht => ?_, by first | trivial | rfl⟩
          rcases Nat.lt_or_eq_of_le (Nat.le_of_lt_succ hj) with h | rfl
          · exact HA.out j t h ht
          · rw [HX.out] at ht
            obtain rfl := Option.some.inj ht
            exact HZN.out
        case measure => simp [intOf]; omega
    · obtain rfl : k = n := by omega
      go_wp2_with fail
      go_ret
      refine ⟨_, rfl, .inr ⟨q0, by omega, fun s hs => ?_⟩, rfl⟩
      obtain ⟨j, hj⟩ := List.getElem?_of_mem hs
      exact HA.out j s (by have := lt_of_get hj; have := HL.out; omega) hj
set_option maxRecDepth 100000 in
theorem toStringS_calls (a : Option Addr) (n c : Nat) (xs : List ByteArray) (w : World) (ha : RdStr w a n xs) (hn : n ≤ 1048576) :
    Calls Try.prog 12 #[.slice a n c] w fun e w' => ∃ A, e = .returned (.slice A n n) ∧ Own 1 cStr 9 w' w.heap.size w'.heap.size A n n xs ∧ Below w.heap.size w w' := by
  have Hla := hd ha.len
  obtain ⟨i0, hi, hz0, hz1, hz2⟩ := info_parts infoStr
  go_enter Try.func12, Try.ntmps12
  go_wp2_with (at_make; refine wpList_make_full _ rfl _ _ 30 rfl w.heap.size 9 i0 _ 1 Try.underlying30 hi hz0 hz1 _ _ _ _ n rfl rfl rfl rfl (by rw [hz2]; omega) (by unfold maxLen; omega) (Nat.le_refl _) ?_)
  intro w1 hown hgrow
  obtain ⟨cur0, hB0, hg0, hs0, _, _, _⟩ := own_head hown
  have hb1 : Below w.heap.size w w1 := (Below.refl _ _).grown hgrow (Nat.le_refl _) (by simp)
  have hlt1 := blk_lt hg0
  generalize hG : w.heap.size = g at hg0 hlt1 ⊢
  have HG := hd hG
  clear hG hown hgrow hB0
  go_wp2_with fail
  go_loopw [4] (fun i wr => ∃ k : Nat, k ≤ n ∧ i = .int .i64 k ∧ ∃ cur, wr.heap[g]? = some (.cells cur 9 (0, 0)) ∧ cur.size = n * 1 ∧ Has 1 cStr cur k xs ∧ Below w.heap.size w wr) (fun i _ => n - (intOf i).toNat)
  case atStart => exact ⟨0, Nat.zero_le _, rfl, cur0, hg0, hs0, Has.zero _ _, hb1⟩
  case round =>
    obtain ⟨k, hk, rfl, cur, hg, hs, hhas, hbl⟩ := hrel
    have Hg := hd hg
    have Hs := hd hs
    have Hh := hd hhas
    have hgl := blk_lt hg
    clear hg hs hhas hg0 hs0
    by_cases hlt : k < n
    · obtain ⟨b, o, f0, rfl, hbl', hx, hc0⟩ := getStr (ha.below hbl) hlt
      have Hx := hd hx
      clear hx
      have Hg2 := Hg
      have hbl2 := hbl
      obtain ⟨v0, hv0⟩ := get_of_lt (cur := cur) (i := k) (by rw [Hs.out]; omega)
      have d0 := (blk_cell Hg2.out (k)).trans hv0
      have z0 := blk_free Hg2.out (k)
      clear hv0
      go_wp2_with fail
      go_roundw
      case rel => exact ⟨k + 1, by omega, by go_num, _, (blk_set Hg2.out _ _), by simp [Hs.out], hasnStr Hh.out Hx.out Hs.out hlt, (hbl2.setCell (by simp [HG.out]) _)⟩
      case measure => simp [intOf]; omega
    · go_wp2_with fail
      go_ret
      obtain rfl : k = n := by omega
      exact ⟨_, rfl, ⟨Hla.out, own_of_has len_cStr (by rw [HG.out]; exact Nat.le_refl _) Hg.out Hs.out (Nat.le_refl _) (by unfold maxLen; omega) Hla.out Hh.out, fun a ha => by obtain rfl := Option.some.inj ha; exact hgl⟩, hbl⟩
set_option maxRecDepth 100000 in
set_option maxHeartbeats 1000000 in
theorem toStringSS_calls (a : Option Addr) (n c : Nat) (zs : List SL) (xss : List (List ByteArray)) (w : World) (ha : RdSL w a n zs) (hn : n ≤ 1048576) (hI : InS w zs xss) (hS : SzL zs) :
    Calls Try.prog 6 #[.slice a n c] w fun e w' => ∃ A zs', e = .returned (.slice A n n) ∧ RdSL w' A n zs' ∧ InS w' zs' xss ∧ SzL zs' ∧ Below w.heap.size w w' := by
  have Hla := hd ha.len
  have HI := hd hI
  have HS := hd hS
  obtain ⟨i0, hi, hz0, hz1, hz2⟩ := info_parts infoSL
  clear hI hS
  go_enter Try.func6, Try.ntmps6
  go_wp2_with (at_make; refine wpList_make_full _ rfl _ _ 22 rfl w.heap.size 30 i0 _ 1 Try.underlying22 hi hz0 hz1 _ _ _ _ n rfl rfl rfl rfl (by rw [hz2]; omega) (by unfold maxLen; omega) (Nat.le_refl _) ?_)
  intro w1 hown hgrow
  obtain ⟨cur0, hB0, hg0, hs0, _, _, _⟩ := own_head hown
  have hb1 : Below w.heap.size w w1 := (Below.refl _ _).grown hgrow (Nat.le_refl _) (by simp)
  have hlt1 := blk_lt hg0
  generalize hG : w.heap.size = g at hg0 hlt1 ⊢
  have HG := hd hG
  clear hG hown hgrow hB0
  go_wp2_with fail
  go_loopw [4] (fun i wr => ∃ k : Nat, ∃ ys : List SL, k ≤ n ∧ i = .int .i64 k ∧ ys.length = k ∧ ys.map (fun z => z.2.2.2) = xss.take k ∧ (∀ z ∈ ys, Own 1 cStr 9 wr (g + 1) wr.heap.size z.1 z.2.1 z.2.2.1 z.2.2.2) ∧ SzL ys ∧ ∃ cur, wr.heap[g]? = some (.cells cur 30 (0, 0)) ∧ cur.size = n * 1 ∧ Has 1 cSL cur k ys ∧ Below w.heap.size w wr) (fun i _ => n - (intOf i).toNat)
  case atStart =>
    have n1 : ∀ z ∈ ([] : List SL), Own 1 cStr 9 w1 (g + 1) w1.heap.size z.1 z.2.1 z.2.2.1 z.2.2.2 := fun z hz => absurd hz List.not_mem_nil
    have n2 : SzL ([] : List SL) := fun z hz => absurd hz List.not_mem_nil
    refine ⟨0, [], Nat.zero_le _, rfl, ?_⟩
    first
      | exact ⟨rfl, rfl, n1, n2, cur0, hg0, hs0, Has.zero _ _, hb1⟩
      | exact ⟨rfl, n1, n2, cur0, hg0, hs0, Has.zero _ _, hb1⟩
      | exact ⟨n1, n2, cur0, hg0, hs0, Has.zero _ _, hb1⟩
  case round =>
    obtain ⟨k, ys, hk, rfl, hyl, hym, hyo, hys, cur, hg, hs, hhas, hbl⟩ := hrel
    have HYL := hd hyl
    have HYM := hd hym
    have HYO := hd hyo
    have HYS := hd hys
    have Hg := hd hg
    have Hs := hd hs
    have Hh := hd hhas
    have hgl := blk_lt hg
    clear hg hs hhas hg0 hs0 hyl hym hyo hys
    by_cases hlt : k < n
    · obtain ⟨b, o, ⟨az, nz, cz, tz⟩, rfl, hbl', hx, hc0⟩ := getSL (ha.below hbl) hlt
      simp only [] at hc0
      have HX := hd (HI.out.at_ hx).1
      have rz := (HI.out.at_ hx).2
      have hz := HS.out _ (List.mem_of_getElem? hx)
      simp only [] at hz HX rz
      have HZ := hd hz
      clear hx hz
      go_wp2_with fail
      refine (toStringS_calls az nz cz tz _ (rz.below hbl) HZ.out.1).mono ?_
      rintro e w5 ⟨A, rfl, ho, b5⟩
      have hb5 := bnext hbl b5 (Nat.le_refl _)
      have G5 := hd (blk_below Hg.out b5 hgl)
      have HYO5 : Hid (∀ z ∈ ys ++ [(A, nz, nz, tz)], Own 1 cStr 9 w5 (g + 1) w5.heap.size z.1 z.2.1 z.2.2.1 z.2.2.2) := hd (fun z hz => by
        rcases List.mem_append.1 hz with h | h
        · exact ((HYO.out z h).below b5).mono (Nat.le_refl _) b5.size
        · obtain rfl := List.mem_singleton.1 h
          exact ho.mono (by omega) (Nat.le_refl _))
      have hgl5 : g < w5.heap.size := Nat.lt_of_lt_of_le hgl b5.size
      obtain ⟨v0, hv0⟩ := get_of_lt (cur := cur) (i := k) (by rw [Hs.out]; omega)
      have d0 := (blk_cell G5.out (k)).trans hv0
      have z0 := blk_free G5.out (k)
      clear hv0 hc0 ho b5 HYO Hg
      go_wp2_with fail
      go_roundw
      case rel =>
        refine ⟨k + 1, ys ++ [(A, nz, nz, tz)], by omega, by go_num, by simp [HYL.out], ?_, fun z hz => ?_, fun z hz => ?_, _, (blk_set G5.out _ _), by simp [Hs.out], hasnSL Hh.out HYL.out Hs.out hlt, (hb5.setCell (by simp [HG.out]) _)⟩
        · rw [List.map_append, HYM.out, List.take_add_one, HX.out]; rfl
        · have h := (HYO5.out z hz).far (only_set (only_refl w5 (some g)) k (.slice A nz nz)) (own_off4 (HYO5.out z hz) (by omega))
          exact h.mono (Nat.le_refl _) (by simp)
        · rcases List.mem_append.1 hz with h | h
          · exact HYS.out z h
          · obtain rfl := List.mem_singleton.1 h
            exact HZ.out
      case measure => simp [intOf]; omega
    · go_wp2_with fail
      go_ret
      obtain rfl : k = n := by omega
      have ow : Own 1 cSL 30 _ g _ (some ⟨g, 0, none⟩) k k ys := ⟨HYL.out, own_of_has len_cSL (Nat.le_refl _) Hg.out Hs.out (Nat.le_refl _) (by unfold maxLen; omega) HYL.out Hh.out, fun a ha => by obtain rfl := Option.some.inj ha; exact hgl⟩
      refine ⟨_, ys, rfl, ow.rd len_cSL, ⟨?_, fun z hz => (HYO.out z hz).rd len_cStr⟩, HYS.out, hbl⟩
      have e := HYM.out
      rwa [List.take_of_length_le (by rw [← HI.out.1, List.length_map, Hla.out]; exact Nat.le_refl _)] at e
set_option maxRecDepth 100000 in
theorem eqStringS_calls (a b : Option Addr) (n c d : Nat) (xs : List ByteArray) (w : World) (ha : RdStr w a n xs) (hb : RdStr w b n xs) (hn : n ≤ 1048576) :
    Calls Try.prog 16 #[.slice a n c, .slice b n d] w fun e w' => e = .returned (.bool true) ∧ Below w.heap.size w w' := by
  go_enter Try.func16, Try.ntmps16
  go_wp2_with fail
  go_loopw [5] (fun i wr => ∃ k : Nat, k ≤ n ∧ i = .int .i64 k ∧ Below w.heap.size w wr) (fun i _ => n - (intOf i).toNat)
  case atStart => exact ⟨0, Nat.zero_le _, rfl, Below.refl _ _⟩
  case round =>
    obtain ⟨k, hk, rfl, hbl⟩ := hrel
    by_cases hlt : k < n
    · obtain ⟨q, o, f0, rfl, hgl, hx, hc0⟩ := getStr (ha.below hbl) hlt
      obtain ⟨q', o', g0, rfl, hgl', hy, hd0⟩ := getStr (hb.below hbl) hlt
      obtain rfl : f0 = g0 := Option.some.inj (hx.symm.trans hy)
      clear hx hy
      have hq : (f0.toList == f0.toList) = true := by simp
      go_wp2_with fail
      go_still_tail 8, (by kernel_rfl)
      change wpList _ _ _ _ _ wr.drew
      have hb2 : Below w.heap.size w wr.drew := hbl.drew
      generalize wr.drew = w2 at hb2 ⊢
      clear hc0 hd0
      go_wp2_with fail
      go_roundw
      case rel => exact ⟨k + 1, by omega, by go_num, hb2⟩
      case measure => simp [intOf]; omega
    · go_wp2_with fail
      go_ret
      exact ⟨rfl, hbl⟩
set_option maxRecDepth 100000 in
theorem eqStringSS_calls (a b : Option Addr) (n c d : Nat) (zs ys : List SL) (xss : List (List ByteArray)) (w : World) (ha : RdSL w a n zs) (hb : RdSL w b n ys) (hn : n ≤ 1048576) (hi : InS w zs xss) (hj : InS w ys xss) (hs : SzL zs) :
    Calls Try.prog 8 #[.slice a n c, .slice b n d] w fun e w' => e = .returned (.bool true) ∧ Below w.heap.size w w' := by
  have HI := hd hi
  have HJ := hd hj
  have HS := hd hs
  clear hi hj hs
  go_enter Try.func8, Try.ntmps8
  go_wp2_with fail
  go_loopw [5] (fun i wr => ∃ k : Nat, k ≤ n ∧ i = .int .i64 k ∧ Below w.heap.size w wr) (fun i _ => n - (intOf i).toNat)
  case atStart => exact ⟨0, Nat.zero_le _, rfl, Below.refl _ _⟩
  case round =>
    obtain ⟨k, hk, rfl, hbl⟩ := hrel
    by_cases hlt : k < n
    · obtain ⟨q, o, ⟨a0, n0, c0, t0⟩, rfl, hgl, hx, hc0⟩ := getSL (ha.below hbl) hlt
      obtain ⟨q', o', ⟨a1, n1, c1, t1⟩, rfl, hgl', hy, hd0⟩ := getSL (hb.below hbl) hlt
      simp only [] at hc0 hd0
      have r0 := (HI.out.at_ hx).2
      have r1 := (HJ.out.at_ hy).2
      have e0 := (HI.out.at_ hx).1
      have e1 := (HJ.out.at_ hy).1
      simp only [] at r0 r1 e0 e1
      obtain rfl : t0 = t1 := Option.some.inj (e0.symm.trans e1)
      obtain rfl : n0 = n1 := by rw [← r0.len, ← r1.len]
      have hz := (HS.out _ (List.mem_of_getElem? hx)).1
      simp only [] at hz
      have R0 := hd (r0.below hbl)
      have R1 := hd (r1.below hbl)
      clear hx hy e0 e1 r0 r1
      have c0' := blw_cell hc0
      have c1' := blw_cell hd0
      have i1 : (0 : Int) ≤ (k : Int) := by omega
      have i2 : (k : Int) < (n : Int) := by omega
      go_upto_region 6 with fail
      refine wp_region_blw (by kernel_rfl) (by kernel_rfl) ?_
      repeat (go_big_quiet_step ((go_at_call 16; with_reducible exact blw_of (eqStringS_calls _ _ _ _ _ t0 _ (R0.out.below (Blw.out _)) (R1.out.below (Blw.out _)) hz))))
      refine wpQuiet_nil ?_
      rintro _ ⟨D, rfl⟩
      have hb2 := bnext hbl D.out (Nat.le_refl _)
      clear c0' c1' hc0 hd0 R0 R1
      go_wp2_with fail
      go_roundw
      case rel => exact ⟨k + 1, by omega, by go_num, hb2⟩
      case measure => simp [intOf]; omega
    · go_wp2_with fail
      go_ret
      exact ⟨rfl, hbl⟩
end Go.Proofs.Ytomobdajnlfphaa
