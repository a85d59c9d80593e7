/- Water: how it lies in memory, and the laws' helpers on it. -/
import Derived.Test.YtieomdjcnaaopaaBasic
import Derived.Test.YtieomdjcnaaopaaOpen
namespace Go.Proofs.Ytieomdjcnaaopaa
open Go.ChangeShapes Go.WideShapes Go.RowKit
set_option linter.unusedVariables false

def cWater (x : Int × Int × Int × Int × Int) : List Value := [.int .i64 x.1, .int .i64 x.2.1, .int .i64 x.2.2.1, .int .i64 x.2.2.2.1, .int .i64 x.2.2.2.2]
abbrev RdWater := Rd 5 cWater
theorem len_cWater (x : Int × Int × Int × Int × Int) : (cWater x).length = 5 := rfl
theorem getWater {w : World} {a : Option Addr} {n : Nat} {xs : List (Int × Int × Int × Int × Int)} (h : RdWater w a n xs) {k : Nat} (hk : k < n) :
    ∃ (b o : Nat) (f0 : Int) (f1 : Int) (f2 : Int) (f3 : Int) (f4 : Int), a = some ⟨b, o, none⟩ ∧ b < w.heap.size ∧ xs[k]? = some (f0, f1, f2, f3, f4) ∧ w.cell? ⟨b, o + k * 5, none⟩ = some (.int .i64 f0) ∧ w.cell? ⟨b, o + k * 5 + 1, none⟩ = some (.int .i64 f1) ∧ w.cell? ⟨b, o + k * 5 + 2, none⟩ = some (.int .i64 f2) ∧ w.cell? ⟨b, o + k * 5 + 3, none⟩ = some (.int .i64 f3) ∧ w.cell? ⟨b, o + k * 5 + 4, none⟩ = some (.int .i64 f4) := by
  obtain ⟨b, o, e, hc⟩ := h.2 (by omega)
  have hl : k < xs.length := by have := h.1; omega
  have hx := List.getElem?_eq_getElem hl
  have h0 := hc k _ hx 0 (.int .i64 xs[k].1) rfl
  have h1 := hc k _ hx 1 (.int .i64 xs[k].2.1) rfl
  have h2 := hc k _ hx 2 (.int .i64 xs[k].2.2.1) rfl
  have h3 := hc k _ hx 3 (.int .i64 xs[k].2.2.2.1) rfl
  have h4 := hc k _ hx 4 (.int .i64 xs[k].2.2.2.2) rfl
  simp only [Nat.add_zero] at h0
  rw [← Nat.add_assoc] at h1
  rw [← Nat.add_assoc] at h2
  rw [← Nat.add_assoc] at h3
  rw [← Nat.add_assoc] at h4
  exact ⟨b, o, xs[k].1, xs[k].2.1, xs[k].2.2.1, xs[k].2.2.2.1, xs[k].2.2.2.2, e, World.block_lt_of_cell? w _ h0, hx, h0, h1, h2, h3, h4⟩
theorem hasnWater {cur : Array Value} {k n : Nat} {xs : List (Int × Int × Int × Int × Int)} {f0 : Int} {f1 : Int} {f2 : Int} {f3 : Int} {f4 : Int} (h : Has 5 cWater cur k xs) (hx : xs[k]? = some (f0, f1, f2, f3, f4)) (hs : cur.size = n * 5) (hk : k < n) :
    Has 5 cWater (((((cur.setIfInBounds (k * 5) (.int .i64 f0)).setIfInBounds (k * 5 + 1) (.int .i64 f1)).setIfInBounds (k * 5 + 2) (.int .i64 f2)).setIfInBounds (k * 5 + 3) (.int .i64 f3)).setIfInBounds (k * 5 + 4) (.int .i64 f4)) (k + 1) xs := by
  intro i x hi hxi j v hv
  have hj : j < 5 := by have := lt_of_get hv; simpa [cWater] using this
  by_cases hik : i = k
  · subst hik
    rw [hx] at hxi
    obtain rfl := Option.some.inj hxi
    rcases (show j = 0 ∨ j = 1 ∨ j = 2 ∨ j = 3 ∨ j = 4 from by omega) with rfl | rfl | rfl | rfl | rfl
    · simp [cWater] at hv; subst hv
      simp only [Nat.add_zero]
      rw [Array.getElem?_setIfInBounds_ne (by omega), Array.getElem?_setIfInBounds_ne (by omega), Array.getElem?_setIfInBounds_ne (by omega), Array.getElem?_setIfInBounds_ne (by omega), Array.getElem?_setIfInBounds_self_of_lt (by first | omega | (simp; omega))]
    · simp [cWater] at hv; subst hv
      rw [Array.getElem?_setIfInBounds_ne (by omega), Array.getElem?_setIfInBounds_ne (by omega), Array.getElem?_setIfInBounds_ne (by omega), Array.getElem?_setIfInBounds_self_of_lt (by first | omega | (simp; omega))]
    · simp [cWater] at hv; subst hv
      rw [Array.getElem?_setIfInBounds_ne (by omega), Array.getElem?_setIfInBounds_ne (by omega), Array.getElem?_setIfInBounds_self_of_lt (by first | omega | (simp; omega))]
    · simp [cWater] at hv; subst hv
      rw [Array.getElem?_setIfInBounds_ne (by omega), Array.getElem?_setIfInBounds_self_of_lt (by first | omega | (simp; omega))]
    · simp [cWater] at hv; subst hv
      rw [Array.getElem?_setIfInBounds_self_of_lt (by first | omega | (simp; omega))]
  · rw [Array.getElem?_setIfInBounds_ne (by omega), Array.getElem?_setIfInBounds_ne (by omega), Array.getElem?_setIfInBounds_ne (by omega), Array.getElem?_setIfInBounds_ne (by omega), Array.getElem?_setIfInBounds_ne (by omega)]
    exact h i x (by omega) hxi j v hv
theorem infoWater : (Try.prog.info? 107).map (fun i => (i.zero, i.size, i.bytes)) = some (some (.agg #[.int .i64 0, .int .i64 0, .int .i64 0, .int .i64 0, .int .i64 0]), 5, 40) := by kernel_rfl
def OkWater (x : Int × Int × Int × Int × Int) : Prop := (Lit.int .i64 x.1).wf = true ∧ (Lit.int .i64 x.2.1).wf = true ∧ (Lit.int .i64 x.2.2.1).wf = true ∧ (Lit.int .i64 x.2.2.2.1).wf = true ∧ (Lit.int .i64 x.2.2.2.2).wf = true
theorem el_Water {H : Type} {enc : TypeId × Value → H} {w : World} {base : Nat} {spare : Nat → Bool} {held : Bool} :
    ∀ (n : Nat) (cs' : List Value) (y : DataW H × List MemPlace), DataW.trod enc Try.prog w base spare held n 109 cs' = some y → ∃ z, cWater z = cs' ∧ OkWater z := by
  intro n cs' y h
  obtain ⟨hl, hf⟩ := struct_cells Try.underlying109 (by kernel_rfl) (by kernel_rfl) h
  obtain ⟨u0, u1, u2, u3, u4, rfl⟩ := len5 hl
  obtain ⟨_, _, t0⟩ := hf 0 _ rfl
  obtain ⟨f0, rfl, w0⟩ := trod_int_cell Try.underlying2 t0
  obtain ⟨_, _, t1⟩ := hf 1 _ rfl
  obtain ⟨f1, rfl, w1⟩ := trod_int_cell Try.underlying2 t1
  obtain ⟨_, _, t2⟩ := hf 2 _ rfl
  obtain ⟨f2, rfl, w2⟩ := trod_int_cell Try.underlying2 t2
  obtain ⟨_, _, t3⟩ := hf 3 _ rfl
  obtain ⟨f3, rfl, w3⟩ := trod_int_cell Try.underlying2 t3
  obtain ⟨_, _, t4⟩ := hf 4 _ rfl
  obtain ⟨f4, rfl, w4⟩ := trod_int_cell Try.underlying2 t4
  exact ⟨(f0, f1, f2, f3, f4), rfl, w0, w1, w2, w3, w4⟩
theorem toWater_calls (f0 : Int) (f1 : Int) (f2 : Int) (f3 : Int) (f4 : Int) (w : World) :
    Calls Try.prog 95 #[.agg #[.int .i64 f0, .int .i64 f1, .int .i64 f2, .int .i64 f3, .int .i64 f4]] w fun e w' => e = .returned (.agg #[.int .i64 f0, .int .i64 f1, .int .i64 f2, .int .i64 f3, .int .i64 f4]) ∧ Below w.heap.size w w' := by
  go_enter Try.func95, Try.ntmps95
  go_wp2
  go_returns
  exact ⟨rfl, by go_grown⟩
theorem eqWater_calls (f0 : Int) (f1 : Int) (f2 : Int) (f3 : Int) (f4 : Int) (g0 : Int) (g1 : Int) (g2 : Int) (g3 : Int) (g4 : Int) (w : World) :
    Calls Try.prog 103 #[.agg #[.int .i64 f0, .int .i64 f1, .int .i64 f2, .int .i64 f3, .int .i64 f4], .agg #[.int .i64 g0, .int .i64 g1, .int .i64 g2, .int .i64 g3, .int .i64 g4]] w fun e w' => e = .returned (.bool ((f0, f1, f2, f3, f4) == (g0, g1, g2, g3, g4))) ∧ Below w.heap.size w w' := by
  go_enter Try.func103, Try.ntmps103
  go_wp2
  all_goals (go_ret; exact ⟨ret_bool (by simp_all), by go_grown⟩)
theorem szWaterS_calls (a : Option Addr) (n c : Nat) (l : Int) (w : World) (hn : n ≤ 9223372036854775807) (hl : 0 ≤ l) (hl' : l ≤ 1048576) :
    Calls Try.prog 38 #[.slice a n c, .int .i64 l] w fun e w' => ∃ r : Int, e = .returned (.int .i64 r) ∧ SzR l n r ∧ w = w' := by
  by_cases h : l < n
  · go_enter Try.func38, Try.ntmps38
    go_wp2
    go_ret
    exact ⟨_, rfl, .inl ⟨h, rfl⟩, rfl⟩
  · go_enter Try.func38, Try.ntmps38
    go_wp2
    go_ret
    exact ⟨_, rfl, .inr ⟨by omega, rfl⟩, rfl⟩
theorem toWaterS_calls (a : Option Addr) (n c : Nat) (xs : List (Int × Int × Int × Int × Int)) (w : World) (ha : RdWater w a n xs) (hn : n ≤ 1048576) :
    Calls Try.prog 40 #[.slice a n c] w fun e w' => ∃ A, e = .returned (.slice A n n) ∧ Own 5 cWater 107 w' w.heap.size w'.heap.size A n n xs ∧ Below w.heap.size w w' := by
  have Hla := hd ha.len
  obtain ⟨i0, hi, hz0, hz1, hz2⟩ := info_parts infoWater
  go_enter Try.func40, Try.ntmps40
  go_wp2_with (at_make; refine wpList_make_full _ rfl _ _ 57 rfl w.heap.size 107 i0 _ 5 Try.underlying57 hi hz0 hz1 _ _ _ _ n rfl rfl rfl rfl (by rw [hz2]; omega) (by unfold maxLen; omega) (Nat.le_refl _) ?_)
  intro w1 hown hgrow
  obtain ⟨cur0, hB0, hg0, hs0, _, _, _⟩ := own_head hown
  have hb1 : Below w.heap.size w w1 := (Below.refl _ _).grown hgrow (Nat.le_refl _) (by simp)
  have hlt1 := blk_lt hg0
  generalize hG : w.heap.size = g at hg0 hlt1 ⊢
  have HG := hd hG
  clear hG hown hgrow hB0
  go_wp2_with fail
  go_loopw [4] (fun i wr => ∃ k : Nat, k ≤ n ∧ i = .int .i64 k ∧ ∃ cur, wr.heap[g]? = some (.cells cur 107 (0, 0)) ∧ cur.size = n * 5 ∧ Has 5 cWater cur k xs ∧ Below w.heap.size w wr) (fun i _ => n - (intOf i).toNat)
  case atStart => exact ⟨0, Nat.zero_le _, rfl, cur0, hg0, hs0, Has.zero _ _, hb1⟩
  case round =>
    obtain ⟨k, hk, rfl, cur, hg, hs, hhas, hbl⟩ := hrel
    have Hg := hd hg
    have Hs := hd hs
    have Hh := hd hhas
    have hgl := blk_lt hg
    clear hg hs hhas hg0 hs0
    by_cases hlt : k < n
    · obtain ⟨b, o, f0, f1, f2, f3, f4, rfl, hbl', hx, hc0, hc1, hc2, hc3, hc4⟩ := getWater (ha.below hbl) hlt
      have Hx := hd hx
      clear hx
      go_wp2_with fail
      refine (toWater_calls _ _ _ _ _ _).mono ?_
      rintro e w2 ⟨rfl, b2⟩
      have Hg2 := hd (blk_below Hg.out b2 hgl)
      have hbl2 := bnext hbl b2 (Nat.le_refl _)
      obtain ⟨v0, hv0⟩ := get_of_lt (cur := cur) (i := k * 5) (by rw [Hs.out]; omega)
      obtain ⟨v1, hv1⟩ := get_of_lt (cur := cur) (i := k * 5 + 1) (by rw [Hs.out]; omega)
      obtain ⟨v2, hv2⟩ := get_of_lt (cur := cur) (i := k * 5 + 2) (by rw [Hs.out]; omega)
      obtain ⟨v3, hv3⟩ := get_of_lt (cur := cur) (i := k * 5 + 3) (by rw [Hs.out]; omega)
      obtain ⟨v4, hv4⟩ := get_of_lt (cur := cur) (i := k * 5 + 4) (by rw [Hs.out]; omega)
      have d0 := (blk_cell Hg2.out (k * 5)).trans hv0
      have d1 := (blk_cell Hg2.out (k * 5 + 1)).trans hv1
      have d2 := (blk_cell Hg2.out (k * 5 + 2)).trans hv2
      have d3 := (blk_cell Hg2.out (k * 5 + 3)).trans hv3
      have d4 := (blk_cell Hg2.out (k * 5 + 4)).trans hv4
      have z0 := blk_free Hg2.out (k * 5)
      have z1 := blk_free Hg2.out (k * 5 + 1)
      have z2 := blk_free Hg2.out (k * 5 + 2)
      have z3 := blk_free Hg2.out (k * 5 + 3)
      have z4 := blk_free Hg2.out (k * 5 + 4)
      clear hv0 hv1 hv2 hv3 hv4 hc0 hc1 hc2 hc3 hc4
      go_wp2_with fail
      go_roundw
      case rel => exact ⟨k + 1, by omega, by go_num, _, (blk_set (blk_set (blk_set (blk_set (blk_set Hg2.out _ _) _ _) _ _) _ _) _ _), by simp [Hs.out], hasnWater Hh.out Hx.out Hs.out hlt, (((((hbl2.setCell (by simp [HG.out]) _).setCell (by simp [HG.out]) _).setCell (by simp [HG.out]) _).setCell (by simp [HG.out]) _).setCell (by simp [HG.out]) _)⟩
      case measure => simp [intOf]; omega
    · go_wp2_with fail
      go_ret
      obtain rfl : k = n := by omega
      exact ⟨_, rfl, ⟨Hla.out, own_of_has len_cWater (by rw [HG.out]; exact Nat.le_refl _) Hg.out Hs.out (Nat.le_refl _) (by unfold maxLen; omega) Hla.out Hh.out, fun a ha => by obtain rfl := Option.some.inj ha; exact hgl⟩, hbl⟩
set_option maxRecDepth 100000 in
theorem eqWaterS_calls (a b : Option Addr) (n m c d : Nat) (xs ys : List (Int × Int × Int × Int × Int)) (w : World) (ha : RdWater w a n xs) (hb : RdWater w b m ys) (hn : n ≤ 1048576) (hm : m ≤ 1048576) :
    Calls Try.prog 42 #[.slice a n c, .slice b m d] w fun e w' => e = .returned (.bool (xs == ys)) ∧ Below w.heap.size w w' := by
  have hla := ha.len
  have hlb := hb.len
  by_cases hne : n = m
  · subst hne
    have Hla := hd hla
    have Hlb := hd hlb
    clear hla hlb
    go_enter Try.func42, Try.ntmps42
    go_wp2_with fail
    go_loopw [5] (fun i wr => ∃ k : Nat, k ≤ n ∧ i = .int .i64 k ∧ xs.take k = ys.take k ∧ Below w.heap.size w wr) (fun i _ => n - (intOf i).toNat)
    case atStart => exact ⟨0, Nat.zero_le _, rfl, rfl, Below.refl _ _⟩
    case round =>
      obtain ⟨k, hk, rfl, hall, hbl⟩ := hrel
      have Ha := hd hall
      clear hall
      by_cases hlt : k < n
      · obtain ⟨q, o, f0, f1, f2, f3, f4, rfl, hgl, hx, hc0, hc1, hc2, hc3, hc4⟩ := getWater (ha.below hbl) hlt
        obtain ⟨q', o', g0, g1, g2, g3, g4, rfl, hgl', hy, hd0, hd1, hd2, hd3, hd4⟩ := getWater (hb.below hbl) hlt
        have Hx := hd hx
        have Hy := hd hy
        clear hx hy
        go_wp2_with fail
        go_still_tail 8, (by kernel_rfl)
        change wpList _ _ _ _ _ wr.drew
        have hbd : Below w.heap.size w wr.drew := hbl.drew
        generalize wr.drew = w1 at hbd ⊢
        go_wp2_with fail
        refine (eqWater_calls _ _ _ _ _ _ _ _ _ _ _).mono ?_
        rintro e w2 ⟨rfl, b2⟩
        have hb2 := bnext hbd b2 (Nat.le_refl _)
        clear hc0 hc1 hc2 hc3 hc4 hd0 hd1 hd2 hd3 hd4
        by_cases hp : ((f0, f1, f2, f3, f4) == (g0, g1, g2, g3, g4)) = true
        · go_wp2_with fail
          go_roundw
          case rel => exact ⟨k + 1, by omega, by go_num, take_eq_next Hx.out Hy.out Ha.out (by simpa using hp), hb2⟩
          case measure => simp [intOf]; omega
        · go_wp2_with fail
          go_ret
          exact ⟨ret_bool (by rw [beq_stop Hx.out Hy.out (by simpa using hp)]), hb2⟩
      · go_wp2_with fail
        go_ret
        exact ⟨ret_bool (by rw [beq_done Hla.out Hlb.out (by omega) Ha.out]), hbl⟩
  · go_enter Try.func42, Try.ntmps42
    go_wp2_with fail
    go_ret
    exact ⟨ret_bool (by rw [beq_len (by omega)]), Below.refl _ _⟩
/-- 'all' over a slice, at whatever function value that answers p and leaves old memory alone. -/
theorem allWater_calls (f : Nat) (caps : Array Value) (p : Int × Int × Int × Int × Int → Bool) (a : Option Addr) (n c : Nat) (xs : List (Int × Int × Int × Int × Int)) (w : World) (hr : RdWater w a n xs) (hn : n ≤ 9223372036854775807)
    (hf : ∀ args w, (callFunc f args).run Try.prog w = .ok (.enter f args) w)
    (H : ∀ f0 f1 f2 f3 f4 W, Below w.heap.size w W → Calls Try.prog f (#[.agg #[.int .i64 f0, .int .i64 f1, .int .i64 f2, .int .i64 f3, .int .i64 f4]] ++ caps) W fun e w' => e = .returned (.bool (p (f0, f1, f2, f3, f4))) ∧ Below W.heap.size W w') :
    Calls Try.prog 96 #[.slice a n c, .func (.func f) #[] caps] w fun e w' => e = .returned (.bool (xs.all p)) ∧ Below w.heap.size w w' := by
  have hlen := hd hr.len
  go_enter Try.func96, Try.ntmps96
  go_wp2_with fail
  go_loopw [9] (fun i wr => ∃ k : Nat, k ≤ n ∧ i = .int .i64 k ∧ (xs.take k).all p = true ∧ Below w.heap.size w wr) (fun i _ => n - (intOf i).toNat)
  case atStart => exact ⟨0, Nat.zero_le _, rfl, rfl, Below.refl _ _⟩
  case round =>
    obtain ⟨k, hk, rfl, hall, hb⟩ := hrel
    have Ha := hd hall
    clear hall
    by_cases hlt : k < n
    · obtain ⟨b, o, f0, f1, f2, f3, f4, rfl, hbl, hx, hc0, hc1, hc2, hc3, hc4⟩ := getWater (hr.below hb) hlt
      have Hx := hd hx
      clear hx
      go_wp2_with fail
      refine (H f0 f1 f2 f3 f4 _ (by have := hb.size; go_grown)).mono ?_
      rintro e w1 ⟨rfl, b1⟩
      have hb1 : Below w.heap.size w w1 := bnext (hb.alloc hb.size _) b1 (by simp)
      clear hc0 hc1 hc2 hc3 hc4 b1
      by_cases hp : p (f0, f1, f2, f3, f4) = true
      · go_wp2_with fail
        go_roundw
        case rel => exact ⟨k + 1, by omega, by go_num, all_next Hx.out Ha.out hp, hb1⟩
        case measure => simp [intOf]; omega
      · go_wp2_with fail
        go_ret
        exact ⟨ret_bool (by rw [all_stop Hx.out (by simpa using hp)]), hb1⟩
    · go_wp2_with fail
      go_ret
      exact ⟨ret_bool (by rw [all_done hlen.out (by omega) Ha.out]), hb⟩
def markWater (q : Int) : Int × Int × Int × Int × Int := (q, q + 1, q + 1 + 1, q + 1 + 1 + 1, q + 1 + 1 + 1 + 1)
/-- What the laws write into a slice. -/
def marksWater (k : Int) (n : Nat) : List (Int × Int × Int × Int × Int) := (List.range n).map fun j : Nat => markWater (k + 5 * j)
theorem marksWater_len (k : Int) (n : Nat) : (marksWater k n).length = n := by simp [marksWater]
theorem marksWater_get (k : Int) {n j : Nat} (h : j < n) : (marksWater k n)[j]? = some (markWater (k + 5 * j)) := eq_marks h
theorem markWaterS_calls (A : Option Addr) (n c : Nat) (xs : List (Int × Int × Int × Int × Int)) (k : Int) (w : World) (L U : Nat) (h : Own 5 cWater 107 w L U A n c xs) (hn : n ≤ 1048576) (hk0 : 0 ≤ k) (hk1 : k ≤ 100000000) :
    Calls Try.prog 44 #[.slice A n c, .int .i64 k] w fun e w' => e = .returned (.int .i64 (k + 5 * n)) ∧ Own 5 cWater 107 w' L U A n c (marksWater k n) ∧ w.grownBy w' (A.map (·.block)) := by
  by_cases h0 : n = 0
  · subst h0
    have e0 : (k + 5 * ((0 : Nat) : Int)) = k := by simp
    have hx0 : xs = [] := List.eq_nil_of_length_eq_zero h.len
    subst hx0
    have hm0 : marksWater k 0 = [] := rfl
    rw [e0, hm0]
    clear e0 hm0
    go_enter Try.func44, Try.ntmps44
    go_wp2_with fail
    go_loopw [1, 5] (fun kv i wr => kv = .int .i64 k ∧ i = .int .i64 0 ∧ w = wr) (fun _ i _ => 0 - (intOf i).toNat)
    case atStart => exact ⟨rfl, rfl, rfl⟩
    case round =>
      obtain ⟨rfl, rfl, rfl⟩ := hrel
      go_wp2_with fail
      go_ret
      exact ⟨rfl, h, only_refl _ _⟩
  · obtain ⟨g, cur0, rfl, hL, hg0, hs0, hc, hcm, _⟩ := own_block len_cWater h.2.1 (by omega)
    have HU := hd (h.2.2 _ rfl)
    clear h
    go_enter Try.func44, Try.ntmps44
    go_wp2_with fail
    go_loopw [1, 5] (fun kv i wr => ∃ j : Nat, j ≤ n ∧ kv = .int .i64 (k + 5 * j) ∧ i = .int .i64 j ∧ ∃ cur, wr.heap[g]? = some (.cells cur 107 (0, 0)) ∧ cur.size = c * 5 ∧ Has 5 cWater cur j (marksWater k n) ∧ w.grownBy wr (some g)) (fun _ i _ => n - (intOf i).toNat)
    case atStart => exact ⟨0, Nat.zero_le _, by simp, rfl, cur0, hg0, hs0, Has.zero _ _, only_refl _ _⟩
    case round =>
      obtain ⟨j, hj, rfl, rfl, cur, hg, hs, hhas, hbl⟩ := hrel
      have Hg := hd hg
      have Hs := hd hs
      have Hh := hd hhas
      have hgl := blk_lt hg
      clear hg hs hhas hg0 hs0
      by_cases hlt : j < n
      · have hlc : j < c := by omega
        have Hm := hd (marksWater_get k hlt)
        have hq0 : 0 ≤ k + 5 * (j : Int) := by omega
        have hq1 : k + 5 * (j : Int) ≤ 200000000 := by omega
        obtain ⟨q, hq⟩ : ∃ q : Int, q = k + 5 * (j : Int) := ⟨_, rfl⟩
        rw [← hq] at Hm hq0 hq1 ⊢
        have Hq := hd hq
        clear hq
        obtain ⟨v0, hv0⟩ := get_of_lt (cur := cur) (i := j * 5) (by rw [Hs.out]; omega)
        obtain ⟨v1, hv1⟩ := get_of_lt (cur := cur) (i := j * 5 + 1) (by rw [Hs.out]; omega)
        obtain ⟨v2, hv2⟩ := get_of_lt (cur := cur) (i := j * 5 + 2) (by rw [Hs.out]; omega)
        obtain ⟨v3, hv3⟩ := get_of_lt (cur := cur) (i := j * 5 + 3) (by rw [Hs.out]; omega)
        obtain ⟨v4, hv4⟩ := get_of_lt (cur := cur) (i := j * 5 + 4) (by rw [Hs.out]; omega)
        have d0 := (blk_cell Hg.out (j * 5)).trans hv0
        have d1 := (blk_cell Hg.out (j * 5 + 1)).trans hv1
        have d2 := (blk_cell Hg.out (j * 5 + 2)).trans hv2
        have d3 := (blk_cell Hg.out (j * 5 + 3)).trans hv3
        have d4 := (blk_cell Hg.out (j * 5 + 4)).trans hv4
        have z0 := blk_free Hg.out (j * 5)
        have z1 := blk_free Hg.out (j * 5 + 1)
        have z2 := blk_free Hg.out (j * 5 + 2)
        have z3 := blk_free Hg.out (j * 5 + 3)
        have z4 := blk_free Hg.out (j * 5 + 4)
        clear hv0 hv1 hv2 hv3 hv4
        go_wp2_with fail
        go_roundw
        case rel => exact ⟨j + 1, by omega, by have := Hq.out; go_num, by go_num, _, (blk_set (blk_set (blk_set (blk_set (blk_set Hg.out _ _) _ _) _ _) _ _) _ _), by simp [Hs.out], hasnWater Hh.out Hm.out Hs.out hlc, (only_set (only_set (only_set (only_set (only_set hbl _ _) _ _) _ _) _ _) _ _)⟩
        case measure => simp [intOf]; omega
      · go_wp2_with fail
        go_ret
        obtain rfl : j = n := by omega
        exact ⟨rfl, ⟨marksWater_len _ _, own_of_has len_cWater hL Hg.out Hs.out hc hcm (marksWater_len _ _) Hh.out, fun a ha => by obtain rfl := Option.some.inj ha; exact HU.out⟩, hbl⟩
end Go.Proofs.Ytieomdjcnaaopaa
