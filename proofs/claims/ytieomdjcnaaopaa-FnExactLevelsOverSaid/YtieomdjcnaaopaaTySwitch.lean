/- Switch: how it lies in memory, and the laws' helpers on it. -/
import Derived.Test.YtieomdjcnaaopaaBasic
import Derived.Test.YtieomdjcnaaopaaOpen
namespace Go.Proofs.Ytieomdjcnaaopaa
open Go.ChangeShapes Go.WideShapes Go.RowKit
set_option linter.unusedVariables false

def cSwitch (x : Int × Int) : List Value := [.int .i64 x.1, .int .i64 x.2]
abbrev RdSwitch := Rd 2 cSwitch
theorem len_cSwitch (x : Int × Int) : (cSwitch x).length = 2 := rfl
theorem getSwitch {w : World} {a : Option Addr} {n : Nat} {xs : List (Int × Int)} (h : RdSwitch w a n xs) {k : Nat} (hk : k < n) :
    ∃ (b o : Nat) (f0 : Int) (f1 : Int), a = some ⟨b, o, none⟩ ∧ b < w.heap.size ∧ xs[k]? = some (f0, f1) ∧ w.cell? ⟨b, o + k * 2, none⟩ = some (.int .i64 f0) ∧ w.cell? ⟨b, o + k * 2 + 1, none⟩ = some (.int .i64 f1) := by
  obtain ⟨b, o, e, hc⟩ := h.2 (by omega)
  have hl : k < xs.length := by have := h.1; omega
  have hx := List.getElem?_eq_getElem hl
  have h0 := hc k _ hx 0 (.int .i64 xs[k].1) rfl
  have h1 := hc k _ hx 1 (.int .i64 xs[k].2) rfl
  simp only [Nat.add_zero] at h0
  rw [← Nat.add_assoc] at h1
  exact ⟨b, o, xs[k].1, xs[k].2, e, World.block_lt_of_cell? w _ h0, hx, h0, h1⟩
theorem hasnSwitch {cur : Array Value} {k n : Nat} {xs : List (Int × Int)} {f0 : Int} {f1 : Int} (h : Has 2 cSwitch cur k xs) (hx : xs[k]? = some (f0, f1)) (hs : cur.size = n * 2) (hk : k < n) :
    Has 2 cSwitch ((cur.setIfInBounds (k * 2) (.int .i64 f0)).setIfInBounds (k * 2 + 1) (.int .i64 f1)) (k + 1) xs := by
  intro i x hi hxi j v hv
  have hj : j < 2 := by have := lt_of_get hv; simpa [cSwitch] using this
  by_cases hik : i = k
  · subst hik
    rw [hx] at hxi
    obtain rfl := Option.some.inj hxi
    rcases (show j = 0 ∨ j = 1 from by omega) with rfl | rfl
    · simp [cSwitch] at hv; subst hv
      simp only [Nat.add_zero]
      rw [Array.getElem?_setIfInBounds_ne (by omega), Array.getElem?_setIfInBounds_self_of_lt (by first | omega | (simp; omega))]
    · simp [cSwitch] at hv; subst hv
      rw [Array.getElem?_setIfInBounds_self_of_lt (by first | omega | (simp; omega))]
  · rw [Array.getElem?_setIfInBounds_ne (by omega), Array.getElem?_setIfInBounds_ne (by omega)]
    exact h i x (by omega) hxi j v hv
theorem infoSwitch : (Try.prog.info? 40).map (fun i => (i.zero, i.size, i.bytes)) = some (some (.agg #[.int .i64 0, .int .i64 0]), 2, 16) := by kernel_rfl
def OkSwitch (x : Int × Int) : Prop := (Lit.int .i64 x.1).wf = true ∧ (Lit.int .i64 x.2).wf = true
theorem el_Switch {H : Type} {enc : TypeId × Value → H} {w : World} {base : Nat} {spare : Nat → Bool} {held : Bool} :
    ∀ (n : Nat) (cs' : List Value) (y : DataW H × List MemPlace), DataW.trod enc Try.prog w base spare held n 37 cs' = some y → ∃ z, cSwitch z = cs' ∧ OkSwitch z := by
  intro n cs' y h
  obtain ⟨hl, hf⟩ := struct_cells Try.underlying37 (by kernel_rfl) (by kernel_rfl) h
  obtain ⟨u0, u1, rfl⟩ := len2 hl
  obtain ⟨_, _, t0⟩ := hf 0 _ rfl
  obtain ⟨f0, rfl, w0⟩ := trod_int_cell Try.underlying2 t0
  obtain ⟨_, _, t1⟩ := hf 1 _ rfl
  obtain ⟨f1, rfl, w1⟩ := trod_int_cell Try.underlying2 t1
  exact ⟨(f0, f1), rfl, w0, w1⟩
theorem toSwitch_calls (f0 : Int) (f1 : Int) (w : World) :
    Calls Try.prog 25 #[.agg #[.int .i64 f0, .int .i64 f1]] w fun e w' => e = .returned (.agg #[.int .i64 f0, .int .i64 f1]) ∧ Below w.heap.size w w' := by
  go_enter Try.func25, Try.ntmps25
  go_wp2
  go_returns
  exact ⟨rfl, by go_grown⟩
theorem eqSwitch_calls (f0 : Int) (f1 : Int) (g0 : Int) (g1 : Int) (w : World) :
    Calls Try.prog 112 #[.agg #[.int .i64 f0, .int .i64 f1], .agg #[.int .i64 g0, .int .i64 g1]] w fun e w' => e = .returned (.bool ((f0, f1) == (g0, g1))) ∧ Below w.heap.size w w' := by
  go_enter Try.func112, Try.ntmps112
  go_wp2
  all_goals (go_ret; exact ⟨ret_bool (by simp_all), by go_grown⟩)
theorem szSwitchS_calls (a : Option Addr) (n c : Nat) (l : Int) (w : World) (hn : n ≤ 9223372036854775807) (hl : 0 ≤ l) (hl' : l ≤ 1048576) :
    Calls Try.prog 56 #[.slice a n c, .int .i64 l] w fun e w' => ∃ r : Int, e = .returned (.int .i64 r) ∧ SzR l n r ∧ w = w' := by
  by_cases h : l < n
  · go_enter Try.func56, Try.ntmps56
    go_wp2
    go_ret
    exact ⟨_, rfl, .inl ⟨h, rfl⟩, rfl⟩
  · go_enter Try.func56, Try.ntmps56
    go_wp2
    go_ret
    exact ⟨_, rfl, .inr ⟨by omega, rfl⟩, rfl⟩
theorem toSwitchS_calls (a : Option Addr) (n c : Nat) (xs : List (Int × Int)) (w : World) (ha : RdSwitch w a n xs) (hn : n ≤ 1048576) :
    Calls Try.prog 58 #[.slice a n c] w fun e w' => ∃ A, e = .returned (.slice A n n) ∧ Own 2 cSwitch 40 w' w.heap.size w'.heap.size A n n xs ∧ Below w.heap.size w w' := by
  have Hla := hd ha.len
  obtain ⟨i0, hi, hz0, hz1, hz2⟩ := info_parts infoSwitch
  go_enter Try.func58, Try.ntmps58
  go_wp2_with (at_make; refine wpList_make_full _ rfl _ _ 74 rfl w.heap.size 40 i0 _ 2 Try.underlying74 hi hz0 hz1 _ _ _ _ n rfl rfl rfl rfl (by rw [hz2]; omega) (by unfold maxLen; omega) (Nat.le_refl _) ?_)
  intro w1 hown hgrow
  obtain ⟨cur0, hB0, hg0, hs0, _, _, _⟩ := own_head hown
  have hb1 : Below w.heap.size w w1 := (Below.refl _ _).grown hgrow (Nat.le_refl _) (by simp)
  have hlt1 := blk_lt hg0
  generalize hG : w.heap.size = g at hg0 hlt1 ⊢
  have HG := hd hG
  clear hG hown hgrow hB0
  go_wp2_with fail
  go_loopw [4] (fun i wr => ∃ k : Nat, k ≤ n ∧ i = .int .i64 k ∧ ∃ cur, wr.heap[g]? = some (.cells cur 40 (0, 0)) ∧ cur.size = n * 2 ∧ Has 2 cSwitch cur k xs ∧ Below w.heap.size w wr) (fun i _ => n - (intOf i).toNat)
  case atStart => exact ⟨0, Nat.zero_le _, rfl, cur0, hg0, hs0, Has.zero _ _, hb1⟩
  case round =>
    obtain ⟨k, hk, rfl, cur, hg, hs, hhas, hbl⟩ := hrel
    have Hg := hd hg
    have Hs := hd hs
    have Hh := hd hhas
    have hgl := blk_lt hg
    clear hg hs hhas hg0 hs0
    by_cases hlt : k < n
    · obtain ⟨b, o, f0, f1, rfl, hbl', hx, hc0, hc1⟩ := getSwitch (ha.below hbl) hlt
      have Hx := hd hx
      clear hx
      go_wp2_with fail
      refine (toSwitch_calls _ _ _).mono ?_
      rintro e w2 ⟨rfl, b2⟩
      have Hg2 := hd (blk_below Hg.out b2 hgl)
      have hbl2 := bnext hbl b2 (Nat.le_refl _)
      obtain ⟨v0, hv0⟩ := get_of_lt (cur := cur) (i := k * 2) (by rw [Hs.out]; omega)
      obtain ⟨v1, hv1⟩ := get_of_lt (cur := cur) (i := k * 2 + 1) (by rw [Hs.out]; omega)
      have d0 := (blk_cell Hg2.out (k * 2)).trans hv0
      have d1 := (blk_cell Hg2.out (k * 2 + 1)).trans hv1
      have z0 := blk_free Hg2.out (k * 2)
      have z1 := blk_free Hg2.out (k * 2 + 1)
      clear hv0 hv1 hc0 hc1
      go_wp2_with fail
      go_roundw
      case rel => exact ⟨k + 1, by omega, by go_num, _, (blk_set (blk_set Hg2.out _ _) _ _), by simp [Hs.out], hasnSwitch Hh.out Hx.out Hs.out hlt, ((hbl2.setCell (by simp [HG.out]) _).setCell (by simp [HG.out]) _)⟩
      case measure => simp [intOf]; omega
    · go_wp2_with fail
      go_ret
      obtain rfl : k = n := by omega
      exact ⟨_, rfl, ⟨Hla.out, own_of_has len_cSwitch (by rw [HG.out]; exact Nat.le_refl _) Hg.out Hs.out (Nat.le_refl _) (by unfold maxLen; omega) Hla.out Hh.out, fun a ha => by obtain rfl := Option.some.inj ha; exact hgl⟩, hbl⟩
set_option maxRecDepth 100000 in
theorem eqSwitchS_calls (a b : Option Addr) (n m c d : Nat) (xs ys : List (Int × Int)) (w : World) (ha : RdSwitch w a n xs) (hb : RdSwitch w b m ys) (hn : n ≤ 1048576) (hm : m ≤ 1048576) :
    Calls Try.prog 60 #[.slice a n c, .slice b m d] w fun e w' => e = .returned (.bool (xs == ys)) ∧ Below w.heap.size w w' := by
  have hla := ha.len
  have hlb := hb.len
  by_cases hne : n = m
  · subst hne
    have Hla := hd hla
    have Hlb := hd hlb
    clear hla hlb
    go_enter Try.func60, Try.ntmps60
    go_wp2_with fail
    go_loopw [5] (fun i wr => ∃ k : Nat, k ≤ n ∧ i = .int .i64 k ∧ xs.take k = ys.take k ∧ Below w.heap.size w wr) (fun i _ => n - (intOf i).toNat)
    case atStart => exact ⟨0, Nat.zero_le _, rfl, rfl, Below.refl _ _⟩
    case round =>
      obtain ⟨k, hk, rfl, hall, hbl⟩ := hrel
      have Ha := hd hall
      clear hall
      by_cases hlt : k < n
      · obtain ⟨q, o, f0, f1, rfl, hgl, hx, hc0, hc1⟩ := getSwitch (ha.below hbl) hlt
        obtain ⟨q', o', g0, g1, rfl, hgl', hy, hd0, hd1⟩ := getSwitch (hb.below hbl) hlt
        have Hx := hd hx
        have Hy := hd hy
        clear hx hy
        go_wp2_with fail
        go_still_tail 8, (by kernel_rfl)
        change wpList _ _ _ _ _ wr.drew
        have hbd : Below w.heap.size w wr.drew := hbl.drew
        generalize wr.drew = w1 at hbd ⊢
        go_wp2_with fail
        refine (eqSwitch_calls _ _ _ _ _).mono ?_
        rintro e w2 ⟨rfl, b2⟩
        have hb2 := bnext hbd b2 (Nat.le_refl _)
        clear hc0 hc1 hd0 hd1
        by_cases hp : ((f0, f1) == (g0, g1)) = true
        · go_wp2_with fail
          go_roundw
          case rel => exact ⟨k + 1, by omega, by go_num, take_eq_next Hx.out Hy.out Ha.out (by simpa using hp), hb2⟩
          case measure => simp [intOf]; omega
        · go_wp2_with fail
          go_ret
          exact ⟨ret_bool (by rw [beq_stop Hx.out Hy.out (by simpa using hp)]), hb2⟩
      · go_wp2_with fail
        go_ret
        exact ⟨ret_bool (by rw [beq_done Hla.out Hlb.out (by omega) Ha.out]), hbl⟩
  · go_enter Try.func60, Try.ntmps60
    go_wp2_with fail
    go_ret
    exact ⟨ret_bool (by rw [beq_len (by omega)]), Below.refl _ _⟩
/-- 'all' over a slice, at whatever function value that answers p and leaves old memory alone. -/
theorem allSwitch_calls (f : Nat) (caps : Array Value) (p : Int × Int → Bool) (a : Option Addr) (n c : Nat) (xs : List (Int × Int)) (w : World) (hr : RdSwitch w a n xs) (hn : n ≤ 9223372036854775807)
    (hf : ∀ args w, (callFunc f args).run Try.prog w = .ok (.enter f args) w)
    (H : ∀ f0 f1 W, Below w.heap.size w W → Calls Try.prog f (#[.agg #[.int .i64 f0, .int .i64 f1]] ++ caps) W fun e w' => e = .returned (.bool (p (f0, f1))) ∧ Below W.heap.size W w') :
    Calls Try.prog 122 #[.slice a n c, .func (.func f) #[] caps] w fun e w' => e = .returned (.bool (xs.all p)) ∧ Below w.heap.size w w' := by
  have hlen := hd hr.len
  go_enter Try.func122, Try.ntmps122
  go_wp2_with fail
  go_loopw [9] (fun i wr => ∃ k : Nat, k ≤ n ∧ i = .int .i64 k ∧ (xs.take k).all p = true ∧ Below w.heap.size w wr) (fun i _ => n - (intOf i).toNat)
  case atStart => exact ⟨0, Nat.zero_le _, rfl, rfl, Below.refl _ _⟩
  case round =>
    obtain ⟨k, hk, rfl, hall, hb⟩ := hrel
    have Ha := hd hall
    clear hall
    by_cases hlt : k < n
    · obtain ⟨b, o, f0, f1, rfl, hbl, hx, hc0, hc1⟩ := getSwitch (hr.below hb) hlt
      have Hx := hd hx
      clear hx
      go_wp2_with fail
      refine (H f0 f1 _ (by have := hb.size; go_grown)).mono ?_
      rintro e w1 ⟨rfl, b1⟩
      have hb1 : Below w.heap.size w w1 := bnext (hb.alloc hb.size _) b1 (by simp)
      clear hc0 hc1 b1
      by_cases hp : p (f0, f1) = true
      · go_wp2_with fail
        go_roundw
        case rel => exact ⟨k + 1, by omega, by go_num, all_next Hx.out Ha.out hp, hb1⟩
        case measure => simp [intOf]; omega
      · go_wp2_with fail
        go_ret
        exact ⟨ret_bool (by rw [all_stop Hx.out (by simpa using hp)]), hb1⟩
    · go_wp2_with fail
      go_ret
      exact ⟨ret_bool (by rw [all_done hlen.out (by omega) Ha.out]), hb⟩
def markSwitch (q : Int) : Int × Int := (q, q + 1)
/-- What the laws write into a slice. -/
def marksSwitch (k : Int) (n : Nat) : List (Int × Int) := (List.range n).map fun j : Nat => markSwitch (k + 2 * j)
theorem marksSwitch_len (k : Int) (n : Nat) : (marksSwitch k n).length = n := by simp [marksSwitch]
theorem marksSwitch_get (k : Int) {n j : Nat} (h : j < n) : (marksSwitch k n)[j]? = some (markSwitch (k + 2 * j)) := eq_marks h
end Go.Proofs.Ytieomdjcnaaopaa
