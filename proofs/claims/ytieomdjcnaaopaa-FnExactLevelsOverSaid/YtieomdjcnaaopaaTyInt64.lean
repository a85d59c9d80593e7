/- int64: how it lies in memory, and the laws' helpers on it. -/
import Derived.Test.YtieomdjcnaaopaaBasic
import Derived.Test.YtieomdjcnaaopaaOpen
namespace Go.Proofs.Ytieomdjcnaaopaa
open Go.ChangeShapes Go.WideShapes Go.RowKit
set_option linter.unusedVariables false

abbrev cInt64 := ci
abbrev RdInt64 := RdI
theorem len_cInt64 (x : Int) : (cInt64 x).length = 1 := rfl
theorem getInt64 {w : World} {a : Option Addr} {n : Nat} {xs : List (Int)} (h : RdInt64 w a n xs) {k : Nat} (hk : k < n) :
    ∃ (b o : Nat) (f0 : Int), a = some ⟨b, o, none⟩ ∧ b < w.heap.size ∧ xs[k]? = some f0 ∧ w.cell? ⟨b, o + k, none⟩ = some (.int .i64 f0) := by
  obtain ⟨b, o, e, hc⟩ := h.2 (by omega)
  have hl : k < xs.length := by have := h.1; omega
  have hx := List.getElem?_eq_getElem hl
  have h0 := hc k _ hx 0 (.int .i64 xs[k]) rfl
  simp only [Nat.mul_one, Nat.add_zero] at h0
  exact ⟨b, o, xs[k], e, World.block_lt_of_cell? w _ h0, hx, h0⟩
theorem hasnInt64 {cur : Array Value} {k n : Nat} {xs : List (Int)} {f0 : Int} (h : Has 1 cInt64 cur k xs) (hx : xs[k]? = some f0) (hs : cur.size = n * 1) (hk : k < n) :
    Has 1 cInt64 (cur.setIfInBounds (k) (.int .i64 f0)) (k + 1) xs := by
  intro i x hi hxi j v hv
  have hj : j < 1 := by have := lt_of_get hv; simpa [cInt64, ci] using this
  by_cases hik : i = k
  · subst hik
    rw [hx] at hxi
    obtain rfl := Option.some.inj hxi
    obtain rfl : j = 0 := by omega
    simp [cInt64, ci] at hv; subst hv
    simp only [Nat.add_zero, Nat.mul_one]
    rw [Array.getElem?_setIfInBounds_self_of_lt (by first | omega | (simp; omega))]
  · rw [Array.getElem?_setIfInBounds_ne (by omega)]
    exact h i x (by omega) hxi j v hv
theorem infoInt64 : (Try.prog.info? 2).map (fun i => (i.zero, i.size, i.bytes)) = some (some (.int .i64 0), 1, 8) := by kernel_rfl
def OkInt64 (x : Int) : Prop := (Lit.int .i64 x).wf = true
theorem el_int {H : Type} {enc : TypeId × Value → H} {P : Program} {w : World} {base : Nat} {spare : Nat → Bool} {held : Bool} {e : TypeId} (he : P.underlying e = some (.int .i64)) :
    ∀ (n : Nat) (cs' : List Value) (y : DataW H × List MemPlace), DataW.trod enc P w base spare held n e cs' = some y → ∃ z, ci z = cs' ∧ OkInt64 z := by
  intro n cs' y h
  obtain ⟨z, e, _, wz⟩ := DataW.trod_int he h
  exact ⟨z, e.symm, wz⟩
theorem szInt64S_calls (a : Option Addr) (n c : Nat) (l : Int) (w : World) (hn : n ≤ 9223372036854775807) (hl : 0 ≤ l) (hl' : l ≤ 1048576) :
    Calls Try.prog 66 #[.slice a n c, .int .i64 l] w fun e w' => ∃ r : Int, e = .returned (.int .i64 r) ∧ SzR l n r ∧ w = w' := by
  by_cases h : l < n
  · go_enter Try.func66, Try.ntmps66
    go_wp2
    go_ret
    exact ⟨_, rfl, .inl ⟨h, rfl⟩, rfl⟩
  · go_enter Try.func66, Try.ntmps66
    go_wp2
    go_ret
    exact ⟨_, rfl, .inr ⟨by omega, rfl⟩, rfl⟩
theorem toInt64S_calls (a : Option Addr) (n c : Nat) (xs : List (Int)) (w : World) (ha : RdInt64 w a n xs) (hn : n ≤ 1048576) :
    Calls Try.prog 26 #[.slice a n c] w fun e w' => ∃ A, e = .returned (.slice A n n) ∧ Own 1 cInt64 2 w' w.heap.size w'.heap.size A n n xs ∧ Below w.heap.size w w' := by
  have Hla := hd ha.len
  obtain ⟨i0, hi, hz0, hz1, hz2⟩ := info_parts infoInt64
  go_enter Try.func26, Try.ntmps26
  go_wp2_with (at_make; refine wpList_make_full _ rfl _ _ 22 rfl w.heap.size 2 i0 _ 1 Try.underlying22 hi hz0 hz1 _ _ _ _ n rfl rfl rfl rfl (by rw [hz2]; omega) (by unfold maxLen; omega) (Nat.le_refl _) ?_)
  intro w1 hown hgrow
  obtain ⟨cur0, hB0, hg0, hs0, _, _, _⟩ := own_head hown
  have hb1 : Below w.heap.size w w1 := (Below.refl _ _).grown hgrow (Nat.le_refl _) (by simp)
  have hlt1 := blk_lt hg0
  generalize hG : w.heap.size = g at hg0 hlt1 ⊢
  have HG := hd hG
  clear hG hown hgrow hB0
  go_wp2_with fail
  go_loopw [4] (fun i wr => ∃ k : Nat, k ≤ n ∧ i = .int .i64 k ∧ ∃ cur, wr.heap[g]? = some (.cells cur 2 (0, 0)) ∧ cur.size = n * 1 ∧ Has 1 cInt64 cur k xs ∧ Below w.heap.size w wr) (fun i _ => n - (intOf i).toNat)
  case atStart => exact ⟨0, Nat.zero_le _, rfl, cur0, hg0, hs0, Has.zero _ _, hb1⟩
  case round =>
    obtain ⟨k, hk, rfl, cur, hg, hs, hhas, hbl⟩ := hrel
    have Hg := hd hg
    have Hs := hd hs
    have Hh := hd hhas
    have hgl := blk_lt hg
    clear hg hs hhas hg0 hs0
    by_cases hlt : k < n
    · obtain ⟨b, o, f0, rfl, hbl', hx, hc0⟩ := getInt64 (ha.below hbl) hlt
      have Hx := hd hx
      clear hx
      have Hg2 := Hg
      have hbl2 := hbl
      obtain ⟨v0, hv0⟩ := get_of_lt (cur := cur) (i := k) (by rw [Hs.out]; omega)
      have d0 := (blk_cell Hg2.out (k)).trans hv0
      have z0 := blk_free Hg2.out (k)
      clear hv0
      go_wp2_with fail
      go_roundw
      case rel => exact ⟨k + 1, by omega, by go_num, _, (blk_set Hg2.out _ _), by simp [Hs.out], hasnInt64 Hh.out Hx.out Hs.out hlt, (hbl2.setCell (by simp [HG.out]) _)⟩
      case measure => simp [intOf]; omega
    · go_wp2_with fail
      go_ret
      obtain rfl : k = n := by omega
      exact ⟨_, rfl, ⟨Hla.out, own_of_has len_cInt64 (by rw [HG.out]; exact Nat.le_refl _) Hg.out Hs.out (Nat.le_refl _) (by unfold maxLen; omega) Hla.out Hh.out, fun a ha => by obtain rfl := Option.some.inj ha; exact hgl⟩, hbl⟩
set_option maxRecDepth 100000 in
theorem eqInt64S_calls (a b : Option Addr) (n m c d : Nat) (xs ys : List (Int)) (w : World) (ha : RdInt64 w a n xs) (hb : RdInt64 w b m ys) (hn : n ≤ 1048576) (hm : m ≤ 1048576) :
    Calls Try.prog 28 #[.slice a n c, .slice b m d] w fun e w' => e = .returned (.bool (xs == ys)) ∧ Below w.heap.size w w' := by
  have hla := ha.len
  have hlb := hb.len
  by_cases hne : n = m
  · subst hne
    have Hla := hd hla
    have Hlb := hd hlb
    clear hla hlb
    go_enter Try.func28, Try.ntmps28
    go_wp2_with fail
    go_loopw [5] (fun i wr => ∃ k : Nat, k ≤ n ∧ i = .int .i64 k ∧ xs.take k = ys.take k ∧ Below w.heap.size w wr) (fun i _ => n - (intOf i).toNat)
    case atStart => exact ⟨0, Nat.zero_le _, rfl, rfl, Below.refl _ _⟩
    case round =>
      obtain ⟨k, hk, rfl, hall, hbl⟩ := hrel
      have Ha := hd hall
      clear hall
      by_cases hlt : k < n
      · obtain ⟨q, o, f0, rfl, hgl, hx, hc0⟩ := getInt64 (ha.below hbl) hlt
        obtain ⟨q', o', g0, rfl, hgl', hy, hd0⟩ := getInt64 (hb.below hbl) hlt
        have Hx := hd hx
        have Hy := hd hy
        clear hx hy
        go_wp2_with fail
        go_still_tail 8, (by kernel_rfl)
        change wpList _ _ _ _ _ wr.drew
        have hb2 : Below w.heap.size w wr.drew := hbl.drew
        generalize wr.drew = w2 at hb2 ⊢
        clear hc0 hd0
        by_cases hp : (f0 == g0) = true
        · obtain rfl : f0 = g0 := by simpa using hp
          clear hp
          go_wp2_with fail
          go_roundw
          case rel => exact ⟨k + 1, by omega, by go_num, take_eq_next Hx.out Hy.out Ha.out rfl, hb2⟩
          case measure => simp [intOf]; omega
        · have hp' : (f0 != g0) = true := by simpa [bne] using hp
          go_wp2_with fail
          go_ret
          exact ⟨ret_bool (by rw [beq_stop Hx.out Hy.out (by simpa using hp)]), hb2⟩
      · go_wp2_with fail
        go_ret
        exact ⟨ret_bool (by rw [beq_done Hla.out Hlb.out (by omega) Ha.out]), hbl⟩
  · go_enter Try.func28, Try.ntmps28
    go_wp2_with fail
    go_ret
    exact ⟨ret_bool (by rw [beq_len (by omega)]), Below.refl _ _⟩
/-- 'all' over a slice, at whatever function value that answers p and leaves old memory alone. -/
theorem allInt64_calls (f : Nat) (caps : Array Value) (p : Int → Bool) (a : Option Addr) (n c : Nat) (xs : List (Int)) (w : World) (hr : RdInt64 w a n xs) (hn : n ≤ 9223372036854775807)
    (hf : ∀ args w, (callFunc f args).run Try.prog w = .ok (.enter f args) w)
    (H : ∀ f0 W, Below w.heap.size w W → Calls Try.prog f (#[.int .i64 f0] ++ caps) W fun e w' => e = .returned (.bool (p f0)) ∧ Below W.heap.size W w') :
    Calls Try.prog 113 #[.slice a n c, .func (.func f) #[] caps] w fun e w' => e = .returned (.bool (xs.all p)) ∧ Below w.heap.size w w' := by
  have hlen := hd hr.len
  go_enter Try.func113, Try.ntmps113
  go_wp2_with fail
  go_loopw [9] (fun i wr => ∃ k : Nat, k ≤ n ∧ i = .int .i64 k ∧ (xs.take k).all p = true ∧ Below w.heap.size w wr) (fun i _ => n - (intOf i).toNat)
  case atStart => exact ⟨0, Nat.zero_le _, rfl, rfl, Below.refl _ _⟩
  case round =>
    obtain ⟨k, hk, rfl, hall, hb⟩ := hrel
    have Ha := hd hall
    clear hall
    by_cases hlt : k < n
    · obtain ⟨b, o, f0, rfl, hbl, hx, hc0⟩ := getInt64 (hr.below hb) hlt
      have Hx := hd hx
      clear hx
      go_wp2_with fail
      refine (H f0 _ (by have := hb.size; go_grown)).mono ?_
      rintro e w1 ⟨rfl, b1⟩
      have hb1 : Below w.heap.size w w1 := bnext hb b1 (Nat.le_refl _)
      clear hc0 b1
      by_cases hp : p f0 = true
      · go_wp2_with fail
        go_roundw
        case rel => exact ⟨k + 1, by omega, by go_num, all_next Hx.out Ha.out hp, hb1⟩
        case measure => simp [intOf]; omega
      · go_wp2_with fail
        go_ret
        exact ⟨ret_bool (by rw [all_stop Hx.out (by simpa using hp)]), hb1⟩
    · go_wp2_with fail
      go_ret
      exact ⟨ret_bool (by rw [all_done hlen.out (by omega) Ha.out]), hb⟩
def markInt64 (q : Int) : Int := (q)
/-- What the laws write into a slice. -/
def marksInt64 (k : Int) (n : Nat) : List (Int) := (List.range n).map fun j : Nat => markInt64 (k + j)
theorem marksInt64_len (k : Int) (n : Nat) : (marksInt64 k n).length = n := by simp [marksInt64]
theorem marksInt64_get (k : Int) {n j : Nat} (h : j < n) : (marksInt64 k n)[j]? = some (markInt64 (k + j)) := eq_marks h
theorem markInt64S_calls (A : Option Addr) (n c : Nat) (xs : List (Int)) (k : Int) (w : World) (L U : Nat) (h : Own 1 cInt64 2 w L U A n c xs) (hn : n ≤ 1048576) (hk0 : 0 ≤ k) (hk1 : k ≤ 100000000) :
    Calls Try.prog 45 #[.slice A n c, .int .i64 k] w fun e w' => e = .returned (.int .i64 (k + n)) ∧ Own 1 cInt64 2 w' L U A n c (marksInt64 k n) ∧ w.grownBy w' (A.map (·.block)) := by
  by_cases h0 : n = 0
  · subst h0
    have e0 : (k + ((0 : Nat) : Int)) = k := by simp
    have hx0 : xs = [] := List.eq_nil_of_length_eq_zero h.len
    subst hx0
    have hm0 : marksInt64 k 0 = [] := rfl
    rw [e0, hm0]
    clear e0 hm0
    go_enter Try.func45, Try.ntmps45
    go_wp2_with fail
    go_loopw [1, 5] (fun kv i wr => kv = .int .i64 k ∧ i = .int .i64 0 ∧ w = wr) (fun _ i _ => 0 - (intOf i).toNat)
    case atStart => exact ⟨rfl, rfl, rfl⟩
    case round =>
      obtain ⟨rfl, rfl, rfl⟩ := hrel
      go_wp2_with fail
      go_ret
      exact ⟨rfl, h, only_refl _ _⟩
  · obtain ⟨g, cur0, rfl, hL, hg0, hs0, hc, hcm, _⟩ := own_block len_cInt64 h.2.1 (by omega)
    have HU := hd (h.2.2 _ rfl)
    clear h
    go_enter Try.func45, Try.ntmps45
    go_wp2_with fail
    go_loopw [1, 5] (fun kv i wr => ∃ j : Nat, j ≤ n ∧ kv = .int .i64 (k + j) ∧ i = .int .i64 j ∧ ∃ cur, wr.heap[g]? = some (.cells cur 2 (0, 0)) ∧ cur.size = c * 1 ∧ Has 1 cInt64 cur j (marksInt64 k n) ∧ w.grownBy wr (some g)) (fun _ i _ => n - (intOf i).toNat)
    case atStart => exact ⟨0, Nat.zero_le _, by simp, rfl, cur0, hg0, hs0, Has.zero _ _, only_refl _ _⟩
    case round =>
      obtain ⟨j, hj, rfl, rfl, cur, hg, hs, hhas, hbl⟩ := hrel
      have Hg := hd hg
      have Hs := hd hs
      have Hh := hd hhas
      have hgl := blk_lt hg
      clear hg hs hhas hg0 hs0
      by_cases hlt : j < n
      · have hlc : j < c := by omega
        have Hm := hd (marksInt64_get k hlt)
        have hq0 : 0 ≤ k + (j : Int) := by omega
        have hq1 : k + (j : Int) ≤ 200000000 := by omega
        obtain ⟨q, hq⟩ : ∃ q : Int, q = k + (j : Int) := ⟨_, rfl⟩
        rw [← hq] at Hm hq0 hq1 ⊢
        have Hq := hd hq
        clear hq
        obtain ⟨v0, hv0⟩ := get_of_lt (cur := cur) (i := j) (by rw [Hs.out]; omega)
        have d0 := (blk_cell Hg.out (j)).trans hv0
        have z0 := blk_free Hg.out (j)
        clear hv0
        go_wp2_with fail
        go_roundw
        case rel => exact ⟨j + 1, by omega, by have := Hq.out; go_num, by go_num, _, (blk_set Hg.out _ _), by simp [Hs.out], hasnInt64 Hh.out Hm.out Hs.out hlc, (only_set hbl _ _)⟩
        case measure => simp [intOf]; omega
      · go_wp2_with fail
        go_ret
        obtain rfl : j = n := by omega
        exact ⟨rfl, ⟨marksInt64_len _ _, own_of_has len_cInt64 hL Hg.out Hs.out hc hcm (marksInt64_len _ _) Hh.out, fun a ha => by obtain rfl := Option.some.inj ha; exact HU.out⟩, hbl⟩
theorem heldInt64S_calls (A : Option Addr) (n c : Nat) (k : Int) (w : World) (h : RdInt64 w A n (marksInt64 k n)) (hn : n ≤ 1048576) (hk0 : 0 ≤ k) (hk1 : k ≤ 100000000) :
    Calls Try.prog 46 #[.slice A n c, .int .i64 k] w fun e w' => e = .returned (.int .i64 (k + n)) ∧ Below w.heap.size w w' := by
  go_enter Try.func46, Try.ntmps46
  go_wp2_with fail
  go_loopw [1, 5] (fun kv i wr => ∃ j : Nat, j ≤ n ∧ kv = .int .i64 (k + j) ∧ i = .int .i64 j ∧ Below w.heap.size w wr) (fun _ i _ => n - (intOf i).toNat)
  case atStart => exact ⟨0, Nat.zero_le _, by simp, rfl, Below.refl _ _⟩
  case round =>
    obtain ⟨j, hj, rfl, rfl, hbl⟩ := hrel
    by_cases hlt : j < n
    · obtain ⟨b, o, f0, rfl, hbl', hx, hc0⟩ := getInt64 (h.below hbl) hlt
      rw [marksInt64_get k hlt] at hx
      have hq0 : 0 ≤ k + (j : Int) := by omega
      have hq1 : k + (j : Int) ≤ 200000000 := by omega
      obtain ⟨q, hq⟩ : ∃ q : Int, q = k + (j : Int) := ⟨_, rfl⟩
      rw [← hq] at hx hq0 hq1 ⊢
      have Hq := hd hq
      clear hq
      simp only [markInt64, Option.some.injEq] at hx
      subst hx
      go_wp2_with fail
      go_roundw
      case rel => exact ⟨j + 1, by omega, by have := Hq.out; go_num, by go_num, hbl⟩
      case measure => simp [intOf]; omega
    · go_wp2_with fail
      go_ret
      obtain rfl : j = n := by omega
      exact ⟨rfl, hbl⟩
end Go.Proofs.Ytieomdjcnaaopaa
