/- int64: how it lies in memory, and the laws' helpers on it. -/
import Derived.Test.YtbbnjddgioaoeaaDoorBasic
import Derived.Test.YtbbnjddgioaoeaaDoorOpen
namespace Go.Proofs.YtbbnjddgioaoeaaDoor
open Go.ChangeShapes Go.WideShapes Go.RowKit
set_option linter.unusedVariables false

abbrev cInt64 := ci
abbrev RdInt64 := RdI
theorem len_cInt64 (x : Int) : (cInt64 x).length = 1 := rfl
theorem getInt64 {w : World} {a : Option Addr} {n : Nat} {xs : List (Int)} (h : RdInt64 w a n xs) {k : Nat} (hk : k < n) :
    ∃ (b o : Nat) (f0 : Int), a = some ⟨b, o, none⟩ ∧ b < w.heap.size ∧ xs[k]? = some f0 ∧ w.cell? ⟨b, o + k, none⟩ = some (.int .i64 f0) := by
  obtain ⟨b, o, e, hc⟩ := h.2 (by omega)
  have hl : k < xs.length := by have := h.1; omega
  have hx := List.getElem?_eq_getElem hl
  have h0 := hc k _ hx 0 (.int .i64 xs[k]) rfl
  simp only [Nat.mul_one, Nat.add_zero] at h0
  exact ⟨b, o, xs[k], e, World.block_lt_of_cell? w _ h0, hx, h0⟩
theorem hasnInt64 {cur : Array Value} {k n : Nat} {xs : List (Int)} {f0 : Int} (h : Has 1 cInt64 cur k xs) (hx : xs[k]? = some f0) (hs : cur.size = n * 1) (hk : k < n) :
    Has 1 cInt64 (cur.setIfInBounds (k) (.int .i64 f0)) (k + 1) xs := by
  intro i x hi hxi j v hv
  have hj : j < 1 := by have := lt_of_get hv; simpa [cInt64, ci] using this
  by_cases hik : i = k
  · subst hik
    rw [hx] at hxi
    obtain rfl := Option.some.inj hxi
    obtain rfl : j = 0 := by omega
    simp [cInt64, ci] at hv; subst hv
    simp only [Nat.add_zero, Nat.mul_one]
    rw [Array.getElem?_setIfInBounds_self_of_lt (by first | omega | (simp; omega))]
  · rw [Array.getElem?_setIfInBounds_ne (by omega)]
    exact h i x (by omega) hxi j v hv
theorem infoInt64 : (Tryd.prog.info? 2).map (fun i => (i.zero, i.size, i.bytes)) = some (some (.int .i64 0), 1, 8) := by kernel_rfl
def OkInt64 (x : Int) : Prop := (Lit.int .i64 x).wf = true
theorem el_int {H : Type} {enc : TypeId × Value → H} {P : Program} {w : World} {base : Nat} {spare : Nat → Bool} {held : Bool} {e : TypeId} (he : P.underlying e = some (.int .i64)) :
    ∀ (n : Nat) (cs' : List Value) (y : DataW H × List MemPlace), DataW.trod enc P w base spare held n e cs' = some y → ∃ z, ci z = cs' ∧ OkInt64 z := by
  intro n cs' y h
  obtain ⟨z, e, _, wz⟩ := DataW.trod_int he h
  exact ⟨z, e.symm, wz⟩
theorem toInt64S_calls (a : Option Addr) (n c : Nat) (xs : List (Int)) (w : World) (ha : RdInt64 w a n xs) (hn : n ≤ 1048576) :
    Calls Tryd.prog 29 #[.slice a n c] w fun e w' => ∃ A, e = .returned (.slice A n n) ∧ Own 1 cInt64 2 w' w.heap.size w'.heap.size A n n xs ∧ Below w.heap.size w w' := by
  have Hla := hd ha.len
  obtain ⟨i0, hi, hz0, hz1, hz2⟩ := info_parts infoInt64
  go_enter Tryd.func29, Tryd.ntmps29
  go_wp2_with (at_make; refine wpList_make_full _ rfl _ _ 50 rfl w.heap.size 2 i0 _ 1 Tryd.underlying50 hi hz0 hz1 _ _ _ _ n rfl rfl rfl rfl (by rw [hz2]; omega) (by unfold maxLen; omega) (Nat.le_refl _) ?_)
  intro w1 hown hgrow
  obtain ⟨cur0, hB0, hg0, hs0, _, _, _⟩ := own_head hown
  have hb1 : Below w.heap.size w w1 := (Below.refl _ _).grown hgrow (Nat.le_refl _) (by simp)
  have hlt1 := blk_lt hg0
  generalize hG : w.heap.size = g at hg0 hlt1 ⊢
  have HG := hd hG
  clear hG hown hgrow hB0
  go_wp2_with fail
  go_loopw [4] (fun i wr => ∃ k : Nat, k ≤ n ∧ i = .int .i64 k ∧ ∃ cur, wr.heap[g]? = some (.cells cur 2 (0, 0)) ∧ cur.size = n * 1 ∧ Has 1 cInt64 cur k xs ∧ Below w.heap.size w wr) (fun i _ => n - (intOf i).toNat)
  case atStart => exact ⟨0, Nat.zero_le _, rfl, cur0, hg0, hs0, Has.zero _ _, hb1⟩
  case round =>
    obtain ⟨k, hk, rfl, cur, hg, hs, hhas, hbl⟩ := hrel
    have Hg := hd hg
    have Hs := hd hs
    have Hh := hd hhas
    have hgl := blk_lt hg
    clear hg hs hhas hg0 hs0
    by_cases hlt : k < n
    · obtain ⟨b, o, f0, rfl, hbl', hx, hc0⟩ := getInt64 (ha.below hbl) hlt
      have Hx := hd hx
      clear hx
      have Hg2 := Hg
      have hbl2 := hbl
      obtain ⟨v0, hv0⟩ := get_of_lt (cur := cur) (i := k) (by rw [Hs.out]; omega)
      have d0 := (blk_cell Hg2.out (k)).trans hv0
      have z0 := blk_free Hg2.out (k)
      clear hv0
      go_wp2_with fail
      go_roundw
      case rel => exact ⟨k + 1, by omega, by go_num, _, (blk_set Hg2.out _ _), by simp [Hs.out], hasnInt64 Hh.out Hx.out Hs.out hlt, (hbl2.setCell (by simp [HG.out]) _)⟩
      case measure => simp [intOf]; omega
    · go_wp2_with fail
      go_ret
      obtain rfl : k = n := by omega
      exact ⟨_, rfl, ⟨Hla.out, own_of_has len_cInt64 (by rw [HG.out]; exact Nat.le_refl _) Hg.out Hs.out (Nat.le_refl _) (by unfold maxLen; omega) Hla.out Hh.out, fun a ha => by obtain rfl := Option.some.inj ha; exact hgl⟩, hbl⟩
set_option maxRecDepth 100000 in
theorem eqInt64S_calls (a b : Option Addr) (n m c d : Nat) (xs ys : List (Int)) (w : World) (ha : RdInt64 w a n xs) (hb : RdInt64 w b m ys) (hn : n ≤ 1048576) (hm : m ≤ 1048576) :
    Calls Tryd.prog 31 #[.slice a n c, .slice b m d] w fun e w' => e = .returned (.bool (xs == ys)) ∧ Below w.heap.size w w' := by
  have hla := ha.len
  have hlb := hb.len
  by_cases hne : n = m
  · subst hne
    have Hla := hd hla
    have Hlb := hd hlb
    clear hla hlb
    go_enter Tryd.func31, Tryd.ntmps31
    go_wp2_with fail
    go_loopw [5] (fun i wr => ∃ k : Nat, k ≤ n ∧ i = .int .i64 k ∧ xs.take k = ys.take k ∧ Below w.heap.size w wr) (fun i _ => n - (intOf i).toNat)
    case atStart => exact ⟨0, Nat.zero_le _, rfl, rfl, Below.refl _ _⟩
    case round =>
      obtain ⟨k, hk, rfl, hall, hbl⟩ := hrel
      have Ha := hd hall
      clear hall
      by_cases hlt : k < n
      · obtain ⟨q, o, f0, rfl, hgl, hx, hc0⟩ := getInt64 (ha.below hbl) hlt
        obtain ⟨q', o', g0, rfl, hgl', hy, hd0⟩ := getInt64 (hb.below hbl) hlt
        have Hx := hd hx
        have Hy := hd hy
        clear hx hy
        go_wp2_with fail
        go_still_tail 8, (by kernel_rfl)
        change wpList _ _ _ _ _ wr.drew
        have hb2 : Below w.heap.size w wr.drew := hbl.drew
        generalize wr.drew = w2 at hb2 ⊢
        clear hc0 hd0
        by_cases hp : (f0 == g0) = true
        · obtain rfl : f0 = g0 := by simpa using hp
          clear hp
          go_wp2_with fail
          go_roundw
          case rel => exact ⟨k + 1, by omega, by go_num, take_eq_next Hx.out Hy.out Ha.out rfl, hb2⟩
          case measure => simp [intOf]; omega
        · have hp' : (f0 != g0) = true := by simpa [bne] using hp
          go_wp2_with fail
          go_ret
          exact ⟨ret_bool (by rw [beq_stop Hx.out Hy.out (by simpa using hp)]), hb2⟩
      · go_wp2_with fail
        go_ret
        exact ⟨ret_bool (by rw [beq_done Hla.out Hlb.out (by omega) Ha.out]), hbl⟩
  · go_enter Tryd.func31, Tryd.ntmps31
    go_wp2_with fail
    go_ret
    exact ⟨ret_bool (by rw [beq_len (by omega)]), Below.refl _ _⟩
/-- 'all' over a slice, at whatever function value that answers p and leaves old memory alone. -/
theorem allInt64_calls (f : Nat) (caps : Array Value) (p : Int → Bool) (a : Option Addr) (n c : Nat) (xs : List (Int)) (w : World) (hr : RdInt64 w a n xs) (hn : n ≤ 9223372036854775807)
    (hf : ∀ args w, (callFunc f args).run Tryd.prog w = .ok (.enter f args) w)
    (H : ∀ f0 W, Below w.heap.size w W → Calls Tryd.prog f (#[.int .i64 f0] ++ caps) W fun e w' => e = .returned (.bool (p f0)) ∧ Below W.heap.size W w') :
    Calls Tryd.prog 50 #[.slice a n c, .func (.func f) #[] caps] w fun e w' => e = .returned (.bool (xs.all p)) ∧ Below w.heap.size w w' := by
  have hlen := hd hr.len
  go_enter Tryd.func50, Tryd.ntmps50
  go_wp2_with fail
  go_loopw [9] (fun i wr => ∃ k : Nat, k ≤ n ∧ i = .int .i64 k ∧ (xs.take k).all p = true ∧ Below w.heap.size w wr) (fun i _ => n - (intOf i).toNat)
  case atStart => exact ⟨0, Nat.zero_le _, rfl, rfl, Below.refl _ _⟩
  case round =>
    obtain ⟨k, hk, rfl, hall, hb⟩ := hrel
    have Ha := hd hall
    clear hall
    by_cases hlt : k < n
    · obtain ⟨b, o, f0, rfl, hbl, hx, hc0⟩ := getInt64 (hr.below hb) hlt
      have Hx := hd hx
      clear hx
      go_wp2_with fail
      refine (H f0 _ (by have := hb.size; go_grown)).mono ?_
      rintro e w1 ⟨rfl, b1⟩
      have hb1 : Below w.heap.size w w1 := bnext hb b1 (Nat.le_refl _)
      clear hc0 b1
      by_cases hp : p f0 = true
      · go_wp2_with fail
        go_roundw
        case rel => exact ⟨k + 1, by omega, by go_num, all_next Hx.out Ha.out hp, hb1⟩
        case measure => simp [intOf]; omega
      · go_wp2_with fail
        go_ret
        exact ⟨ret_bool (by rw [all_stop Hx.out (by simpa using hp)]), hb1⟩
    · go_wp2_with fail
      go_ret
      exact ⟨ret_bool (by rw [all_done hlen.out (by omega) Ha.out]), hb⟩
def markInt64 (q : Int) : Int := (q)
/-- What the laws write into a slice. -/
def marksInt64 (k : Int) (n : Nat) : List (Int) := (List.range n).map fun j : Nat => markInt64 (k + j)
theorem marksInt64_len (k : Int) (n : Nat) : (marksInt64 k n).length = n := by simp [marksInt64]
theorem marksInt64_get (k : Int) {n j : Nat} (h : j < n) : (marksInt64 k n)[j]? = some (markInt64 (k + j)) := eq_marks h
end Go.Proofs.YtbbnjddgioaoeaaDoor
