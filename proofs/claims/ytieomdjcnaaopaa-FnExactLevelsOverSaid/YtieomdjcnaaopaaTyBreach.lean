/- Breach: how it lies in memory, and the laws' helpers on it. -/
import Derived.Test.YtieomdjcnaaopaaBasic
import Derived.Test.YtieomdjcnaaopaaOpen
namespace Go.Proofs.Ytieomdjcnaaopaa
open Go.ChangeShapes Go.WideShapes Go.RowKit
set_option linter.unusedVariables false

def cBreach (x : Int × Int × Int) : List Value := [.int .i64 x.1, .int .i64 x.2.1, .int .i64 x.2.2]
abbrev RdBreach := Rd 3 cBreach
theorem len_cBreach (x : Int × Int × Int) : (cBreach x).length = 3 := rfl
theorem getBreach {w : World} {a : Option Addr} {n : Nat} {xs : List (Int × Int × Int)} (h : RdBreach w a n xs) {k : Nat} (hk : k < n) :
    ∃ (b o : Nat) (f0 : Int) (f1 : Int) (f2 : Int), a = some ⟨b, o, none⟩ ∧ b < w.heap.size ∧ xs[k]? = some (f0, f1, f2) ∧ w.cell? ⟨b, o + k * 3, none⟩ = some (.int .i64 f0) ∧ w.cell? ⟨b, o + k * 3 + 1, none⟩ = some (.int .i64 f1) ∧ w.cell? ⟨b, o + k * 3 + 2, none⟩ = some (.int .i64 f2) := by
  obtain ⟨b, o, e, hc⟩ := h.2 (by omega)
  have hl : k < xs.length := by have := h.1; omega
  have hx := List.getElem?_eq_getElem hl
  have h0 := hc k _ hx 0 (.int .i64 xs[k].1) rfl
  have h1 := hc k _ hx 1 (.int .i64 xs[k].2.1) rfl
  have h2 := hc k _ hx 2 (.int .i64 xs[k].2.2) rfl
  simp only [Nat.add_zero] at h0
  rw [← Nat.add_assoc] at h1
  rw [← Nat.add_assoc] at h2
  exact ⟨b, o, xs[k].1, xs[k].2.1, xs[k].2.2, e, World.block_lt_of_cell? w _ h0, hx, h0, h1, h2⟩
theorem hasnBreach {cur : Array Value} {k n : Nat} {xs : List (Int × Int × Int)} {f0 : Int} {f1 : Int} {f2 : Int} (h : Has 3 cBreach cur k xs) (hx : xs[k]? = some (f0, f1, f2)) (hs : cur.size = n * 3) (hk : k < n) :
    Has 3 cBreach (((cur.setIfInBounds (k * 3) (.int .i64 f0)).setIfInBounds (k * 3 + 1) (.int .i64 f1)).setIfInBounds (k * 3 + 2) (.int .i64 f2)) (k + 1) xs := by
  intro i x hi hxi j v hv
  have hj : j < 3 := by have := lt_of_get hv; simpa [cBreach] using this
  by_cases hik : i = k
  · subst hik
    rw [hx] at hxi
    obtain rfl := Option.some.inj hxi
    rcases (show j = 0 ∨ j = 1 ∨ j = 2 from by omega) with rfl | rfl | rfl
    · simp [cBreach] at hv; subst hv
      simp only [Nat.add_zero]
      rw [Array.getElem?_setIfInBounds_ne (by omega), Array.getElem?_setIfInBounds_ne (by omega), Array.getElem?_setIfInBounds_self_of_lt (by first | omega | (simp; omega))]
    · simp [cBreach] at hv; subst hv
      rw [Array.getElem?_setIfInBounds_ne (by omega), Array.getElem?_setIfInBounds_self_of_lt (by first | omega | (simp; omega))]
    · simp [cBreach] at hv; subst hv
      rw [Array.getElem?_setIfInBounds_self_of_lt (by first | omega | (simp; omega))]
  · rw [Array.getElem?_setIfInBounds_ne (by omega), Array.getElem?_setIfInBounds_ne (by omega), Array.getElem?_setIfInBounds_ne (by omega)]
    exact h i x (by omega) hxi j v hv
theorem infoBreach : (Try.prog.info? 32).map (fun i => (i.zero, i.size, i.bytes)) = some (some (.agg #[.int .i64 0, .int .i64 0, .int .i64 0]), 3, 24) := by kernel_rfl
def OkBreach (x : Int × Int × Int) : Prop := (Lit.int .i64 x.1).wf = true ∧ (Lit.int .i64 x.2.1).wf = true ∧ (Lit.int .i64 x.2.2).wf = true
theorem el_Breach {H : Type} {enc : TypeId × Value → H} {w : World} {base : Nat} {spare : Nat → Bool} {held : Bool} :
    ∀ (n : Nat) (cs' : List Value) (y : DataW H × List MemPlace), DataW.trod enc Try.prog w base spare held n 26 cs' = some y → ∃ z, cBreach z = cs' ∧ OkBreach z := by
  intro n cs' y h
  obtain ⟨hl, hf⟩ := struct_cells Try.underlying26 (by kernel_rfl) (by kernel_rfl) h
  obtain ⟨u0, u1, u2, rfl⟩ := len3 hl
  obtain ⟨_, _, t0⟩ := hf 0 _ rfl
  obtain ⟨f0, rfl, w0⟩ := trod_int_cell Try.underlying2 t0
  obtain ⟨_, _, t1⟩ := hf 1 _ rfl
  obtain ⟨f1, rfl, w1⟩ := trod_int_cell Try.underlying2 t1
  obtain ⟨_, _, t2⟩ := hf 2 _ rfl
  obtain ⟨f2, rfl, w2⟩ := trod_int_cell Try.underlying2 t2
  exact ⟨(f0, f1, f2), rfl, w0, w1, w2⟩
theorem toBreach_calls (f0 : Int) (f1 : Int) (f2 : Int) (w : World) :
    Calls Try.prog 19 #[.agg #[.int .i64 f0, .int .i64 f1, .int .i64 f2]] w fun e w' => e = .returned (.agg #[.int .i64 f0, .int .i64 f1, .int .i64 f2]) ∧ Below w.heap.size w w' := by
  go_enter Try.func19, Try.ntmps19
  go_wp2
  go_returns
  exact ⟨rfl, by go_grown⟩
theorem eqBreach_calls (f0 : Int) (f1 : Int) (f2 : Int) (g0 : Int) (g1 : Int) (g2 : Int) (w : World) :
    Calls Try.prog 33 #[.agg #[.int .i64 f0, .int .i64 f1, .int .i64 f2], .agg #[.int .i64 g0, .int .i64 g1, .int .i64 g2]] w fun e w' => e = .returned (.bool ((f0, f1, f2) == (g0, g1, g2))) ∧ Below w.heap.size w w' := by
  go_enter Try.func33, Try.ntmps33
  go_wp2
  all_goals (go_ret; exact ⟨ret_bool (by simp_all), by go_grown⟩)
set_option maxRecDepth 100000 in
theorem eqBreachS_calls (a b : Option Addr) (n m c d : Nat) (xs ys : List (Int × Int × Int)) (w : World) (ha : RdBreach w a n xs) (hb : RdBreach w b m ys) (hn : n ≤ 1048576) (hm : m ≤ 1048576) :
    Calls Try.prog 63 #[.slice a n c, .slice b m d] w fun e w' => e = .returned (.bool (xs == ys)) ∧ Below w.heap.size w w' := by
  have hla := ha.len
  have hlb := hb.len
  by_cases hne : n = m
  · subst hne
    have Hla := hd hla
    have Hlb := hd hlb
    clear hla hlb
    go_enter Try.func63, Try.ntmps63
    go_wp2_with fail
    go_loopw [5] (fun i wr => ∃ k : Nat, k ≤ n ∧ i = .int .i64 k ∧ xs.take k = ys.take k ∧ Below w.heap.size w wr) (fun i _ => n - (intOf i).toNat)
    case atStart => exact ⟨0, Nat.zero_le _, rfl, rfl, Below.refl _ _⟩
    case round =>
      obtain ⟨k, hk, rfl, hall, hbl⟩ := hrel
      have Ha := hd hall
      clear hall
      by_cases hlt : k < n
      · obtain ⟨q, o, f0, f1, f2, rfl, hgl, hx, hc0, hc1, hc2⟩ := getBreach (ha.below hbl) hlt
        obtain ⟨q', o', g0, g1, g2, rfl, hgl', hy, hd0, hd1, hd2⟩ := getBreach (hb.below hbl) hlt
        have Hx := hd hx
        have Hy := hd hy
        clear hx hy
        go_wp2_with fail
        go_still_tail 8, (by kernel_rfl)
        change wpList _ _ _ _ _ wr.drew
        have hbd : Below w.heap.size w wr.drew := hbl.drew
        generalize wr.drew = w1 at hbd ⊢
        go_wp2_with fail
        refine (eqBreach_calls _ _ _ _ _ _ _).mono ?_
        rintro e w2 ⟨rfl, b2⟩
        have hb2 := bnext hbd b2 (Nat.le_refl _)
        clear hc0 hc1 hc2 hd0 hd1 hd2
        by_cases hp : ((f0, f1, f2) == (g0, g1, g2)) = true
        · go_wp2_with fail
          go_roundw
          case rel => exact ⟨k + 1, by omega, by go_num, take_eq_next Hx.out Hy.out Ha.out (by simpa using hp), hb2⟩
          case measure => simp [intOf]; omega
        · go_wp2_with fail
          go_ret
          exact ⟨ret_bool (by rw [beq_stop Hx.out Hy.out (by simpa using hp)]), hb2⟩
      · go_wp2_with fail
        go_ret
        exact ⟨ret_bool (by rw [beq_done Hla.out Hlb.out (by omega) Ha.out]), hbl⟩
  · go_enter Try.func63, Try.ntmps63
    go_wp2_with fail
    go_ret
    exact ⟨ret_bool (by rw [beq_len (by omega)]), Below.refl _ _⟩
def markBreach (q : Int) : Int × Int × Int := (q, q + 1, q + 1 + 1)
/-- What the laws write into a slice. -/
def marksBreach (k : Int) (n : Nat) : List (Int × Int × Int) := (List.range n).map fun j : Nat => markBreach (k + 3 * j)
theorem marksBreach_len (k : Int) (n : Nat) : (marksBreach k n).length = n := by simp [marksBreach]
theorem marksBreach_get (k : Int) {n j : Nat} (h : j < n) : (marksBreach k n)[j]? = some (markBreach (k + 3 * j)) := eq_marks h
theorem markBreachS_calls (A : Option Addr) (n c : Nat) (xs : List (Int × Int × Int)) (k : Int) (w : World) (L U : Nat) (h : Own 3 cBreach 32 w L U A n c xs) (hn : n ≤ 1048576) (hk0 : 0 ≤ k) (hk1 : k ≤ 100000000) :
    Calls Try.prog 64 #[.slice A n c, .int .i64 k] w fun e w' => e = .returned (.int .i64 (k + 3 * n)) ∧ Own 3 cBreach 32 w' L U A n c (marksBreach k n) ∧ w.grownBy w' (A.map (·.block)) := by
  by_cases h0 : n = 0
  · subst h0
    have e0 : (k + 3 * ((0 : Nat) : Int)) = k := by simp
    have hx0 : xs = [] := List.eq_nil_of_length_eq_zero h.len
    subst hx0
    have hm0 : marksBreach k 0 = [] := rfl
    rw [e0, hm0]
    clear e0 hm0
    go_enter Try.func64, Try.ntmps64
    go_wp2_with fail
    go_loopw [1, 5] (fun kv i wr => kv = .int .i64 k ∧ i = .int .i64 0 ∧ w = wr) (fun _ i _ => 0 - (intOf i).toNat)
    case atStart => exact ⟨rfl, rfl, rfl⟩
    case round =>
      obtain ⟨rfl, rfl, rfl⟩ := hrel
      go_wp2_with fail
      go_ret
      exact ⟨rfl, h, only_refl _ _⟩
  · obtain ⟨g, cur0, rfl, hL, hg0, hs0, hc, hcm, _⟩ := own_block len_cBreach h.2.1 (by omega)
    have HU := hd (h.2.2 _ rfl)
    clear h
    go_enter Try.func64, Try.ntmps64
    go_wp2_with fail
    go_loopw [1, 5] (fun kv i wr => ∃ j : Nat, j ≤ n ∧ kv = .int .i64 (k + 3 * j) ∧ i = .int .i64 j ∧ ∃ cur, wr.heap[g]? = some (.cells cur 32 (0, 0)) ∧ cur.size = c * 3 ∧ Has 3 cBreach cur j (marksBreach k n) ∧ w.grownBy wr (some g)) (fun _ i _ => n - (intOf i).toNat)
    case atStart => exact ⟨0, Nat.zero_le _, by simp, rfl, cur0, hg0, hs0, Has.zero _ _, only_refl _ _⟩
    case round =>
      obtain ⟨j, hj, rfl, rfl, cur, hg, hs, hhas, hbl⟩ := hrel
      have Hg := hd hg
      have Hs := hd hs
      have Hh := hd hhas
      have hgl := blk_lt hg
      clear hg hs hhas hg0 hs0
      by_cases hlt : j < n
      · have hlc : j < c := by omega
        have Hm := hd (marksBreach_get k hlt)
        have hq0 : 0 ≤ k + 3 * (j : Int) := by omega
        have hq1 : k + 3 * (j : Int) ≤ 200000000 := by omega
        obtain ⟨q, hq⟩ : ∃ q : Int, q = k + 3 * (j : Int) := ⟨_, rfl⟩
        rw [← hq] at Hm hq0 hq1 ⊢
        have Hq := hd hq
        clear hq
        obtain ⟨v0, hv0⟩ := get_of_lt (cur := cur) (i := j * 3) (by rw [Hs.out]; omega)
        obtain ⟨v1, hv1⟩ := get_of_lt (cur := cur) (i := j * 3 + 1) (by rw [Hs.out]; omega)
        obtain ⟨v2, hv2⟩ := get_of_lt (cur := cur) (i := j * 3 + 2) (by rw [Hs.out]; omega)
        have d0 := (blk_cell Hg.out (j * 3)).trans hv0
        have d1 := (blk_cell Hg.out (j * 3 + 1)).trans hv1
        have d2 := (blk_cell Hg.out (j * 3 + 2)).trans hv2
        have z0 := blk_free Hg.out (j * 3)
        have z1 := blk_free Hg.out (j * 3 + 1)
        have z2 := blk_free Hg.out (j * 3 + 2)
        clear hv0 hv1 hv2
        go_wp2_with fail
        go_roundw
        case rel => exact ⟨j + 1, by omega, by have := Hq.out; go_num, by go_num, _, (blk_set (blk_set (blk_set Hg.out _ _) _ _) _ _), by simp [Hs.out], hasnBreach Hh.out Hm.out Hs.out hlc, (only_set (only_set (only_set hbl _ _) _ _) _ _)⟩
        case measure => simp [intOf]; omega
      · go_wp2_with fail
        go_ret
        obtain rfl : j = n := by omega
        exact ⟨rfl, ⟨marksBreach_len _ _, own_of_has len_cBreach hL Hg.out Hs.out hc hcm (marksBreach_len _ _) Hh.out, fun a ha => by obtain rfl := Option.some.inj ha; exact HU.out⟩, hbl⟩
theorem heldBreachS_calls (A : Option Addr) (n c : Nat) (k : Int) (w : World) (h : RdBreach w A n (marksBreach k n)) (hn : n ≤ 1048576) (hk0 : 0 ≤ k) (hk1 : k ≤ 100000000) :
    Calls Try.prog 65 #[.slice A n c, .int .i64 k] w fun e w' => e = .returned (.int .i64 (k + 3 * n)) ∧ Below w.heap.size w w' := by
  go_enter Try.func65, Try.ntmps65
  go_wp2_with fail
  go_loopw [1, 5] (fun kv i wr => ∃ j : Nat, j ≤ n ∧ kv = .int .i64 (k + 3 * j) ∧ i = .int .i64 j ∧ Below w.heap.size w wr) (fun _ i _ => n - (intOf i).toNat)
  case atStart => exact ⟨0, Nat.zero_le _, by simp, rfl, Below.refl _ _⟩
  case round =>
    obtain ⟨j, hj, rfl, rfl, hbl⟩ := hrel
    by_cases hlt : j < n
    · obtain ⟨b, o, f0, f1, f2, rfl, hbl', hx, hc0, hc1, hc2⟩ := getBreach (h.below hbl) hlt
      rw [marksBreach_get k hlt] at hx
      have hq0 : 0 ≤ k + 3 * (j : Int) := by omega
      have hq1 : k + 3 * (j : Int) ≤ 200000000 := by omega
      obtain ⟨q, hq⟩ : ∃ q : Int, q = k + 3 * (j : Int) := ⟨_, rfl⟩
      rw [← hq] at hx hq0 hq1 ⊢
      have Hq := hd hq
      clear hq
      simp only [markBreach, Option.some.injEq, Prod.mk.injEq] at hx
      obtain ⟨rfl, rfl, rfl⟩ := hx
      go_wp2_with fail
      go_roundw
      case rel => exact ⟨j + 1, by omega, by have := Hq.out; go_num, by go_num, hbl⟩
      case measure => simp [intOf]; omega
    · go_wp2_with fail
      go_ret
      obtain rfl : j = n := by omega
      exact ⟨rfl, hbl⟩
end Go.Proofs.Ytieomdjcnaaopaa
