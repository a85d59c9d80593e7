/- Hour: how it lies in memory, and the laws' helpers on it. -/
import Derived.Test.YtieomdjcnaaopaaBasic
import Derived.Test.YtieomdjcnaaopaaOpen
namespace Go.Proofs.Ytieomdjcnaaopaa
open Go.ChangeShapes Go.WideShapes Go.RowKit
set_option linter.unusedVariables false

def cHour (x : Int × Bool) : List Value := [.int .i64 x.1, .bool x.2]
abbrev RdHour := Rd 2 cHour
theorem len_cHour (x : Int × Bool) : (cHour x).length = 2 := rfl
theorem getHour {w : World} {a : Option Addr} {n : Nat} {xs : List (Int × Bool)} (h : RdHour w a n xs) {k : Nat} (hk : k < n) :
    ∃ (b o : Nat) (f0 : Int) (f1 : Bool), a = some ⟨b, o, none⟩ ∧ b < w.heap.size ∧ xs[k]? = some (f0, f1) ∧ w.cell? ⟨b, o + k * 2, none⟩ = some (.int .i64 f0) ∧ w.cell? ⟨b, o + k * 2 + 1, none⟩ = some (.bool f1) := by
  obtain ⟨b, o, e, hc⟩ := h.2 (by omega)
  have hl : k < xs.length := by have := h.1; omega
  have hx := List.getElem?_eq_getElem hl
  have h0 := hc k _ hx 0 (.int .i64 xs[k].1) rfl
  have h1 := hc k _ hx 1 (.bool xs[k].2) rfl
  simp only [Nat.add_zero] at h0
  rw [← Nat.add_assoc] at h1
  exact ⟨b, o, xs[k].1, xs[k].2, e, World.block_lt_of_cell? w _ h0, hx, h0, h1⟩
theorem hasnHour {cur : Array Value} {k n : Nat} {xs : List (Int × Bool)} {f0 : Int} {f1 : Bool} (h : Has 2 cHour cur k xs) (hx : xs[k]? = some (f0, f1)) (hs : cur.size = n * 2) (hk : k < n) :
    Has 2 cHour ((cur.setIfInBounds (k * 2) (.int .i64 f0)).setIfInBounds (k * 2 + 1) (.bool f1)) (k + 1) xs := by
  intro i x hi hxi j v hv
  have hj : j < 2 := by have := lt_of_get hv; simpa [cHour] using this
  by_cases hik : i = k
  · subst hik
    rw [hx] at hxi
    obtain rfl := Option.some.inj hxi
    rcases (show j = 0 ∨ j = 1 from by omega) with rfl | rfl
    · simp [cHour] at hv; subst hv
      simp only [Nat.add_zero]
      rw [Array.getElem?_setIfInBounds_ne (by omega), Array.getElem?_setIfInBounds_self_of_lt (by first | omega | (simp; omega))]
    · simp [cHour] at hv; subst hv
      rw [Array.getElem?_setIfInBounds_self_of_lt (by first | omega | (simp; omega))]
  · rw [Array.getElem?_setIfInBounds_ne (by omega), Array.getElem?_setIfInBounds_ne (by omega)]
    exact h i x (by omega) hxi j v hv
theorem infoHour : (Try.prog.info? 119).map (fun i => (i.zero, i.size, i.bytes)) = some (some (.agg #[.int .i64 0, .bool false]), 2, 16) := by kernel_rfl
def OkHour (x : Int × Bool) : Prop := (Lit.int .i64 x.1).wf = true
theorem eqHour_calls (f0 : Int) (f1 : Bool) (g0 : Int) (g1 : Bool) (w : World) :
    Calls Try.prog 106 #[.agg #[.int .i64 f0, .bool f1], .agg #[.int .i64 g0, .bool g1]] w fun e w' => e = .returned (.bool ((f0, f1) == (g0, g1))) ∧ Below w.heap.size w w' := by
  go_enter Try.func106, Try.ntmps106
  go_wp2
  all_goals (go_ret; exact ⟨ret_bool (by simp_all), by go_grown⟩)
set_option maxRecDepth 100000 in
theorem eqHourS_calls (a b : Option Addr) (n m c d : Nat) (xs ys : List (Int × Bool)) (w : World) (ha : RdHour w a n xs) (hb : RdHour w b m ys) (hn : n ≤ 1048576) (hm : m ≤ 1048576) :
    Calls Try.prog 49 #[.slice a n c, .slice b m d] w fun e w' => e = .returned (.bool (xs == ys)) ∧ Below w.heap.size w w' := by
  have hla := ha.len
  have hlb := hb.len
  by_cases hne : n = m
  · subst hne
    have Hla := hd hla
    have Hlb := hd hlb
    clear hla hlb
    go_enter Try.func49, Try.ntmps49
    go_wp2_with fail
    go_loopw [5] (fun i wr => ∃ k : Nat, k ≤ n ∧ i = .int .i64 k ∧ xs.take k = ys.take k ∧ Below w.heap.size w wr) (fun i _ => n - (intOf i).toNat)
    case atStart => exact ⟨0, Nat.zero_le _, rfl, rfl, Below.refl _ _⟩
    case round =>
      obtain ⟨k, hk, rfl, hall, hbl⟩ := hrel
      have Ha := hd hall
      clear hall
      by_cases hlt : k < n
      · obtain ⟨q, o, f0, f1, rfl, hgl, hx, hc0, hc1⟩ := getHour (ha.below hbl) hlt
        obtain ⟨q', o', g0, g1, rfl, hgl', hy, hd0, hd1⟩ := getHour (hb.below hbl) hlt
        have Hx := hd hx
        have Hy := hd hy
        clear hx hy
        go_wp2_with fail
        go_still_tail 8, (by kernel_rfl)
        change wpList _ _ _ _ _ wr.drew
        have hbd : Below w.heap.size w wr.drew := hbl.drew
        generalize wr.drew = w1 at hbd ⊢
        go_wp2_with fail
        refine (eqHour_calls _ _ _ _ _).mono ?_
        rintro e w2 ⟨rfl, b2⟩
        have hb2 := bnext hbd b2 (Nat.le_refl _)
        clear hc0 hc1 hd0 hd1
        by_cases hp : ((f0, f1) == (g0, g1)) = true
        · go_wp2_with fail
          go_roundw
          case rel => exact ⟨k + 1, by omega, by go_num, take_eq_next Hx.out Hy.out Ha.out (by simpa using hp), hb2⟩
          case measure => simp [intOf]; omega
        · go_wp2_with fail
          go_ret
          exact ⟨ret_bool (by rw [beq_stop Hx.out Hy.out (by simpa using hp)]), hb2⟩
      · go_wp2_with fail
        go_ret
        exact ⟨ret_bool (by rw [beq_done Hla.out Hlb.out (by omega) Ha.out]), hbl⟩
  · go_enter Try.func49, Try.ntmps49
    go_wp2_with fail
    go_ret
    exact ⟨ret_bool (by rw [beq_len (by omega)]), Below.refl _ _⟩
/-- 'all' over a slice, at whatever function value that answers p and leaves old memory alone. -/
theorem allHour_calls (f : Nat) (caps : Array Value) (p : Int × Bool → Bool) (a : Option Addr) (n c : Nat) (xs : List (Int × Bool)) (w : World) (hr : RdHour w a n xs) (hn : n ≤ 9223372036854775807)
    (hf : ∀ args w, (callFunc f args).run Try.prog w = .ok (.enter f args) w)
    (H : ∀ f0 f1 W, Below w.heap.size w W → Calls Try.prog f (#[.agg #[.int .i64 f0, .bool f1]] ++ caps) W fun e w' => e = .returned (.bool (p (f0, f1))) ∧ Below W.heap.size W w') :
    Calls Try.prog 126 #[.slice a n c, .func (.func f) #[] caps] w fun e w' => e = .returned (.bool (xs.all p)) ∧ Below w.heap.size w w' := by
  have hlen := hd hr.len
  go_enter Try.func126, Try.ntmps126
  go_wp2_with fail
  go_loopw [9] (fun i wr => ∃ k : Nat, k ≤ n ∧ i = .int .i64 k ∧ (xs.take k).all p = true ∧ Below w.heap.size w wr) (fun i _ => n - (intOf i).toNat)
  case atStart => exact ⟨0, Nat.zero_le _, rfl, rfl, Below.refl _ _⟩
  case round =>
    obtain ⟨k, hk, rfl, hall, hb⟩ := hrel
    have Ha := hd hall
    clear hall
    by_cases hlt : k < n
    · obtain ⟨b, o, f0, f1, rfl, hbl, hx, hc0, hc1⟩ := getHour (hr.below hb) hlt
      have Hx := hd hx
      clear hx
      go_wp2_with fail
      refine (H f0 f1 _ (by have := hb.size; go_grown)).mono ?_
      rintro e w1 ⟨rfl, b1⟩
      have hb1 : Below w.heap.size w w1 := bnext (hb.alloc hb.size _) b1 (by simp)
      clear hc0 hc1 b1
      by_cases hp : p (f0, f1) = true
      · go_wp2_with fail
        go_roundw
        case rel => exact ⟨k + 1, by omega, by go_num, all_next Hx.out Ha.out hp, hb1⟩
        case measure => simp [intOf]; omega
      · go_wp2_with fail
        go_ret
        exact ⟨ret_bool (by rw [all_stop Hx.out (by simpa using hp)]), hb1⟩
    · go_wp2_with fail
      go_ret
      exact ⟨ret_bool (by rw [all_done hlen.out (by omega) Ha.out]), hb⟩
def markHour (q : Int) : Int × Bool := (q, m3 (q + 1))
/-- What the laws write into a slice. -/
def marksHour (k : Int) (n : Nat) : List (Int × Bool) := (List.range n).map fun j : Nat => markHour (k + 2 * j)
theorem marksHour_len (k : Int) (n : Nat) : (marksHour k n).length = n := by simp [marksHour]
theorem marksHour_get (k : Int) {n j : Nat} (h : j < n) : (marksHour k n)[j]? = some (markHour (k + 2 * j)) := eq_marks h
theorem markHourS_calls (A : Option Addr) (n c : Nat) (xs : List (Int × Bool)) (k : Int) (w : World) (L U : Nat) (h : Own 2 cHour 119 w L U A n c xs) (hn : n ≤ 1048576) (hk0 : 0 ≤ k) (hk1 : k ≤ 100000000) :
    Calls Try.prog 50 #[.slice A n c, .int .i64 k] w fun e w' => e = .returned (.int .i64 (k + 2 * n)) ∧ Own 2 cHour 119 w' L U A n c (marksHour k n) ∧ w.grownBy w' (A.map (·.block)) := by
  by_cases h0 : n = 0
  · subst h0
    have e0 : (k + 2 * ((0 : Nat) : Int)) = k := by simp
    have hx0 : xs = [] := List.eq_nil_of_length_eq_zero h.len
    subst hx0
    have hm0 : marksHour k 0 = [] := rfl
    rw [e0, hm0]
    clear e0 hm0
    go_enter Try.func50, Try.ntmps50
    go_wp2_with fail
    go_loopw [1, 5] (fun kv i wr => kv = .int .i64 k ∧ i = .int .i64 0 ∧ w = wr) (fun _ i _ => 0 - (intOf i).toNat)
    case atStart => exact ⟨rfl, rfl, rfl⟩
    case round =>
      obtain ⟨rfl, rfl, rfl⟩ := hrel
      go_wp2_with fail
      go_ret
      exact ⟨rfl, h, only_refl _ _⟩
  · obtain ⟨g, cur0, rfl, hL, hg0, hs0, hc, hcm, _⟩ := own_block len_cHour h.2.1 (by omega)
    have HU := hd (h.2.2 _ rfl)
    clear h
    go_enter Try.func50, Try.ntmps50
    go_wp2_with fail
    go_loopw [1, 5] (fun kv i wr => ∃ j : Nat, j ≤ n ∧ kv = .int .i64 (k + 2 * j) ∧ i = .int .i64 j ∧ ∃ cur, wr.heap[g]? = some (.cells cur 119 (0, 0)) ∧ cur.size = c * 2 ∧ Has 2 cHour cur j (marksHour k n) ∧ w.grownBy wr (some g)) (fun _ i _ => n - (intOf i).toNat)
    case atStart => exact ⟨0, Nat.zero_le _, by simp, rfl, cur0, hg0, hs0, Has.zero _ _, only_refl _ _⟩
    case round =>
      obtain ⟨j, hj, rfl, rfl, cur, hg, hs, hhas, hbl⟩ := hrel
      have Hg := hd hg
      have Hs := hd hs
      have Hh := hd hhas
      have hgl := blk_lt hg
      clear hg hs hhas hg0 hs0
      by_cases hlt : j < n
      · have hlc : j < c := by omega
        have Hm := hd (marksHour_get k hlt)
        have hq0 : 0 ≤ k + 2 * (j : Int) := by omega
        have hq1 : k + 2 * (j : Int) ≤ 200000000 := by omega
        obtain ⟨q, hq⟩ : ∃ q : Int, q = k + 2 * (j : Int) := ⟨_, rfl⟩
        rw [← hq] at Hm hq0 hq1 ⊢
        have Hq := hd hq
        clear hq
        obtain ⟨v0, hv0⟩ := get_of_lt (cur := cur) (i := j * 2) (by rw [Hs.out]; omega)
        obtain ⟨v1, hv1⟩ := get_of_lt (cur := cur) (i := j * 2 + 1) (by rw [Hs.out]; omega)
        have d0 := (blk_cell Hg.out (j * 2)).trans hv0
        have d1 := (blk_cell Hg.out (j * 2 + 1)).trans hv1
        have z0 := blk_free Hg.out (j * 2)
        have z1 := blk_free Hg.out (j * 2 + 1)
        clear hv0 hv1
        go_wp2_with fail
        go_roundw
        case rel => exact ⟨j + 1, by omega, by have := Hq.out; go_num, by go_num, _, (blk_set (blk_set Hg.out _ _) _ _), by simp [Hs.out], hasnHour Hh.out Hm.out Hs.out hlc, (only_set (only_set hbl _ _) _ _)⟩
        case measure => simp [intOf]; omega
      · go_wp2_with fail
        go_ret
        obtain rfl : j = n := by omega
        exact ⟨rfl, ⟨marksHour_len _ _, own_of_has len_cHour hL Hg.out Hs.out hc hcm (marksHour_len _ _) Hh.out, fun a ha => by obtain rfl := Option.some.inj ha; exact HU.out⟩, hbl⟩
theorem heldHourS_calls (A : Option Addr) (n c : Nat) (k : Int) (w : World) (h : RdHour w A n (marksHour k n)) (hn : n ≤ 1048576) (hk0 : 0 ≤ k) (hk1 : k ≤ 100000000) :
    Calls Try.prog 51 #[.slice A n c, .int .i64 k] w fun e w' => e = .returned (.int .i64 (k + 2 * n)) ∧ Below w.heap.size w w' := by
  go_enter Try.func51, Try.ntmps51
  go_wp2_with fail
  go_loopw [1, 5] (fun kv i wr => ∃ j : Nat, j ≤ n ∧ kv = .int .i64 (k + 2 * j) ∧ i = .int .i64 j ∧ Below w.heap.size w wr) (fun _ i _ => n - (intOf i).toNat)
  case atStart => exact ⟨0, Nat.zero_le _, by simp, rfl, Below.refl _ _⟩
  case round =>
    obtain ⟨j, hj, rfl, rfl, hbl⟩ := hrel
    by_cases hlt : j < n
    · obtain ⟨b, o, f0, f1, rfl, hbl', hx, hc0, hc1⟩ := getHour (h.below hbl) hlt
      rw [marksHour_get k hlt] at hx
      have hq0 : 0 ≤ k + 2 * (j : Int) := by omega
      have hq1 : k + 2 * (j : Int) ≤ 200000000 := by omega
      obtain ⟨q, hq⟩ : ∃ q : Int, q = k + 2 * (j : Int) := ⟨_, rfl⟩
      rw [← hq] at hx hq0 hq1 ⊢
      have Hq := hd hq
      clear hq
      simp only [markHour, m3, Option.some.injEq, Prod.mk.injEq] at hx
      obtain ⟨rfl, rfl⟩ := hx
      go_wp2_with fail
      go_roundw
      case rel => exact ⟨j + 1, by omega, by have := Hq.out; go_num, by go_num, hbl⟩
      case measure => simp [intOf]; omega
    · go_wp2_with fail
      go_ret
      obtain rfl : j = n := by omega
      exact ⟨rfl, hbl⟩
end Go.Proofs.Ytieomdjcnaaopaa
