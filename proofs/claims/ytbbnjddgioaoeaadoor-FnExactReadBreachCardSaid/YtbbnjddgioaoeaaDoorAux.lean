/- Lemmas on worlds and on slices that are read: no program in sight. -/
import Derived.WalkKit
import Derived.Handy
import Derived.Deep.Draws
import Derived.Lib.SmallJoins
import Derived.StillTailTactics
namespace Go.Proofs.YtbbnjddgioaoeaaDoor
open Go.RowKit
set_option linter.unusedVariables false

theorem ret_bool {a b : Bool} (h : a = b) : Ending.returned (.bool a) = .returned (.bool b) := by rw [h]
theorem ret_int {a b : Int} (h : a = b) : Ending.returned (.int .i64 a) = .returned (.int .i64 b) := by rw [h]
theorem ret_ints {a b c d : Int} (h : a = c) (k : b = d) : Ending.returned (.tuple #[.int .i64 a, .int .i64 b]) = .returned (.tuple #[.int .i64 c, .int .i64 d]) := by rw [h, k]

/-- A fact put out of the walk's sight. -/
theorem hd {p : Prop} (h : p) : Hid p := h

/-- What lies below a bound reads as it did. -/
theorem bcell {W w1 : World} {B : Nat} (hb : Below B W w1) : (∀ b o, b < B → w1.cell? ⟨b, o, none⟩ = W.cell? ⟨b, o, none⟩) ∧ (∀ b o, b < B → w1.frozen? ⟨b, o, none⟩ = W.frozen? ⟨b, o, none⟩) :=
  ⟨fun b o h => hb.cell (p := ⟨b, o, none⟩) h, fun b o h => hb.frozen (p := ⟨b, o, none⟩) h⟩
/-- One more callee behind what is known already. -/
theorem bnext {W w1 w2 : World} {B : Nat} (h : Below B W w1) (k : Below w1.heap.size w1 w2) (hB : B ≤ W.heap.size) : Below B W w2 :=
  h.trans (k.mono (Nat.le_trans hB h.size))
theorem bbox1 {w w1 : World} {O : Obj} (h : Below (w.alloc O).heap.size (w.alloc O) w1) : Below w.heap.size w w1 :=
  bnext ((Below.refl _ _).alloc (Nat.le_refl _) O) h (by simp)
theorem bbox2 {w w1 : World} {O O' : Obj} (h : Below ((w.alloc O).alloc O').heap.size ((w.alloc O).alloc O') w1) : Below w.heap.size w w1 := bbox1 (bbox1 h |>.mono (by simp))
theorem bbox3 {w w1 : World} {O O' O'' : Obj} (h : Below (((w.alloc O).alloc O').alloc O'').heap.size (((w.alloc O).alloc O').alloc O'') w1) : Below w.heap.size w w1 := bbox2 (bbox1 h |>.mono (by simp))
theorem bdrew {B : Nat} (w : World) : Below B w w.drew := (Below.refl B w).drew
theorem bdrewN {B : Nat} {a w : World} (h : Below B a w) (n : Nat) : Below B a (w.drewN n) := ⟨h.os, h.tape, h.output, h.size, h.block⟩

/-- The slice with this address, n elements long, reads as the list xs; each element takes sz cells, `cs` says which. -/
def Rd {α : Type} (sz : Nat) (cs : α → List Value) (w : World) (a : Option Addr) (n : Nat) (xs : List α) : Prop :=
  xs.length = n ∧ (0 < n → ∃ b o, a = some ⟨b, o, none⟩ ∧ ∀ i x, xs[i]? = some x → ∀ j v, (cs x)[j]? = some v → w.cell? ⟨b, o + (i * sz + j), none⟩ = some v)

section
variable {α : Type} {sz : Nat} {cs : α → List Value} {w w' : World} {a : Option Addr} {n : Nat} {xs : List α}
theorem Rd.len (h : Rd sz cs w a n xs) : xs.length = n := h.1
theorem Rd.nil_ : Rd sz cs w a 0 ([] : List α) := ⟨rfl, fun h => absurd h (Nat.lt_irrefl 0)⟩
theorem Rd.below (h : Rd sz cs w a n xs) (hb : Below w.heap.size w w') : Rd sz cs w' a n xs :=
  ⟨h.1, fun hn => by
    obtain ⟨b, o, e, hc⟩ := h.2 hn
    refine ⟨b, o, e, fun i x hx j v hv => ?_⟩
    have hold := hc i x hx j v hv
    rw [hb.cell (p := ⟨b, o + (i * sz + j), none⟩) (World.block_lt_of_cell? w _ hold)]
    exact hold⟩
theorem Rd.alloc (h : Rd sz cs w a n xs) (O : Obj) : Rd sz cs (w.alloc O) a n xs := h.below ((Below.refl _ _).alloc (Nat.le_refl _) _)
theorem Rd.drew (h : Rd sz cs w a n xs) : Rd sz cs w.drew a n xs := h.below ((Below.refl _ _).drew)
/-- Where the address is asked for: in a round. -/
theorem Rd.at_ (h : Rd sz cs w a n xs) {k : Nat} (hk : k < n) : ∃ b o x, a = some ⟨b, o, none⟩ ∧ b < w.heap.size ∨ cs x = [] := by
  obtain ⟨b, o, e, hc⟩ := h.2 (by omega)
  have hl : k < xs.length := by have := h.1; omega
  by_cases hcs : cs xs[k] = []
  · exact ⟨b, o, xs[k], .inr hcs⟩
  · have h0 : (cs xs[k])[0]? = some ((cs xs[k]).head hcs) := by rw [List.head_eq_getElem]; exact List.getElem?_eq_getElem _
    exact ⟨b, o, xs[k], .inl ⟨e, World.block_lt_of_cell? w _ (hc k _ (List.getElem?_eq_getElem hl) 0 _ h0)⟩⟩
end

/-- Ints. -/
def ci (z : Int) : List Value := [.int .i64 z]
abbrev RdI := Rd 1 ci
theorem Rd.int {w : World} {a : Option Addr} {n : Nat} {xs : List Int} (h : RdI w a n xs) {k : Nat} (hk : k < n) :
    ∃ b o z, a = some ⟨b, o, none⟩ ∧ b < w.heap.size ∧ xs[k]? = some z ∧ w.cell? ⟨b, o + k, none⟩ = some (.int .i64 z) := by
  obtain ⟨b, o, e, hc⟩ := h.2 (by omega)
  have hl : k < xs.length := by have := h.1; omega
  have hx := List.getElem?_eq_getElem hl
  have := hc k _ hx 0 (.int .i64 xs[k]) rfl
  simp only [Nat.mul_one, Nat.add_zero] at this
  exact ⟨b, o, xs[k], e, World.block_lt_of_cell? w _ this, hx, this⟩

/-- Pairs of an int and a bool (an hour, a past case). -/
def cib (x : Int × Bool) : List Value := [.int .i64 x.1, .bool x.2]
abbrev RdIB := Rd 2 cib
theorem Rd.ib {w : World} {a : Option Addr} {n : Nat} {xs : List (Int × Bool)} (h : RdIB w a n xs) {k : Nat} (hk : k < n) :
    ∃ b o z r, a = some ⟨b, o, none⟩ ∧ b < w.heap.size ∧ xs[k]? = some (z, r) ∧ w.cell? ⟨b, o + k * 2, none⟩ = some (.int .i64 z) ∧ w.cell? ⟨b, o + k * 2 + 1, none⟩ = some (.bool r) := by
  obtain ⟨b, o, e, hc⟩ := h.2 (by omega)
  have hl : k < xs.length := by have := h.1; omega
  have hx := List.getElem?_eq_getElem hl
  have h0 := hc k _ hx 0 (.int .i64 xs[k].1) rfl
  have h1 := hc k _ hx 1 (.bool xs[k].2) rfl
  simp only [Nat.add_zero] at h0
  exact ⟨b, o, xs[k].1, xs[k].2, e, World.block_lt_of_cell? w _ h0, hx, h0, by rw [Nat.add_assoc]; exact h1⟩

/-! Lists. -/
theorem take_next {α : Type} {xs : List α} {k : Nat} {x : α} (h : xs[k]? = some x) : xs.take (k + 1) = xs.take k ++ [x] := by
  rw [List.take_add_one, h]; rfl
theorem lt_of_get {α : Type} {xs : List α} {k : Nat} {x : α} (h : xs[k]? = some x) : k < xs.length := (List.getElem?_eq_some_iff.1 h).1
theorem all_next {α : Type} {xs : List α} {k : Nat} {x : α} {p : α → Bool} (h : xs[k]? = some x) (ht : (xs.take k).all p = true) (hp : p x = true) : (xs.take (k + 1)).all p = true := by
  rw [take_next h, List.all_append, ht]; simp [hp]
theorem all_stop {α : Type} {xs : List α} {k : Nat} {x : α} {p : α → Bool} (h : xs[k]? = some x) (hp : p x = false) : xs.all p = false :=
  List.all_eq_false.2 ⟨x, List.mem_of_getElem? h, by simp [hp]⟩
theorem all_done {α : Type} {xs : List α} {k n : Nat} {p : α → Bool} (hn : xs.length = n) (hk : n ≤ k) (ht : (xs.take k).all p = true) : xs.all p = true := by
  rwa [List.take_of_length_le (by omega)] at ht
theorem take_eq_next {α : Type} {xs ys : List α} {k : Nat} {x y : α} (hx : xs[k]? = some x) (hy : ys[k]? = some y) (h : xs.take k = ys.take k) (e : x = y) : xs.take (k + 1) = ys.take (k + 1) := by
  rw [take_next hx, take_next hy, h, e]
section
variable {α : Type} [BEq α] [LawfulBEq α] {xs ys : List α} {k n m : Nat} {x y : α}
theorem beq_stop (hx : xs[k]? = some x) (hy : ys[k]? = some y) (e : ¬ x = y) : (xs == ys) = false := by
  rw [beq_eq_false_iff_ne]
  intro h
  rw [h, hy] at hx
  exact e (Option.some.inj hx).symm
theorem beq_done (hx : xs.length = n) (hy : ys.length = n) (hk : n ≤ k) (h : xs.take k = ys.take k) : (xs == ys) = true := by
  rw [List.take_of_length_le (by omega), List.take_of_length_le (by omega)] at h
  rw [h]; exact beq_self_eq_true _
theorem beq_len (h : xs.length ≠ ys.length) : (xs == ys) = false := by
  rw [beq_eq_false_iff_ne]
  intro e
  exact h (by rw [e])
end

/-! Rows that the call itself made: cells of structs, one element behind the other. -/
section
variable {α : Type} {sz : Nat} {cs : α → List Value}
theorem flat_len (hcs : ∀ x, (cs x).length = sz) (xs : List α) : (xs.flatMap cs).length = xs.length * sz := by
  induction xs with
  | nil => simp
  | cons x xs ih => rw [List.flatMap_cons, List.length_append, ih, hcs, List.length_cons, Nat.succ_mul, Nat.add_comm]
theorem flat_get (hcs : ∀ x, (cs x).length = sz) {xs : List α} {i j : Nat} {x : α} {v : Value} (hx : xs[i]? = some x) (hv : (cs x)[j]? = some v) : (xs.flatMap cs)[i * sz + j]? = some v := by
  induction xs generalizing i with
  | nil => simp at hx
  | cons y ys ih =>
    rw [List.flatMap_cons]
    cases i with
    | zero =>
      simp at hx; subst hx
      rw [Nat.zero_mul, Nat.zero_add, List.getElem?_append_left (lt_of_get hv)]
      exact hv
    | succ i =>
      have hx' : ys[i]? = some x := by simpa using hx
      rw [List.getElem?_append_right (by rw [hcs, Nat.succ_mul]; omega), hcs, show (i + 1) * sz + j - sz = i * sz + j from by rw [Nat.succ_mul]; omega]
      exact ih hx'
theorem mul_add_lt {i n j sz : Nat} (h : i < n) (hj : j < sz) : i * sz + j < n * sz := by
  have : (i + 1) * sz ≤ n * sz := Nat.mul_le_mul_right _ h
  rw [Nat.succ_mul] at this
  omega

/-- The first k elements lie in these cells. -/
def Has (sz : Nat) (cs : α → List Value) (cur : Array Value) (k : Nat) (xs : List α) : Prop :=
  ∀ i x, i < k → xs[i]? = some x → ∀ j v, (cs x)[j]? = some v → cur[i * sz + j]? = some v
theorem Has.zero (cur : Array Value) (xs : List α) : Has sz cs cur 0 xs := fun _ _ h => absurd h (Nat.not_lt_zero _)
theorem Has.flat (hcs : ∀ x, (cs x).length = sz) {cur : Array Value} {n : Nat} {xs : List α} (hn : xs.length = n) (h : Has sz cs cur n xs) : cur.toList.take (n * sz) = xs.flatMap cs := by
  by_cases hz : sz = 0
  · subst hz
    rw [Nat.mul_zero, List.take_zero]
    exact (List.eq_nil_of_length_eq_zero (by rw [flat_len hcs, Nat.mul_zero])).symm
  · have hpt : ∀ q, q < n * sz → ∃ v, cur[q]? = some v ∧ (xs.flatMap cs)[q]? = some v := by
      intro q hq
      have hdiv : q / sz < n := (Nat.div_lt_iff_lt_mul (Nat.pos_of_ne_zero hz)).2 hq
      have hmod : q % sz < sz := Nat.mod_lt _ (Nat.pos_of_ne_zero hz)
      have hl : q / sz < xs.length := by omega
      have hx := List.getElem?_eq_getElem hl
      have hj : q % sz < (cs xs[q / sz]).length := by rw [hcs]; exact hmod
      have hv := List.getElem?_eq_getElem hj
      have e : q / sz * sz + q % sz = q := by rw [Nat.mul_comm]; exact Nat.div_add_mod q sz
      have h1 := h _ _ hdiv hx _ _ hv
      have h2 := flat_get hcs hx hv
      rw [e] at h1 h2
      exact ⟨_, h1, h2⟩
    apply List.ext_getElem?
    intro q
    rw [List.getElem?_take]
    by_cases hq : q < n * sz
    · obtain ⟨v, h1, h2⟩ := hpt q hq
      rw [if_pos hq, h2, Array.getElem?_toList, h1]
    · rw [if_neg hq, List.getElem?_eq_none (by rw [flat_len hcs, hn]; omega)]
theorem Rd.of_own (hcs : ∀ x, (cs x).length = sz) {w : World} {B : Nat} {E : TypeId} {A : Option Addr} {n c : Nat} {xs : List α} (hn : xs.length = n) (h : w.ownsRow B E sz (.slice A n c) n (xs.flatMap cs)) : Rd sz cs w A n xs := by
  refine ⟨hn, fun hp => ?_⟩
  rcases h.2 with ⟨_, h0⟩ | ⟨g, cap, cur, hv, _⟩
  · omega
  · have hA : A = some ⟨g, 0, none⟩ := by injection hv
    subst hA
    refine ⟨g, 0, rfl, fun i x hx j v hcv => ?_⟩
    rw [Nat.zero_add, h.cellAt _ (by have := mul_add_lt (by have := lt_of_get hx; omega : i < n) (by have := lt_of_get hcv; rw [hcs] at this; exact this : j < sz); exact this)]
    exact flat_get hcs hx hcv
theorem own_of_has (hcs : ∀ x, (cs x).length = sz) {w : World} {B g : Nat} {E : TypeId} {n c : Nat} {cur : Array Value} {xs : List α} (hB : B ≤ g) (hg : w.heap[g]? = some (.cells cur E (0, 0))) (hs : cur.size = c * sz) (hc : n ≤ c) (hm : c ≤ maxLen)
    (hn : xs.length = n) (h : Has sz cs cur n xs) : w.ownsRow B E sz (.slice (some ⟨g, 0, none⟩) n c) n (xs.flatMap cs) :=
  ⟨by rw [flat_len hcs, hn], .inr ⟨g, c, cur, rfl, hB, hg, hc, hm, hs, h.flat hcs hn⟩⟩
/-- An owned row of at least one element: its block. -/
theorem own_block (hcs : ∀ x, (cs x).length = sz) {w : World} {B : Nat} {E : TypeId} {A : Option Addr} {n c : Nat} {xs : List α} (h : w.ownsRow B E sz (.slice A n c) n (xs.flatMap cs)) (hp : 0 < n) :
    ∃ g cur, A = some ⟨g, 0, none⟩ ∧ B ≤ g ∧ w.heap[g]? = some (.cells cur E (0, 0)) ∧ cur.size = c * sz ∧ n ≤ c ∧ c ≤ maxLen ∧ Has sz cs cur n xs := by
  rcases h.2 with ⟨_, h0⟩ | ⟨g, cap, cur, hv, hB, hg, hc, hm, hs, ht⟩
  · omega
  · injection hv with hA _ hc'
    subst hA; subst hc'
    refine ⟨g, cur, rfl, hB, hg, hs, hc, hm, fun i x hi hx j v hv => ?_⟩
    have := flat_get hcs hx hv
    rw [← ht, List.getElem?_take] at this
    split at this
    · rwa [Array.getElem?_toList] at this
    · cases this
theorem own_head {w : World} {B g : Nat} {E : TypeId} {n c : Nat} {ys : List Value} (h : w.ownsRow B E sz (.slice (some ⟨g, 0, none⟩) n c) n ys) :
    ∃ cur, B ≤ g ∧ w.heap[g]? = some (.cells cur E (0, 0)) ∧ cur.size = c * sz ∧ n ≤ c ∧ c ≤ maxLen ∧ cur.toList.take (n * sz) = ys := by
  rcases h.2 with ⟨h0, _⟩ | ⟨g', cap, cur, hv, hB, hg, hc, hm, hs, ht⟩
  · cases h0
  · simp only [Value.slice.injEq, Option.some.injEq, Addr.mk.injEq, and_true, true_and] at hv
    obtain ⟨rfl, rfl⟩ := hv
    exact ⟨cur, hB, hg, hs, hc, hm, ht⟩
theorem own_le {w : World} {B B' : Nat} {E : TypeId} {v : Value} {n : Nat} {ys : List Value} (h : w.ownsRow B E sz v n ys) (hb : B' ≤ B) : w.ownsRow B' E sz v n ys := Joins.ownsRow_le h hb
/-- What is owned stays owned behind a callee that leaves all old blocks alone. -/
theorem own_below {w w' : World} {B : Nat} {E : TypeId} {v : Value} {n : Nat} {ys : List Value} (h : w.ownsRow B E sz v n ys) (hb : Below w.heap.size w w') : w'.ownsRow B E sz v n ys := by
  refine ⟨h.1, ?_⟩
  rcases h.2 with h2 | ⟨g, cap, cur, hv, hB, hg, rest⟩
  · exact .inl h2
  · exact .inr ⟨g, cap, cur, hv, hB, by rw [hb.block g (Array.getElem?_eq_some_iff.1 hg).1]; exact hg, rest⟩
end
theorem zero_lt_of_lt' {k n : Nat} (h : k < n) : 0 < n := by omega
theorem get_of_lt {cur : Array Value} {i : Nat} (h : i < cur.size) : ∃ v, cur[i]? = some v := ⟨cur[i], Array.getElem?_eq_getElem h⟩
theorem len_ci (z : Int) : (ci z).length = 1 := rfl
theorem len_cib (x : Int × Bool) : (cib x).length = 2 := rfl
theorem blk_lt {w : World} {g : Nat} {O : Obj} (h : w.heap[g]? = some O) : g < w.heap.size := (Array.getElem?_eq_some_iff.1 h).1
theorem blk_below {w w' : World} {g B : Nat} {O : Obj} (h : w.heap[g]? = some O) (hb : Below B w w') (hg : g < B) : w'.heap[g]? = some O := (hb.block g hg).trans h
theorem blk_alloc {w : World} {g : Nat} {O : Obj} (h : w.heap[g]? = some O) (O' : Obj) : (w.alloc O').heap[g]? = some O := (Below.heap_alloc w O' g (blk_lt h)).trans h
theorem blk_cell {w : World} {g : Nat} {cur : Array Value} {E : TypeId} (h : w.heap[g]? = some (.cells cur E (0, 0))) (i : Nat) : w.cell? ⟨g, i, none⟩ = cur[i]? := cell_of_row w g i cur E (0, 0) h
theorem blk_free {w : World} {g : Nat} {cur : Array Value} {E : TypeId} (h : w.heap[g]? = some (.cells cur E (0, 0))) (i : Nat) : w.frozen? ⟨g, i, none⟩ = false := frozen_of_row w g i cur E h
theorem blk_set {w : World} {g : Nat} {cur : Array Value} {E : TypeId} (h : w.heap[g]? = some (.cells cur E (0, 0))) (i : Nat) (v : Value) : (w.setCell ⟨g, i, none⟩ v).heap[g]? = some (.cells (cur.setIfInBounds i v) E (0, 0)) := heap_setCell_same w g i cur E v h

/-! A slice of the call's own: its row lies between two marks on the heap. -/
def Own {α : Type} (sz : Nat) (cs : α → List Value) (E : TypeId) (w : World) (L U : Nat) (A : Option Addr) (n c : Nat) (xs : List α) : Prop :=
  xs.length = n ∧ w.ownsRow L E sz (.slice A n c) n (xs.flatMap cs) ∧ ∀ a, A = some a → a.block < U
section
variable {α : Type} {sz : Nat} {cs : α → List Value} {E : TypeId} {w w' : World} {L U : Nat} {A : Option Addr} {n c : Nat} {xs : List α}
theorem Own.rd (hcs : ∀ x, (cs x).length = sz) (h : Own sz cs E w L U A n c xs) : Rd sz cs w A n xs := Rd.of_own hcs h.1 h.2.1
theorem Own.len (h : Own sz cs E w L U A n c xs) : xs.length = n := h.1
theorem Own.below (h : Own sz cs E w L U A n c xs) (hb : Below w.heap.size w w') : Own sz cs E w' L U A n c xs := ⟨h.1, own_below h.2.1 hb, h.2.2⟩
theorem Own.of (hcs : ∀ x, (cs x).length = sz) {v : Value} {m : Nat} (h : w.ownsRow L E sz v m (xs.flatMap cs)) (hn : xs.length = m) : ∃ A c, v = .slice A m c ∧ Own sz cs E w L w.heap.size A m c xs := by
  rcases h.2 with ⟨rfl, rfl⟩ | ⟨g, cap, cur, rfl, hB, hg, r⟩
  · exact ⟨none, 0, rfl, hn, h, fun a ha => by cases ha⟩
  · exact ⟨_, _, rfl, hn, h, fun a ha => by obtain rfl := Option.some.inj ha; exact blk_lt hg⟩
theorem Own.only {row : Option Nat} (h : Own sz cs E w L U A n c xs) (hg : w.grownBy w' row) (hr : ∀ g, row = some g → g < L ∨ U ≤ g) : Own sz cs E w' L U A n c xs := by
  refine ⟨h.1, World.ownsRow.kept h.2.1 hg ?_, h.2.2⟩
  cases A with
  | none => exact .inl rfl
  | some a =>
    refine .inr fun e => ?_
    have hlo := (World.ownsRow.lt h.2.1 a.block rfl).1
    have hhi := h.2.2 a rfl
    rcases hr a.block e.symm with h1 | h1 <;> omega
theorem Own.row {g : Nat} (h : Own sz cs E w L U A n c xs) (hg : A.map (·.block) = some g) : L ≤ g ∧ g < U := by
  cases A with
  | none => cases hg
  | some a =>
    obtain rfl := Option.some.inj hg
    exact ⟨(World.ownsRow.lt h.2.1 a.block rfl).1, h.2.2 a rfl⟩
end
theorem only_refl (w : World) (row : Option Nat) : w.grownBy w row := ⟨rfl, rfl, rfl, Nat.le_refl _, fun _ _ _ => rfl⟩
theorem only_set {a w : World} {g : Nat} (h : a.grownBy w (some g)) (i : Nat) (u : Value) : a.grownBy (w.setCell ⟨g, i, none⟩ u) (some g) :=
  ⟨h.os, h.tape, h.output, by simpa [World.setCell] using h.size, fun k hk hne => (Below.heap_setCell w ⟨g, i, none⟩ u k (by rintro rfl; exact hne rfl)).trans (h.block k hk hne)⟩
theorem below_only {B : Nat} {a w w' : World} {row : Option Nat} (h : Below B a w) (hg : w.grownBy w' row) (hB : B ≤ a.heap.size) (hr : ∀ g, row = some g → B ≤ g) : Below B a w' :=
  h.grown hg (Nat.le_trans hB h.size) hr
/-- What is left of a budget: -1 where it does not suffice. -/
def SzR (l n r : Int) : Prop := (l < n ∧ r = -1) ∨ (n ≤ l ∧ r = l - n)
/-- What the laws write into a bool: does the number divide by three. -/
def m3 (k : Int) : Bool := k % 3 == 0
theorem eq_marks {α : Type} {f : Nat → α} {n j : Nat} (h : j < n) : ((List.range n).map f)[j]? = some (f j) := by simp [h]

theorem ent {P : Program} {f : FuncId} {fn : Func} {c : Code} (hf : P.funcs[f]? = some fn) (hname : (fn.name == "runtime.NumGoroutine") = false) (hb : fn.body = some c) : ∀ args w, (callFunc f args).run P w = .ok (.enter f args) w := by
  intro args w
  have h1 : fn.name ≠ "runtime.NumGoroutine" := by simpa using hname
  simp [callFunc, hf, h1, hb, mark]

section
variable {α : Type} {sz : Nat} {cs : α → List Value} {E : TypeId} {w w' : World} {L U : Nat} {A : Option Addr} {n c : Nat} {xs : List α}
theorem Own.alloc (h : Own sz cs E w L U A n c xs) (O : Obj) : Own sz cs E (w.alloc O) L U A n c xs := h.below ((Below.refl _ _).alloc (Nat.le_refl _) _)
theorem Own.drew (h : Own sz cs E w L U A n c xs) : Own sz cs E w.drew L U A n c xs := h.below (bdrew w)
theorem Own.mono (h : Own sz cs E w L U A n c xs) {L' U' : Nat} (hL : L' ≤ L) (hU : U ≤ U') : Own sz cs E w L' U' A n c xs := ⟨h.1, own_le h.2.1 hL, fun a ha => Nat.lt_of_lt_of_le (h.2.2 a ha) hU⟩
theorem Own.nil_ : Own sz cs E w L U none 0 0 ([] : List α) := ⟨rfl, World.ownsRow_nil _ _ _ _, fun a ha => by cases ha⟩
/-- An empty row that has just been laid. -/
theorem Own.empty (w : World) (O : Array Value) (hO : O.size = 0) (hL : L ≤ w.heap.size) (hU : w.heap.size < U) : Own sz cs E (w.alloc (.cells O E)) L U (some ⟨w.heap.size, 0, none⟩) 0 0 ([] : List α) :=
  ⟨rfl, ⟨by simp, .inr ⟨w.heap.size, 0, O, rfl, hL, heap_alloc_new w _, Nat.le_refl _, Nat.zero_le _, by simpa using hO, by simp⟩⟩, fun a ha => by obtain rfl := Option.some.inj ha; exact hU⟩
theorem app_new (w : World) (E : TypeId) (l : List Value) : ∀ j v, l[j]? = some v → (w.alloc (.cells l.toArray E)).cell? ⟨w.heap.size, j, none⟩ = some v := by
  intro j v h
  rw [World.cell?_alloc_new]
  simpa using h
/-- 'out = append(out, x)', out the call's own. -/
theorem wpList_app {P : Program} {ops : Array Oper} {rest : List Oper} {o : Oper} {a : Act} {Q : Exit → Act → World → Prop} (w : World) (hgd : o.guard = none) (s x : Operand) (t : TypeId)
    (ho : o.op = .call { callee := .builtin .append, args := #[s, x], argTypes := #[t, t] })
    (E : TypeId) (i : TypeInfo) (z : Value) (sz bytes : Nat) (ht : P.underlying t = some (.slice E)) (hi : P.info? E = some i) (hz : i.zero = some z)
    (hsize : i.size = sz) (hby : i.bytes = bytes) (hzs : z.cells.size = sz) (hsz : 0 < sz) {cs : α → List Value} (hcs : ∀ y, (cs y).length = sz) (hone : ∀ y, ∀ u ∈ cs y, u.oneCell' = true)
    (L U : Nat) (A : Option Addr) (n c : Nat) (xs : List α) (hs : a.eval s = .slice A n c) (hown : Own sz cs E w L U A n c xs) (g : Nat) (y : α)
    (hx : a.eval x = .slice (some ⟨g, 0, none⟩) 1 1) (hc : ∀ j v, (cs y)[j]? = some v → w.cell? ⟨g, j, none⟩ = some v)
    (hn : (n + 1) * bytes ≤ 140737488355328) (hm : n + 1 ≤ maxLen) (hL : L ≤ w.heap.size)
    (h : ∀ A' c' w', Own sz cs E w' L w'.heap.size A' (n + 1) c' (xs ++ [y]) → w.grownBy w' (A.map (·.block)) → wpList P ops Q rest (a.put o.dst (.slice A' (n + 1) c')) w') :
    wpList P ops Q (o :: rest) a w := by
  refine wpList_append_own w hgd s x t ho L E i z sz bytes ht hi hz hsize hby hzs hsz (.slice A n c) n (xs.flatMap cs) hs hown.2.1 ⟨g, 0, none⟩ 1 1 (cs y) hx (by rw [hcs, Nat.one_mul])
    (fun j u hu => by rw [Addr.add_lit, Nat.zero_add]; exact hc j u hu) (hone y) hm hn hL ?_
  intro v' w' hown' hg _
  have e : (xs ++ [y]).flatMap cs = xs.flatMap cs ++ cs y := by simp
  rw [← e] at hown'
  obtain ⟨A', c', rfl, ho'⟩ := Own.of hcs hown' (by simp [hown.1])
  exact h A' c' w' ho' (by
    have e2 : Value.ownBlock (.slice A n c) = A.map (·.block) := by cases A <;> rfl
    rwa [e2] at hg)
end
theorem one_ci : ∀ y, ∀ u ∈ ci y, u.oneCell' = true := by intro y u hu; simp [ci] at hu; subst hu; rfl
/-- A row behind an append onto it. -/
theorem below_app {B : Nat} {a w w' : World} {A : Option Addr} {α : Type} {sz : Nat} {cs : α → List Value} {E : TypeId} {L U n c : Nat} {xs : List α} (h : Below B a w) (ho : Own sz cs E w L U A n c xs) (hg : w.grownBy w' (A.map (·.block))) (hB : B ≤ a.heap.size) (hL : B ≤ L) : Below B a w' :=
  below_only h hg hB (fun g hg => by have := (ho.row hg).1; omega)
end Go.Proofs.YtbbnjddgioaoeaaDoor
