/- Numbers in decimal, the words of a text: plain laws. -/
import Derived.Test.YtbbnjddgioaoeaaDoorPln
import Derived.Lib.ParseIntBCases
import Derived.Lib.FieldsP
import Derived.Laws.RangeString
namespace Go.Proofs.YtbbnjddgioaoeaaDoor
open Go.RowKit
set_option linter.unusedVariables false

def mkS (l : List UInt8) : ByteArray := ⟨l.toArray⟩
theorem mkS_size (l : List UInt8) : (mkS l).size = l.length := by simp [mkS, ByteArray.size]
theorem mkS_get {l : List UInt8} {k : Nat} (h : k < l.length) (h' : k < (mkS l).size) : (mkS l)[k]'h' = l[k]'h := by
  rw [ByteArray.getElem_eq_getElem_data]
  exact List.getElem_toArray ..
theorem mkS_list (l : List UInt8) : (mkS l).data.toList = l := rfl
theorem mkS_inj {a b : List UInt8} (h : mkS a = mkS b) : a = b := by rw [← mkS_list a, h, mkS_list]
theorem mkS_ext (l : List UInt8) (a b : Nat) : (mkS l).extract a b = mkS ((l.drop a).take (b - a)) := by
  apply ByteArray.ext
  rw [ByteArray.data_extract]
  apply Array.ext'
  simp [mkS]
def isDg (b : UInt8) : Bool := decide (48 ≤ b.toNat ∧ b.toNat ≤ 57)
theorem isDg_iff {b : UInt8} : isDg b = true ↔ 48 ≤ b.toNat ∧ b.toNat ≤ 57 := by simp [isDg]
def dval (a : Nat) : List UInt8 → Nat
  | [] => a
  | b :: r => dval (10 * a + (b.toNat - 48)) r
theorem dval_app (l r : List UInt8) : ∀ a, dval a (l ++ r) = dval (dval a l) r := by
  induction l with
  | nil => intro a; rfl
  | cons b l ih => intro a; exact ih _
theorem dval_snoc (a : Nat) (l : List UInt8) (b : UInt8) : dval a (l ++ [b]) = 10 * dval a l + (b.toNat - 48) := by rw [dval_app]; rfl
theorem dig_nat {r : Nat} (h : r < 10) : (UInt8.ofNat (48 + r)).toNat = 48 + r := by rw [UInt8.toNat_ofNat']; omega
theorem dec_rec (u : Nat) : (u < 10 ∧ Lib.decDigits u = [UInt8.ofNat (48 + u)]) ∨ (10 ≤ u ∧ Lib.decDigits u = Lib.decDigits (u / 10) ++ [UInt8.ofNat (48 + u % 10)]) := by
  by_cases h : u < 10
  · exact .inl ⟨h, Lib.decDigits_one h⟩
  · refine .inr ⟨by omega, ?_⟩
    rw [Lib.decDigits, dif_neg h]
theorem dec_dig (u : Nat) : ∀ b ∈ Lib.decDigits u, isDg b = true := by
  induction u using Nat.strongRecOn with
  | _ u ih =>
    intro b hb
    rcases dec_rec u with ⟨h, e⟩ | ⟨h, e⟩
    · rw [e] at hb
      obtain rfl : b = UInt8.ofNat (48 + u) := by simpa using hb
      rw [isDg_iff, dig_nat h]; omega
    · rw [e] at hb
      rcases List.mem_append.1 hb with hb | hb
      · exact ih _ (by omega) b hb
      · obtain rfl : b = UInt8.ofNat (48 + u % 10) := by simpa using hb
        rw [isDg_iff, dig_nat (by omega)]; omega
theorem dval_dec (u : Nat) : dval 0 (Lib.decDigits u) = u := by
  induction u using Nat.strongRecOn with
  | _ u ih =>
    rcases dec_rec u with ⟨h, e⟩ | ⟨h, e⟩
    · rw [e]
      show 10 * 0 + ((UInt8.ofNat (48 + u)).toNat - 48) = u
      rw [dig_nat h]; omega
    · rw [e, dval_snoc, ih _ (by omega), dig_nat (by omega)]; omega
theorem dec_pos (u : Nat) : 1 ≤ (Lib.decDigits u).length := by
  rcases dec_rec u with ⟨h, e⟩ | ⟨h, e⟩ <;> rw [e] <;> simp
theorem dec_len : ∀ (k u : Nat), u < 10 ^ (k + 1) → (Lib.decDigits u).length ≤ k + 1
  | 0, u, h => by
    rcases dec_rec u with ⟨h', e⟩ | ⟨h', e⟩
    · rw [e]; simp
    · omega
  | k + 1, u, h => by
    rcases dec_rec u with ⟨h', e⟩ | ⟨h', e⟩
    · rw [e]; simp
    · have ih := dec_len k (u / 10) (by
        rw [Nat.pow_succ] at h
        omega)
      rw [e, List.length_append, List.length_singleton]
      omega
theorem dval_lt (l : List UInt8) (h : ∀ b ∈ l, isDg b = true) : ∀ a, dval a l < (a + 1) * 10 ^ l.length := by
  induction l with
  | nil => intro a; rw [List.length_nil, Nat.pow_zero, Nat.mul_one]; exact Nat.lt_succ_self a
  | cons b l ih =>
    intro a
    have h1 := ih (fun c hc => h c (List.mem_cons_of_mem _ hc)) (10 * a + (b.toNat - 48))
    obtain ⟨h2, h3⟩ := isDg_iff.1 (h b (List.mem_cons_self ..))
    have h4 : dval a (b :: l) = dval (10 * a + (b.toNat - 48)) l := rfl
    have h5 : (10 * a + (b.toNat - 48) + 1) * 10 ^ l.length ≤ ((a + 1) * 10) * 10 ^ l.length := Nat.mul_le_mul_right _ (by omega)
    have h6 : (a + 1) * 10 * 10 ^ l.length = (a + 1) * (10 ^ l.length * 10) := by rw [Nat.mul_assoc, Nat.mul_comm 10]
    rw [h4, List.length_cons, Nat.pow_succ, ← h6]
    exact Nat.lt_of_lt_of_le h1 h5
theorem dval_ge (l : List UInt8) : ∀ a, a ≤ dval a l := by
  induction l with
  | nil => intro a; exact Nat.le_refl _
  | cons b l ih => intro a; exact Nat.le_trans (by omega) (ih _)
theorem parseM_dig (l : List UInt8) (h : ∀ b ∈ l, isDg b = true) : ∀ a, dval a l ≤ 18446744073709551615 → Lib.parseUintM 18446744073709551615 a l = .ok (dval a l) := by
  induction l with
  | nil => intro a _; rfl
  | cons b l ih =>
    intro a ha
    have h1 := isDg_iff.1 (h b (List.mem_cons_self ..))
    have h2 := dval_ge l (10 * a + (b.toNat - 48))
    have h3 : dval (10 * a + (b.toNat - 48)) l ≤ 18446744073709551615 := ha
    show (if 48 ≤ b.toNat ∧ b.toNat ≤ 57 then _ else _) = _
    rw [if_pos h1, if_neg (by omega), if_neg (by omega), show a * 10 = 10 * a by omega]
    exact ih (fun c hc => h c (List.mem_cons_of_mem _ hc)) _ h3
theorem dec_cons (u : Nat) : ∃ c r, Lib.decDigits u = c :: r ∧ isDg c = true := by
  have h := dec_pos u
  cases e : Lib.decDigits u with
  | nil => rw [e] at h; simp at h
  | cons c r => exact ⟨c, r, rfl, dec_dig u c (by rw [e]; exact List.mem_cons_self ..)⟩
theorem parseU_dec {u : Nat} (h : u < 18446744073709551616) : Lib.parseUintB 64 (Lib.decDigits u) = .ok u := by
  obtain ⟨c, r, e, _⟩ := dec_cons u
  unfold Lib.parseUintB
  rw [if_neg (by rw [e]; simp)]
  have h1 := parseM_dig (Lib.decDigits u) (dec_dig u) 0 (by rw [dval_dec]; omega)
  rw [dval_dec] at h1
  exact h1
theorem itoa_neg_eq {z : Int} (h : z < 0) : Lib.itoa z = 45 :: Lib.decDigits z.natAbs := by unfold Lib.itoa; rw [if_pos h]
theorem itoa_pos_eq {z : Int} (h : 0 ≤ z) : Lib.itoa z = Lib.decDigits z.natAbs := by
  unfold Lib.itoa; rw [if_neg (by omega)]
  congr 1
  omega
/-- Few digits. -/
def Sm (z : Int) : Prop := z.natAbs < 1000000000000000000
theorem parse_itoa {z : Int} (h : Sm z) : Lib.parseIntB 64 (Lib.itoa z) = .ok z := by
  unfold Sm at h
  by_cases hn : z < 0
  · rw [itoa_neg_eq hn, Lib.parseIntB_minus, parseU_dec (by omega)]
    show (if _ then _ else _) = _
    rw [if_neg (by show ¬ 9223372036854775808 < _; omega)]
    congr 1
    omega
  · obtain ⟨c, r, e, hc⟩ := dec_cons z.natAbs
    have hc' := isDg_iff.1 hc
    rw [itoa_pos_eq (by omega), e, Lib.parseIntB_plain 64 c r (by omega) (by omega), ← e, parseU_dec (by omega)]
    show (if _ then _ else _) = _
    rw [if_neg (by show ¬ 9223372036854775808 ≤ _; omega)]
    congr 1
    omega
theorem itoa_inj {x z : Int} (h : Sm x) (h' : Sm z) (e : Lib.itoa x = Lib.itoa z) : x = z := by
  have h1 := parse_itoa h
  rw [e, parse_itoa h'] at h1
  injection h1 with h1
  exact h1.symm
theorem sm_len {z : Int} (h : Sm z) : (Lib.decDigits z.natAbs).length ≤ 18 := dec_len 17 _ (by unfold Sm at h; omega)
/-- Behind a sign. -/
def un (l : List UInt8) : List UInt8 := if l.head? = some 45 then l.drop 1 else l
theorem un_neg {l : List UInt8} (h : l.head? = some 45) : un l = l.drop 1 := if_pos h
theorem un_pos {l : List UInt8} (h : ¬ l.head? = some 45) : un l = l := if_neg h
theorem itoa_head (z : Int) : (Lib.itoa z).head? = some 45 ↔ z < 0 := by
  constructor
  · intro h
    rcases Int.lt_or_le z 0 with hz | hz
    · exact hz
    · obtain ⟨c, r, e, hc⟩ := dec_cons z.natAbs
      rw [itoa_pos_eq hz, e] at h
      have hc' := isDg_iff.1 hc
      obtain rfl : c = 45 := by simpa using h
      exact absurd hc'.1 (by decide)
  · intro h
    rw [itoa_neg_eq h]; rfl
theorem un_itoa (z : Int) : un (Lib.itoa z) = Lib.decDigits z.natAbs := by
  rcases Int.lt_or_le z 0 with hz | hz
  · rw [un_neg ((itoa_head z).2 hz), itoa_neg_eq hz]; rfl
  · rw [un_pos (by rw [itoa_head]; omega), itoa_pos_eq hz]
/-- v is the number with the text l; ok: there is one. -/
def NumIs (l : List UInt8) (v : Int) (ok : Bool) : Prop := (ok = true → Sm v ∧ Lib.itoa v = l) ∧ (ok = false → v = 0 ∧ ∀ z : Int, Sm z → Lib.itoa z ≠ l)
theorem num_no {l : List UInt8} (h : ∀ z : Int, Sm z → Lib.itoa z ≠ l) : NumIs l 0 false := ⟨fun e => (by cases e), fun _ => ⟨rfl, h⟩⟩
theorem num_len {l : List UInt8} (h : (un l).length < 1 ∨ 18 < (un l).length) : NumIs l 0 false := num_no fun z hz e => by
  have h1 := dec_pos z.natAbs
  have h2 := sm_len hz
  rw [← e, un_itoa] at h
  omega
theorem num_dig {l : List UInt8} {k : Nat} {b : UInt8} (hb : (un l)[k]? = some b) (h : isDg b = false) : NumIs l 0 false := num_no fun z hz e => by
  rw [← e, un_itoa] at hb
  rw [dec_dig _ b (List.mem_of_getElem? hb)] at h
  cases h
def sgn (l : List UInt8) (n : Nat) : Int := if l.head? = some 45 then -(n : Int) else n
theorem num_val {l : List UInt8} (h : ∀ b ∈ un l, isDg b = true) (hl : (un l).length ≤ 18) : Sm (sgn l (dval 0 (un l))) := by
  have h1 := dval_lt _ h 0
  have h2 : 10 ^ (un l).length ≤ 10 ^ 18 := Nat.pow_le_pow_right (by omega) hl
  unfold Sm sgn
  split <;> omega
theorem num_yes {l : List UInt8} {v : Int} (hs : Sm v) (h : Lib.itoa v = l) : NumIs l v true := ⟨fun _ => ⟨hs, h⟩, fun e => (by cases e)⟩
theorem num_ne {l : List UInt8} {v : Int} (hv : sgn l (dval 0 (un l)) = v) (h : Lib.itoa v ≠ l) : NumIs l 0 false := num_no fun z hz e => h (by
  subst e
  rw [← hv, un_itoa, dval_dec]
  unfold sgn
  congr 1
  by_cases hn : z < 0
  · rw [if_pos ((itoa_head z).2 hn)]; omega
  · rw [if_neg (by rw [itoa_head]; exact hn)]; omega)
theorem NumIs.uniq {l : List UInt8} {v x : Int} {ok oy : Bool} (h : NumIs l v ok) (g : NumIs l x oy) : v = x ∧ ok = oy := by
  cases ok <;> cases oy
  · exact ⟨(h.2 rfl).1.trans (g.2 rfl).1.symm, rfl⟩
  · exact absurd (g.1 rfl).2 ((h.2 rfl).2 x (g.1 rfl).1)
  · exact absurd (h.1 rfl).2 ((g.2 rfl).2 v (h.1 rfl).1)
  · exact ⟨itoa_inj (h.1 rfl).1 (g.1 rfl).1 ((h.1 rfl).2.trans (g.1 rfl).2.symm), rfl⟩

/-! The parts between blanks. -/
def sp (cur : List UInt8) : List UInt8 → List (List UInt8)
  | [] => [cur]
  | b :: r => if b = 32 then cur :: sp [] r else sp (cur ++ [b]) r
theorem sp_free {a : List UInt8} (h : ∀ b ∈ a, b ≠ 32) (r : List UInt8) : ∀ cur, sp cur (a ++ 32 :: r) = (cur ++ a) :: sp [] r := by
  induction a with
  | nil => intro cur; simp [sp]
  | cons b a ih =>
    intro cur
    have hb := h b (List.mem_cons_self ..)
    rw [List.cons_append, sp, if_neg hb, ih (fun c hc => h c (List.mem_cons_of_mem _ hc))]
    simp
theorem sp_end {a : List UInt8} (h : ∀ b ∈ a, b ≠ 32) : ∀ cur, sp cur a = [cur ++ a] := by
  induction a with
  | nil => intro cur; simp [sp]
  | cons b a ih =>
    intro cur
    rw [sp, if_neg (h b (List.mem_cons_self ..)), ih (fun c hc => h c (List.mem_cons_of_mem _ hc))]
    simp
theorem sp_join (l : List UInt8) : ∀ cur, ∃ x xs, sp cur l = x :: xs ∧ cur ++ l = x ++ xs.flatMap (fun y => 32 :: y) := by
  induction l with
  | nil => intro cur; exact ⟨cur, [], rfl, by simp⟩
  | cons b r ih =>
    intro cur
    rw [sp]
    by_cases hb : b = 32
    · subst hb
      obtain ⟨x, xs, e, h⟩ := ih []
      rw [if_pos rfl]
      refine ⟨cur, x :: xs, by rw [e], ?_⟩
      rw [List.nil_append] at h
      rw [h]
      simp
    · obtain ⟨x, xs, e, h⟩ := ih (cur ++ [b])
      rw [if_neg hb]
      exact ⟨x, xs, e, by simpa using h⟩
theorem sp_len (l : List UInt8) : ∀ cur, (sp cur l).length ≤ l.length + 1 := by
  induction l with
  | nil => intro cur; simp [sp]
  | cons b r ih =>
    intro cur
    rw [sp]
    split
    · have := ih []; simp; omega
    · have := ih (cur ++ [b]); simp; omega

/-! The parts of signs and digits. -/
def notC (c : Nat) : Bool := decide (c ≠ 45) && (decide (c < 48) || decide (57 < c))
def notN (b : UInt8) : Bool := notC b.toNat
def fl (cur : List UInt8) : List UInt8 → List (List UInt8)
  | [] => if cur = [] then [] else [cur]
  | b :: r => if notN b then (if cur = [] then fl [] r else cur :: fl [] r) else fl (cur ++ [b]) r
theorem fl_no {a : List UInt8} (h : ∀ b ∈ a, notN b = true) (r : List UInt8) : fl [] (a ++ r) = fl [] r := by
  induction a with
  | nil => rfl
  | cons b a ih =>
    rw [List.cons_append, fl, if_pos (h b (List.mem_cons_self ..)), if_pos rfl, ih (fun c hc => h c (List.mem_cons_of_mem _ hc))]
theorem fl_yes {a : List UInt8} (h : ∀ b ∈ a, notN b = false) (r : List UInt8) : ∀ cur, fl cur (a ++ r) = fl (cur ++ a) r := by
  induction a with
  | nil => intro cur; simp
  | cons b a ih =>
    intro cur
    rw [List.cons_append, fl, if_neg (by rw [h b (List.mem_cons_self ..)]; exact Bool.false_ne_true), ih (fun c hc => h c (List.mem_cons_of_mem _ hc))]
    simp
theorem itoa_yes (z : Int) : ∀ b ∈ Lib.itoa z, notN b = false := by
  have hd : ∀ b, isDg b = true → notN b = false := by
    intro b hb
    have h1 := isDg_iff.1 hb
    unfold notN notC
    rw [decide_eq_false (show ¬ b.toNat < 48 by omega), decide_eq_false (show ¬ 57 < b.toNat by omega)]
    simp
  intro b hb
  rcases Int.lt_or_le z 0 with hz | hz
  · rw [itoa_neg_eq hz] at hb
    rcases List.mem_cons.1 hb with rfl | hb
    · rfl
    · exact hd b (dec_dig _ b hb)
  · rw [itoa_pos_eq hz] at hb
    exact hd b (dec_dig _ b hb)
theorem itoa_ne (z : Int) : Lib.itoa z ≠ [] := by
  obtain ⟨c, r, e, _⟩ := dec_cons z.natAbs
  rcases Int.lt_or_le z 0 with hz | hz
  · rw [itoa_neg_eq hz]; simp
  · rw [itoa_pos_eq hz, e]; simp
/-- A number, then a byte that is none, then more. -/
theorem fl_num {z : Int} {c : UInt8} (hc : notN c = true) (r : List UInt8) : fl [] (Lib.itoa z ++ c :: r) = Lib.itoa z :: fl [] r := by
  rw [fl_yes (itoa_yes z), List.nil_append, fl, if_pos hc, if_neg (itoa_ne z)]
theorem fl_num_end {z : Int} : fl [] (Lib.itoa z) = [Lib.itoa z] := by
  have := fl_yes (itoa_yes z) [] []
  rw [List.append_nil, List.nil_append] at this
  rw [this, fl, if_neg (itoa_ne z)]
theorem blk32 (z : Int) : ∀ b ∈ Lib.itoa z, b ≠ 32 := by
  intro b hb e
  subst e
  exact absurd (itoa_yes z _ hb) (by decide)
theorem itoa_low (z : Int) : ∀ b ∈ Lib.itoa z, b.toNat < 128 := by
  intro b hb
  have h := itoa_yes z b hb
  rcases Nat.lt_or_ge b.toNat 128 with h' | h'
  · exact h'
  · unfold notN notC at h
    rw [decide_eq_true (show b.toNat ≠ 45 by omega), decide_eq_true (show 57 < b.toNat by omega)] at h
    simp at h
def curOf (l : List UInt8) (pos : Nat) : Option Nat → List UInt8
  | none => []
  | some a => (l.drop a).take (pos - a)
theorem drop_at {l : List UInt8} {k : Nat} (h : k < l.length) : l.drop k = l[k] :: l.drop (k + 1) := List.drop_eq_getElem_cons h
theorem cur_next {l : List UInt8} {a k : Nat} (hk : k < l.length) (ha : a ≤ k) : (l.drop a).take (k + 1 - a) = (l.drop a).take (k - a) ++ [l[k]] := by
  rw [show k + 1 - a = (k - a) + 1 by omega, List.take_add_one]
  congr 1
  rw [List.getElem?_drop, show a + (k - a) = k by omega, List.getElem?_eq_getElem hk]
  rfl
theorem sf_none {p : Nat → Bool} {s : ByteArray} {f pos c : Nat} {acc : List (Nat × Nat)} (h : pos < s.size) (hd : Utf8.decode s pos = (c, 1)) (hp : p c = true) : Lib.spansFromP p s (f + 1) pos none acc = Lib.spansFromP p s f (pos + 1) none acc := by
  simp [Lib.spansFromP, h, hd, hp]
theorem sf_shut {p : Nat → Bool} {s : ByteArray} {f pos c a : Nat} {acc : List (Nat × Nat)} (h : pos < s.size) (hd : Utf8.decode s pos = (c, 1)) (hp : p c = true) : Lib.spansFromP p s (f + 1) pos (some a) acc = Lib.spansFromP p s f (pos + 1) none (acc ++ [(a, pos)]) := by
  simp [Lib.spansFromP, h, hd, hp]
theorem sf_open {p : Nat → Bool} {s : ByteArray} {f pos c : Nat} {acc : List (Nat × Nat)} (h : pos < s.size) (hd : Utf8.decode s pos = (c, 1)) (hp : p c = false) : Lib.spansFromP p s (f + 1) pos none acc = Lib.spansFromP p s f (pos + 1) (some pos) acc := by
  simp [Lib.spansFromP, h, hd, hp]
theorem sf_more {p : Nat → Bool} {s : ByteArray} {f pos c a : Nat} {acc : List (Nat × Nat)} (h : pos < s.size) (hd : Utf8.decode s pos = (c, 1)) (hp : p c = false) : Lib.spansFromP p s (f + 1) pos (some a) acc = Lib.spansFromP p s f (pos + 1) (some a) acc := by
  simp [Lib.spansFromP, h, hd, hp]
theorem spans_fl (l : List UInt8) (h : ∀ b ∈ l, b.toNat < 128) : ∀ (f pos : Nat) (st : Option Nat) (acc : List (Nat × Nat)), pos + f = l.length → (∀ a, st = some a → a < pos) →
    (Lib.closeSpans (mkS l) (Lib.spansFromP notC (mkS l) f pos st acc)).map (fun x => (mkS l).extract x.1 x.2) = acc.map (fun x => (mkS l).extract x.1 x.2) ++ (fl (curOf l pos st) (l.drop pos)).map mkS
  | 0, pos, st, acc, hp, hst => by
    have e : l.drop pos = [] := List.drop_eq_nil_of_le (by omega)
    rw [e]
    cases st with
    | none => simp [Lib.spansFromP, Lib.closeSpans, curOf, fl]
    | some a =>
      have ha := hst a rfl
      have hne : curOf l pos (some a) ≠ [] := by
        intro e2
        have e3 := congrArg List.length e2
        simp [curOf] at e3
        omega
      rw [fl, if_neg hne]
      simp only [Lib.spansFromP, Lib.closeSpans, List.map_append, List.map_cons, List.map_nil, mkS_ext, mkS_size, curOf]
      rw [show l.length = pos by omega]
  | f + 1, pos, st, acc, hp, hst => by
    have hlt : pos < l.length := by omega
    have hs : pos < (mkS l).size := by rw [mkS_size]; exact hlt
    have hb : (mkS l)[pos]'hs = l[pos]'hlt := mkS_get hlt hs
    have hd := decode_ascii (mkS l) pos hs (by rw [hb]; exact h _ (List.getElem_mem hlt))
    rw [hb] at hd
    rw [drop_at hlt, fl]
    show _ = acc.map _ ++ List.map mkS (if notC l[pos].toNat = true then _ else _)
    cases hn : notC l[pos].toNat
    · rw [if_neg Bool.false_ne_true]
      cases st with
      | none =>
        rw [sf_open hs hd hn]
        refine (spans_fl l h f (pos + 1) (some pos) acc (by omega) (fun a ha => by obtain rfl := Option.some.inj ha; omega)).trans ?_
        congr 2
        show fl ((l.drop pos).take (pos + 1 - pos)) _ = fl ([] ++ [l[pos]]) _
        rw [cur_next hlt (Nat.le_refl _), Nat.sub_self, List.take_zero]
        rfl
      | some a =>
        have ha := hst a rfl
        rw [sf_more hs hd hn]
        refine (spans_fl l h f (pos + 1) (some a) acc (by omega) (fun a' ha' => by obtain rfl := Option.some.inj ha'; omega)).trans ?_
        congr 2
        show fl ((l.drop a).take (pos + 1 - a)) _ = fl ((l.drop a).take (pos - a) ++ [l[pos]]) _
        rw [cur_next hlt (by omega)]
        rfl
    · rw [if_pos rfl]
      cases st with
      | none =>
        rw [sf_none hs hd hn, show curOf l pos none = [] from rfl, if_pos rfl]
        exact spans_fl l h f (pos + 1) none acc (by omega) (fun a ha => by cases ha)
      | some a =>
        have ha := hst a rfl
        have hne : curOf l pos (some a) ≠ [] := by
          intro e2
          have e3 := congrArg List.length e2
          simp [curOf] at e3
          omega
        rw [sf_shut hs hd hn, if_neg hne]
        refine (spans_fl l h f (pos + 1) none (acc ++ [(a, pos)]) (by omega) (fun a ha => by cases ha)).trans ?_
        simp [mkS_ext, curOf]
/-- The fields of a text of ASCII. -/
theorem fields_fl {l : List UInt8} (h : ∀ b ∈ l, b.toNat < 128) : Lib.goFieldsP notC (mkS l) = (fl [] l).map mkS := by
  have := spans_fl l h l.length 0 none [] (by omega) (fun a ha => by cases ha)
  unfold Lib.goFieldsP Lib.spansOfP
  rw [mkS_size, this]
  rfl
/-- No more fields than bytes. -/
theorem spans_len (p : Nat → Bool) (s : ByteArray) : ∀ (f pos : Nat) (st : Option Nat) (acc : List (Nat × Nat)), (Lib.closeSpans s (Lib.spansFromP p s f pos st acc)).length ≤ acc.length + (if st = none then 0 else 1) + f
  | 0, pos, st, acc => by
    cases st <;> simp [Lib.spansFromP, Lib.closeSpans]
  | f + 1, pos, st, acc => by
    unfold Lib.spansFromP
    split
    · split
      · cases st with
        | none => exact Nat.le_trans (spans_len p s f _ none acc) (by simp <;> omega)
        | some a => exact Nat.le_trans (spans_len p s f _ none _) (by simp <;> omega)
      · cases st with
        | none => exact Nat.le_trans (spans_len p s f _ (some pos) acc) (by simp <;> omega)
        | some a => exact Nat.le_trans (spans_len p s f _ (some a) acc) (by simp <;> omega)
    · cases st <;> simp [Lib.closeSpans] <;> omega
theorem fields_len (p : Nat → Bool) (s : ByteArray) : (Lib.goFieldsP p s).length ≤ s.size := by
  unfold Lib.goFieldsP Lib.spansOfP
  rw [List.length_map]
  simpa using spans_len p s s.size 0 none []
end Go.Proofs.YtbbnjddgioaoeaaDoor
