/- Decimal texts: the reference's l01Dec, the program's Decimal. -/
import Derived.Test.YtbbnjddgioaoeaaDoorSh
import Derived.Test.YtbbnjddgioaoeaaDoorAux2
import Derived.Test.YtbbnjddgioaoeaaDoorApp
import Derived.Test.YtbbnjddgioaoeaaDoorBq
import Derived.Test.YtbbnjddgioaoeaaDoorBasic
import Derived.Deep.DeepCutAuto
import Derived.Maps.AppendAt
import Derived.Laws.IdiomStrings
import Derived.Lib.AppendIntMem
import Derived.Lib.ItoaLen
import Derived.Lib.SmallJoins
namespace Go.Proofs.YtbbnjddgioaoeaaDoor
open Go.RowKit
set_option linter.unusedVariables false

def cu (b : UInt8) : List Value := [.int .u8 (b.toNat : Int)]
theorem len_cu (b : UInt8) : (cu b).length = 1 := rfl
theorem one_cu : ∀ y, ∀ u ∈ cu y, u.oneCell' = true := by intro y u hu; simp [cu] at hu; subst hu; rfl
theorem infoU8 : (Tryd.prog.info? 5).map (fun i => (i.zero, i.size, i.bytes)) = some (some (.int .u8 0), 1, 1) := by kernel_rfl
/-- The digits of a number, none for 0. -/
def dd (u : Nat) : List UInt8 := if u = 0 then [] else Lib.decDigits u
theorem dd_zero : dd 0 = [] := rfl
theorem dd_pos {u : Nat} (h : u ≠ 0) : dd u = Lib.decDigits u := by unfold dd; rw [if_neg h]
theorem dd_step {u : Nat} (h : u ≠ 0) : dd u = dd (u / 10) ++ [UInt8.ofNat (48 + u % 10)] := by
  rw [dd_pos h, Lib.decDigits]
  by_cases h10 : u < 10
  · rw [dif_pos h10, Nat.div_eq_of_lt h10, Nat.mod_eq_of_lt h10]; rfl
  · rw [dif_neg h10, dd_pos (by omega)]
theorem itoa_dd {n : Int} (h : n ≠ 0) : Lib.itoa n = if n < 0 then 45 :: dd n.natAbs else dd n.natAbs := by
  unfold Lib.itoa
  by_cases hn : n < 0
  · rw [if_pos hn, if_pos hn, dd_pos (by omega)]
  · rw [if_neg hn, if_neg hn, dd_pos (by omega)]
    congr 1
    omega
theorem itoa_zero : Lib.itoa 0 = [48] := by
  unfold Lib.itoa
  rw [if_neg (by omega), Lib.decDigits]
  rfl
theorem dig_val {r : Nat} (h : r < 10) : ((UInt8.ofNat (48 + r)).toNat : Int) = 48 + (r : Int) := by
  have : (UInt8.ofNat (48 + r)).toNat = 48 + r := by
    rw [UInt8.toNat_ofNat']
    omega
  rw [this]
  omega
theorem mod_abs (k : Int) : (k.tmod 10).natAbs = k.natAbs % 10 ∧ (k.tdiv 10).natAbs = k.natAbs / 10 := ⟨by rw [Int.natAbs_tmod]; rfl, by rw [Int.natAbs_tdiv]; rfl⟩
theorem lit_own {α : Type} {cs : α → List Value} {E : TypeId} (hcs : ∀ x, (cs x).length = 1) (w : World) (x : α) (v : Value) (hv : cs x = [v]) : Own 1 cs E (w.alloc (.cells #[v] E)) w.heap.size (w.heap.size + 1) (some ⟨w.heap.size, 0, none⟩) 1 1 [x] :=
  ⟨rfl, own_of_has hcs (Nat.le_refl _) (heap_alloc_new w _) rfl (Nat.le_refl _) (by unfold maxLen; omega) rfl (fun i y hi hy j u hu => by
    obtain rfl : i = 0 := by omega
    obtain rfl : x = y := by simpa using hy
    rw [hv] at hu
    have hj : j = 0 := by have := lt_of_get hu; simp at this; omega
    subst hj
    simpa using hu), fun a ha => by obtain rfl := Option.some.inj ha; exact Nat.lt_succ_self _⟩
/-- append of a list onto a row of the call's own. -/
theorem wpList_apps {α : Type} {P : Program} {ops : Array Oper} {rest : List Oper} {o : Oper} {a : Act} {Q : Exit → Act → World → Prop} (w : World) (hgd : o.guard = none) (s x : Operand) (t : TypeId)
    (ho : o.op = .call { callee := .builtin .append, args := #[s, x], argTypes := #[t, t] })
    (E : TypeId) (i : TypeInfo) (z : Value) (bytes : Nat) (ht : P.underlying t = some (.slice E)) (hi : P.info? E = some i) (hz : i.zero = some z)
    (hsize : i.size = 1) (hby : i.bytes = bytes) (hzs : z.cells.size = 1) {cs : α → List Value} (hcs : ∀ y, (cs y).length = 1) (hone : ∀ y, ∀ u ∈ cs y, u.oneCell' = true)
    (L U : Nat) (A : Option Addr) (n c : Nat) (xs : List α) (hs : a.eval s = .slice A n c) (hown : Own 1 cs E w L U A n c xs) (g : Nat) (m mc : Nat) (ys : List α)
    (hx : a.eval x = .slice (some ⟨g, 0, none⟩) m mc) (hm' : ys.length = m) (hc : ∀ j v, (ys.flatMap cs)[j]? = some v → w.cell? ⟨g, j, none⟩ = some v)
    (hn : (n + m) * bytes ≤ 140737488355328) (hm : n + m ≤ maxLen) (hL : L ≤ w.heap.size)
    (h : ∀ A' c' w', Own 1 cs E w' L w'.heap.size A' (n + m) c' (xs ++ ys) → w.grownBy w' (A.map (·.block)) → wpList P ops Q rest (a.put o.dst (.slice A' (n + m) c')) w') :
    wpList P ops Q (o :: rest) a w := by
  have hfl : ∀ l : List α, (l.flatMap cs).length = l.length := by intro l; induction l with | nil => rfl | cons y l ih => rw [List.flatMap_cons, List.length_append, hcs, ih, List.length_cons]; omega
  refine wpList_append_own_at w hgd s x t ho L E i z 1 bytes ht hi hz hsize hby hzs (by omega) (.slice A n c) n (xs.flatMap cs) hs hown.2.1 ⟨g, 0, none⟩ m mc (ys.flatMap cs) hx (by rw [hfl, hm', Nat.mul_one])
    (fun j u hu => by rw [Addr.add_lit, Nat.zero_add]; exact hc j u hu) (fun u hu => by obtain ⟨y, _, hy⟩ := List.mem_flatMap.1 hu; exact hone y u hy) hm hn hL ?_
  intro v' w' hown' hg _ hat
  rw [← List.flatMap_append] at hown'
  obtain ⟨A', c', rfl, ho'⟩ := Own.of hcs hown' (by simp [hown.1, hm'])
  have e2 : Value.ownBlock (.slice A n c) = A.map (·.block) := by cases A <;> rfl
  rw [e2] at hg
  exact h A' c' w' ho' hg
theorem own_cell {w : World} {L U : Nat} {A : Option Addr} {n c : Nat} {xs : List UInt8} {E : TypeId} (h : Own 1 cu E w L U A n c xs) (hn : 0 < n) : ∃ g, A = some ⟨g, 0, none⟩ ∧ ∀ j v, (xs.flatMap cu)[j]? = some v → w.cell? ⟨g, j, none⟩ = some v := by
  obtain ⟨g, cap, e⟩ := Joins.ownsRow_form h.2.1 hn
  obtain rfl : A = some ⟨g, 0, none⟩ := by simpa using congrArg (fun v => match v with | Value.slice a _ _ => a | _ => none) e
  exact ⟨g, rfl, fun j v hj => by have := h.2.1.cells (g := g) rfl j v hj; rwa [Addr.add_lit, Nat.zero_add] at this⟩
theorem flat_cu (xs : List UInt8) : xs.flatMap cu = xs.map (fun b => Value.int .u8 (b.toNat : Int)) := by
  induction xs with
  | nil => rfl
  | cons x xs ih => rw [List.flatMap_cons, ih]; rfl
theorem minus_text (l : List UInt8) : (({ data := #[45] } : ByteArray) ++ { data := l.toArray }) = { data := (45 :: l).toArray } := by
  apply ByteArray.ext
  rw [ByteArray.data_append]
  apply Array.ext'
  simp
theorem own_cells {w : World} {L U g : Nat} {n c : Nat} {xs : List UInt8} {E : TypeId} (h : Own 1 cu E w L U (some ⟨g, 0, none⟩) n c xs) : ∀ j v, (xs.flatMap cu)[j]? = some v → w.cell? ⟨g, j, none⟩ = some v := by
  by_cases hn : 0 < n
  · obtain ⟨g', e, hc⟩ := own_cell h hn
    obtain rfl : g = g' := by simpa using e
    exact hc
  · have hl := h.len
    obtain rfl : xs = [] := List.eq_nil_of_length_eq_zero (by omega)
    intro j v hj
    simp at hj
set_option maxRecDepth 100000 in
set_option maxHeartbeats 1000000 in
theorem l01Dec_calls (n : Int) (w : World) (h0 : -9223372036854775808 ≤ n) (h1 : n ≤ 9223372036854775807) :
    Calls Tryd.prog 49 #[.int .i64 n] w fun e w' => e = .returned (.string ⟨(Lib.itoa n).toArray⟩) ∧ Below w.heap.size w w' := by
  obtain ⟨i0, hi, hz0, hz1, hz2⟩ := info_parts infoU8
  have hlen := Lib.itoa_length_le n h0 h1
  have own0 := Own.empty (sz := 1) (cs := cu) (E := 5) (L := w.heap.size) (U := w.heap.size + 1) w #[] rfl (Nat.le_refl _) (by simp)
  have hdl : (dd n.natAbs).length ≤ 21 := by
    by_cases hz : n = 0
    · subst hz; simp [dd]
    · rw [itoa_dd hz] at hlen
      split at hlen
      · simp at hlen; omega
      · exact hlen
  have HDL := hd hdl
  clear hlen hdl
  go_enter Tryd.func49, Tryd.ntmps49
  go_wp2_with fail
  go_loopw [3, 4] (fun s3 s4 wr => ∃ k : Int, ∃ out : List UInt8, ∃ m g : Nat, s4 = .int .i64 k ∧ ∃ c, s3 = .slice (some ⟨g, 0, none⟩) m c ∧ (-9223372036854775808 ≤ k ∧ k ≤ 9223372036854775807) ∧ dd k.natAbs ++ out = dd n.natAbs ∧ Own 1 cu 5 wr w.heap.size wr.heap.size (some ⟨g, 0, none⟩) m c out ∧ Below w.heap.size w wr) (fun _ s4 _ => (intOf s4).natAbs)
  case atStart => exact ⟨n, [], 0, _, rfl, 0, rfl, ⟨h0, h1⟩, by simp, own0.mono (Nat.le_refl _) (by simp), (Below.refl _ _).alloc (Nat.le_refl _) _⟩
  case round =>
    clear own0
    obtain ⟨k, out, m, g, rfl, c, rfl, ⟨k0, k1⟩, hdd, hown, hb⟩ := hrel
    have HDD := hd hdd
    have Hown := hd hown
    have hm : m ≤ 21 := by
      have e1 := congrArg List.length hdd
      rw [List.length_append, hown.len] at e1
      have e2 := HDL.out
      omega
    clear hdd hown
    by_cases hk : k = 0
    · subst hk
      have hdn : out = dd n.natAbs := HDD.out
      have HDN := hd hdn
      clear hdn
      by_cases hm0 : m = 0
      · subst hm0
        have hn0 : n = 0 := by
          have e1 := Hown.out.len
          rw [HDN.out] at e1
          by_cases hz : n = 0
          · exact hz
          · have := congrArg List.length (dd_step (u := n.natAbs) (by omega))
            simp at this
            omega
        have HN0 := hd hn0
        clear hn0
        go_wp2_with fail
        go_ret
        exact ⟨by rw [HN0.out, itoa_zero]; rfl, hb⟩
      · have hmi : ¬ (m : Int) = 0 := by omega
        have hn0 : n ≠ 0 := by
          rintro rfl
          have e1 := Hown.out.len
          rw [HDN.out] at e1
          simp [dd] at e1
          omega
        have HIT := hd (itoa_dd hn0)
        have hlen := Hown.out.len
        have hcv := run_convert_bytes_back (P := Tryd.prog) wr 78 9 5 ⟨g, 0, none⟩ c out Tryd.underlying78 Tryd.underlying5 Tryd.underlying9 (fun j hj => by
          rw [Addr.add_lit, Nat.zero_add]
          exact own_cells Hown.out j _ (by rw [flat_cu]; simp [hj]))
        rw [hlen] at hcv
        have hol : ¬ (9223372036854775807 < 1 + out.length) := by omega
        clear hn0 hlen
        by_cases hneg : n < 0
        · have HIN : Hid (Lib.itoa n = 45 :: out) := hd (by rw [HIT.out, if_pos hneg, HDN.out])
          go_wp2_with fail
          go_ret
          exact ⟨by rw [HIN.out, ← minus_text]; rfl, hb⟩
        · have HIN : Hid (Lib.itoa n = out) := hd (by rw [HIT.out, if_neg hneg, HDN.out])
          go_wp2_with fail
          go_ret
          exact ⟨by rw [HIN.out]; rfl, hb⟩
    · have MA := hd (mod_abs k)
      have HK := hd hk
      obtain ⟨r, hr⟩ : ∃ r, k.tmod 10 = r := ⟨_, rfl⟩
      obtain ⟨q, hq⟩ : ∃ q, k.tdiv 10 = q := ⟨_, rfl⟩
      have hra : r.natAbs = k.natAbs % 10 := by rw [← hr]; exact MA.out.1
      have hqa : q.natAbs = k.natAbs / 10 := by rw [← hq]; exact MA.out.2
      have HRA := hd hra
      have HQA := hd hqa
      have r0 : -9 ≤ r ∧ r ≤ 9 := by omega
      obtain ⟨r1, r2⟩ := r0
      have q0 : -9223372036854775808 ≤ q ∧ q ≤ 9223372036854775807 := by omega
      have hqk : q.natAbs < k.natAbs := by omega
      have HQ0 := hd q0
      have HQK := hd hqk
      have HST : Hid (dd k.natAbs = dd q.natAbs ++ [UInt8.ofNat (48 + r.natAbs)]) := hd (by rw [hra, hqa]; exact dd_step (by omega))
      have hdv := dig_val (r := r.natAbs) (by omega)
      obtain ⟨x, hx⟩ : ∃ x, UInt8.ofNat (48 + r.natAbs) = x := ⟨_, rfl⟩
      rw [hx] at HST hdv
      obtain ⟨qa, qb⟩ := q0
      clear hra hqa hqk hx
      by_cases hneg : r < 0
      · have hv : cu x = [.int .u8 (48 + -r)] := by unfold cu; rw [hdv]; congr 2; omega
        have HV := hd hv
        clear hv hdv
        go_wp2_with (at_builtin; refine wpList_apps _ rfl _ _ 78 rfl 5 i0 _ 1 Tryd.underlying78 hi hz0 hz1 hz2 rfl len_cu one_cu wr.heap.size (wr.heap.size + 1) (some ⟨wr.heap.size, 0, none⟩) 1 1 [x] rfl (lit_own len_cu wr _ _ HV.out) g m c out rfl Hown.out.len (own_cells (Hown.out.alloc _)) (by omega) (by unfold maxLen; omega) (by simp) ?_)
        intro A' c' w5 ho hg
        have hb5 := below_app (hb.alloc hb.size _) (lit_own len_cu wr _ _ HV.out) hg (Nat.le_refl _) hb.size
        obtain ⟨g', rfl, -⟩ := own_cell ho (by omega)
        have HO := hd (ho.mono hb.size (Nat.le_refl _))
        clear ho hg
        go_wp2_with fail
        go_roundw
        case rel => exact ⟨q, x :: out, 1 + m, g', rfl, c', rfl, HQ0.out, by rw [← HDD.out, HST.out]; simp, HO.out, hb5⟩
        case measure => have := HQK.out; simp [intOf]; omega
      · have hv : cu x = [.int .u8 (48 + r)] := by unfold cu; rw [hdv]; congr 2; omega
        have HV := hd hv
        clear hv hdv
        go_wp2_with (at_builtin; refine wpList_apps _ rfl _ _ 78 rfl 5 i0 _ 1 Tryd.underlying78 hi hz0 hz1 hz2 rfl len_cu one_cu wr.heap.size (wr.heap.size + 1) (some ⟨wr.heap.size, 0, none⟩) 1 1 [x] rfl (lit_own len_cu wr _ _ HV.out) g m c out rfl Hown.out.len (own_cells (Hown.out.alloc _)) (by omega) (by unfold maxLen; omega) (by simp) ?_)
        intro A' c' w5 ho hg
        have hb5 := below_app (hb.alloc hb.size _) (lit_own len_cu wr _ _ HV.out) hg (Nat.le_refl _) hb.size
        obtain ⟨g', rfl, -⟩ := own_cell ho (by omega)
        have HO := hd (ho.mono hb.size (Nat.le_refl _))
        clear ho hg
        go_wp2_with fail
        go_roundw
        case rel => exact ⟨q, x :: out, 1 + m, g', rfl, c', rfl, HQ0.out, by rw [← HDD.out, HST.out]; simp, HO.out, hb5⟩
        case measure => have := HQK.out; simp [intOf]; omega
theorem Decimal_calls (n : Int) (w : World) (h0 : -9223372036854775808 ≤ n) (h1 : n ≤ 9223372036854775807) (htab : Lib.TabIs Tryd.prog w "internal/strconv.uint64pow10" .u64 Lib.pow10Tab) :
    Calls Tryd.prog 42 #[.int .i64 n] w fun e w' => e = .returned (.string ⟨(Lib.itoa n).toArray⟩) ∧ Below w.heap.size w w' := by
  go_enter Tryd.func42, Tryd.ntmps42
  go_wp2_with (go_at_call 66; refine (Tryd.strconv_FormatInt_10 n h0 h1 _ htab).mono ?_; rintro e w1 ⟨rfl, k, os, rfl⟩)
  go_ret
  exact ⟨rfl, Lib.below_grow _ _ (Nat.le_refl _) _ _⟩
end Go.Proofs.YtbbnjddgioaoeaaDoor
