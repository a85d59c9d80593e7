/- The program's ReadDecimal and numbersIn. -/
import Derived.Test.YtbbnjddgioaoeaaDoorSpl
import Derived.Test.YtbbnjddgioaoeaaDoorShP
import Derived.Lib.ParseIntBTie
import Derived.Shelf.GgClosure.GivesRunes
namespace Go.Proofs.YtbbnjddgioaoeaaDoor
open Go.RowKit
set_option linter.unusedVariables false

abbrev I64 (z : Int) : Prop := -9223372036854775808 ≤ z ∧ z ≤ 9223372036854775807
/-- A variable of the library's stays where all old memory stays. -/
theorem var_stay {P : Program} {w w' : World} {name : String} {cs : Array Value} (h : w.var? P name = some cs) (hb : Below w.heap.size w w') : w'.var? P name = some cs := by
  cases hg : P.globalNamed name with
  | none => simp [World.var?, hg] at h
  | some g =>
    have hlt : g < w.heap.size := by
      rcases Nat.lt_or_ge g w.heap.size with h1 | h1
      · exact h1
      · simp [World.var?, hg, Array.getElem?_eq_none h1] at h
    have hblk := hb.block g hlt
    simp only [World.var?, hg, Option.bind_some] at h ⊢
    rw [hblk]
    exact h
/-- What the library asks of the world. -/
structure Env (w : World) : Prop where
  tab : Lib.TabIs Tryd.prog w "internal/strconv.uint64pow10" .u64 Lib.pow10Tab
  syn : ∃ tp p, w.var? Tryd.prog "strconv.ErrSyntax" = some #[.iface tp p]
  rng : ∃ tp p, w.var? Tryd.prog "strconv.ErrRange" = some #[.iface tp p]
theorem Env.below {w w' : World} (h : Env w) (hb : Below w.heap.size w w') : Env w' := by
  obtain ⟨a, b, h1⟩ := h.syn
  obtain ⟨c, d, h2⟩ := h.rng
  exact ⟨Lib.tabBelow_of_tabIs h.tab _ hb, ⟨a, b, var_stay h1 hb⟩, ⟨c, d, var_stay h2 hb⟩⟩
theorem Env.to {w w1 w2 : World} (h : Env w) (hb : Below w.heap.size w w1) : Env w1 := h.below hb
theorem trim_un (l : List UInt8) : Lib.trimPrefix l [45] = un l := by
  unfold Lib.trimPrefix un Lib.hasPrefix
  cases l with
  | nil => rfl
  | cons c r =>
    by_cases hc : c = 45
    · subst hc
      rw [if_pos (show ([45] : List UInt8).isPrefixOf (45 :: r) = true from rfl), if_pos (show (45 :: r).head? = some 45 from rfl)]
      rfl
    · have h1 : ([45] : List UInt8).isPrefixOf (c :: r) = false := by
        show ((45 : UInt8) == c && true) = false
        rw [Bool.and_true, beq_eq_false_iff_ne]
        exact fun e => hc e.symm
      rw [h1, if_neg Bool.false_ne_true, if_neg (by rw [List.head?_cons]; exact fun e => hc (Option.some.inj e))]
def RdIs (l : List UInt8) (v : Int) (ok : Bool) : Prop := I64 v ∧ ∀ z, Sm z → Lib.itoa z = l → v = z ∧ ok = true
def RdEnd (l : List UInt8) (e : Ending) : Prop := ∃ v ok, e = .returned (.tuple #[.int .i64 v, .bool ok]) ∧ RdIs l v ok
theorem rd_no {l : List UInt8} (h : ∀ z, Sm z → Lib.itoa z ≠ l) : RdIs l 0 false := ⟨by omega, fun z h1 h2 => absurd h2 (h z h1)⟩
set_option maxRecDepth 100000 in
set_option maxHeartbeats 1000000 in
theorem ReadDecimal_calls (s : ByteArray) (w : World) (hs : s.size ≤ 1048576) (hE : Env w) :
    Calls Tryd.prog 57 #[.string s] w fun e w' => RdEnd s.data.toList e ∧ Below w.heap.size w w' := by
  obtain ⟨l, hl⟩ : ∃ l, s.data.toList = l := ⟨_, rfl⟩
  have hsl : s = mkS l := by rw [← hl]; rfl
  have hz : ∀ z, Sm z → Lib.itoa z = l → Lib.parseIntB 64 s.data.toList = .ok z := fun z h1 h2 => by rw [hl, ← h2]; exact parse_itoa h1
  have HZ := hd hz
  have HE := hd hE
  have HSL := hd hsl
  have HS := hd hs
  rw [hl]
  clear hz hl hsl hE hs
  by_cases hok : ∃ v, Lib.parseIntB 64 s.data.toList = .ok v
  · obtain ⟨v, hp⟩ := hok
    obtain ⟨v0, v1⟩ := Lib.parseIntB_bounds hp
    have v2 : -9223372036854775808 ≤ v := by simpa using v0
    have v3 : v ≤ 9223372036854775807 := by
      have : v < 9223372036854775808 := by simpa using v1
      omega
    have HEQ : Hid (∀ z, Sm z → Lib.itoa z = l → z = v) := hd (fun z h1 h2 => by have := HZ.out z h1 h2; rw [hp] at this; injection this with this; exact this.symm)
    have HC := hd (Tryd.strconv_ParseInt_10_at64_ok s (by have := HS.out; omega) v hp w)
    have HV : Hid (I64 v) := hd ⟨v2, v3⟩
    clear hp v0 v1 v2 v3
    obtain ⟨D, hD⟩ : ∃ D, (⟨(Lib.itoa v).toArray⟩ : ByteArray) = D := ⟨_, rfl⟩
    have HD := hd hD
    have HDQ : Hid (D = s ↔ Lib.itoa v = l) := hd (by
      rw [← hD, HSL.out]
      constructor
      · exact fun e => mkS_inj e
      · exact fun e => by rw [e]; rfl)
    clear hD
    by_cases hq : Lib.itoa v = l
    · have hqq : (D.toList == s.toList) = true := str_eq (HDQ.out.2 hq)
      have HQ := hd hq
      clear hq
      have HT : Hid (∀ W, Calls Tryd.prog 69 #[.string s, .string ⟨#[45]⟩] W fun e w' => e = .returned (.string (mkS (un l))) ∧ w' = W) := hd (fun W => (Tryd.strings_TrimPrefix s ⟨#[45]⟩ W).mono fun e w' h => ⟨h.1.trans (by
        rw [HSL.out, mkS_list, show (⟨#[45]⟩ : ByteArray).data.toList = [45] from rfl, trim_un]; rfl), h.2⟩)
      have hTs := mkS_size (un l)
      obtain ⟨n, hn⟩ : ∃ n, (un l).length = n := ⟨_, rfl⟩
      rw [hn] at hTs
      have HN := hd hn
      clear hn
      by_cases h18 : n ≤ 18
      · have h18' : ¬ (18 : Int) < (n : Int) := by omega
        have FF : Hid (RdIs l v true) := hd ⟨HV.out, fun z h1 h2 => ⟨(HEQ.out z h1 h2).symm, rfl⟩⟩
        go_enter Tryd.func57, Tryd.ntmps57
        go_wp2_with (go_at_call 68; refine HC.out.mono ?_; rintro e w1 ⟨rfl, hw⟩)
        have b1 : Below w.heap.size w w1 := by
          rcases hw with rfl | ⟨t, rfl⟩
          · exact Below.refl _ _
          · exact Lib.bytesWorld_below w _ t
        clear hw
        refine (Decimal_calls v _ HV.out.1 HV.out.2 (HE.out.below b1).tab).mono ?_
        rintro e w2 ⟨he, b2⟩
        rw [HD.out] at he
        subst he
        have b3 := bnext b1 b2 (Nat.le_refl _)
        go_wp2_with (go_at_call 69; refine (HT.out _).mono ?_; rintro e w4 ⟨rfl, rfl⟩)
        go_ret2
        exact ⟨⟨_, _, rfl, FF.out⟩, b3⟩
      · have h18' : (18 : Int) < (n : Int) := by omega
        have FF := hd (rd_no (l := l) (fun z h1 h2 => by
          have h3 := sm_len h1
          have h4 := HN.out
          rw [← h2, un_itoa] at h4
          omega))
        go_enter Tryd.func57, Tryd.ntmps57
        go_wp2_with (go_at_call 68; refine HC.out.mono ?_; rintro e w1 ⟨rfl, hw⟩)
        have b1 : Below w.heap.size w w1 := by
          rcases hw with rfl | ⟨t, rfl⟩
          · exact Below.refl _ _
          · exact Lib.bytesWorld_below w _ t
        clear hw
        refine (Decimal_calls v _ HV.out.1 HV.out.2 (HE.out.below b1).tab).mono ?_
        rintro e w2 ⟨he, b2⟩
        rw [HD.out] at he
        subst he
        have b3 := bnext b1 b2 (Nat.le_refl _)
        go_wp2_with (go_at_call 69; refine (HT.out _).mono ?_; rintro e w4 ⟨rfl, rfl⟩)
        go_ret2
        exact ⟨⟨_, _, rfl, FF.out⟩, b3⟩
    · have hqq : (D.toList == s.toList) = false := str_ne (fun e => hq (HDQ.out.1 e))
      have FF := hd (rd_no (l := l) (fun z h1 h2 => hq (by rw [← HEQ.out z h1 h2]; exact h2)))
      clear hq
      go_enter Tryd.func57, Tryd.ntmps57
      go_wp2_with (go_at_call 68; refine HC.out.mono ?_; rintro e w1 ⟨rfl, hw⟩)
      have b1 : Below w.heap.size w w1 := by
        rcases hw with rfl | ⟨t, rfl⟩
        · exact Below.refl _ _
        · exact Lib.bytesWorld_below w _ t
      clear hw
      refine (Decimal_calls v _ HV.out.1 HV.out.2 (HE.out.below b1).tab).mono ?_
      rintro e w2 ⟨he, b2⟩
      rw [HD.out] at he
      subst he
      have b3 := bnext b1 b2 (Nat.le_refl _)
      go_wp2_with fail
      go_ret2
      exact ⟨⟨_, _, rfl, FF.out⟩, b3⟩
  · by_cases hrg : Lib.parseIntB 64 s.data.toList = .range
    · have FF := hd (rd_no (l := l) (fun z h1 h2 => hok ⟨z, HZ.out z h1 h2⟩))
      obtain ⟨tp, p, hv⟩ := HE.out.rng
      have HC := hd (Tryd.strconv_ParseInt_10_at64_range_var s (by have := HS.out; omega) hrg tp p w hv)
      clear hok hrg hv
      go_enter Tryd.func57, Tryd.ntmps57
      go_wp2_with (go_at_call 68; refine HC.out.mono ?_; rintro e w1 ⟨N, rfl, -, -, b1⟩)
      go_ret2
      exact ⟨⟨_, _, rfl, FF.out⟩, b1⟩
    · have FF := hd (rd_no (l := l) (fun z h1 h2 => hok ⟨z, HZ.out z h1 h2⟩))
      obtain ⟨tp, p, hv⟩ := HE.out.syn
      have HC := hd (Tryd.strconv_ParseInt_10_at64_bad s (by have := HS.out; omega) (fun v e => hok ⟨v, e⟩) hrg tp p w hv)
      clear hok hrg hv
      go_enter Tryd.func57, Tryd.ntmps57
      go_wp2_with (go_at_call 68; refine HC.out.mono ?_; rintro e w1 ⟨N, rfl, -, -, b1⟩)
      go_ret2
      exact ⟨⟨_, _, rfl, FF.out⟩, b1⟩
theorem numbersIn1_calls (x : Nat) (w : World) (hx : x ≤ 1114111) :
    Calls Tryd.prog 56 #[.int .i32 (x : Int)] w fun e w' => e = .returned (.bool (notC x)) ∧ w' = w := by
  by_cases h45 : x = 45
  · have d1 : ((x : Int) == 45) = true := by simp; omega
    have d2 : ((x : Int) != 45) = false := by simp; omega
    have K : Hid (notC x = false) := hd (by subst h45; rfl)
    clear h45
    go_enter Tryd.func56, Tryd.ntmps56
    go_wp2_with fail
    go_ret
    exact ⟨ret_bool (by rw [K.out]), rfl⟩
  · have d1 : ((x : Int) == 45) = false := by simp; omega
    have d2 : ((x : Int) != 45) = true := by simp; omega
    by_cases h48 : x < 48
    · have d3 : (x : Int) < 48 := by omega
      have K : Hid (notC x = true) := hd (by unfold notC; rw [decide_eq_true (show x ≠ 45 from h45), decide_eq_true h48]; rfl)
      clear h45
      go_enter Tryd.func56, Tryd.ntmps56
      go_wp2_with fail
      go_ret
      exact ⟨ret_bool (by rw [K.out]), rfl⟩
    · have d3 : ¬ (x : Int) < 48 := by omega
      have d4 : decide ((x : Int) < 48) = false := by simp; omega
      by_cases h57 : 57 < x
      · have d5 : (57 : Int) < x := by omega
        have K : Hid (notC x = true) := hd (by unfold notC; rw [decide_eq_true (show x ≠ 45 from h45), decide_eq_true h57, Bool.or_true]; rfl)
        clear h45
        go_enter Tryd.func56, Tryd.ntmps56
        go_wp2_with fail
        go_ret
        exact ⟨ret_bool (by rw [K.out]), rfl⟩
      · have d5 : decide ((57 : Int) < x) = false := by simp; omega
        have K : Hid (notC x = false) := hd (by unfold notC; rw [decide_eq_false h48, decide_eq_false h57]; simp)
        clear h45
        go_enter Tryd.func56, Tryd.ntmps56
        go_wp2_with fail
        go_ret
        exact ⟨ret_bool (by rw [K.out]), rfl⟩
theorem word_size {p : Nat → Bool} {s x : ByteArray} (h : x ∈ Lib.goFieldsP p s) : x.size ≤ s.size := by
  unfold Lib.goFieldsP at h
  obtain ⟨y, _, rfl⟩ := List.mem_map.1 h
  simp only [ByteArray.size_extract]
  omega
theorem flat_str (xs : List ByteArray) : xs.map Value.string = xs.flatMap cStr := by
  induction xs with
  | nil => rfl
  | cons x xs ih => rw [List.map_cons, List.flatMap_cons, ih]; rfl
/-- The numbers that the words spell, where each is the text of a number of few digits. -/
def Spells (ws : List ByteArray) (zs : List Int) : Prop := (∀ z ∈ zs, Sm z) ∧ ws = zs.map fun z => mkS (Lib.itoa z)
theorem spells_at {ws : List ByteArray} {zs : List Int} (h : Spells ws zs) {k : Nat} {x : ByteArray} (hx : ws[k]? = some x) : ∃ z, zs[k]? = some z ∧ Sm z ∧ Lib.itoa z = x.data.toList := by
  rw [h.2, List.getElem?_map] at hx
  cases hz : zs[k]? with
  | none => rw [hz] at hx; cases hx
  | some z =>
    rw [hz] at hx
    obtain rfl := Option.some.inj hx
    exact ⟨z, rfl, h.1 z (List.mem_of_getElem? hz), rfl⟩
set_option maxRecDepth 100000 in
set_option maxHeartbeats 1000000 in
theorem numbersIn_calls (s : ByteArray) (w : World) (hs : s.size ≤ 1048576) (hE : Env w) :
    Calls Tryd.prog 35 #[.string s] w fun e w' => ∃ A n c xs, e = .returned (.slice A n c) ∧ Own 1 cInt64 2 w' w.heap.size w'.heap.size A n c xs ∧ n ≤ 1048576 ∧ (∀ z ∈ xs, I64 z) ∧ (∀ zs, Spells (Lib.goFieldsP notC s) zs → xs = zs) ∧ Below w.heap.size w w' := by
  obtain ⟨i0, hi, hz0, hz1, hz2⟩ := info_parts infoInt64
  obtain ⟨ws, hws⟩ : ∃ ws, Lib.goFieldsP notC s = ws := ⟨_, rfl⟩
  obtain ⟨N, hN⟩ : ∃ N, ws.length = N := ⟨_, rfl⟩
  have hNs : N ≤ 1048576 := by rw [← hN, ← hws]; exact Nat.le_trans (fields_len _ _) hs
  have HWZ : Hid (∀ x ∈ ws, x.size ≤ 1048576) := hd (fun x hx => by rw [← hws] at hx; exact Nat.le_trans (word_size hx) hs)
  have he := ent Tryd.func56 (by kernel_rfl) rfl
  have HF : Hid (∀ W, Calls Tryd.prog 55 #[.string s, .func (.func 56) #[] #[]] W fun e w' => ∃ A, e = .returned (.slice (some ⟨A, 0, none⟩) N N) ∧ Own 1 cStr 9 w' W.heap.size w'.heap.size (some ⟨A, 0, none⟩) N N ws ∧ Below W.heap.size W w') := hd (fun W => by
    have h1 := Tryd.strings_FieldsFunc_runes 56 #[] he notC s W (by omega) (fun W' x hx _ => by
      show Calls _ _ (#[Value.int .i32 (x : Int)] ++ #[]) _ _
      rw [Array.append_empty]
      exact (numbersIn1_calls x W' hx).mono fun e w' h => ⟨h.1, 0, by rw [h.2]; rfl⟩)
    rw [hws, hN] at h1
    refine h1.mono ?_
    rintro e w' ⟨A, rfl, hA, ho, hb⟩
    rw [flat_str] at ho
    refine ⟨A, rfl, ⟨hN, ho, fun a ha => ?_⟩, hb⟩
    obtain rfl := Option.some.inj ha
    rcases ho.2 with ⟨h0, _⟩ | ⟨g, cap, cur, hv, _, hg, _⟩
    · cases h0
    · injection hv with hv
      obtain rfl : A = g := by simpa using hv
      exact blk_lt hg)
  have HE := hd hE
  have HWS := hd hws
  have HN := hd hN
  have own0 := Own.empty (sz := 1) (cs := cInt64) (E := 2) (L := w.heap.size) (U := w.heap.size + 1) w #[] rfl (Nat.le_refl _) (by simp)
  have OWN0 := hd own0
  have dd0 := (Below.refl w.heap.size w).alloc (Nat.le_refl _) (.cells #[] 2)
  clear hE hws hN he hs own0
  go_enter Tryd.func35, Tryd.ntmps35
  go_wp2_with fail
  refine (HF.out _).mono ?_
  rintro e w1 ⟨A0, rfl, ho1, b1⟩
  have hb1 := bnext dd0 b1 (Nat.le_refl _)
  obtain ⟨cur, hg0, hblk, -, -, -, -⟩ := own_head ho1.2.1
  have hA0 : w.heap.size < A0 := Nat.lt_of_lt_of_le (Nat.lt_succ_self _) (by simpa using hg0)
  have HC : Hid (∀ k x, ws[k]? = some x → cur[k]? = some (Value.string x)) := hd (fun k x hx => by
    obtain ⟨b, o, y, e, _, hy, hc⟩ := getStr (ho1.rd len_cStr) (k := k) (by rw [← HN.out]; exact lt_of_get hx)
    obtain ⟨rfl, rfl⟩ : A0 = b ∧ 0 = o := by simpa using e
    rw [hx] at hy
    obtain rfl := Option.some.inj hy
    rw [Nat.zero_add, blk_cell hblk] at hc
    exact hc)
  have OWN1 := hd ((OWN0.out.below b1).mono (Nat.le_refl _) (Nat.le_trans (by simp) b1.size))
  clear OWN0 ho1 b1 dd0 hg0
  go_wp2_with fail
  go_loopw [3, 12] (fun s3 s12 wr => ∃ k : Nat, ∃ A c, ∃ xs : List Int, k ≤ N ∧ s12 = .int .i64 k ∧ s3 = .slice A k c ∧ Own 1 cInt64 2 wr w.heap.size wr.heap.size A k c xs ∧ Off A A0 ∧ wr.heap[A0]? = some (.cells cur 9 (0, 0)) ∧ (∀ z ∈ xs, I64 z) ∧ (∀ zs, Spells ws zs → xs = zs.take k) ∧ Below w.heap.size w wr) (fun _ i _ => N - (intOf i).toNat)
  case atStart => exact ⟨0, _, 0, [], Nat.zero_le _, rfl, rfl, OWN1.out, (fun a ha => by obtain rfl := Option.some.inj ha; show w.heap.size ≠ A0; omega), hblk, (fun z hz => by simp at hz), (fun zs _ => by rw [List.take_zero]), hb1⟩
  case round =>
    clear OWN1 hb1 hblk
    obtain ⟨k, A, c', xs, hk, rfl, rfl, ho, hoff, hblk, hall, hsp, hb⟩ := hrel
    have HO := hd ho
    have HOFF := hd hoff
    have HALL := hd hall
    have HSP := hd hsp
    clear ho hoff hall hsp
    by_cases hlt : k < N
    · obtain ⟨x, hx⟩ : ∃ x, ws[k]? = some x := ⟨ws[k]'(by rw [HN.out]; exact hlt), List.getElem?_eq_getElem _⟩
      have hcell := (blk_cell hblk k).trans (HC.out k x hx)
      have HX := hd hx
      have HBLK := hd hblk
      have j1 : (0 : Int) ≤ (k : Int) := by omega
      have j2 : (k : Int) < (N : Int) := by omega
      have hxs := HWZ.out x (List.mem_of_getElem? hx)
      clear hx hblk
      go_wp2_with fail
      refine (ReadDecimal_calls x _ hxs (HE.out.below hb)).mono ?_
      rintro e w2 ⟨⟨v, ok, rfl, hv⟩, b2⟩
      have HV := hd hv
      have HBLK2 := hd (blk_below HBLK.out b2 (blk_lt HBLK.out))
      have HO2 := hd ((HO.out.below b2).mono (Nat.le_refl _) b2.size)
      have hb2 := bnext hb b2 (Nat.le_refl _)
      clear hv hcell b2 hb HBLK HO
      cases ok
      · have HNO : Hid (∀ zs, Spells ws zs → False) := hd (fun zs h => by
          obtain ⟨z, _, hz, hi⟩ := spells_at h HX.out
          exact absurd (HV.out.2 z hz hi).2 Bool.false_ne_true)
        have dd9 := hb2.alloc hb2.size (.cells #[] 2)
        have own9 := Own.empty (sz := 1) (cs := cInt64) (E := 2) (L := w.heap.size) (U := w2.heap.size + 1) w2 #[] rfl hb2.size (by simp)
        have O9 := hd own9
        clear own9
        go_wp2_with fail
        go_ret
        exact ⟨_, 0, 0, [], rfl, O9.out.mono (Nat.le_refl _) (by simp), by omega, fun z hz => (by simp at hz), fun zs h => absurd (by rw [← HWS.out]; exact h) (HNO.out zs), dd9⟩
      · have HNX : Hid (∀ zs, Spells ws zs → xs ++ [v] = zs.take (k + 1)) := hd (fun zs h => by
          obtain ⟨z, hzk, hz, hi⟩ := spells_at h HX.out
          rw [(HV.out.2 z hz hi).1, take_next hzk, HSP.out zs h])
        have HA2 : Hid (∀ z ∈ xs ++ [v], I64 z) := hd (fun z hz => by
          rcases List.mem_append.1 hz with h | h
          · exact HALL.out z h
          · obtain rfl : z = v := by simpa using h
            exact HV.out.1)
        clear HALL HSP
        go_wp2_with (at_builtin; refine wpList_app_at _ rfl _ _ 50 rfl 2 i0 _ 1 8 Tryd.underlying50 hi hz0 hz1 hz2 rfl (by decide) len_ci one_ci w.heap.size w2.heap.size A k c' xs rfl (HO2.out.alloc _) w2.heap.size v rfl (app_new _ _ _) (by omega) (by unfold maxLen; omega) (by have := hb2.size; simp; omega) ?_)
        intro A' c'' w3 ho3 hg3 hoff3
        have rG := blk_grown (blk_alloc HBLK2.out _) hg3 HOFF.out
        have hof := hoff3 A0 HOFF.out (by have := blk_lt HBLK2.out; simp; omega)
        have hb3 := below_app (hb2.alloc hb2.size _) (HO2.out.alloc _) hg3 (Nat.le_refl _) (Nat.le_refl _)
        have HO3 := hd ho3
        have RG := hd rG
        have HOF := hd hof
        clear ho3 hg3 hoff3 rG hof
        go_wp2_with fail
        go_roundw
        case rel => exact ⟨k + 1, A', c'', xs ++ [v], by omega, by go_num, rfl, HO3.out, HOF.out, RG.out, HA2.out, HNX.out, hb3⟩
        case measure => simp [intOf]; omega
    · obtain rfl : k = N := by omega
      have HFIN : Hid (∀ zs, Spells ws zs → xs = zs) := hd (fun zs h => by
        rw [HSP.out zs h]
        refine List.take_of_length_le ?_
        have := congrArg List.length h.2
        rw [List.length_map, HN.out] at this
        omega)
      go_wp2_with fail
      go_ret
      exact ⟨A, k, c', xs, rfl, HO.out, hNs, HALL.out, fun zs h => HFIN.out zs (by rw [← HWS.out]; exact h), hb⟩
end Go.Proofs.YtbbnjddgioaoeaaDoor
