/- ReadBreach: the program's side. -/
import Derived.Test.YtbbnjddgioaoeaaDoorRdn
import Derived.Test.YtbbnjddgioaoeaaDoorBrt
import Derived.Test.YtbbnjddgioaoeaaDoorShR
import Derived.Lib.Replace
import Derived.Lib.CountLaws
import Derived.Deep.RegionHeld3
namespace Go.Proofs.YtbbnjddgioaoeaaDoor
open Go.RowKit
set_option linter.unusedVariables false

/-- The text of a breach, as a list of bytes. -/
def brL (a b c : Int) : List UInt8 := (Lib.itoa a ++ [109]) ++ 32 :: ([115, 105, 108, 108] ++ 32 :: (Lib.itoa b ++ 32 :: ([119, 97, 116, 101, 114] ++ 32 :: Lib.itoa c)))
/-- The same without its first letter m. -/
def brM (a b c : Int) : List UInt8 := Lib.itoa a ++ 32 :: ([115, 105, 108, 108, 32] ++ (Lib.itoa b ++ 32 :: ([119, 97, 116, 101, 114, 32] ++ Lib.itoa c)))
theorem brT_L {a b c : Int} (h : brP a b c = true) : brT a b c = mkS (brL a b c) := by
  rw [brT_ok h]
  unfold txt3
  rw [show (⟨#[109, 32, 115, 105, 108, 108, 32]⟩ : ByteArray) = ⟨[109, 32, 115, 105, 108, 108, 32].toArray⟩ from rfl, show (⟨#[32, 119, 97, 116, 101, 114, 32]⟩ : ByteArray) = ⟨[32, 119, 97, 116, 101, 114, 32].toArray⟩ from rfl]
  simp only [cat]
  unfold mkS brL
  simp
theorem br_sm {a b c : Int} (h : brP a b c = true) : Sm a ∧ Sm b ∧ Sm c := by
  simp only [brP, Bool.and_eq_true] at h
  have h1 := inB_iff.1 h.1
  have h2 := lvB_iff.1 h.2.1
  have h3 := inB_iff.1 h.2.2
  unfold Sm
  omega
theorem br_fl (a b c : Int) : fl [] (brM a b c) = [Lib.itoa a, Lib.itoa b, Lib.itoa c] := by
  unfold brM
  rw [fl_num (by decide), fl_no (by decide), fl_num (by decide), fl_no (by decide), fl_num_end]
theorem no_byte {z : Int} {c : UInt8} (hc : notN c = true) : ∀ b ∈ Lib.itoa z, b ≠ c := by
  intro b hb e
  subst e
  rw [itoa_yes z b hb] at hc
  cases hc
theorem br_sp (a b c : Int) : sp [] (brL a b c) = [Lib.itoa a ++ [109], [115, 105, 108, 108], Lib.itoa b, [119, 97, 116, 101, 114], Lib.itoa c] := by
  unfold brL
  rw [sp_free (fun x hx => by
    rcases List.mem_append.1 hx with hx | hx
    · exact blk32 a x hx
    · obtain rfl : x = 109 := by simpa using hx
      decide), sp_free (by decide), sp_free (blk32 b), sp_free (by decide), sp_end (blk32 c)]
  rfl
theorem br_low (a b c : Int) : ∀ x ∈ brM a b c, x.toNat < 128 := by
  have ha : ∀ {a b : List UInt8}, (∀ x ∈ a, x.toNat < 128) → (∀ x ∈ b, x.toNat < 128) → ∀ x ∈ a ++ b, x.toNat < 128 := by
    intro a b h1 h2 x hx
    rcases List.mem_append.1 hx with hx | hx
    · exact h1 x hx
    · exact h2 x hx
  have hc : ∀ {b : List UInt8}, (∀ x ∈ b, x.toNat < 128) → ∀ x ∈ 32 :: b, x.toNat < 128 := by
    intro b h2 x hx
    rcases List.mem_cons.1 hx with rfl | hx
    · decide
    · exact h2 x hx
  exact ha (itoa_low a) (hc (ha (by decide) (ha (itoa_low b) (hc (ha (by decide) (itoa_low c))))))
theorem index_at {a : List UInt8} (h : ∀ b ∈ a, b ≠ 109) (r : List UInt8) : Lib.index (a ++ 109 :: r) [109] = (a.length : Int) := by
  induction a with
  | nil => rfl
  | cons b a ih =>
    have hb : b ≠ 109 := h b (List.mem_cons_self ..)
    have h1 : ([109] : List UInt8).isPrefixOf (b :: (a ++ 109 :: r)) = false := by
      show ((109 : UInt8) == b && true) = false
      rw [Bool.and_true, beq_eq_false_iff_ne]
      exact fun e => hb e.symm
    have h2 := ih (fun c hc => h c (List.mem_cons_of_mem _ hc))
    show (if ([109] : List UInt8).isPrefixOf (b :: (a ++ 109 :: r)) = true then (0 : Int) else if (Lib.index (a ++ 109 :: r) [109] == -1) = true then -1 else Lib.index (a ++ 109 :: r) [109] + 1) = _
    rw [h1, h2, if_neg Bool.false_ne_true, if_neg (by rw [beq_iff_eq]; omega), List.length_cons]
    omega
theorem rep_at {a : List UInt8} (h : ∀ b ∈ a, b ≠ 109) (r : List UInt8) : Lib.replace (a ++ 109 :: r) [109] [] 1 = a ++ r := by
  have hi := index_at h r
  have hc := Lib.count_hit (sub := [109]) (by simp) hi
  unfold Lib.replace Lib.replaceNum
  rw [if_neg (by simp), if_neg (by rw [hc]; omega)]
  show Lib.replaceK [109] [] (0 + 1) _ = _
  rw [Lib.replaceK_hit _ _ _ _ _ hi]
  simp [Lib.replaceK]
theorem br_rep (a b c : Int) : Lib.replace (brL a b c) [109] [] 1 = brM a b c := by
  have e : brL a b c = Lib.itoa a ++ 109 :: (32 :: ([115, 105, 108, 108] ++ 32 :: (Lib.itoa b ++ 32 :: ([119, 97, 116, 101, 114] ++ 32 :: Lib.itoa c)))) := by unfold brL; simp
  rw [e, rep_at (no_byte (by decide))]
  rfl
theorem repK_len (s : List UInt8) : ∀ k, ∀ s : List UInt8, (Lib.replaceK [109] [] k s).length ≤ s.length
  | 0, s => Nat.le_refl _
  | k + 1, s => by
    rw [Lib.replaceK]
    split
    · exact Nat.le_refl _
    · have := repK_len s k (s.drop ((Lib.index s [109]).toNat + [109].length))
      simp only [List.length_append, List.length_take, List.length_drop, List.length_nil, List.length_cons] at this ⊢
      omega
theorem rep_len (s : List UInt8) : (Lib.replace s [109] [] 1).length ≤ s.length := by
  unfold Lib.replace
  rw [if_neg (by simp)]
  exact repK_len s _ s
theorem br_spells {a b c : Int} (h : brP a b c = true) : Spells (Lib.goFieldsP notC (mkS (brM a b c))) [a, b, c] := by
  obtain ⟨h1, h2, h3⟩ := br_sm h
  refine ⟨fun z hz => ?_, ?_⟩
  · simp only [List.mem_cons, List.mem_nil_iff, or_false] at hz
    rcases hz with rfl | rfl | rfl
    · exact h1
    · exact h2
    · exact h3
  · rw [fields_fl (br_low a b c), br_fl]; rfl
theorem brL_ne (a b c : Int) : brL a b c ≠ [] := by unfold brL; simp
/-- What the text l says of a breach. -/
def BrIs (l : List UInt8) (a b c : Int) (ok : Bool) : Prop := (ok = true → brP a b c = true ∧ brL a b c = l) ∧ (ok = false → (a = 0 ∧ b = 0 ∧ c = 0) ∧ ∀ x y z, brP x y z = true → brL x y z ≠ l)
def BrEnd (l : List UInt8) (e : Ending) : Prop := ∃ a b c ok, e = .returned (.tuple #[.agg #[.int .i64 a, .int .i64 b, .int .i64 c], .bool ok]) ∧ BrIs l a b c ok
theorem br_no {l : List UInt8} (h : ∀ x y z, brP x y z = true → brL x y z ≠ l) : BrIs l 0 0 0 false := ⟨fun e => (by cases e), fun _ => ⟨⟨rfl, rfl, rfl⟩, h⟩⟩
theorem br_yes {l : List UInt8} {a b c : Int} (h : brP a b c = true) (e : brL a b c = l) : BrIs l a b c true := ⟨fun _ => ⟨h, e⟩, fun e => (by cases e)⟩
theorem br_inj {a b c x y z : Int} (h : brP a b c = true) (g : brP x y z = true) (e : brL a b c = brL x y z) : a = x ∧ b = y ∧ c = z := by
  have h1 := br_fl a b c
  rw [← br_rep, e, br_rep, br_fl] at h1
  simp only [List.cons.injEq, and_true] at h1
  obtain ⟨e1, e2, e3⟩ := h1
  obtain ⟨s1, s2, s3⟩ := br_sm h
  obtain ⟨t1, t2, t3⟩ := br_sm g
  exact ⟨(itoa_inj t1 s1 e1).symm, (itoa_inj t2 s2 e2).symm, (itoa_inj t3 s3 e3).symm⟩
theorem BrIs.uniq {l : List UInt8} {a b c x y z : Int} {ok oy : Bool} (h : BrIs l a b c ok) (g : BrIs l x y z oy) : (a = x ∧ b = y ∧ c = z) ∧ ok = oy := by
  cases ok <;> cases oy
  · obtain ⟨⟨rfl, rfl, rfl⟩, _⟩ := h.2 rfl
    obtain ⟨⟨rfl, rfl, rfl⟩, _⟩ := g.2 rfl
    exact ⟨⟨rfl, rfl, rfl⟩, rfl⟩
  · exact absurd (g.1 rfl).2 ((h.2 rfl).2 _ _ _ (g.1 rfl).1)
  · exact absurd (h.1 rfl).2 ((g.2 rfl).2 _ _ _ (h.1 rfl).1)
  · exact ⟨br_inj (h.1 rfl).1 (g.1 rfl).1 ((h.1 rfl).2.trans (g.1 rfl).2.symm), rfl⟩
abbrev brO (a b c : Int) : Obj := .cells #[.int .i64 a, .int .i64 b, .int .i64 c] 34 (0, 0)
/-- What Replace asks of the world. -/
def Mx (w : World) : Prop := ∃ m, w.cell? ⟨0, 0, none⟩ = some (.int .i64 m)
theorem Mx.below {w w' : World} (h : Mx w) (hb : Below w.heap.size w w') : Mx w' := by
  obtain ⟨m, hm⟩ := h
  exact ⟨m, (hb.cell (p := ⟨0, 0, none⟩) (World.block_lt_of_cell? w _ hm)).trans hm⟩
theorem Replace_calls (l : List UInt8) (w : World) (hl : l.length ≤ 1048576) (hM : Mx w) :
    Calls Tryd.prog 40 #[.string (mkS l), .string ⟨#[109]⟩, .string ⟨#[]⟩, .int .i64 1] w fun e w' => e = .returned (.string (mkS (Lib.replace l [109] [] 1))) ∧ Below w.heap.size w w' := by
  obtain ⟨m, hm⟩ := hM
  have hs := mkS_size l
  have h := Tryd.strings_Replace (mkS l) ⟨#[109]⟩ ⟨#[]⟩ 1 m w (by omega) hm (by decide) (by rw [show (⟨#[]⟩ : ByteArray).size = 0 from rfl]; omega)
  exact h
set_option maxRecDepth 100000 in
set_option maxHeartbeats 1000000 in
theorem ReadBreach_calls (l : List UInt8) (w : World) (hl : l.length ≤ 1048576) (hE : Env w) (hM : Mx w) :
    Calls Tryd.prog 17 #[.string (mkS l)] w fun e w' => BrEnd l e ∧ Below w.heap.size w w' := by
  have HE := hd hE
  have HM := hd hM
  have HSZ := hd hl
  obtain ⟨m, hm⟩ : ∃ m, Lib.replace l [109] [] 1 = m := ⟨_, rfl⟩
  have HMS : Hid ((mkS m).size ≤ 1048576) := hd (by rw [mkS_size, ← hm]; have := rep_len l; omega)
  have HRM := hd hm
  have hg := heap_alloc_new w (brO 0 0 0)
  have dd := (Below.refl w.heap.size w).alloc (Nat.le_refl _) (brO 0 0 0)
  clear hE hl hM hm
  go_enter Tryd.func17, Tryd.ntmps17
  go_upto_region 1 with fail
  generalize w.alloc (brO 0 0 0) = W1 at dd hg ⊢
  go_wp2_with fail
  refine (Replace_calls l _ HSZ.out (HM.out.below dd)).mono ?_
  rintro e w0 ⟨he, b0⟩
  rw [HRM.out] at he
  subst he
  have d0 := bnext dd b0 (Nat.le_refl _)
  have g0 := blk_below hg b0 (blk_lt hg)
  clear dd hg b0
  go_wp2_with fail
  refine (numbersIn_calls (mkS m) _ HMS.out (HE.out.below d0)).mono ?_
  rintro e w1 ⟨A, n, c, xs, rfl, ho, hn, hall, hsp, b1⟩
  have d1 := bnext d0 b1 (Nat.le_refl _)
  have g1 := blk_below g0 b1 (blk_lt g0)
  have HSPL : Hid (∀ a b c, brP a b c = true → brL a b c = l → xs = [a, b, c]) := hd (fun a b c h e => by
    have h1 := HRM.out
    rw [← e, br_rep] at h1
    exact hsp _ (by rw [← h1]; exact br_spells h))
  have HO := hd (ho.rd len_cInt64)
  have HALL := hd hall
  clear ho hall hsp d0 g0 b1
  by_cases hn2 : n = 3
  · subst hn2
    obtain ⟨bo, oo, x0, rfl, hbl, hx0, hc0⟩ := getInt64 HO.out (k := 0) (by omega)
    obtain ⟨b', o', x1, e', -, hx1, hc1⟩ := getInt64 HO.out (k := 1) (by omega)
    obtain ⟨rfl, rfl⟩ : bo = b' ∧ oo = o' := by simpa using e'
    obtain ⟨b', o', x2, e', -, hx2, hc2⟩ := getInt64 HO.out (k := 2) (by omega)
    obtain ⟨rfl, rfl⟩ : bo = b' ∧ oo = o' := by simpa using e'
    rw [Nat.add_zero] at hc0
    have hxs : xs = [x0, x1, x2] := by
      have h1 := HO.out.len
      match xs, h1, hx0, hx1, hx2 with
      | [u0, u1, u2], _, h2, h3, h4 =>
        obtain rfl : u0 = x0 := by simpa using h2
        obtain rfl : u1 = x1 := by simpa using h3
        obtain rfl : u2 = x2 := by simpa using h4
        rfl
    subst hxs
    have HI0 := hd (HALL.out x0 (by simp))
    have HI1 := hd (HALL.out x1 (by simp))
    have HI2 := hd (HALL.out x2 (by simp))
    have G1 := hd g1
    clear e' hx0 hx1 hx2 g1
    go_wp2_with fail
    go_region_held3 (fun w' => w'.cell? ⟨bo, oo, none⟩ = some (.int .i64 x0) ∧ w'.cell? ⟨bo, oo + 1, none⟩ = some (.int .i64 x1) ∧ w'.cell? ⟨bo, oo + 2, none⟩ = some (.int .i64 x2))
      (first | exact ⟨hc0, hc1, hc2⟩ | go_keep) (first | fail)
    have hB : ((w1.alloc (brO x0 x1 x2)).drew).heap[w1.heap.size]? = some (brO x0 x1 x2) := heap_alloc_new w1 (brO x0 x1 x2)
    have d2 : Below w.heap.size w ((w1.alloc (brO x0 x1 x2)).drew) := (d1.alloc d1.size _).drew
    have g2 : ((w1.alloc (brO x0 x1 x2)).drew).heap[w.heap.size]? = some (brO 0 0 0) := blk_alloc G1.out _
    clear hc0 hc1 hc2 hbl HO HALL d1
    show Exit.then _ _ Exit.normal _ ((w1.alloc (brO x0 x1 x2)).drew)
    generalize (w1.alloc (brO x0 x1 x2)).drew = W2 at hB d2 g2 ⊢
    obtain ⟨gb, hgb⟩ : ∃ g, w1.heap.size = g := ⟨_, rfl⟩
    rw [hgb] at hB ⊢
    clear hgb G1
    by_cases hz : l = []
    · have FF := hd (br_no (l := l) (fun x y z _ e => brL_ne x y z (e.trans hz)))
      have e0 : mkS l = ByteArray.empty := by subst hz; rfl
      rw [e0]
      clear hz e0 hB
      have k0 := blk_cell g2 0
      have k1 := blk_cell g2 1
      have k2 := blk_cell g2 2
      have f0 := blk_free g2 0
      have f1 := blk_free g2 1
      have f2 := blk_free g2 2
      have G9 := hd g2
      clear g2
      go_wp2_with fail
      refine bodyPost_ret (results_cell_tmp rfl _ _ _ _ _ _ _ rfl (blk_set3 G9.out _ _ _) Tryd.underlying34 rfl (by kernel_rfl)) rfl ⟨⟨_, _, _, _, rfl, FF.out⟩, below_set3 d2 (Nat.le_refl _) _ _ _⟩
    have hemp : (mkS l).toList.isEmpty = false := by
      rw [ByteArray.toList_eq, mkS_list]
      cases l with
      | nil => exact absurd rfl hz
      | cons c r => rfl
    have HZ := hd hz
    clear hz
    have c0 := blk_cell hB 0
    have c1 := blk_cell hB 1
    have c2 := blk_cell hB 2
    go_wp2_with fail
    refine (BreachText_calls x0 x1 x2 _ HI0.out.1 HI0.out.2 HI1.out.1 HI1.out.2 HI2.out.1 HI2.out.2 (HE.out.below d2).tab).mono ?_
    rintro e w4 ⟨he, b4⟩
    have d4 := bnext d2 b4 (Nat.le_refl _)
    have g4 := blk_below g2 b4 (blk_lt g2)
    have hB4 := blk_below hB b4 (blk_lt hB)
    clear c0 c1 c2 hB d2 g2 b4
    obtain ⟨D, hD⟩ : ∃ D, brT x0 x1 x2 = D := ⟨_, rfl⟩
    rw [hD] at he
    subst he
    have HD := hd hD
    clear hD
    by_cases hq : brP x0 x1 x2 = true ∧ brL x0 x1 x2 = l
    · have hqq : (D.toList == (mkS l).toList) = true := str_eq (by rw [← HD.out, brT_L hq.1, hq.2])
      have FF := hd (br_yes hq.1 hq.2)
      have c0 := blk_cell hB4 0
      have c1 := blk_cell hB4 1
      have c2 := blk_cell hB4 2
      clear hq hB4
      have k0 := blk_cell g4 0
      have k1 := blk_cell g4 1
      have k2 := blk_cell g4 2
      have f0 := blk_free g4 0
      have f1 := blk_free g4 1
      have f2 := blk_free g4 2
      have G9 := hd g4
      clear g4
      go_wp2_with fail
      refine bodyPost_ret (results_cell_tmp rfl _ _ _ _ _ _ _ rfl (blk_set3 G9.out _ _ _) Tryd.underlying34 rfl (by kernel_rfl)) rfl ⟨⟨_, _, _, _, rfl, FF.out⟩, below_set3 d4 (Nat.le_refl _) _ _ _⟩
    · have hqq : (D.toList == (mkS l).toList) = false := str_ne (by
        rw [← HD.out]
        cases hv : brP x0 x1 x2
        · rw [brT_no hv]
          exact fun e => HZ.out (mkS_inj (a := []) e).symm
        · rw [brT_L hv]
          exact mkS_ne (fun e => hq ⟨hv, e⟩))
      have FF := hd (br_no (l := l) (fun x y z h e => by
        have h1 := HSPL.out x y z h e
        simp only [List.cons.injEq, and_true] at h1
        obtain ⟨rfl, rfl, rfl⟩ := h1
        exact hq ⟨h, e⟩))
      clear hq hB4
      have k0 := blk_cell g4 0
      have k1 := blk_cell g4 1
      have k2 := blk_cell g4 2
      have f0 := blk_free g4 0
      have f1 := blk_free g4 1
      have f2 := blk_free g4 2
      have G9 := hd g4
      clear g4
      go_wp2_with fail
      refine bodyPost_ret (results_cell_tmp rfl _ _ _ _ _ _ _ rfl (blk_set3 G9.out _ _ _) Tryd.underlying34 rfl (by kernel_rfl)) rfl ⟨⟨_, _, _, _, rfl, FF.out⟩, below_set3 d4 (Nat.le_refl _) _ _ _⟩
  · have hn2' : ¬ ((n : Int) = 3) := by omega
    have FF := hd (br_no (l := l) (fun x y z h e => by
      have h1 := HO.out.len
      rw [HSPL.out x y z h e] at h1
      exact hn2 (by simpa using h1.symm)))
    clear hn2
    have k0 := blk_cell g1 0
    have k1 := blk_cell g1 1
    have k2 := blk_cell g1 2
    have f0 := blk_free g1 0
    have f1 := blk_free g1 1
    have f2 := blk_free g1 2
    have G9 := hd g1
    clear g1
    go_wp2_with fail
    refine bodyPost_ret (results_cell_tmp rfl _ _ _ _ _ _ _ rfl (blk_set3 G9.out _ _ _) Tryd.underlying34 rfl (by kernel_rfl)) rfl ⟨⟨_, _, _, _, rfl, FF.out⟩, below_set3 d1 (Nat.le_refl _) _ _ _⟩
end Go.Proofs.YtbbnjddgioaoeaaDoor
