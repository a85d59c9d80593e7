/- ReadWater: the program's side. -/
import Derived.Test.YtbbnjddgioaoeaaDoorRdn
import Derived.Test.YtbbnjddgioaoeaaDoorWat2
import Derived.Deep.RegionHeld3
namespace Go.Proofs.YtbbnjddgioaoeaaDoor
open Go.RowKit
set_option linter.unusedVariables false

/-- The text of the water of a day, as a list of bytes. -/
def waL (r s e p q : Int) : List UInt8 :=
  [114, 97, 105, 110] ++ 32 :: (Lib.itoa r ++ 32 :: ([115, 101, 101, 112] ++ 32 :: (Lib.itoa s ++ 32 :: ([100, 114, 121] ++ 32 :: (Lib.itoa e ++ 32 :: ([112, 117, 109, 112] ++ 32 :: (Lib.itoa p ++ 32 :: ([115, 108, 117, 105, 99, 101] ++ 32 :: Lib.itoa q))))))))
theorem waT_L {r s e p q : Int} (h : waB (r, s, e, p, q) = true) : waT r s e p q = mkS (waL r s e p q) := by
  rw [waT_ok h]
  unfold txt5
  rw [show (⟨#[114, 97, 105, 110, 32]⟩ : ByteArray) = ⟨[114, 97, 105, 110, 32].toArray⟩ from rfl, show (⟨#[32, 115, 101, 101, 112, 32]⟩ : ByteArray) = ⟨[32, 115, 101, 101, 112, 32].toArray⟩ from rfl, show (⟨#[32, 100, 114, 121, 32]⟩ : ByteArray) = ⟨[32, 100, 114, 121, 32].toArray⟩ from rfl, show (⟨#[32, 112, 117, 109, 112, 32]⟩ : ByteArray) = ⟨[32, 112, 117, 109, 112, 32].toArray⟩ from rfl, show (⟨#[32, 115, 108, 117, 105, 99, 101, 32]⟩ : ByteArray) = ⟨[32, 115, 108, 117, 105, 99, 101, 32].toArray⟩ from rfl]
  simp only [cat]
  unfold mkS waL
  simp
theorem wa_sm {r s e p q : Int} (h : waB (r, s, e, p, q) = true) : Sm r ∧ Sm s ∧ Sm e ∧ Sm p ∧ Sm q := by
  have := waB_bd h
  unfold Sm
  omega
theorem wa_fl (r s e p q : Int) : fl [] (waL r s e p q) = [Lib.itoa r, Lib.itoa s, Lib.itoa e, Lib.itoa p, Lib.itoa q] := by
  have e : waL r s e p q = [114, 97, 105, 110, 32] ++ (Lib.itoa r ++ 32 :: ([115, 101, 101, 112, 32] ++ (Lib.itoa s ++ 32 :: ([100, 114, 121, 32] ++ (Lib.itoa e ++ 32 :: ([112, 117, 109, 112, 32] ++ (Lib.itoa p ++ 32 :: ([115, 108, 117, 105, 99, 101, 32] ++ Lib.itoa q)))))))) := rfl
  rw [e, fl_no (by decide), fl_num (by decide), fl_no (by decide), fl_num (by decide), fl_no (by decide), fl_num (by decide), fl_no (by decide), fl_num (by decide), fl_no (by decide), fl_num_end]
theorem wa_sp (r s e p q : Int) : sp [] (waL r s e p q) = [[114, 97, 105, 110], Lib.itoa r, [115, 101, 101, 112], Lib.itoa s, [100, 114, 121], Lib.itoa e, [112, 117, 109, 112], Lib.itoa p, [115, 108, 117, 105, 99, 101], Lib.itoa q] := by
  unfold waL
  rw [sp_free (by decide), sp_free (blk32 r), sp_free (by decide), sp_free (blk32 s), sp_free (by decide), sp_free (blk32 e), sp_free (by decide), sp_free (blk32 p), sp_free (by decide), sp_end (blk32 q)]
  rfl
theorem wa_low (r s e p q : Int) : ∀ x ∈ waL r s e p q, x.toNat < 128 := by
  have ha : ∀ {a b : List UInt8}, (∀ x ∈ a, x.toNat < 128) → (∀ x ∈ b, x.toNat < 128) → ∀ x ∈ a ++ 32 :: b, x.toNat < 128 := by
    intro a b h1 h2 x hx
    rcases List.mem_append.1 hx with hx | hx
    · exact h1 x hx
    · rcases List.mem_cons.1 hx with rfl | hx
      · decide
      · exact h2 x hx
  exact ha (by decide) (ha (itoa_low r) (ha (by decide) (ha (itoa_low s) (ha (by decide) (ha (itoa_low e) (ha (by decide) (ha (itoa_low p) (ha (by decide) (itoa_low q)))))))))
theorem wa_spells {r s e p q : Int} (h : waB (r, s, e, p, q) = true) : Spells (Lib.goFieldsP notC (mkS (waL r s e p q))) [r, s, e, p, q] := by
  obtain ⟨h1, h2, h3, h4, h5⟩ := wa_sm h
  refine ⟨fun z hz => ?_, ?_⟩
  · simp only [List.mem_cons, List.mem_nil_iff, or_false] at hz
    rcases hz with rfl | rfl | rfl | rfl | rfl
    · exact h1
    · exact h2
    · exact h3
    · exact h4
    · exact h5
  · rw [fields_fl (wa_low r s e p q), wa_fl]; rfl
/-- What the text l says of the water of a day. -/
def WaIs (l : List UInt8) (r s e p q : Int) (ok : Bool) : Prop := (ok = true → waB (r, s, e, p, q) = true ∧ waL r s e p q = l) ∧ (ok = false → (r = 0 ∧ s = 0 ∧ e = 0 ∧ p = 0 ∧ q = 0) ∧ ∀ a b c d f, waB (a, b, c, d, f) = true → waL a b c d f ≠ l)
def WaEnd (l : List UInt8) (x : Ending) : Prop := ∃ r s e p q ok, x = .returned (.tuple #[.agg #[.int .i64 r, .int .i64 s, .int .i64 e, .int .i64 p, .int .i64 q], .bool ok]) ∧ WaIs l r s e p q ok
theorem wa_no {l : List UInt8} (h : ∀ a b c d f, waB (a, b, c, d, f) = true → waL a b c d f ≠ l) : WaIs l 0 0 0 0 0 false := ⟨fun e => (by cases e), fun _ => ⟨⟨rfl, rfl, rfl, rfl, rfl⟩, h⟩⟩
theorem wa_yes {l : List UInt8} {r s e p q : Int} (h : waB (r, s, e, p, q) = true) (g : waL r s e p q = l) : WaIs l r s e p q true := ⟨fun _ => ⟨h, g⟩, fun e => (by cases e)⟩
theorem wa_inj {r s e p q a b c d f : Int} (h : waB (r, s, e, p, q) = true) (g : waB (a, b, c, d, f) = true) (k : waL r s e p q = waL a b c d f) : r = a ∧ s = b ∧ e = c ∧ p = d ∧ q = f := by
  have h1 := wa_fl r s e p q
  rw [k, wa_fl] at h1
  simp only [List.cons.injEq, and_true] at h1
  obtain ⟨e1, e2, e3, e4, e5⟩ := h1
  obtain ⟨s1, s2, s3, s4, s5⟩ := wa_sm h
  obtain ⟨t1, t2, t3, t4, t5⟩ := wa_sm g
  exact ⟨(itoa_inj t1 s1 e1).symm, (itoa_inj t2 s2 e2).symm, (itoa_inj t3 s3 e3).symm, (itoa_inj t4 s4 e4).symm, (itoa_inj t5 s5 e5).symm⟩
theorem WaIs.uniq {l : List UInt8} {r s e p q a b c d f : Int} {ok oy : Bool} (h : WaIs l r s e p q ok) (g : WaIs l a b c d f oy) : (r = a ∧ s = b ∧ e = c ∧ p = d ∧ q = f) ∧ ok = oy := by
  cases ok <;> cases oy
  · obtain ⟨⟨rfl, rfl, rfl, rfl, rfl⟩, _⟩ := h.2 rfl
    obtain ⟨⟨rfl, rfl, rfl, rfl, rfl⟩, _⟩ := g.2 rfl
    exact ⟨⟨rfl, rfl, rfl, rfl, rfl⟩, rfl⟩
  · exact absurd (g.1 rfl).2 ((h.2 rfl).2 _ _ _ _ _ (g.1 rfl).1)
  · exact absurd (h.1 rfl).2 ((g.2 rfl).2 _ _ _ _ _ (h.1 rfl).1)
  · exact ⟨wa_inj (h.1 rfl).1 (g.1 rfl).1 ((h.1 rfl).2.trans (g.1 rfl).2.symm), rfl⟩
abbrev waC (r s e p q : Int) : Obj := .cells #[.int .i64 r, .int .i64 s, .int .i64 e, .int .i64 p, .int .i64 q] 29 (0, 0)
set_option maxRecDepth 100000 in
set_option maxHeartbeats 1000000 in
theorem ReadWater_calls (l : List UInt8) (w : World) (hl : l.length ≤ 1048576) (hE : Env w) :
    Calls Tryd.prog 14 #[.string (mkS l)] w fun e w' => WaEnd l e ∧ Below w.heap.size w w' := by
  have HE := hd hE
  have HSZ : Hid ((mkS l).size ≤ 1048576) := hd (by rw [mkS_size]; exact hl)
  have hg := heap_alloc_new w (waC 0 0 0 0 0)
  have dd := (Below.refl w.heap.size w).alloc (Nat.le_refl _) (waC 0 0 0 0 0)
  clear hE hl
  go_enter Tryd.func14, Tryd.ntmps14
  go_upto_region 1 with fail
  generalize w.alloc (waC 0 0 0 0 0) = W1 at dd hg ⊢
  go_wp2_with fail
  refine (numbersIn_calls (mkS l) _ HSZ.out (HE.out.below dd)).mono ?_
  rintro e w1 ⟨A, n, c, xs, rfl, ho, hn, hall, hsp, b1⟩
  have d1 := bnext dd b1 (Nat.le_refl _)
  have g1 := blk_below hg b1 (blk_lt hg)
  have HSPL : Hid (∀ a b c d f, waB (a, b, c, d, f) = true → waL a b c d f = l → xs = [a, b, c, d, f]) := hd (fun a b c d f h e => by
    subst e
    exact hsp _ (wa_spells h))
  have HO := hd (ho.rd len_cInt64)
  have HALL := hd hall
  clear ho hall hsp hg dd b1
  by_cases hn2 : n = 5
  · subst hn2
    obtain ⟨bo, oo, x0, rfl, hbl, hx0, hc0⟩ := getInt64 HO.out (k := 0) (by omega)
    obtain ⟨b', o', x1, e', -, hx1, hc1⟩ := getInt64 HO.out (k := 1) (by omega)
    obtain ⟨rfl, rfl⟩ : bo = b' ∧ oo = o' := by simpa using e'
    obtain ⟨b', o', x2, e', -, hx2, hc2⟩ := getInt64 HO.out (k := 2) (by omega)
    obtain ⟨rfl, rfl⟩ : bo = b' ∧ oo = o' := by simpa using e'
    obtain ⟨b', o', x3, e', -, hx3, hc3⟩ := getInt64 HO.out (k := 3) (by omega)
    obtain ⟨rfl, rfl⟩ : bo = b' ∧ oo = o' := by simpa using e'
    obtain ⟨b', o', x4, e', -, hx4, hc4⟩ := getInt64 HO.out (k := 4) (by omega)
    obtain ⟨rfl, rfl⟩ : bo = b' ∧ oo = o' := by simpa using e'
    rw [Nat.add_zero] at hc0
    have hxs : xs = [x0, x1, x2, x3, x4] := by
      have h1 := HO.out.len
      match xs, h1, hx0, hx1, hx2, hx3, hx4 with
      | [u0, u1, u2, u3, u4], _, h2, h3, h4, h5, h6 =>
        obtain rfl : u0 = x0 := by simpa using h2
        obtain rfl : u1 = x1 := by simpa using h3
        obtain rfl : u2 = x2 := by simpa using h4
        obtain rfl : u3 = x3 := by simpa using h5
        obtain rfl : u4 = x4 := by simpa using h6
        rfl
    subst hxs
    have HI0 := hd (HALL.out x0 (by simp))
    have HI1 := hd (HALL.out x1 (by simp))
    have HI2 := hd (HALL.out x2 (by simp))
    have HI3 := hd (HALL.out x3 (by simp))
    have HI4 := hd (HALL.out x4 (by simp))
    have G1 := hd g1
    clear e' hx0 hx1 hx2 hx3 hx4 g1
    go_wp2_with fail
    go_region_held3 (fun w' => w'.cell? ⟨bo, oo, none⟩ = some (.int .i64 x0) ∧ w'.cell? ⟨bo, oo + 1, none⟩ = some (.int .i64 x1) ∧ w'.cell? ⟨bo, oo + 2, none⟩ = some (.int .i64 x2) ∧ w'.cell? ⟨bo, oo + 3, none⟩ = some (.int .i64 x3) ∧ w'.cell? ⟨bo, oo + 4, none⟩ = some (.int .i64 x4))
      (first | exact ⟨hc0, hc1, hc2, hc3, hc4⟩ | go_keep) (first | fail)
    have hB : ((w1.alloc (waC x0 x1 x2 x3 x4)).drew).heap[w1.heap.size]? = some (waC x0 x1 x2 x3 x4) := heap_alloc_new w1 (waC x0 x1 x2 x3 x4)
    have d2 : Below w.heap.size w ((w1.alloc (waC x0 x1 x2 x3 x4)).drew) := (d1.alloc d1.size _).drew
    have g2 : ((w1.alloc (waC x0 x1 x2 x3 x4)).drew).heap[w.heap.size]? = some (waC 0 0 0 0 0) := blk_alloc G1.out _
    clear hc0 hc1 hc2 hc3 hc4 hbl HO HALL d1
    show Exit.then _ _ Exit.normal _ ((w1.alloc (waC x0 x1 x2 x3 x4)).drew)
    generalize (w1.alloc (waC x0 x1 x2 x3 x4)).drew = W2 at hB d2 g2 ⊢
    obtain ⟨gb, hgb⟩ : ∃ g, w1.heap.size = g := ⟨_, rfl⟩
    rw [hgb] at hB ⊢
    clear hgb G1
    have k0 := blk_cell hB 0
    have k1 := blk_cell hB 1
    have k2 := blk_cell hB 2
    have k3 := blk_cell hB 3
    have k4 := blk_cell hB 4
    go_wp2_with fail
    refine (ValidWater_calls x0 x1 x2 x3 x4 _).mono ?_
    rintro e w3 ⟨he, b3⟩
    have d3 := bnext d2 b3 (Nat.le_refl _)
    have g3 := blk_below g2 b3 (blk_lt g2)
    have hB3 := blk_below hB b3 (blk_lt hB)
    clear k0 k1 k2 k3 k4 hB d2 g2 b3
    cases hv : waB (x0, x1, x2, x3, x4)
    · rw [hv] at he
      subst he
      have FF := hd (wa_no (l := l) (fun a b c d f h e => by
        have h1 := HSPL.out a b c d f h e
        simp only [List.cons.injEq, and_true] at h1
        rw [← h1.1, ← h1.2.1, ← h1.2.2.1, ← h1.2.2.2.1, ← h1.2.2.2.2, hv] at h
        cases h))
      clear hv hB3
      have k0 := blk_cell g3 0
      have k1 := blk_cell g3 1
      have k2 := blk_cell g3 2
      have k3 := blk_cell g3 3
      have k4 := blk_cell g3 4
      have f0 := blk_free g3 0
      have f1 := blk_free g3 1
      have f2 := blk_free g3 2
      have f3 := blk_free g3 3
      have f4 := blk_free g3 4
      have G9 := hd g3
      clear g3
      go_wp2_with fail
      refine bodyPost_ret (results_cell_tmp rfl _ _ _ _ _ _ _ rfl (blk_set5 G9.out _ _ _ _ _) Tryd.underlying29 rfl (by kernel_rfl)) rfl ⟨⟨_, _, _, _, _, _, rfl, FF.out⟩, below_set5 d3 (Nat.le_refl _) _ _ _ _ _⟩
    · rw [hv] at he
      subst he
      have HV := hd hv
      clear hv
      have k0 := blk_cell hB3 0
      have k1 := blk_cell hB3 1
      have k2 := blk_cell hB3 2
      have k3 := blk_cell hB3 3
      have k4 := blk_cell hB3 4
      go_wp2_with fail
      refine (WaterText_calls x0 x1 x2 x3 x4 _ HI0.out HI1.out HI2.out HI3.out HI4.out (HE.out.below d3).tab).mono ?_
      rintro e w4 ⟨he, b4⟩
      rw [waT_L HV.out] at he
      have d4 := bnext d3 b4 (Nat.le_refl _)
      have g4 := blk_below g3 b4 (blk_lt g3)
      have hB4 := blk_below hB3 b4 (blk_lt hB3)
      clear k0 k1 k2 k3 k4 hB3 d3 g3 b4
      obtain ⟨D, hD⟩ : ∃ D, mkS (waL x0 x1 x2 x3 x4) = D := ⟨_, rfl⟩
      rw [hD] at he
      subst he
      have c0 := blk_cell hB4 0
      have c1 := blk_cell hB4 1
      have c2 := blk_cell hB4 2
      have c3 := blk_cell hB4 3
      have c4 := blk_cell hB4 4
      by_cases hq : waL x0 x1 x2 x3 x4 = l
      · have hqq : (D.toList == (mkS l).toList) = true := str_eq (by rw [← hD, hq])
        have FF := hd (wa_yes HV.out hq)
        clear hq hD hB4
        have k0 := blk_cell g4 0
        have k1 := blk_cell g4 1
        have k2 := blk_cell g4 2
        have k3 := blk_cell g4 3
        have k4 := blk_cell g4 4
        have f0 := blk_free g4 0
        have f1 := blk_free g4 1
        have f2 := blk_free g4 2
        have f3 := blk_free g4 3
        have f4 := blk_free g4 4
        have G9 := hd g4
        clear g4
        go_wp2_with fail
        refine bodyPost_ret (results_cell_tmp rfl _ _ _ _ _ _ _ rfl (blk_set5 G9.out _ _ _ _ _) Tryd.underlying29 rfl (by kernel_rfl)) rfl ⟨⟨_, _, _, _, _, _, rfl, FF.out⟩, below_set5 d4 (Nat.le_refl _) _ _ _ _ _⟩
      · have hqq : (D.toList == (mkS l).toList) = false := str_ne (by rw [← hD]; exact mkS_ne hq)
        have FF := hd (wa_no (l := l) (fun a b c d f h e => by
          have h1 := HSPL.out a b c d f h e
          simp only [List.cons.injEq, and_true] at h1
          rw [← h1.1, ← h1.2.1, ← h1.2.2.1, ← h1.2.2.2.1, ← h1.2.2.2.2] at e
          exact hq e))
        clear hq hD hB4
        have k0 := blk_cell g4 0
        have k1 := blk_cell g4 1
        have k2 := blk_cell g4 2
        have k3 := blk_cell g4 3
        have k4 := blk_cell g4 4
        have f0 := blk_free g4 0
        have f1 := blk_free g4 1
        have f2 := blk_free g4 2
        have f3 := blk_free g4 3
        have f4 := blk_free g4 4
        have G9 := hd g4
        clear g4
        go_wp2_with fail
        refine bodyPost_ret (results_cell_tmp rfl _ _ _ _ _ _ _ rfl (blk_set5 G9.out _ _ _ _ _) Tryd.underlying29 rfl (by kernel_rfl)) rfl ⟨⟨_, _, _, _, _, _, rfl, FF.out⟩, below_set5 d4 (Nat.le_refl _) _ _ _ _ _⟩
  · have hn2' : ¬ ((n : Int) = 5) := by omega
    have FF := hd (wa_no (l := l) (fun a b c d f h e => by
      have h1 := HO.out.len
      rw [HSPL.out a b c d f h e] at h1
      exact hn2 (by simpa using h1.symm)))
    clear hn2
    have k0 := blk_cell g1 0
    have k1 := blk_cell g1 1
    have k2 := blk_cell g1 2
    have k3 := blk_cell g1 3
    have k4 := blk_cell g1 4
    have f0 := blk_free g1 0
    have f1 := blk_free g1 1
    have f2 := blk_free g1 2
    have f3 := blk_free g1 3
    have f4 := blk_free g1 4
    have G9 := hd g1
    clear g1
    go_wp2_with fail
    refine bodyPost_ret (results_cell_tmp rfl _ _ _ _ _ _ _ rfl (blk_set5 G9.out _ _ _ _ _) Tryd.underlying29 rfl (by kernel_rfl)) rfl ⟨⟨_, _, _, _, _, _, rfl, FF.out⟩, below_set5 d1 (Nat.le_refl _) _ _ _ _ _⟩
end Go.Proofs.YtbbnjddgioaoeaaDoor
