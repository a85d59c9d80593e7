/- ReadSwitch. -/
import Derived.Test.YtbbnjddgioaoeaaDoorRdn
import Derived.BigRegion
namespace Go.Proofs.YtbbnjddgioaoeaaDoor
open Go.RowKit
set_option linter.unusedVariables false

/-- The text of a switch, as a list of bytes. -/
def swL (a b : Int) : List UInt8 := [111, 110] ++ 32 :: (Lib.itoa a ++ 32 :: ([111, 102, 102] ++ 32 :: Lib.itoa b))
theorem swT_L {a b : Int} (h : swB a b = true) : swT a b = mkS (swL a b) := by
  unfold swT txt2
  rw [h, if_pos rfl, show (⟨#[111, 110, 32]⟩ : ByteArray) = ⟨[111, 110, 32].toArray⟩ from rfl, show (⟨#[32, 111, 102, 102, 32]⟩ : ByteArray) = ⟨[32, 111, 102, 102, 32].toArray⟩ from rfl]
  simp only [cat]
  unfold mkS swL
  simp
theorem sw_sm {a b : Int} (h : swB a b = true) : Sm a ∧ Sm b := by
  simp only [swB, Bool.and_eq_true] at h
  have h1 := lvB_iff.1 h.1.1
  have h2 := lvB_iff.1 h.1.2
  unfold Sm
  omega
theorem sw_fl (a b : Int) : fl [] (swL a b) = [Lib.itoa a, Lib.itoa b] := by
  have e : swL a b = [111, 110, 32] ++ (Lib.itoa a ++ 32 :: ([111, 102, 102, 32] ++ Lib.itoa b)) := rfl
  rw [e, fl_no (by decide), fl_num (by decide), fl_no (by decide), fl_num_end]
theorem sw_sp (a b : Int) : sp [] (swL a b) = [[111, 110], Lib.itoa a, [111, 102, 102], Lib.itoa b] := by
  unfold swL
  rw [sp_free (by decide), sp_free (blk32 a), sp_free (by decide), sp_end (blk32 b)]
  rfl
theorem sw_low (a b : Int) : ∀ x ∈ swL a b, x.toNat < 128 := by
  intro x hx
  unfold swL at hx
  simp only [List.mem_append, List.mem_cons, List.mem_nil_iff, or_false] at hx
  rcases hx with (rfl | rfl) | rfl | hx | rfl | (rfl | rfl | rfl) | rfl | hx
  all_goals first | exact itoa_low _ _ hx | decide
theorem sw_spells {a b : Int} (h : swB a b = true) : Spells (Lib.goFieldsP notC (mkS (swL a b))) [a, b] := by
  obtain ⟨h1, h2⟩ := sw_sm h
  refine ⟨fun z hz => ?_, ?_⟩
  · simp only [List.mem_cons, List.mem_nil_iff, or_false] at hz
    rcases hz with rfl | rfl
    · exact h1
    · exact h2
  · rw [fields_fl (sw_low a b), sw_fl]; rfl
/-- What the text l says of a switch. -/
def SwIs (l : List UInt8) (a b : Int) (ok : Bool) : Prop := (ok = true → swB a b = true ∧ swL a b = l) ∧ (ok = false → a = 0 ∧ b = 0 ∧ ∀ x y, swB x y = true → swL x y ≠ l)
def SwEnd (l : List UInt8) (e : Ending) : Prop := ∃ a b ok, e = .returned (.tuple #[.agg #[.int .i64 a, .int .i64 b], .bool ok]) ∧ SwIs l a b ok
theorem sw_no {l : List UInt8} (h : ∀ x y, swB x y = true → swL x y ≠ l) : SwIs l 0 0 false := ⟨fun e => (by cases e), fun _ => ⟨rfl, rfl, h⟩⟩
theorem sw_yes {l : List UInt8} {a b : Int} (h : swB a b = true) (e : swL a b = l) : SwIs l a b true := ⟨fun _ => ⟨h, e⟩, fun e => (by cases e)⟩
theorem sw_inj {a b c d : Int} (h : swB a b = true) (g : swB c d = true) (e : swL a b = swL c d) : a = c ∧ b = d := by
  have h1 := sw_fl a b
  rw [e, sw_fl] at h1
  simp only [List.cons.injEq, and_true] at h1
  exact ⟨(itoa_inj (sw_sm g).1 (sw_sm h).1 h1.1).symm, (itoa_inj (sw_sm g).2 (sw_sm h).2 h1.2).symm⟩
theorem SwIs.uniq {l : List UInt8} {a b c d : Int} {ok oy : Bool} (h : SwIs l a b ok) (g : SwIs l c d oy) : a = c ∧ b = d ∧ ok = oy := by
  cases ok <;> cases oy
  · obtain ⟨rfl, rfl, _⟩ := h.2 rfl
    obtain ⟨rfl, rfl, _⟩ := g.2 rfl
    exact ⟨rfl, rfl, rfl⟩
  · exact absurd (g.1 rfl).2 ((h.2 rfl).2.2 _ _ (g.1 rfl).1)
  · exact absurd (h.1 rfl).2 ((g.2 rfl).2.2 _ _ (h.1 rfl).1)
  · obtain ⟨e1, e2⟩ := sw_inj (h.1 rfl).1 (g.1 rfl).1 ((h.1 rfl).2.trans (g.1 rfl).2.symm)
    exact ⟨e1, e2, rfl⟩
abbrev swC (a b : Int) : Obj := .cells #[.int .i64 a, .int .i64 b] 23 (0, 0)
set_option maxRecDepth 100000 in
set_option maxHeartbeats 1000000 in
theorem ReadSwitch_calls (l : List UInt8) (w : World) (hl : l.length ≤ 1048576) (hE : Env w) :
    Calls Tryd.prog 11 #[.string (mkS l)] w fun e w' => SwEnd l e ∧ Below w.heap.size w w' := by
  have HE := hd hE
  have HSZ : Hid ((mkS l).size ≤ 1048576) := hd (by rw [mkS_size]; exact hl)
  have hg := heap_alloc_new w (swC 0 0)
  have dd := (Below.refl w.heap.size w).alloc (Nat.le_refl _) (swC 0 0)
  clear hE hl
  go_enter Tryd.func11, Tryd.ntmps11
  go_upto_region 1 with fail
  generalize w.alloc (swC 0 0) = W1 at dd hg ⊢
  go_wp2_with fail
  refine (numbersIn_calls (mkS l) _ HSZ.out (HE.out.below dd)).mono ?_
  rintro e w1 ⟨A, n, c, xs, rfl, ho, hn, hall, hsp, b1⟩
  have d1 := bnext dd b1 (Nat.le_refl _)
  have g1 := blk_below hg b1 (blk_lt hg)
  have HSPL : Hid (∀ a b, swB a b = true → swL a b = l → xs = [a, b]) := hd (fun a b h e => by
    subst e
    exact hsp _ (sw_spells h))
  have HO := hd (ho.rd len_cInt64)
  have HALL := hd hall
  clear ho hall hsp hg dd b1
  by_cases hn2 : n = 2
  · subst hn2
    obtain ⟨bo, oo, x0, rfl, hbl, hx0, hc0⟩ := getInt64 HO.out (k := 0) (by omega)
    obtain ⟨b2, o2, x1, e2, -, hx1, hc1⟩ := getInt64 HO.out (k := 1) (by omega)
    obtain ⟨rfl, rfl⟩ : bo = b2 ∧ oo = o2 := by simpa using e2
    rw [Nat.add_zero] at hc0
    have hxs : xs = [x0, x1] := by
      have h1 := HO.out.len
      match xs, h1, hx0, hx1 with
      | [u, v], _, h2, h3 =>
        obtain rfl : u = x0 := by simpa using h2
        obtain rfl : v = x1 := by simpa using h3
        rfl
    subst hxs
    have hi0 := HALL.out x0 (by simp)
    have hi1 := HALL.out x1 (by simp)
    have HI0 := hd hi0
    have HI1 := hd hi1
    have G1 := hd g1
    clear e2 hx0 hx1 hi0 hi1 g1
    go_wp2_with fail
    go_region
    have hB : ((w1.alloc (swC x0 x1)).drew).heap[w1.heap.size]? = some (swC x0 x1) := heap_alloc_new w1 (swC x0 x1)
    have d2 : Below w.heap.size w ((w1.alloc (swC x0 x1)).drew) := (d1.alloc d1.size _).drew
    have g2 : ((w1.alloc (swC x0 x1)).drew).heap[w.heap.size]? = some (swC 0 0) := blk_alloc G1.out _
    clear hc0 hc1 hbl HO HALL d1
    show Exit.then _ _ Exit.normal _ ((w1.alloc (swC x0 x1)).drew)
    generalize (w1.alloc (swC x0 x1)).drew = W2 at hB d2 g2 ⊢
    obtain ⟨gb, hgb⟩ : ∃ g, w1.heap.size = g := ⟨_, rfl⟩
    rw [hgb] at hB ⊢
    clear hgb G1
    have k0 := blk_cell hB 0
    have k1 := blk_cell hB 1
    go_wp2_with fail
    refine (ValidSwitch_calls x0 x1 _).mono ?_
    rintro e w3 ⟨he, b3⟩
    have d3 := bnext d2 b3 (Nat.le_refl _)
    have g3 := blk_below g2 b3 (blk_lt g2)
    have hB3 := blk_below hB b3 (blk_lt hB)
    clear k0 k1 hB d2 g2 b3
    cases hv : swB x0 x1
    · rw [hv] at he
      subst he
      have FF := hd (sw_no (l := l) (fun x y h e => by
        have h1 := HSPL.out x y h e
        simp only [List.cons.injEq, and_true] at h1
        rw [← h1.1, ← h1.2, hv] at h
        cases h))
      have k0 := blk_cell g3 0
      have k1 := blk_cell g3 1
      have f0 := blk_free g3 0
      have f1 := blk_free g3 1
      have G3 := hd g3
      clear g3 hv hB3
      go_wp2_with fail
      refine bodyPost_ret (results_cell_tmp rfl _ _ _ _ _ _ _ rfl (blk_set2 G3.out _ _) Tryd.underlying23 rfl (by kernel_rfl)) rfl ⟨⟨_, _, _, rfl, FF.out⟩, below_set2 d3 (Nat.le_refl _) _ _⟩
    · rw [hv] at he
      subst he
      have HV := hd hv
      clear hv
      have k0 := blk_cell hB3 0
      have k1 := blk_cell hB3 1
      go_wp2_with fail
      refine (SwitchText_calls x0 x1 _ HI0.out.1 HI0.out.2 HI1.out.1 HI1.out.2 (HE.out.below d3).tab).mono ?_
      rintro e w4 ⟨he, b4⟩
      rw [swT_L HV.out] at he
      have d4 := bnext d3 b4 (Nat.le_refl _)
      have g4 := blk_below g3 b4 (blk_lt g3)
      have hB4 := blk_below hB3 b4 (blk_lt hB3)
      clear k0 k1 hB3 d3 g3 b4
      obtain ⟨D, hD⟩ : ∃ D, mkS (swL x0 x1) = D := ⟨_, rfl⟩
      rw [hD] at he
      subst he
      have k0 := blk_cell g4 0
      have k1 := blk_cell g4 1
      have f0 := blk_free g4 0
      have f1 := blk_free g4 1
      have c0 := blk_cell hB4 0
      have c1 := blk_cell hB4 1
      have G4 := hd g4
      by_cases hq : swL x0 x1 = l
      · have hqq : (D.toList == (mkS l).toList) = true := str_eq (by rw [← hD, hq])
        have FF := hd (sw_yes HV.out hq)
        clear hq hD g4 hB4
        go_wp2_with fail
        refine bodyPost_ret (results_cell_tmp rfl _ _ _ _ _ _ _ rfl (blk_set2 G4.out _ _) Tryd.underlying23 rfl (by kernel_rfl)) rfl ⟨⟨_, _, _, rfl, FF.out⟩, below_set2 d4 (Nat.le_refl _) _ _⟩
      · have hqq : (D.toList == (mkS l).toList) = false := str_ne (by rw [← hD]; exact mkS_ne hq)
        have FF := hd (sw_no (l := l) (fun x y h e => by
          have h1 := HSPL.out x y h e
          simp only [List.cons.injEq, and_true] at h1
          rw [← h1.1, ← h1.2] at e
          exact hq e))
        clear hq hD g4 hB4
        go_wp2_with fail
        refine bodyPost_ret (results_cell_tmp rfl _ _ _ _ _ _ _ rfl (blk_set2 G4.out _ _) Tryd.underlying23 rfl (by kernel_rfl)) rfl ⟨⟨_, _, _, rfl, FF.out⟩, below_set2 d4 (Nat.le_refl _) _ _⟩
  · have hn2' : ¬ ((n : Int) = 2) := by omega
    have FF := hd (sw_no (l := l) (fun x y h e => by
      have h1 := HO.out.len
      rw [HSPL.out x y h e] at h1
      exact hn2 (by simpa using h1.symm)))
    have k0 := blk_cell g1 0
    have k1 := blk_cell g1 1
    have f0 := blk_free g1 0
    have f1 := blk_free g1 1
    have G1 := hd g1
    clear g1 hn2
    go_wp2_with fail
    refine bodyPost_ret (results_cell_tmp rfl _ _ _ _ _ _ _ rfl (blk_set2 G1.out _ _) Tryd.underlying23 rfl (by kernel_rfl)) rfl ⟨⟨_, _, _, rfl, FF.out⟩, below_set2 d1 (Nat.le_refl _) _ _⟩
end Go.Proofs.YtbbnjddgioaoeaaDoor
