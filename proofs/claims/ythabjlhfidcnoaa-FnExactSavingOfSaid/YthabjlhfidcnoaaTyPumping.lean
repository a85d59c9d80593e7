/- Pumping: the laws' helpers on it. -/
import Derived.Test.YthabjlhfidcnoaaTyInt64
import Derived.Test.YthabjlhfidcnoaaAux2
namespace Go.Proofs.Ythabjlhfidcnoaa
open Go.RowKit
set_option linter.unusedVariables false


theorem three_blk (w : World) (A B C : Obj) : (((w.alloc A).alloc B).alloc C).heap[w.heap.size]? = some A ∧ (((w.alloc A).alloc B).alloc C).heap[w.heap.size + 1]? = some B ∧ (((w.alloc A).alloc B).alloc C).heap[w.heap.size + 1 + 1]? = some C ∧ Below w.heap.size w (((w.alloc A).alloc B).alloc C) ∧ (((w.alloc A).alloc B).alloc C).heap.size = w.heap.size + 1 + 1 + 1 := by
  refine ⟨blk_alloc (blk_alloc (heap_alloc_new w _) _) _, blk_alloc ?_ _, ?_, (((Below.refl _ _).alloc (Nat.le_refl _) _).alloc (by simp) _).alloc (by simp; omega) _, by simp⟩
  · have := heap_alloc_new (w.alloc A) B
    simp only [World.size_alloc] at this
    exact this
  · have := heap_alloc_new ((w.alloc A).alloc B) C
    simp only [World.size_alloc] at this
    exact this
theorem two_blk' (w : World) (A B : Obj) : ((w.alloc A).alloc B).heap[w.heap.size]? = some A ∧ ((w.alloc A).alloc B).heap[w.heap.size + 1]? = some B ∧ Below w.heap.size w ((w.alloc A).alloc B) := by
  refine ⟨blk_alloc (heap_alloc_new w _) _, ?_, ((Below.refl _ _).alloc (Nat.le_refl _) _).alloc (by simp) _⟩
  have := heap_alloc_new (w.alloc A) B
  simp only [World.size_alloc] at this
  exact this
theorem only_below {w w1 w2 : World} {row : Option Nat} (h : Below w.heap.size w w1) (k : w1.grownBy w2 row) : w.grownBy w2 row :=
  ⟨k.os.trans h.os, k.tape.trans h.tape, k.output.trans h.output, Nat.le_trans h.size k.size, fun b hb hr => (k.block b (Nat.lt_of_lt_of_le hb h.size) hr).trans (h.block b hb)⟩
theorem blk_only {w w' : World} {g : Nat} {O : Obj} {row : Option Nat} (h : w.heap[g]? = some O) (hg : w.grownBy w' row) (hr : row ≠ some g) : w'.heap[g]? = some O := (hg.block g (blk_lt h) (fun e => hr e.symm)).trans h
theorem results_cell1 {P : Program} {fn : Func} {p : Tmp} {ty : TypeId} (h : fn.results = #[.cell p ty]) (tmps : Array Value) (w : World) (g : Nat) (t : TypeId) (cs : Array Value) (fr : Nat × Nat) (d : TypeDesc)
    (hp : tmps.getD p undef = .pointer (some ⟨g, 0, none⟩)) (hg : w.heap[g]? = some (.cells cs t fr))
    (hu : P.underlying ty = some d) (hd : (match d with | .struct _ | .array _ _ => true | _ => false) = true) (hi : (P.info? ty).map (·.size) = some cs.size) :
    (results fn tmps).run P w = .ok (.agg cs) w := by
  have hp' : tmps[p]?.getD undef = .pointer (some ⟨g, 0, none⟩) := by simpa using hp
  simp [results, h, hp', asAddr, run_loadVar_row w g t ty cs fr d hg hu hd hi]

theorem toPumping_calls (zS : Int) (zL : Int) (zH : Int) (zC : Int) (aI : Option Addr) (nI cI : Nat) (xI : List Int) (aP : Option Addr) (nP cP : Nat) (xP : List Int) (w : World) (rI : RdInt64 w aI nI xI) (hI : nI ≤ 1048576) (rP : RdInt64 w aP nP xP) (hP : nP ≤ 1048576) :
    Calls Try.prog 16 #[.agg #[.int .i64 zS, .int .i64 zL, .int .i64 zH, .int .i64 zC, .slice aI nI cI, .slice aP nP cP]] w fun e w' => ∃ AI AP UI, e = .returned (.agg #[.int .i64 zS, .int .i64 zL, .int .i64 zH, .int .i64 zC, .slice AI nI nI, .slice AP nP nP]) ∧ Own 1 cInt64 2 w' (w.heap.size) (UI) AI nI nI xI ∧ Own 1 cInt64 2 w' (UI) (w'.heap.size) AP nP nP xP ∧ (w.heap.size ≤ UI ∧ UI ≤ w'.heap.size) ∧ Below w.heap.size w w' := by
  go_enter Try.func16, Try.ntmps16
  go_wp2_with fail
  obtain ⟨ga, gb, gc, d0, hs⟩ := three_blk w (.cells #[.int .i64 zS, .int .i64 zL, .int .i64 zH, .int .i64 zC, .slice aI nI cI, .slice aP nP cP] 24) (.cells #[.int .i64 0, .int .i64 0, .int .i64 0, .int .i64 0, .slice none 0 0, .slice none 0 0] 27) (.cells #[.int .i64 zS, .int .i64 zL, .int .i64 zH, .int .i64 zC, .slice none 0 0, .slice none 0 0] 27)
  generalize (((w.alloc (.cells #[.int .i64 zS, .int .i64 zL, .int .i64 zH, .int .i64 zC, .slice aI nI cI, .slice aP nP cP] 24)).alloc (.cells #[.int .i64 0, .int .i64 0, .int .i64 0, .int .i64 0, .slice none 0 0, .slice none 0 0] 27)).alloc (.cells #[.int .i64 zS, .int .i64 zL, .int .i64 zH, .int .i64 zC, .slice none 0 0, .slice none 0 0] 27)) = W0 at ga gb gc d0 hs ⊢
  refine (toInt64S_calls _ _ _ xI _ (rI.below d0) hI).mono ?_
  rintro e w1 ⟨AI, rfl, oI, b1⟩
  have d1 := bnext d0 b1 (Nat.le_refl _)
  have s1 := b1.size
  have ga := blk_below ga b1 (blk_lt ga)
  have gb := blk_below gb b1 (blk_lt gb)
  have gc := blk_below gc b1 (blk_lt gc)
  have ka0 := blk_cell ga 0
  have kb0 := blk_cell gb 0
  have kc0 := blk_cell gc 0
  have zb0 := blk_free gb 0
  have zc0 := blk_free gc 0
  have ka1 := blk_cell ga 1
  have kb1 := blk_cell gb 1
  have kc1 := blk_cell gc 1
  have zb1 := blk_free gb 1
  have zc1 := blk_free gc 1
  have ka2 := blk_cell ga 2
  have kb2 := blk_cell gb 2
  have kc2 := blk_cell gc 2
  have zb2 := blk_free gb 2
  have zc2 := blk_free gc 2
  have ka3 := blk_cell ga 3
  have kb3 := blk_cell gb 3
  have kc3 := blk_cell gc 3
  have zb3 := blk_free gb 3
  have zc3 := blk_free gc 3
  have ka4 := blk_cell ga 4
  have kb4 := blk_cell gb 4
  have kc4 := blk_cell gc 4
  have zb4 := blk_free gb 4
  have zc4 := blk_free gc 4
  have ka5 := blk_cell ga 5
  have kb5 := blk_cell gb 5
  have kc5 := blk_cell gc 5
  have zb5 := blk_free gb 5
  have zc5 := blk_free gc 5
  go_wp2_with fail
  have ga := blk_far ga (a := ⟨w.heap.size + 1 + 1, 4, none⟩) (by simp <;> omega) (.slice AI nI nI)
  have gb := blk_far gb (a := ⟨w.heap.size + 1 + 1, 4, none⟩) (by simp) (.slice AI nI nI)
  have gc : (w1.setCell ⟨w.heap.size + 1 + 1, 4, none⟩ (.slice AI nI nI)).heap[w.heap.size + 1 + 1]? = some (.cells #[.int .i64 zS, .int .i64 zL, .int .i64 zH, .int .i64 zC, .slice AI nI nI, .slice none 0 0] 27 (0, 0)) := blk_set gc 4 _
  have d1 := d1.setCell (show w.heap.size ≤ (⟨w.heap.size + 1 + 1, 4, none⟩ : Addr).block by simp <;> omega) (.slice AI nI nI)
  have oI := oI.only (only_set (only_refl w1 (some (w.heap.size + 1 + 1))) 4 (.slice AI nI nI)) (fun g hg => by obtain rfl := Option.some.inj hg; omega)
  have hsz : (w1.setCell ⟨w.heap.size + 1 + 1, 4, none⟩ (.slice AI nI nI)).heap.size = w1.heap.size := by simp
  generalize (w1.setCell ⟨w.heap.size + 1 + 1, 4, none⟩ (.slice AI nI nI)) = W1 at ga gb gc d1 hsz oI ⊢
  refine (toInt64S_calls _ _ _ xP _ (rP.below d1) hP).mono ?_
  rintro e w2 ⟨AP, rfl, oP, b2⟩
  have d2 := bnext d1 b2 (Nat.le_refl _)
  have s2 := b2.size
  have ga := blk_below ga b2 (blk_lt ga)
  have gb := blk_below gb b2 (blk_lt gb)
  have gc := blk_below gc b2 (blk_lt gc)
  have oI := oI.below b2
  have ka0 := blk_cell ga 0
  have kb0 := blk_cell gb 0
  have kc0 := blk_cell gc 0
  have zb0 := blk_free gb 0
  have zc0 := blk_free gc 0
  have ka1 := blk_cell ga 1
  have kb1 := blk_cell gb 1
  have kc1 := blk_cell gc 1
  have zb1 := blk_free gb 1
  have zc1 := blk_free gc 1
  have ka2 := blk_cell ga 2
  have kb2 := blk_cell gb 2
  have kc2 := blk_cell gc 2
  have zb2 := blk_free gb 2
  have zc2 := blk_free gc 2
  have ka3 := blk_cell ga 3
  have kb3 := blk_cell gb 3
  have kc3 := blk_cell gc 3
  have zb3 := blk_free gb 3
  have zc3 := blk_free gc 3
  have ka4 := blk_cell ga 4
  have kb4 := blk_cell gb 4
  have kc4 := blk_cell gc 4
  have zb4 := blk_free gb 4
  have zc4 := blk_free gc 4
  have ka5 := blk_cell ga 5
  have kb5 := blk_cell gb 5
  have kc5 := blk_cell gc 5
  have zb5 := blk_free gb 5
  have zc5 := blk_free gc 5
  go_wp2_with fail
  have ga := blk_far ga (a := ⟨w.heap.size + 1 + 1, 5, none⟩) (by simp <;> omega) (.slice AP nP nP)
  have gb := blk_far gb (a := ⟨w.heap.size + 1 + 1, 5, none⟩) (by simp) (.slice AP nP nP)
  have gc : (w2.setCell ⟨w.heap.size + 1 + 1, 5, none⟩ (.slice AP nP nP)).heap[w.heap.size + 1 + 1]? = some (.cells #[.int .i64 zS, .int .i64 zL, .int .i64 zH, .int .i64 zC, .slice AI nI nI, .slice AP nP nP] 27 (0, 0)) := blk_set gc 5 _
  have d2 := d2.setCell (show w.heap.size ≤ (⟨w.heap.size + 1 + 1, 5, none⟩ : Addr).block by simp <;> omega) (.slice AP nP nP)
  have oI := oI.only (only_set (only_refl w2 (some (w.heap.size + 1 + 1))) 5 (.slice AP nP nP)) (fun g hg => by obtain rfl := Option.some.inj hg; omega)
  have oP := oP.only (only_set (only_refl w2 (some (w.heap.size + 1 + 1))) 5 (.slice AP nP nP)) (fun g hg => by obtain rfl := Option.some.inj hg; omega)
  have hsz : (w2.setCell ⟨w.heap.size + 1 + 1, 5, none⟩ (.slice AP nP nP)).heap.size = w2.heap.size := by simp
  generalize (w2.setCell ⟨w.heap.size + 1 + 1, 5, none⟩ (.slice AP nP nP)) = W2 at ga gb gc d2 hsz oI oP ⊢
  have gb : ((((((W2.setCell ⟨w.heap.size + 1, 0, none⟩ (.int .i64 zS)).setCell ⟨w.heap.size + 1, 1, none⟩ (.int .i64 zL)).setCell ⟨w.heap.size + 1, 2, none⟩ (.int .i64 zH)).setCell ⟨w.heap.size + 1, 3, none⟩ (.int .i64 zC)).setCell ⟨w.heap.size + 1, 4, none⟩ (.slice AI nI nI)).setCell ⟨w.heap.size + 1, 5, none⟩ (.slice AP nP nP)).heap[w.heap.size + 1]? = some (.cells #[.int .i64 zS, .int .i64 zL, .int .i64 zH, .int .i64 zC, .slice AI nI nI, .slice AP nP nP] 27 (0, 0)) := (blk_set (blk_set (blk_set (blk_set (blk_set (blk_set gb 0 _) 1 _) 2 _) 3 _) 4 _) 5 _)
  have dd := ((((((d2.setCell (show w.heap.size ≤ (⟨w.heap.size + 1, 0, none⟩ : Addr).block by simp) (.int .i64 zS)).setCell (show w.heap.size ≤ (⟨w.heap.size + 1, 1, none⟩ : Addr).block by simp) (.int .i64 zL)).setCell (show w.heap.size ≤ (⟨w.heap.size + 1, 2, none⟩ : Addr).block by simp) (.int .i64 zH)).setCell (show w.heap.size ≤ (⟨w.heap.size + 1, 3, none⟩ : Addr).block by simp) (.int .i64 zC)).setCell (show w.heap.size ≤ (⟨w.heap.size + 1, 4, none⟩ : Addr).block by simp) (.slice AI nI nI)).setCell (show w.heap.size ≤ (⟨w.heap.size + 1, 5, none⟩ : Addr).block by simp) (.slice AP nP nP))
  have oI := oI.only (only_set (only_set (only_set (only_set (only_set (only_set (only_refl W2 (some (w.heap.size + 1))) 0 (.int .i64 zS)) 1 (.int .i64 zL)) 2 (.int .i64 zH)) 3 (.int .i64 zC)) 4 (.slice AI nI nI)) 5 (.slice AP nP nP)) (fun g hg => by obtain rfl := Option.some.inj hg; omega)
  have oP := oP.only (only_set (only_set (only_set (only_set (only_set (only_set (only_refl W2 (some (w.heap.size + 1))) 0 (.int .i64 zS)) 1 (.int .i64 zL)) 2 (.int .i64 zH)) 3 (.int .i64 zC)) 4 (.slice AI nI nI)) 5 (.slice AP nP nP)) (fun g hg => by obtain rfl := Option.some.inj hg; omega)
  refine bodyPost_ret (results_cell1 rfl _ _ _ _ _ _ _ rfl gb Try.underlying27 rfl (by kernel_rfl)) rfl ?_
  refine ⟨AI, AP, w1.heap.size, rfl, oI.mono (by omega) (by omega), oP.mono (by omega) (by simp; omega), ?_, dd⟩
  simp <;> omega
theorem szPumping_calls (zS : Int) (zL : Int) (zH : Int) (zC : Int) (aI : Option Addr) (nI cI : Nat) (aP : Option Addr) (nP cP : Nat) (l : Int) (w : World) (hI : nI ≤ 9223372036854775807) (hP : nP ≤ 9223372036854775807) (hl : 0 ≤ l) (hl' : l ≤ 1048576) :
    Calls Try.prog 14 #[.agg #[.int .i64 zS, .int .i64 zL, .int .i64 zH, .int .i64 zC, .slice aI nI cI, .slice aP nP cP], .int .i64 l] w fun e w' => ∃ r : Int, e = .returned (.int .i64 r) ∧ ((l < (nI : Int) + (nP : Int) ∧ r = -1) ∨ ((nI : Int) + (nP : Int) ≤ l ∧ r = l - ((nI : Int) + (nP : Int)))) ∧ Below w.heap.size w w' := by
  go_enter Try.func14, Try.ntmps14
  go_wp2_with fail
  refine (szInt64S_calls _ _ _ _ _ hI (by omega) (by omega)).mono ?_
  rintro e w' ⟨r0, rfl, hs0, rfl⟩
  rcases hs0 with ⟨hs0, rfl⟩ | ⟨hs0, rfl⟩
  case inl =>
    go_wp2_with fail
    go_ret
    exact ⟨_, rfl, .inl ⟨by omega, rfl⟩, by go_grown⟩
  go_wp2_with fail
  refine (szInt64S_calls _ _ _ _ _ hP (by omega) (by omega)).mono ?_
  rintro e w' ⟨r1, rfl, hs1, rfl⟩
  rcases hs1 with ⟨hs1, rfl⟩ | ⟨hs1, rfl⟩
  case inl =>
    go_wp2_with fail
    go_ret
    exact ⟨_, rfl, .inl ⟨by omega, rfl⟩, by go_grown⟩
  go_wp2_with fail
  go_ret
  exact ⟨_, rfl, .inr ⟨by omega, by omega⟩, by go_grown⟩
theorem eqPumping_calls (zS : Int) (zL : Int) (zH : Int) (zC : Int) (aI bI : Option Addr) (nI cI dI : Nat) (xI : List Int) (aP bP : Option Addr) (nP cP dP : Nat) (xP : List Int) (w : World) (rI : RdInt64 w aI nI xI) (tI : RdInt64 w bI nI xI) (hI : nI ≤ 1048576) (rP : RdInt64 w aP nP xP) (tP : RdInt64 w bP nP xP) (hP : nP ≤ 1048576) :
    Calls Try.prog 18 #[.agg #[.int .i64 zS, .int .i64 zL, .int .i64 zH, .int .i64 zC, .slice aI nI cI, .slice aP nP cP], .agg #[.int .i64 zS, .int .i64 zL, .int .i64 zH, .int .i64 zC, .slice bI nI dI, .slice bP nP dP]] w fun e w' => e = .returned (.bool true) ∧ Below w.heap.size w w' := by
  go_enter Try.func18, Try.ntmps18
  go_wp2_with fail
  obtain ⟨ga, gb, d0⟩ := two_blk' w (.cells #[.int .i64 zS, .int .i64 zL, .int .i64 zH, .int .i64 zC, .slice aI nI cI, .slice aP nP cP] 27) (.cells #[.int .i64 zS, .int .i64 zL, .int .i64 zH, .int .i64 zC, .slice bI nI dI, .slice bP nP dP] 27)
  generalize ((w.alloc (.cells #[.int .i64 zS, .int .i64 zL, .int .i64 zH, .int .i64 zC, .slice aI nI cI, .slice aP nP cP] 27)).alloc (.cells #[.int .i64 zS, .int .i64 zL, .int .i64 zH, .int .i64 zC, .slice bI nI dI, .slice bP nP dP] 27)) = W0 at ga gb d0 ⊢
  refine (eqInt64S_calls _ _ _ _ _ _ xI xI _ (rI.below d0) (tI.below d0) hI hI).mono ?_
  rintro e w1 ⟨he, b1⟩
  rw [beq_self_eq_true] at he
  subst he
  have d1 := bnext d0 b1 (Nat.le_refl _)
  have ga := blk_below ga b1 (blk_lt ga)
  have gb := blk_below gb b1 (blk_lt gb)
  have ka0 := blk_cell ga 0
  have kb0 := blk_cell gb 0
  have ka1 := blk_cell ga 1
  have kb1 := blk_cell gb 1
  have ka2 := blk_cell ga 2
  have kb2 := blk_cell gb 2
  have ka3 := blk_cell ga 3
  have kb3 := blk_cell gb 3
  have ka4 := blk_cell ga 4
  have kb4 := blk_cell gb 4
  have ka5 := blk_cell ga 5
  have kb5 := blk_cell gb 5
  go_wp2_with fail
  refine (eqInt64S_calls _ _ _ _ _ _ xP xP _ (rP.below d1) (tP.below d1) hP hP).mono ?_
  rintro e w2 ⟨he, b2⟩
  rw [beq_self_eq_true] at he
  subst he
  have d2 := bnext d1 b2 (Nat.le_refl _)
  have ga := blk_below ga b2 (blk_lt ga)
  have gb := blk_below gb b2 (blk_lt gb)
  have ka0 := blk_cell ga 0
  have kb0 := blk_cell gb 0
  have ka1 := blk_cell ga 1
  have kb1 := blk_cell gb 1
  have ka2 := blk_cell ga 2
  have kb2 := blk_cell gb 2
  have ka3 := blk_cell ga 3
  have kb3 := blk_cell gb 3
  have ka4 := blk_cell ga 4
  have kb4 := blk_cell gb 4
  have ka5 := blk_cell ga 5
  have kb5 := blk_cell gb 5
  go_wp2_with fail
  go_ret
  exact ⟨rfl, d2⟩
theorem markPumping_calls (zS : Int) (zL : Int) (zH : Int) (zC : Int) (aI : Option Addr) (nI cI : Nat) (xI : List Int) (aP : Option Addr) (nP cP : Nat) (xP : List Int) (k : Int) (w : World) (LI UI : Nat) (oI : Own 1 cInt64 2 w LI UI aI nI cI xI) (hI : nI ≤ 1048576) (vI : UI ≤ w.heap.size) (LP UP : Nat) (oP : Own 1 cInt64 2 w LP UP aP nP cP xP) (hP : nP ≤ 1048576) (vP : UP ≤ w.heap.size) (e0 : UI ≤ LP) (hk0 : 0 ≤ k) (hk1 : k ≤ 90000000) :
    Calls Try.prog 29 #[.agg #[.int .i64 zS, .int .i64 zL, .int .i64 zH, .int .i64 zC, .slice aI nI cI, .slice aP nP cP], .int .i64 k] w fun e w' => ∃ w1, e = .returned (.int .i64 (k + nI + nP)) ∧ Own 1 cInt64 2 w1 LI UI aI nI cI (marksInt64 (k) nI) ∧ w.grownBy w1 (aI.map (·.block)) ∧ Own 1 cInt64 2 w' LP UP aP nP cP (marksInt64 (k + nI) nP) ∧ w1.grownBy w' (aP.map (·.block)) := by
  have WI : ∀ g, aI.map (·.block) = some g → LI ≤ g ∧ g < UI := fun g hg => oI.row hg
  have WP : ∀ g, aP.map (·.block) = some g → LP ≤ g ∧ g < UP := fun g hg => oP.row hg
  go_enter Try.func29, Try.ntmps29
  go_wp2_with fail
  have ga := heap_alloc_new w (.cells #[.int .i64 zS, .int .i64 zL, .int .i64 zH, .int .i64 zC, .slice aI nI cI, .slice aP nP cP] 27)
  have d0 : Below w.heap.size w (w.alloc (.cells #[.int .i64 zS, .int .i64 zL, .int .i64 zH, .int .i64 zC, .slice aI nI cI, .slice aP nP cP] 27)) := (Below.refl _ _).alloc (Nat.le_refl _) _
  generalize w.alloc (.cells #[.int .i64 zS, .int .i64 zL, .int .i64 zH, .int .i64 zC, .slice aI nI cI, .slice aP nP cP] 27) = W0 at ga d0 ⊢
  replace oI := oI.below d0
  replace oP := oP.below d0
  refine (markInt64S_calls _ _ _ _ _ _ _ _ oI hI (by omega) (by omega)).mono ?_
  rintro e w1 ⟨rfl, pI, g1⟩
  replace oP := oP.only g1 (fun g hg => by have := WI _ hg; omega)
  have ga := blk_only ga g1 (fun hg => by have := WI _ hg; omega)
  have ka0 := blk_cell ga 0
  have ka1 := blk_cell ga 1
  have ka2 := blk_cell ga 2
  have ka3 := blk_cell ga 3
  have ka4 := blk_cell ga 4
  have ka5 := blk_cell ga 5
  go_wp2_with fail
  refine (markInt64S_calls _ _ _ _ _ _ _ _ oP hP (by omega) (by omega)).mono ?_
  rintro e w2 ⟨rfl, pP, g2⟩
  have ga := blk_only ga g2 (fun hg => by have := WP _ hg; omega)
  have ka0 := blk_cell ga 0
  have ka1 := blk_cell ga 1
  have ka2 := blk_cell ga 2
  have ka3 := blk_cell ga 3
  have ka4 := blk_cell ga 4
  have ka5 := blk_cell ga 5
  go_wp2_with fail
  go_ret
  exact ⟨w1, rfl, pI, only_below d0 g1, pP, g2⟩
end Go.Proofs.Ythabjlhfidcnoaa
