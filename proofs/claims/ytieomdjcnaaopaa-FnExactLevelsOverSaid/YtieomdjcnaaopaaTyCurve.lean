/- Curve: the laws' helpers on it. -/
import Derived.Test.YtieomdjcnaaopaaTyInt64
import Derived.Test.YtieomdjcnaaopaaAux2
namespace Go.Proofs.Ytieomdjcnaaopaa
open Go.RowKit
set_option linter.unusedVariables false


theorem three_blk (w : World) (A B C : Obj) : (((w.alloc A).alloc B).alloc C).heap[w.heap.size]? = some A ∧ (((w.alloc A).alloc B).alloc C).heap[w.heap.size + 1]? = some B ∧ (((w.alloc A).alloc B).alloc C).heap[w.heap.size + 1 + 1]? = some C ∧ Below w.heap.size w (((w.alloc A).alloc B).alloc C) ∧ (((w.alloc A).alloc B).alloc C).heap.size = w.heap.size + 1 + 1 + 1 := by
  refine ⟨blk_alloc (blk_alloc (heap_alloc_new w _) _) _, blk_alloc ?_ _, ?_, (((Below.refl _ _).alloc (Nat.le_refl _) _).alloc (by simp) _).alloc (by simp; omega) _, by simp⟩
  · have := heap_alloc_new (w.alloc A) B
    simp only [World.size_alloc] at this
    exact this
  · have := heap_alloc_new ((w.alloc A).alloc B) C
    simp only [World.size_alloc] at this
    exact this
theorem two_blk' (w : World) (A B : Obj) : ((w.alloc A).alloc B).heap[w.heap.size]? = some A ∧ ((w.alloc A).alloc B).heap[w.heap.size + 1]? = some B ∧ Below w.heap.size w ((w.alloc A).alloc B) := by
  refine ⟨blk_alloc (heap_alloc_new w _) _, ?_, ((Below.refl _ _).alloc (Nat.le_refl _) _).alloc (by simp) _⟩
  have := heap_alloc_new (w.alloc A) B
  simp only [World.size_alloc] at this
  exact this
theorem only_below {w w1 w2 : World} {row : Option Nat} (h : Below w.heap.size w w1) (k : w1.grownBy w2 row) : w.grownBy w2 row :=
  ⟨k.os.trans h.os, k.tape.trans h.tape, k.output.trans h.output, Nat.le_trans h.size k.size, fun b hb hr => (k.block b (Nat.lt_of_lt_of_le hb h.size) hr).trans (h.block b hb)⟩
theorem blk_only {w w' : World} {g : Nat} {O : Obj} {row : Option Nat} (h : w.heap[g]? = some O) (hg : w.grownBy w' row) (hr : row ≠ some g) : w'.heap[g]? = some O := (hg.block g (blk_lt h) (fun e => hr e.symm)).trans h
theorem results_cell1 {P : Program} {fn : Func} {p : Tmp} {ty : TypeId} (h : fn.results = #[.cell p ty]) (tmps : Array Value) (w : World) (g : Nat) (t : TypeId) (cs : Array Value) (fr : Nat × Nat) (d : TypeDesc)
    (hp : tmps.getD p undef = .pointer (some ⟨g, 0, none⟩)) (hg : w.heap[g]? = some (.cells cs t fr))
    (hu : P.underlying ty = some d) (hd : (match d with | .struct _ | .array _ _ => true | _ => false) = true) (hi : (P.info? ty).map (·.size) = some cs.size) :
    (results fn tmps).run P w = .ok (.agg cs) w := by
  have hp' : tmps[p]?.getD undef = .pointer (some ⟨g, 0, none⟩) := by simpa using hp
  simp [results, h, hp', asAddr, run_loadVar_row w g t ty cs fr d hg hu hd hi]

theorem toCurve_calls (aL : Option Addr) (nL cL : Nat) (xL : List Int) (aV : Option Addr) (nV cV : Nat) (xV : List Int) (w : World) (rL : RdInt64 w aL nL xL) (hL : nL ≤ 1048576) (rV : RdInt64 w aV nV xV) (hV : nV ≤ 1048576) :
    Calls Try.prog 18 #[.agg #[.slice aL nL cL, .slice aV nV cV]] w fun e w' => ∃ AL AV UL, e = .returned (.agg #[.slice AL nL nL, .slice AV nV nV]) ∧ Own 1 cInt64 2 w' (w.heap.size) (UL) AL nL nL xL ∧ Own 1 cInt64 2 w' (UL) (w'.heap.size) AV nV nV xV ∧ (w.heap.size ≤ UL ∧ UL ≤ w'.heap.size) ∧ Below w.heap.size w w' := by
  go_enter Try.func18, Try.ntmps18
  go_wp2_with fail
  obtain ⟨ga, gb, gc, d0, hs⟩ := three_blk w (.cells #[.slice aL nL cL, .slice aV nV cV] 24) (.cells #[.slice none 0 0, .slice none 0 0] 30) (.cells #[.slice none 0 0, .slice none 0 0] 30)
  generalize (((w.alloc (.cells #[.slice aL nL cL, .slice aV nV cV] 24)).alloc (.cells #[.slice none 0 0, .slice none 0 0] 30)).alloc (.cells #[.slice none 0 0, .slice none 0 0] 30)) = W0 at ga gb gc d0 hs ⊢
  refine (toInt64S_calls _ _ _ xL _ (rL.below d0) hL).mono ?_
  rintro e w1 ⟨AL, rfl, oL, b1⟩
  have d1 := bnext d0 b1 (Nat.le_refl _)
  have s1 := b1.size
  have ga := blk_below ga b1 (blk_lt ga)
  have gb := blk_below gb b1 (blk_lt gb)
  have gc := blk_below gc b1 (blk_lt gc)
  have ka0 := blk_cell ga 0
  have kb0 := blk_cell gb 0
  have kc0 := blk_cell gc 0
  have zb0 := blk_free gb 0
  have zc0 := blk_free gc 0
  have ka1 := blk_cell ga 1
  have kb1 := blk_cell gb 1
  have kc1 := blk_cell gc 1
  have zb1 := blk_free gb 1
  have zc1 := blk_free gc 1
  go_wp2_with fail
  have ga := blk_far ga (a := ⟨w.heap.size + 1 + 1, 0, none⟩) (by simp <;> omega) (.slice AL nL nL)
  have gb := blk_far gb (a := ⟨w.heap.size + 1 + 1, 0, none⟩) (by simp) (.slice AL nL nL)
  have gc : (w1.setCell ⟨w.heap.size + 1 + 1, 0, none⟩ (.slice AL nL nL)).heap[w.heap.size + 1 + 1]? = some (.cells #[.slice AL nL nL, .slice none 0 0] 30 (0, 0)) := blk_set gc 0 _
  have d1 := d1.setCell (show w.heap.size ≤ (⟨w.heap.size + 1 + 1, 0, none⟩ : Addr).block by simp <;> omega) (.slice AL nL nL)
  have oL := oL.only (only_set (only_refl w1 (some (w.heap.size + 1 + 1))) 0 (.slice AL nL nL)) (fun g hg => by obtain rfl := Option.some.inj hg; omega)
  have hsz : (w1.setCell ⟨w.heap.size + 1 + 1, 0, none⟩ (.slice AL nL nL)).heap.size = w1.heap.size := by simp
  generalize (w1.setCell ⟨w.heap.size + 1 + 1, 0, none⟩ (.slice AL nL nL)) = W1 at ga gb gc d1 hsz oL ⊢
  refine (toInt64S_calls _ _ _ xV _ (rV.below d1) hV).mono ?_
  rintro e w2 ⟨AV, rfl, oV, b2⟩
  have d2 := bnext d1 b2 (Nat.le_refl _)
  have s2 := b2.size
  have ga := blk_below ga b2 (blk_lt ga)
  have gb := blk_below gb b2 (blk_lt gb)
  have gc := blk_below gc b2 (blk_lt gc)
  have oL := oL.below b2
  have ka0 := blk_cell ga 0
  have kb0 := blk_cell gb 0
  have kc0 := blk_cell gc 0
  have zb0 := blk_free gb 0
  have zc0 := blk_free gc 0
  have ka1 := blk_cell ga 1
  have kb1 := blk_cell gb 1
  have kc1 := blk_cell gc 1
  have zb1 := blk_free gb 1
  have zc1 := blk_free gc 1
  go_wp2_with fail
  have ga := blk_far ga (a := ⟨w.heap.size + 1 + 1, 1, none⟩) (by simp <;> omega) (.slice AV nV nV)
  have gb := blk_far gb (a := ⟨w.heap.size + 1 + 1, 1, none⟩) (by simp) (.slice AV nV nV)
  have gc : (w2.setCell ⟨w.heap.size + 1 + 1, 1, none⟩ (.slice AV nV nV)).heap[w.heap.size + 1 + 1]? = some (.cells #[.slice AL nL nL, .slice AV nV nV] 30 (0, 0)) := blk_set gc 1 _
  have d2 := d2.setCell (show w.heap.size ≤ (⟨w.heap.size + 1 + 1, 1, none⟩ : Addr).block by simp <;> omega) (.slice AV nV nV)
  have oL := oL.only (only_set (only_refl w2 (some (w.heap.size + 1 + 1))) 1 (.slice AV nV nV)) (fun g hg => by obtain rfl := Option.some.inj hg; omega)
  have oV := oV.only (only_set (only_refl w2 (some (w.heap.size + 1 + 1))) 1 (.slice AV nV nV)) (fun g hg => by obtain rfl := Option.some.inj hg; omega)
  have hsz : (w2.setCell ⟨w.heap.size + 1 + 1, 1, none⟩ (.slice AV nV nV)).heap.size = w2.heap.size := by simp
  generalize (w2.setCell ⟨w.heap.size + 1 + 1, 1, none⟩ (.slice AV nV nV)) = W2 at ga gb gc d2 hsz oL oV ⊢
  have gb : ((W2.setCell ⟨w.heap.size + 1, 0, none⟩ (.slice AL nL nL)).setCell ⟨w.heap.size + 1, 1, none⟩ (.slice AV nV nV)).heap[w.heap.size + 1]? = some (.cells #[.slice AL nL nL, .slice AV nV nV] 30 (0, 0)) := (blk_set (blk_set gb 0 _) 1 _)
  have dd := ((d2.setCell (show w.heap.size ≤ (⟨w.heap.size + 1, 0, none⟩ : Addr).block by simp) (.slice AL nL nL)).setCell (show w.heap.size ≤ (⟨w.heap.size + 1, 1, none⟩ : Addr).block by simp) (.slice AV nV nV))
  have oL := oL.only (only_set (only_set (only_refl W2 (some (w.heap.size + 1))) 0 (.slice AL nL nL)) 1 (.slice AV nV nV)) (fun g hg => by obtain rfl := Option.some.inj hg; omega)
  have oV := oV.only (only_set (only_set (only_refl W2 (some (w.heap.size + 1))) 0 (.slice AL nL nL)) 1 (.slice AV nV nV)) (fun g hg => by obtain rfl := Option.some.inj hg; omega)
  refine bodyPost_ret (results_cell1 rfl _ _ _ _ _ _ _ rfl gb Try.underlying30 rfl (by kernel_rfl)) rfl ?_
  refine ⟨AL, AV, w1.heap.size, rfl, oL.mono (by omega) (by omega), oV.mono (by omega) (by simp; omega), ?_, dd⟩
  simp <;> omega
theorem szCurve_calls (aL : Option Addr) (nL cL : Nat) (aV : Option Addr) (nV cV : Nat) (l : Int) (w : World) (hL : nL ≤ 9223372036854775807) (hV : nV ≤ 9223372036854775807) (hl : 0 ≤ l) (hl' : l ≤ 1048576) :
    Calls Try.prog 16 #[.agg #[.slice aL nL cL, .slice aV nV cV], .int .i64 l] w fun e w' => ∃ r : Int, e = .returned (.int .i64 r) ∧ ((l < (nL : Int) + (nV : Int) ∧ r = -1) ∨ ((nL : Int) + (nV : Int) ≤ l ∧ r = l - ((nL : Int) + (nV : Int)))) ∧ Below w.heap.size w w' := by
  go_enter Try.func16, Try.ntmps16
  go_wp2_with fail
  refine (szInt64S_calls _ _ _ _ _ hL (by omega) (by omega)).mono ?_
  rintro e w' ⟨r0, rfl, hs0, rfl⟩
  rcases hs0 with ⟨hs0, rfl⟩ | ⟨hs0, rfl⟩
  case inl =>
    go_wp2_with fail
    go_ret
    exact ⟨_, rfl, .inl ⟨by omega, rfl⟩, by go_grown⟩
  go_wp2_with fail
  refine (szInt64S_calls _ _ _ _ _ hV (by omega) (by omega)).mono ?_
  rintro e w' ⟨r1, rfl, hs1, rfl⟩
  rcases hs1 with ⟨hs1, rfl⟩ | ⟨hs1, rfl⟩
  case inl =>
    go_wp2_with fail
    go_ret
    exact ⟨_, rfl, .inl ⟨by omega, rfl⟩, by go_grown⟩
  go_wp2_with fail
  go_ret
  exact ⟨_, rfl, .inr ⟨by omega, by omega⟩, by go_grown⟩
theorem eqCurve_calls (aL bL : Option Addr) (nL cL dL : Nat) (xL : List Int) (aV bV : Option Addr) (nV cV dV : Nat) (xV : List Int) (w : World) (rL : RdInt64 w aL nL xL) (tL : RdInt64 w bL nL xL) (hL : nL ≤ 1048576) (rV : RdInt64 w aV nV xV) (tV : RdInt64 w bV nV xV) (hV : nV ≤ 1048576) :
    Calls Try.prog 21 #[.agg #[.slice aL nL cL, .slice aV nV cV], .agg #[.slice bL nL dL, .slice bV nV dV]] w fun e w' => e = .returned (.bool true) ∧ Below w.heap.size w w' := by
  go_enter Try.func21, Try.ntmps21
  go_wp2_with fail
  obtain ⟨ga, gb, d0⟩ := two_blk' w (.cells #[.slice aL nL cL, .slice aV nV cV] 30) (.cells #[.slice bL nL dL, .slice bV nV dV] 30)
  generalize ((w.alloc (.cells #[.slice aL nL cL, .slice aV nV cV] 30)).alloc (.cells #[.slice bL nL dL, .slice bV nV dV] 30)) = W0 at ga gb d0 ⊢
  refine (eqInt64S_calls _ _ _ _ _ _ xL xL _ (rL.below d0) (tL.below d0) hL hL).mono ?_
  rintro e w1 ⟨he, b1⟩
  rw [beq_self_eq_true] at he
  subst he
  have d1 := bnext d0 b1 (Nat.le_refl _)
  have ga := blk_below ga b1 (blk_lt ga)
  have gb := blk_below gb b1 (blk_lt gb)
  have ka0 := blk_cell ga 0
  have kb0 := blk_cell gb 0
  have ka1 := blk_cell ga 1
  have kb1 := blk_cell gb 1
  go_wp2_with fail
  refine (eqInt64S_calls _ _ _ _ _ _ xV xV _ (rV.below d1) (tV.below d1) hV hV).mono ?_
  rintro e w2 ⟨he, b2⟩
  rw [beq_self_eq_true] at he
  subst he
  have d2 := bnext d1 b2 (Nat.le_refl _)
  have ga := blk_below ga b2 (blk_lt ga)
  have gb := blk_below gb b2 (blk_lt gb)
  have ka0 := blk_cell ga 0
  have kb0 := blk_cell gb 0
  have ka1 := blk_cell ga 1
  have kb1 := blk_cell gb 1
  go_wp2_with fail
  go_ret
  exact ⟨rfl, d2⟩
theorem markCurve_calls (aL : Option Addr) (nL cL : Nat) (xL : List Int) (aV : Option Addr) (nV cV : Nat) (xV : List Int) (k : Int) (w : World) (LL UL : Nat) (oL : Own 1 cInt64 2 w LL UL aL nL cL xL) (hL : nL ≤ 1048576) (vL : UL ≤ w.heap.size) (LV UV : Nat) (oV : Own 1 cInt64 2 w LV UV aV nV cV xV) (hV : nV ≤ 1048576) (vV : UV ≤ w.heap.size) (e0 : UL ≤ LV) (hk0 : 0 ≤ k) (hk1 : k ≤ 90000000) :
    Calls Try.prog 43 #[.agg #[.slice aL nL cL, .slice aV nV cV], .int .i64 k] w fun e w' => ∃ w1, e = .returned (.int .i64 (k + nL + nV)) ∧ Own 1 cInt64 2 w1 LL UL aL nL cL (marksInt64 (k) nL) ∧ w.grownBy w1 (aL.map (·.block)) ∧ Own 1 cInt64 2 w' LV UV aV nV cV (marksInt64 (k + nL) nV) ∧ w1.grownBy w' (aV.map (·.block)) := by
  have WL : ∀ g, aL.map (·.block) = some g → LL ≤ g ∧ g < UL := fun g hg => oL.row hg
  have WV : ∀ g, aV.map (·.block) = some g → LV ≤ g ∧ g < UV := fun g hg => oV.row hg
  go_enter Try.func43, Try.ntmps43
  go_wp2_with fail
  have ga := heap_alloc_new w (.cells #[.slice aL nL cL, .slice aV nV cV] 30)
  have d0 : Below w.heap.size w (w.alloc (.cells #[.slice aL nL cL, .slice aV nV cV] 30)) := (Below.refl _ _).alloc (Nat.le_refl _) _
  generalize w.alloc (.cells #[.slice aL nL cL, .slice aV nV cV] 30) = W0 at ga d0 ⊢
  replace oL := oL.below d0
  replace oV := oV.below d0
  refine (markInt64S_calls _ _ _ _ _ _ _ _ oL hL (by omega) (by omega)).mono ?_
  rintro e w1 ⟨rfl, pL, g1⟩
  replace oV := oV.only g1 (fun g hg => by have := WL _ hg; omega)
  have ga := blk_only ga g1 (fun hg => by have := WL _ hg; omega)
  have ka0 := blk_cell ga 0
  have ka1 := blk_cell ga 1
  go_wp2_with fail
  refine (markInt64S_calls _ _ _ _ _ _ _ _ oV hV (by omega) (by omega)).mono ?_
  rintro e w2 ⟨rfl, pV, g2⟩
  have ga := blk_only ga g2 (fun hg => by have := WV _ hg; omega)
  have ka0 := blk_cell ga 0
  have ka1 := blk_cell ga 1
  go_wp2_with fail
  go_ret
  exact ⟨w1, rfl, pL, only_below d0 g1, pV, g2⟩
end Go.Proofs.Ytieomdjcnaaopaa
