/- Regions that draw their order and end in a forced tail, where some operations that look at no memory may come behind the tail's beginning. -/
import Derived.Test.YtieomdjcnaaopaaBq
namespace Go.Proofs.Ytieomdjcnaaopaa
open Go.RowKit
set_option linter.unusedVariables false

section
variable {P : Program} {ops : Array Oper} {md : Region.Mode} {C : World → Prop} {Q' : Exit → Act → World → Prop}

def sinkL (md : Region.Mode) (ops : Array Oper) (n : Nat) (ls : List Nat) : Bool :=
  (List.range n).all fun i => ls.contains i || (List.range (n + 1)).any fun j => decide (i < j) && (!ls.contains j && Region.waitsFor md ops j i)

theorem tail_waitsL {n : Nat} {ls : List Nat} {listed : Array Bool} (hs : sinkL md ops n ls = true) (hc : Region.chainB md ops n = true) (hnl : ls.contains n = false) (hn : n < ops.size) (inv : HeadInv md ops n listed) :
    ∀ (d i : Nat), n - i = d → i < n → ls.contains i = false → listed.getD i true = false → ∀ t, n ≤ t → t ∉ Region.ready md ops listed := by
  intro d
  induction d using Nat.strongRecOn with
  | _ d ih =>
    intro i hd hi hil hun t ht hr
    obtain ⟨_, ot, hot, hall⟩ := mem_ready.1 hr
    have htlt : t < ops.size := (Array.getElem?_eq_some_iff.1 hot).1
    by_cases htn : t = n
    · subst htn
      have h1 := List.all_eq_true.1 hs i (List.mem_range.2 hi)
      rw [hil, Bool.false_or] at h1
      obtain ⟨j, hj, hj2⟩ := List.any_eq_true.1 h1
      simp only [Bool.and_eq_true, decide_eq_true_eq, Bool.not_eq_true'] at hj2
      obtain ⟨oj, hoj, e, he, hb, hon⟩ := Region.waitsFor_spec hj2.2.2
      have hjle : j ≤ t := by have := List.mem_range.1 hj; omega
      by_cases hjt : j = t
      · subst hjt
        obtain rfl : oj = ot := Option.some.inj (hoj.symm.trans hot)
        have h2 := hall e he hb
        rw [hon, getD_both hun] at h2
        cases h2
      · cases hl : listed.getD j false with
        | true =>
          have h2 := inv.closed j oj hoj hl e he hb
          rw [hon, getD_both hun] at h2
          cases h2
        | false =>
          have hjs : j < listed.size := by rw [inv.size]; omega
          exact ih (t - j) (by omega) j rfl (by omega) hj2.2.1 (getD_in hjs hl) t (Nat.le_refl _) hr
    · have h1 := List.all_eq_true.1 hc t (List.mem_range.2 htlt)
      simp only [Bool.or_eq_true, decide_eq_true_eq] at h1
      rcases h1 with h1 | h1
      · omega
      · obtain ⟨o', ho', e, he, hb, hon⟩ := Region.waitsFor_spec h1
        obtain rfl : o' = ot := Option.some.inj (ho'.symm.trans hot)
        have h2 := hall e he hb
        rw [hon, getD_both (inv.tail (t - 1) (by omega) (by omega))] at h2
        cases h2

theorem yieldsIn_of_yields {o : Oper} {v : Value} {a : Act} (h : Yields P ops o v a) : YieldsIn P ops C o v a := by
  rcases h with ⟨hw, hv⟩ | h
  · exact .inl ⟨hw, fun w _ => by unfold Oper.quietAt; rw [hv w]; exact ⟨rfl, rfl⟩⟩
  · exact .inr h

/-- As 'qOp_put', and a fact of the state that no temporary touches is kept. -/
theorem qOp_putR {j : Nat} {oi oj : Oper} {v : Value} {R : Act → Prop} (hj : ops[j]? = some oj) (hap : oi.apart ops oj = true)
    (hsi : ∀ cs b, oi.op ≠ .select cs b) (hsj : ∀ cs b, oj.op ≠ .select cs b) {K : Act → Prop} {a : Act} (hR : R a) (keepR : ∀ a, R a → ∀ u, R (a.put oj.dst u))
    (hy : YieldsIn P ops C oi v a) (h : qOp P ops C j K (a.put oi.dst v)) :
    qOp P ops C j (fun a' => R a' ∧ YieldsIn P ops C oi v a' ∧ K (a'.put oi.dst v)) a := by
  have h2 := qOp_put hj hap hsi hsj hy h
  unfold qOp at *
  simp only [hj] at *
  split
  · rename_i hw
    simp only [hw, if_true] at h2
    obtain ⟨u, hu, hn⟩ := h2
    exact ⟨u, hu, keepR _ hR _, hn⟩
  · rename_i hw
    simp only [hw] at h2
    exact ⟨keepR _ hR _, h2⟩

def hdL (P : Program) (md : Region.Mode) (ops : Array Oper) (C : World → Prop) (Q' : Exit → Act → World → Prop) (n g : Nat) (L : Array Bool → Act → Prop) : Nat → Array Bool → Act → Prop
  | 0, listed, a => L listed a
  | f + 1, listed, a => (∀ i ∈ Region.ready md ops listed, i < n → qOp P ops C i (hdL P md ops C Q' n g L f (listed.setIfInBounds i true)) a) ∧
      ((Region.ready md ops listed ≠ [] ∧ ∀ i ∈ Region.ready md ops listed, i < n) ∨ ∀ w, C w → wpAny P md ops Q' (f + 1 + g) listed a w)

theorem any_of_hdL {n g : Nat} {L : Array Bool → Act → Prop} (hL : ∀ listed a w, C w → L listed a → wpAny P md ops Q' g listed a w) :
    ∀ (f : Nat) (listed : Array Bool) (a : Act) (w : World), C w → hdL P md ops C Q' n g L f listed a → wpAny P md ops Q' (f + g) listed a w := by
  intro f
  induction f with
  | zero => intro listed a w hw h; rw [Nat.zero_add]; exact hL _ _ _ hw h
  | succ f ih =>
    intro listed a w hw h
    rcases h.2 with ⟨h1, h2⟩ | h1
    · rw [show f + 1 + g = (f + g) + 1 by omega]
      exact ⟨fun h0 => absurd h0 h1, fun i hi => wpOp_of_qOp hw (fun a' w' hw' h' => ih _ a' w' hw' h') (h.1 i hi (h2 i hi))⟩
    · exact h1 w hw

theorem hdL_first {n g i : Nat} {ls : List Nat} {oi : Oper} {v : Value} {L : Array Bool → Act → Prop} (hL : ∀ listed a w, C w → L listed a → wpAny P md ops Q' g listed a w)
    (hQ : ∀ c a d v w, Q' (.panic c) (Act.put a d v) w → Q' (.panic c) a w) (hi : ops[i]? = some oi) (hsel : ∀ (j : Nat) (o : Oper) cs b, ops[j]? = some o → o.op ≠ .select cs b)
    (hs : sinkL md ops n ls = true) (hc : Region.chainB md ops n = true) (hnl : ls.contains n = false) (hn : n < ops.size) (hin : i < n)
    (hdone : ∀ listed a, L listed a → ∀ j ∈ Region.ready md ops listed, n ≤ j) (f : Nat) : ∀ (listed : Array Bool) (a : Act), HeadInv md ops n listed →
      (∀ j oj, ops[j]? = some oj → j ≠ i → listed.getD j true = false → (∀ e ∈ oj.after, Region.binds md e = true → e.on ≠ i) → oi.apart ops oj = true) →
      i ∈ Region.ready md ops listed → (ls.contains i = true → Yields P ops oi v a) → YieldsIn P ops C oi v a →
      hdL P md ops C Q' n g L f (listed.setIfInBounds i true) (a.put oi.dst v) → hdL P md ops C Q' n g L (f + 1) listed a := by
  have second : ∀ (f : Nat) (listed : Array Bool) (a : Act), HeadInv md ops n listed →
      (∀ j oj, ops[j]? = some oj → j ≠ i → listed.getD j true = false → (∀ e ∈ oj.after, Region.binds md e = true → e.on ≠ i) → oi.apart ops oj = true) →
      i ∈ Region.ready md ops listed → (ls.contains i = true → Yields P ops oi v a) →
      hdL P md ops C Q' n g L f (listed.setIfInBounds i true) (a.put oi.dst v) →
      ((Region.ready md ops listed ≠ [] ∧ ∀ j ∈ Region.ready md ops listed, j < n) ∨ ∀ w, C w → wpAny P md ops Q' (f + 1 + g) listed a w) := by
    intro f listed a inv hfree hr hyl H
    by_cases hex : ∃ k, k < n ∧ ls.contains k = false ∧ listed.getD k true = false
    · obtain ⟨k, hk, hkl, hku⟩ := hex
      exact .inl ⟨fun h => (by rw [h] at hr; cases hr), fun j hj => Nat.lt_of_not_le fun h => tail_waitsL hs hc hnl hn inv _ k rfl hk hkl hku j h hj⟩
    · have hil : ls.contains i = true := by
        cases hx : ls.contains i
        · exact absurd ⟨i, hin, hx, (mem_ready.1 hr).1⟩ hex
        · rfl
      refine .inr fun w hw => ?_
      rw [show f + 1 + g = (f + g) + 1 by omega]
      exact wpAny_first hi hsel (fun c a w h => hQ c a _ _ w h) (f + g) listed a w hfree hr (hyl hil) (any_of_hdL hL _ _ _ _ hw H)
  induction f with
  | zero =>
    intro listed a inv hfree hr hyl hy H
    refine ⟨fun j hj hjn => ?_, second 0 listed a inv hfree hr hyl H⟩
    by_cases hji : j = i
    · subst hji; exact hy.qOp hi H
    · exact absurd (hdone _ _ H j (ready_mono hj hji)) (by omega)
  | succ f ih =>
    intro listed a inv hfree hr hyl hy H
    refine ⟨fun j hj hjn => ?_, second (f + 1) listed a inv hfree hr hyl H⟩
    by_cases hji : j = i
    · subst hji; exact hy.qOp hi H
    · obtain ⟨hjun, oj, hoj, hall⟩ := mem_ready.1 hj
      have hnot : ∀ e ∈ oj.after, Region.binds md e = true → e.on ≠ i := by
        intro e he hb heq
        have h1 := hall e he hb
        rw [heq, getD_both (mem_ready.1 hr).1] at h1
        cases h1
      have hap := hfree j oj hoj hji hjun hnot
      refine qOp_mono (fun a' h3 => ih (listed.setIfInBounds j true) a' (inv.set hj hjn) ?_ (ready_mono hr (Ne.symm hji)) h3.1 h3.2.1 (by rw [Array.setIfInBounds_comm _ _ hji]; exact h3.2.2))
        (qOp_putR (R := fun a => ls.contains i = true → Yields P ops oi v a) hoj hap (fun cs b => hsel i oi cs b hi) (fun cs b => hsel j oj cs b hoj) hyl
          (fun a hR u hl => (hR hl).of_same (execOp_put oi (fun cs b => hsel i oi cs b hi) a oj.dst u (Oper.apart_spec hap).2.2) (wanted_put oi a oj.dst u (Oper.apart_spec hap).2.2)) hy (H.1 j (ready_mono hj hji) hjn))
      intro k ok hk hki hun hno
      refine hfree k ok hk hki ?_ hno
      by_cases hjk : j = k
      · subst hjk; exact hjun
      · rw [getD_set_ne true hjk] at hun; exact hun

/-- An operation that looks at no memory: 'extract'. -/
def looseB (ops : Array Oper) (ls : List Nat) : Bool := ls.all fun i => match ops[i]? with | some o => o.guard.isNone && (match o.op with | .extract _ _ => true | _ => false) | none => false
theorem yields_extract {o : Oper} {v : Value} {a : Act} {x : Operand} {k : Nat} {w0 : World} (hg : o.guard = none) (h : o.op = .extract x k) (hw : C w0) (hy : YieldsIn P ops C o v a) : Yields P ops o v a := by
  have hwant : Region.wanted o (yielded ops a.tmps) = true := by unfold Region.wanted; rw [hg]
  rcases hy with ⟨h1, h2⟩ | ⟨h1, _⟩
  · refine .inl ⟨h1, fun w => ?_⟩
    have h3 := h2 w0 hw
    unfold Oper.quietAt at h3
    simp only [execOp, h, Instr.extract] at h3 ⊢
    generalize a.eval x = t at h3 ⊢
    cases t with
    | tuple vs =>
      cases hv : vs[k]? with
      | none => simp [hv, go_sem, Oper.quietUpon] at h3
      | some u =>
        simp [hv, go_sem, Oper.quietUpon] at h3 ⊢
        exact h3
    | _ => simp [go_sem, Oper.quietUpon] at h3
  · rw [hwant] at h1; cases h1

theorem hdL_lex {n g : Nat} {ls : List Nat} {Lq : Act → Prop} {w0 : World} (hw0 : C w0) (hL : ∀ listed a w, C w → (Region.seqB md ops g n listed = true ∧ Lq a) → wpAny P md ops Q' g listed a w)
    (hQ : ∀ c a d v w, Q' (.panic c) (Act.put a d v) w → Q' (.panic c) a w) (hsel : Region.noSelect ops = true) (hlo : looseB ops ls = true) (hs : sinkL md ops n ls = true) (hc : Region.chainB md ops n = true) (hnl : ls.contains n = false) (hn : n < ops.size) (l : List Oper) :
    ∀ (k : Nat) (listed : Array Bool) (a : Act), (∀ j, j < l.length → l[j]? = ops[k + j]?) → k + l.length = n → HeadInv md ops n listed →
    Region.lexHead md ops g l.length k listed = true → wpQuiet P ops C Lq l a → hdL P md ops C Q' n g (fun listed' a' => Region.seqB md ops g n listed' = true ∧ Lq a') l.length listed a := by
  induction l with
  | nil =>
    intro k listed a _ hk _ hB h
    obtain rfl : k = n := by simpa using hk
    exact ⟨by simpa [Region.lexHead] using hB, h⟩
  | cons o l ih =>
    intro k listed a hl hk inv hB h
    have h0 : ops[k]? = some o := by simpa using (hl 0 (by simp)).symm
    simp only [List.length_cons, Region.lexHead, Bool.and_eq_true] at hB
    obtain ⟨⟨hr, hf⟩, hB'⟩ := hB
    have hkn : k < n := by simp only [List.length_cons] at hk; omega
    have hr' : k ∈ Region.ready md ops listed := by simpa using hr
    obtain ⟨v, hy, hK⟩ := yieldsIn_of_qOp (K := wpQuiet P ops C Lq l) h0 (by unfold qOp; simp only [h0]; exact h)
    have hyl : ls.contains k = true → Yields P ops o v a := by
      intro hlk
      have h1 := List.all_eq_true.1 hlo k (by simpa using hlk)
      simp only [h0, Bool.and_eq_true, Option.isNone_iff_eq_none] at h1
      obtain ⟨hg, h2⟩ := h1
      split at h2
      · rename_i x ix hop; exact yields_extract hg hop hw0 hy
      · cases h2
    exact hdL_first hL hQ h0 (Region.noSelect_spec hsel) hs hc hnl hn hkn (fun listed' a' hL => seqB_ready hL.1) l.length listed a inv (Region.free_spec h0 hf) hr' hyl hy
      (ih (k + 1) _ _ (fun j hj => by have := hl (j + 1) (by simp; omega); simpa [Nat.add_assoc, Nat.add_comm 1 j] using this) (by simp only [List.length_cons] at hk; omega) (inv.set hr' hkn) hB' hK)
end

def lexLoose (md : Region.Mode) (ops : Array Oper) (n : Nat) (ls : List Nat) : Bool :=
  Region.noSelect ops && (decide (n < ops.size) && (sinkL md ops n ls && (Region.chainB md ops n && (Region.lexHead md ops (ops.size - n) n 0 (Array.replicate ops.size false) && (looseB ops ls && !ls.contains n)))))

/-- The first n operations are quiet in the class; those of 'ls' ('extract's) may come late; the others come one behind the other, behind them. -/
theorem wp_region_loose {P : Program} {id : Nat} {Q : Exit → Act → World → Prop} {a : Act} {w : World} {l : List Oper} (n : Nat) (ls : List Nat) (hm : P.follows .mixedOrders = true) (hB : lexLoose .any l.toArray n ls = true)
    (hQ : ∀ c a d v w, Q (.panic c) (Act.put a d v) w → Q (.panic c) a w)
    (h : wpQuiet P l.toArray (fun w' => ∃ d : Blw w, w' = d.val) (fun a' => ∀ w', (∃ d : Blw w, w' = d.val) → wpList P l.toArray Q (l.drop n) a' w') (l.take n) a) : (Code.region id l.toArray true).wp P Q a w := by
  simp only [lexLoose, Bool.and_eq_true, decide_eq_true_eq, Bool.not_eq_true'] at hB
  obtain ⟨hsel, hn, hs, hc, hlex, hlo, hnl⟩ := hB
  have hn' : n < l.length := by simpa using hn
  have htl : (l.take n).length = n := by simp; omega
  have hdl : (l.drop n).length = l.toArray.size - n := by simp
  have inv0 : HeadInv .any l.toArray n (Array.replicate l.toArray.size false) :=
    ⟨by simp, fun j oj _ hl => (by rw [getD_replicate_false] at hl; cases hl), fun t _ ht => getD_in (by simpa using ht) (getD_replicate_false _ _)⟩
  have hC0 : ∃ d : Blw w, ({ w with drawn := w.drawn + 1 } : World) = d.val := ⟨⟨{ w with drawn := w.drawn + 1 }, (Below.refl _ _).drew⟩, rfl⟩
  have hL : ∀ (listed : Array Bool) (a' : Act) (w' : World), (∃ d : Blw w, w' = d.val) → (Region.seqB .any l.toArray (l.toArray.size - n) n listed = true ∧ ∀ w', (∃ d : Blw w, w' = d.val) → wpList P l.toArray Q (l.drop n) a' w') → wpAny P .any l.toArray Q (l.toArray.size - n) listed a' w' := by
    intro listed a' w' hw' hL
    have := wpAny_of_seq (md := .any) (Q' := Q) (l.drop n) n listed a' w' (fun j => by simp [List.getElem?_drop]) (by rw [hdl]; exact hL.1) (hL.2 w' hw')
    rwa [hdl] at this
  have H := hdL_lex (md := .any) (g := l.toArray.size - n) (Q' := Q) hC0 hL hQ hsel hlo hs hc hnl hn (l.take n) 0 _ a (fun j hj => by
    have hj' : j < n := by rw [htl] at hj; exact hj
    simp [hj']) (by simpa using htl) inv0 (by rw [htl]; exact hlex) h
  refine wp_region_any hm ?_
  have := any_of_hdL hL _ _ _ _ hC0 H
  rw [htl, show n + (l.toArray.size - n) = l.toArray.size by omega] at this
  exact this
end Go.Proofs.Ytieomdjcnaaopaa
