/- The table of least prices: how it lies in memory, and the walk that fills it. -/
import Derived.Test.YthabjlhfidcnoaaPump4
import Derived.Deep.DeepCutAuto
namespace Go.Proofs.Ythabjlhfidcnoaa
open Go.RowKit
set_option linter.unusedVariables false

theorem info_rows : (Try.prog.info? 22).map (fun i => (i.zero, i.size, i.bytes)) = some (some (.slice none 0 0), 1, 24) := by kernel_rfl
def TbC (cur : Array Value) (w : World) (g U n m k : Nat) (row : Nat → List Int) : Prop :=
  w.heap[g]? = some (.cells cur 22 (0, 0)) ∧ cur.size = n + 1 ∧ ∀ j, k ≤ j → j ≤ n → ∃ A c, cur[j]? = some (.slice A m c) ∧ Own 1 ci 2 w (g + 1) U A m c (row j)
theorem TbC.below {cur : Array Value} {w w' : World} {g U n m k : Nat} {row : Nat → List Int} (h : TbC cur w g U n m k row) (b : Below w.heap.size w w') : TbC cur w' g U n m k row :=
  ⟨blk_below h.1 b (blk_lt h.1), h.2.1, fun j h1 h2 => by obtain ⟨A, c, e, o⟩ := h.2.2 j h1 h2; exact ⟨A, c, e, o.below b⟩⟩
theorem TbC.grown {cur : Array Value} {w w' : World} {g U n m k : Nat} {ro : Option Nat} {row : Nat → List Int} (h : TbC cur w g U n m k row) (hg : w.grownBy w' ro) (h1 : ∀ q, ro = some q → U ≤ q ∧ g < q) : TbC cur w' g U n m k row :=
  ⟨blk_only h.1 hg (fun e => by have := h1 _ e; omega), h.2.1, fun j a b => by
    obtain ⟨A, c, e, o⟩ := h.2.2 j a b
    exact ⟨A, c, e, o.only hg (fun q e => .inr (h1 q e).1)⟩⟩
theorem TbC.only {cur : Array Value} {w w' : World} {g U n m k gr : Nat} {row : Nat → List Int} (h : TbC cur w g U n m k row) (hg : w.grownBy w' (some gr)) (h1 : U ≤ gr) (h2 : g < gr) : TbC cur w' g U n m k row :=
  h.grown hg (fun q e => by obtain rfl := Option.some.inj e; exact ⟨h1, h2⟩)
theorem TbC.mono {cur : Array Value} {w : World} {g U U' n m k : Nat} {row : Nat → List Int} (h : TbC cur w g U n m k row) (hU : U ≤ U') : TbC cur w g U' n m k row :=
  ⟨h.1, h.2.1, fun j a b => by obtain ⟨A, c, e, o⟩ := h.2.2 j a b; exact ⟨A, c, e, o.mono (Nat.le_refl _) hU⟩⟩
theorem TbC.get {cur : Array Value} {w : World} {g U n m k : Nat} {row : Nat → List Int} (h : TbC cur w g U n m k row) {j : Nat} (h1 : k ≤ j) (h2 : j ≤ n) : ∃ A c, w.cell? ⟨g, j, none⟩ = some (.slice A m c) ∧ RdInt64 w A m (row j) := by
  obtain ⟨A, c, e, o⟩ := h.2.2 j h1 h2
  exact ⟨A, c, (blk_cell h.1 j).trans e, o.rd len_ci⟩
theorem TbC.set {cur : Array Value} {w : World} {g U n m k : Nat} {row : Nat → List Int} (h : TbC cur w g U n m k row) {j0 : Nat} (hj : j0 < k) (v : Value) : TbC (cur.setIfInBounds j0 v) (w.setCell ⟨g, j0, none⟩ v) g U n m k row :=
  ⟨blk_set h.1 _ _, by simp [h.2.1], fun j a b => by
    obtain ⟨A, c, e, o⟩ := h.2.2 j a b
    exact ⟨A, c, by rw [Array.getElem?_setIfInBounds_ne (by omega)]; exact e, o.only (only_set (only_refl w (some g)) j0 v) (fun q e => by obtain rfl := Option.some.inj e; omega)⟩⟩
theorem TbC.ext {cur : Array Value} {w : World} {g U n m k : Nat} {row : Nat → List Int} {A : Option Addr} {c : Nat} (h : TbC cur w g U n m (k + 1) row) (e : cur[k]? = some (.slice A m c)) (ho : Own 1 ci 2 w (g + 1) U A m c (row k)) : TbC cur w g U n m k row :=
  ⟨h.1, h.2.1, fun j a b => by
    by_cases hj : j = k
    · subst hj; exact ⟨A, c, e, ho⟩
    · exact h.2.2 j (by omega) b⟩
/-- The table, to be read. -/
def RdT (w : World) (g n m : Nat) (row : Nat → List Int) : Prop := g < w.heap.size ∧ ∀ j, j < n → ∃ A c, w.cell? ⟨g, j, none⟩ = some (.slice A m c) ∧ RdInt64 w A m (row j)
theorem RdT.below {w w' : World} {g n m : Nat} {row : Nat → List Int} (h : RdT w g n m row) (b : Below w.heap.size w w') : RdT w' g n m row :=
  ⟨Nat.lt_of_lt_of_le h.1 b.size, fun j hj => by obtain ⟨A, c, e, r⟩ := h.2 j hj; exact ⟨A, c, (b.cell (p := ⟨g, j, none⟩) h.1).trans e, r.below b⟩⟩
theorem TbC.rdT {cur : Array Value} {w : World} {g U n m : Nat} {row : Nat → List Int} (h : TbC cur w g U n m 0 row) : RdT w g (n + 1) m row :=
  ⟨blk_lt h.1, fun j hj => h.get (Nat.zero_le _) (by omega)⟩
theorem flat_ci (l : List Int) : l.flatMap ci = l.map (fun x => Value.int .i64 x) := by
  induction l with
  | nil => rfl
  | cons x l ih => simp [ci, ih]
theorem made_ci (n : Nat) : (madeCells #[Value.int .i64 0] n).toList = (List.replicate n (0 : Int)).flatMap ci := by
  rw [toList_madeCells_one, flat_ci, List.map_replicate]
theorem rowF_get {L H C x p : Int} {nxt : List Int} {j : Nat} (hj : j < H.toNat + 1) : (rowF L H C x p nxt)[j]? = some (bestTo (stepF L H x p nxt (j : Int)) (C.toNat + 1)) := by
  simp only [rowF, List.getElem?_map]
  rw [List.getElem?_range hj]
  rfl
theorem bestTo_bd2 {f : Nat → Int} {B : Int} (hB : 0 ≤ B) (m : Nat) (h : ∀ u, u < m → f u ≤ B) : bestTo f m ≤ B := by
  by_cases h1 : 0 ≤ bestTo f m
  · obtain ⟨u, hu, e⟩ := bestTo_has h1
    rw [← e]; exact h u hu
  · omega
theorem step_best {L H C x p w : Int} {xs ps : List Int} {j u : Nat} (c1 : C ≤ 40) (hp0 : 0 ≤ p) (hp1 : p ≤ 1000) (hps : ps.all prB = true) (hn : xs.length ≤ 48) (hu : (u : Int) ≤ C + 1) : bestTo (stepF L H x p (rowAt L H C xs ps j) w) u ≤ 2000000 := by
  refine bestTo_bd2 (by omega) u (fun v hv => ?_)
  have hm := mul_bd (x := (v : Int)) (y := p) (by omega) (by omega) hp0 hp1
  unfold stepF
  split
  · have : nx (rowAt L H C xs ps j) (w + x - ↑v) ≤ 1920000 := by
      unfold nx
      rw [List.getD_eq_getElem?_getD]
      cases hg : (rowAt L H C xs ps j)[(w + x - (v : Int)).toNat]? with
      | none => simp only [Option.getD_none]; omega
      | some y => exact (rowAt_bd c1 hps hn j hg).2
    omega
  · omega
theorem mul_bd' {u p : Int} {m : Int} (a : 0 ≤ u) (b : u ≤ m) (hm : m ≤ 40) (c : 0 ≤ p) (d : p ≤ 1000) : 0 ≤ u * p ∧ u * p ≤ 40000 := mul_bd a (by omega) c d

set_option maxRecDepth 100000 in
set_option maxHeartbeats 8000000 in
theorem leastFrom_calls (S L H C : Int) (aI : Option Addr) (nI cI : Nat) (xI : List Int) (aP : Option Addr) (nP cP : Nat) (xP : List Int) (b : Option Addr) (d : Nat) (ys : List Int) (w : World) (rI : RdInt64 w aI nI xI) (hI : nI ≤ 1048576) (rP : RdInt64 w aP nP xP) (hP : nP ≤ 1048576) (rY : RdInt64 w b nI ys) (hv : VP S L H C xI xP) (hpr : ys.all prB = true) :
    Calls Try.prog 69 #[.agg #[.int .i64 S, .int .i64 L, .int .i64 H, .int .i64 C, .slice aI nI cI, .slice aP nP cP], .slice b nI d] w fun e w' => ∃ g, e = .returned (.slice (some ⟨g, 0, none⟩) (nI + 1) (nI + 1)) ∧ RdT w' g (nI + 1) (H.toNat + 1) (rowAt L H C xI ys) ∧ Below w.heap.size w w' := by
  obtain ⟨h, rfl⟩ : ∃ h : Nat, H = h := ⟨H.toNat, by have := hv.l0; have := hv.ls; have := hv.sh; omega⟩
  have LI := hd rI.len
  have LY := hd rY.len
  have v0 := hv.l0
  have v1 := hv.ls
  have v2 := hv.sh
  have v3 := hv.h1
  have v4 := hv.c0
  have v5 := hv.c1
  have HU := hd hv.un
  have HPR := hd hpr
  have v6 := hv.n48
  rw [LI.out] at v6
  clear hv hpr
  rw [Int.toNat_natCast]
  obtain ⟨i0, hi, hz0, hz1, hz2⟩ := info_parts infoInt64
  obtain ⟨i1, hj, hy0, hy1, hy2⟩ := info_parts info_rows
  go_enter Try.func69, Try.ntmps69
  go_upto_region 2 with fail
  have hgb := heap_alloc_new w (pmC S L h C aI nI cI aP nP cP)
  have d0 : Below w.heap.size w (w.alloc (pmC S L h C aI nI cI aP nP cP)) := (Below.refl _ _).alloc (Nat.le_refl _) _
  have sz0 : w.heap.size < (w.alloc (pmC S L h C aI nI cI aP nP cP)).heap.size := by simp
  generalize w.alloc (pmC S L h C aI nI cI aP nP cP) = w0 at hgb d0 sz0 ⊢
  go_wp2_with (at_make; refine wpList_make_full _ rfl _ _ 62 rfl w0.heap.size 22 i1 _ 1 Try.underlying62 hj hy0 hy1 _ _ _ _ (nI + 1) rfl rfl (by omega) (by omega) (by rw [hy2]; omega) (by unfold maxLen; omega) (Nat.le_refl _) ?_)
  intro w1 hown hgrow
  obtain ⟨cur0, hB0, hg0, hs0, _, _, _⟩ := own_head hown
  have d1 : Below w.heap.size w w1 := d0.grown hgrow d0.size (by simp)
  have hgb := blk_only hgb hgrow (by simp)
  have hg1 := blk_lt hg0
  generalize w0.heap.size = g at sz0 hg0 hg1 ⊢
  clear hown hgrow hB0 d0
  have kb2 := blk_cell hgb 2
  go_wp2_with (at_make; refine wpList_make_full _ rfl _ _ 22 rfl w1.heap.size 2 i0 _ 1 Try.underlying22 hi hz0 hz1 _ _ _ _ (h + 1) rfl rfl (by omega) (by omega) (by rw [hz2]; omega) (by unfold maxLen; omega) (Nat.le_refl _) ?_)
  intro w2 hown hgrow
  rw [made_ci] at hown
  have d2 : Below w.heap.size w w2 := d1.grown hgrow d1.size (by simp)
  have hgb := blk_only hgb hgrow (by simp)
  have hg0 := blk_only hg0 hgrow (by simp)
  obtain ⟨cur1, hB1, hg2, hs1, _, _, _⟩ := own_head hown
  have hg2l := blk_lt hg2
  have ho : Own 1 ci 2 w2 w1.heap.size w2.heap.size (some ⟨w1.heap.size, 0, none⟩) (h + 1) (h + 1) (List.replicate (h + 1) 0) := ⟨by simp, hown, fun a ha => by obtain rfl := Option.some.inj ha; exact hg2l⟩
  clear hown hgrow hB1 hg2 kb2
  generalize w1.heap.size = g2 at hg1 ho hg2l ⊢
  obtain ⟨v, hvn⟩ := get_of_lt (cur := cur0) (i := nI) (by omega)
  have kv := (blk_cell hg0 nI).trans hvn
  have zv := blk_free hg0 nI
  have T : TbC cur0 w2 g (g2 + 1) nI (h + 1) (nI + 1) (rowAt L h C xI ys) := ⟨hg0, by omega, fun j a b => by omega⟩
  clear hg0 hvn
  have T2 := T.set (Nat.lt_succ_self nI) (.slice (some ⟨g2, 0, none⟩) (h + 1) (h + 1))
  have oN : Own 1 ci 2 (w2.setCell ⟨g, nI, none⟩ (.slice (some ⟨g2, 0, none⟩) (h + 1) (h + 1))) (g + 1) w2.heap.size (some ⟨g2, 0, none⟩) (h + 1) (h + 1) (rowAt L h C xI ys nI) := by
    rw [rowAt_end (by rw [LI.out]; exact Nat.le_refl _), Int.toNat_natCast]
    exact (ho.only (only_set (only_refl w2 (some g)) nI _) (fun q e => by obtain rfl := Option.some.inj e; omega)).mono (by omega) (Nat.le_refl _)
  have T3 : TbC (cur0.setIfInBounds nI (.slice (some ⟨g2, 0, none⟩) (h + 1) (h + 1))) (w2.setCell ⟨g, nI, none⟩ (.slice (some ⟨g2, 0, none⟩) (h + 1) (h + 1))) g w2.heap.size nI (h + 1) nI (rowAt L h C xI ys) :=
    (T2.mono (by omega)).ext (by rw [Array.getElem?_setIfInBounds_self_of_lt (by rw [T.2.1]; omega)]) oN
  have hgb := blk_far hgb (a := ⟨g, nI, none⟩) (by simp; omega) (.slice (some ⟨g2, 0, none⟩) (h + 1) (h + 1))
  have d3 := d2.setCell (show w.heap.size ≤ (⟨g, nI, none⟩ : Addr).block by simp; omega) (.slice (some ⟨g2, 0, none⟩) (h + 1) (h + 1))
  have T3 := hd T3
  clear T T2 oN ho
  go_wp2_with fail
  clear kv zv
  go_loopw [7] (fun i wr => ∃ k : Nat, k ≤ nI ∧ i = .int .i64 ((k : Int) - 1) ∧ ∃ cur, TbC cur wr g wr.heap.size nI (h + 1) k (rowAt L h C xI ys) ∧ wr.heap[w.heap.size]? = some (pmC S L h C aI nI cI aP nP cP) ∧ Below w.heap.size w wr) (fun i _ => (intOf i + 1).toNat)
  case atStart => exact ⟨nI, Nat.le_refl _, rfl, _, by simpa using T3.out, hgb, d3⟩
  case round =>
    clear hgb d3 T3
    obtain ⟨k, hk, rfl, cur, hT, hgb, hb⟩ := hrel
    have HT := hd hT
    have HGB := hd hgb
    have kb2 := blk_cell hgb 2
    clear hT hgb
    obtain ⟨W1, hW⟩ : ∃ W, W = wr := ⟨_, rfl⟩
    subst hW
    by_cases hk0 : k = 0
    · subst hk0
      go_wp2_with fail
      go_ret
      exact ⟨g, rfl, HT.out.rdT, hb⟩
    · obtain ⟨hr, rfl⟩ : ∃ hr, k = hr + 1 := ⟨k - 1, by omega⟩
      have hlt : hr < nI := by omega
      have e1 : (((hr + 1 : Nat) : Int) - 1) = (hr : Int) := by omega
      rw [e1]
      clear e1 hk0
      have hr0 : (0 : Int) ≤ (hr : Int) := by omega
      go_wp2_with (at_make; refine wpList_make_full _ rfl _ _ 22 rfl W1.heap.size 2 i0 _ 1 Try.underlying22 hi hz0 hz1 _ _ _ _ (h + 1) rfl rfl (by omega) (by omega) (by rw [hz2]; omega) (by unfold maxLen; omega) (Nat.le_refl _) ?_)
      intro w2 hown hgrow
      obtain ⟨cur1, hB1, hg2, hs1, _, _, _⟩ := own_head hown
      have hb2 : Below w.heap.size w w2 := hb.grown hgrow hb.size (by simp)
      have b12 : Below W1.heap.size W1 w2 := (Below.refl _ _).grown hgrow (Nat.le_refl _) (by simp)
      have hT := HT.out.below b12
      have hgb := blk_below HGB.out b12 (blk_lt HGB.out)
      have gW := blk_lt HT.out.1
      clear hown hgrow hB1 HT HGB kb2 b12
      have hg2l := blk_lt hg2
      generalize W1.heap.size = gr at hT hg2 hg2l gW ⊢
      obtain ⟨v, hvn⟩ := get_of_lt (cur := cur) (i := hr) (by rw [hT.2.1]; omega)
      have kv := (blk_cell hT.1 hr).trans hvn
      have zv := blk_free hT.1 hr
      clear hvn
      have hT2 := hT.set (Nat.lt_succ_self hr) (.slice (some ⟨gr, 0, none⟩) (h + 1) (h + 1))
      have hcs : (cur.setIfInBounds hr (.slice (some ⟨gr, 0, none⟩) (h + 1) (h + 1)))[hr]? = some (.slice (some ⟨gr, 0, none⟩) (h + 1) (h + 1)) := by rw [Array.getElem?_setIfInBounds_self_of_lt (by rw [hT.2.1]; omega)]
      have hgb := blk_far hgb (a := ⟨g, hr, none⟩) (by simp; omega) (.slice (some ⟨gr, 0, none⟩) (h + 1) (h + 1))
      have hg2 := blk_far hg2 (a := ⟨g, hr, none⟩) (by simp; omega) (.slice (some ⟨gr, 0, none⟩) (h + 1) (h + 1))
      have hb3 := hb2.setCell (show w.heap.size ≤ (⟨g, hr, none⟩ : Addr).block by simp; omega) (.slice (some ⟨gr, 0, none⟩) (h + 1) (h + 1))
      generalize cur.setIfInBounds hr (.slice (some ⟨gr, 0, none⟩) (h + 1) (h + 1)) = cur2 at hT2 hcs
      have HT := hd hT2
      have HCS := hd hcs
      have HG2 := hd hg2
      have HGB := hd hgb
      have HB := hd hb3
      have hsz : (w2.setCell ⟨g, hr, none⟩ (.slice (some ⟨gr, 0, none⟩) (h + 1) (h + 1))).heap.size = w2.heap.size := by simp
      clear hT hT2 hcs hg2 hgb hb2 hb3 hb
      obtain ⟨x0, hx0⟩ : ∃ x, xI[hr]? = some x := ⟨_, List.getElem?_eq_getElem (by rw [LI.out]; exact hlt)⟩
      obtain ⟨pr, hpr⟩ : ∃ x, ys[hr]? = some x := ⟨_, List.getElem?_eq_getElem (by rw [LY.out]; exact hlt)⟩
      obtain ⟨hx00, hx01⟩ := unB_iff.1 (all_at_ HU.out hx0)
      obtain ⟨hp0, hp1⟩ := prB_iff.1 (all_at_ HPR.out hpr)
      have HRow := hd (rowAt_next (L := L) (H := (h : Int)) (C := C) hx0 hpr)
      have HX := hd hx0
      have HY := hd hpr
      clear hx0 hpr
      go_upto_region 8 with fail
      clear kv zv
      generalize w2.setCell ⟨g, hr, none⟩ (.slice (some ⟨gr, 0, none⟩) (h + 1) (h + 1)) = w2' at HT HG2 HGB HB hsz ⊢
      have ko := (blk_cell HT.out.1 hr).trans HCS.out
      go_wp2_with fail
      clear ko
      go_loopw [44] (fun i wr => ∃ j : Nat, j ≤ h + 1 ∧ i = .int .i64 j ∧ TbC cur2 wr g gr nI (h + 1) (hr + 1) (rowAt L h C xI ys) ∧ (∃ cc, wr.heap[gr]? = some (.cells cc 2 (0, 0)) ∧ cc.size = h + 1 ∧ Has 1 ci cc j (rowAt L h C xI ys hr)) ∧ wr.heap[w.heap.size]? = some (pmC S L h C aI nI cI aP nP cP) ∧ gr < wr.heap.size ∧ Below w.heap.size w wr) (fun i _ => (h + 1) - (intOf i).toNat)
      case atStart => exact ⟨0, Nat.zero_le _, rfl, HT.out, ⟨cur1, HG2.out, by omega, Has.zero _ _⟩, HGB.out, by omega, HB.out⟩
      case round =>
        clear HT HG2 HGB HB hsz hg2l
        obtain ⟨j, hj, rfl, hT, ⟨cc, hgc, hsc, hh⟩, hgb, hgl, hb⟩ := hrel
        have TB := hd hT
        have HGC := hd hgc
        have HSC := hd hsc
        have HH := hd hh
        have HGB := hd hgb
        have HB := hd hb
        obtain ⟨w3, hW⟩ : ∃ W, W = wr := ⟨_, rfl⟩
        subst hW
        have RI := hd (rI.below hb)
        have RY := hd (rY.below hb)
        have kb0 := blk_cell hgb 0
        have kb1 := blk_cell hgb 1
        have kb2 := blk_cell hgb 2
        have kb3 := blk_cell hgb 3
        have kb4 := blk_cell hgb 4
        have kb5 := blk_cell hgb 5
        clear hT hgc hsc hh hgb hb
        by_cases hjl : j < h + 1
        · obtain ⟨f, hf⟩ : ∃ f, f = stepF L h x0 pr (rowAt L h C xI ys (hr + 1)) (j : Int) := ⟨_, rfl⟩
          have HF := hd hf
          have HBD : Hid (∀ u : Nat, (u : Int) ≤ C + 1 → bestTo f u ≤ 2000000) := hd (fun u hu => by
            rw [hf]
            exact step_best v5 hp0 hp1 HPR.out (by rw [LI.out]; exact v6) hu)
          clear hf
          go_wp2_with fail
          try rw [show (decide ((j : Int) < (h : Int) + 1)) = true from by simp; omega]
          try rw [show (decide ((j : Int) ≤ (h : Int))) = true from by simp; omega]
          go_loopw [9, 10] (fun t i wr => ∃ u : Nat, (u : Int) ≤ C + 1 ∧ i = .int .i64 u ∧ t = .int .i64 (bestTo f u) ∧ Below w3.heap.size w3 wr) (fun _ i _ => (C.toNat + 1) - (intOf i).toNat)
          case atStart => exact ⟨0, by omega, rfl, rfl, Below.refl _ _⟩
          case round =>
            clear kb0 kb1 kb2 kb3 kb4 kb5
            obtain ⟨u, hu, rfl, rfl, hb3⟩ := hrel
            have hgb := blk_below HGB.out hb3 (blk_lt HGB.out)
            have kb1 := blk_cell hgb 1
            have kb2 := blk_cell hgb 2
            have kb3 := blk_cell hgb 3
            have kb4 := blk_cell hgb 4
            have kb5 := blk_cell hgb 5
            clear hgb
            have T3 := hd (TB.out.below hb3)
            have hB0 := bestTo_low f u
            have hB1 := HBD.out u hu
            by_cases hlu : (u : Int) ≤ C
            · have hu0 : (0 : Int) ≤ (u : Int) := by omega
              obtain ⟨bX, oX, x, rfl, hblX, hx, hcX⟩ := getInt64 ((RI.out).below hb3) hlt
              have hx' := hx
              rw [HX.out] at hx'
              obtain rfl := Option.some.inj hx'
              clear hx hx'
              cases hin : inB ((j : Int) + x0 - u) L h
              · have Hn := hd (bestTo_skip (f := f) (m := u) (by rw [HF.out]; exact stepF_out hin))
                clear T3
                go_wp2_with (go_at_call 49; refine (in_calls _ _ _ _).mono ?_; rintro e w' ⟨rfl, rfl⟩)
                all_goals (
                  go_roundw
                  case rel => exact ⟨u + 1, by omega, by go_num, by rw [Hn.out], hb3⟩
                  case measure => simp [intOf]; omega)
              · obtain ⟨hi0, hi1⟩ := inB_iff.1 hin
                obtain ⟨q, hq⟩ : ∃ q : Nat, (j : Int) + x0 - u = (q : Int) := ⟨((j : Int) + x0 - u).toNat, by omega⟩
                have hin' : inB (q : Int) L h = true := hq ▸ hin
                obtain ⟨AT, cT, kT, rT⟩ := T3.out.get (j := hr + 1) (Nat.le_refl _) (by omega)
                clear T3
                obtain ⟨bN, oN, z, rfl, hblN, hz, hcN⟩ := getInt64 rT (show q < h + 1 by omega)
                clear rT
                obtain ⟨z0, z1⟩ := rowAt_bd v5 HPR.out (by rw [LI.out]; exact v6) (hr + 1) hz
                have hz' : (rowAt L h C xI ys (hr + 1))[((j : Int) + x0 - u).toNat]? = some z := by rw [hq, Int.toNat_natCast]; exact hz
                have HZ := hd hz'
                clear hz hz'
                have HQ := hd hq
                have q0 : (0 : Int) ≤ (q : Int) := by omega
                have q1 : (q : Int) < ((h + 1 : Nat) : Int) := by omega
                have hr2 : (0 : Int) ≤ (hr : Int) + 1 := by omega
                have hr3 : (hr : Int) + 1 < (nI : Int) + 1 := by omega
                by_cases hzn : z < 0
                · have hzn' : decide (z < 0) = true := by simp; omega
                  have Hn := hd (bestTo_skip (f := f) (m := u) (by rw [HF.out]; exact stepF_none HZ.out hzn))
                  go_wp2_with (go_at_call 49; refine (in_calls _ _ _ _).mono ?_; rintro e w' ⟨rfl, rfl⟩)
                  all_goals (
                    go_roundw
                    case rel => exact ⟨u + 1, by omega, by go_num, by rw [Hn.out], hb3⟩
                    case measure => simp [intOf]; omega)
                · have hC := stepF_some (p := pr) HZ.out (by omega) hin
                  have hmb := mul_bd (x := (u : Int)) (y := pr) hu0 (show (u : Int) ≤ 40 by omega) hp0 hp1
                  obtain ⟨hm0, hm1⟩ := hmb
                  obtain ⟨bY, oY, pr', rfl, hblY, hy, hcY⟩ := getInt64 ((RY.out).below hb3) hlt
                  have hy' := hy
                  rw [HY.out] at hy'
                  obtain rfl := Option.some.inj hy'
                  clear hy hy'
                  have hzn' : decide (z < 0) = false := by simp; omega
                  by_cases hlow : bestTo f u < 0
                  · have Hn := hd (bestTo_take (f := f) (m := u) (c := (u * pr + z)) (by rw [HF.out, hC]) (by omega) (.inl hlow))
                    go_wp2_with (go_at_call 49; refine (in_calls _ _ _ _).mono ?_; rintro e w' ⟨rfl, rfl⟩)
                    go_quiet (fail)
                    go_wp2_with fail
                    go_roundw
                    case rel => exact ⟨u + 1, by omega, by go_num, by rw [Hn.out], below_drewN hb3 _⟩
                    case measure => simp [intOf]; omega
                  · by_cases hlt2 : (u * pr + z) < bestTo f u
                    · have Hn := hd (bestTo_take (f := f) (m := u) (c := (u * pr + z)) (by rw [HF.out, hC]) (by omega) (.inr hlt2))
                      go_wp2_with (go_at_call 49; refine (in_calls _ _ _ _).mono ?_; rintro e w' ⟨rfl, rfl⟩)
                      go_quiet (fail)
                      go_wp2_with fail
                      go_roundw
                      case rel => exact ⟨u + 1, by omega, by go_num, by rw [Hn.out], below_drewN hb3 _⟩
                      case measure => simp [intOf]; omega
                    · have Hn := hd (bestTo_leave (f := f) (m := u) (c := (u * pr + z)) (by rw [HF.out, hC]) (by omega) (by omega))
                      go_wp2_with (go_at_call 49; refine (in_calls _ _ _ _).mono ?_; rintro e w' ⟨rfl, rfl⟩)
                      go_quiet (fail)
                      go_wp2_with fail
                      go_roundw
                      case rel => exact ⟨u + 1, by omega, by go_num, by rw [Hn.out], below_drewN hb3 _⟩
                      case measure => simp [intOf]; omega
            · obtain rfl : u = C.toNat + 1 := by omega
              have hval : (rowAt L h C xI ys hr)[j]? = some (bestTo f (C.toNat + 1)) := by
                rw [HRow.out, HF.out]
                exact rowF_get (by omega)
              have HV := hd hval
              clear hval T3 hB0 hB1
              obtain ⟨w4, hW⟩ : ∃ W, W = wr := ⟨_, rfl⟩
              subst hW
              have hT := TB.out.below hb3
              have hgc := blk_below HGC.out hb3 (blk_lt HGC.out)
              have ko := (blk_cell hT.1 hr).trans HCS.out
              obtain ⟨vv, hvv⟩ := get_of_lt (cur := cc) (i := j) (by rw [HSC.out]; exact hjl)
              have kc := (blk_cell hgc j).trans hvv
              have zc := blk_free hgc j
              have hgb := blk_far (blk_below HGB.out hb3 (blk_lt HGB.out)) (a := ⟨gr, j, none⟩) (by simp; omega) (.int .i64 (bestTo f (C.toNat + 1)))
              have hT2 := hT.only (only_set (only_refl w4 (some gr)) j (.int .i64 (bestTo f (C.toNat + 1)))) (Nat.le_refl _) (by omega)
              have hgc2 := blk_set hgc j (.int .i64 (bestTo f (C.toNat + 1)))
              have hb5 := (bnext HB.out hb3 (by have := HB.out.size; omega)).setCell (show w.heap.size ≤ (⟨gr, j, none⟩ : Addr).block by simp; omega) (.int .i64 (bestTo f (C.toNat + 1)))
              have hs4 := hb3.size
              have HT2 := hd hT2
              have HGC2 := hd hgc2
              have HGB5 := hd hgb
              have HB5 := hd hb5
              clear hT hgc hvv hgb hT2 hgc2 hb5 hb3
              go_wp2_with fail
              go_roundw
              case rel => exact ⟨j + 1, by omega, by go_num, HT2.out, ⟨_, HGC2.out, by simp [HSC.out], hasnInt64 HH.out HV.out (by rw [HSC.out, Nat.mul_one]) hjl⟩, HGB5.out, by simp; omega, HB5.out⟩
              case measure => simp [intOf]; omega
        · obtain rfl : j = h + 1 := by omega
          have oR : Own 1 ci 2 w3 (g + 1) w3.heap.size (some ⟨gr, 0, none⟩) (h + 1) (h + 1) (rowAt L h C xI ys hr) :=
            ⟨by rw [rowAt_len, Int.toNat_natCast], own_of_has len_ci (by omega) HGC.out (by rw [HSC.out, Nat.mul_one]) (Nat.le_refl _) (by unfold maxLen; omega) (by rw [rowAt_len, Int.toNat_natCast]) HH.out, fun a ha => by obtain rfl := Option.some.inj ha; exact hgl⟩
          have HT := hd ((TB.out.mono (U' := w3.heap.size) (by omega)).ext HCS.out oR)
          clear oR
          go_wp2_with fail
          go_roundw
          case rel => exact ⟨hr, by omega, by go_num, cur2, HT.out, HGB.out, HB.out⟩
          case measure => simp [intOf] <;> omega
end Go.Proofs.Ythabjlhfidcnoaa
