/- RunSluice. -/
import Derived.Test.YtppkljhnmifilaaStep
import Derived.Test.YtppkljhnmifilaaSides
import Derived.Test.YtppkljhnmifilaaApp
import Derived.Deep.RegionHeld3
namespace Go.Proofs.Ytppkljhnmifilaa
open Go.RowKit
set_option linter.unusedVariables false

def goR (wd sill : Int) : List (Int × Int × Int) → G3 → List G3 → List G3 × Int
  | [], _, acc => (acc, 0)
  | (r, i, o) :: t, g, acc => if (stepG wd sill g r i o).2 = 0 then goR wd sill t (stepG wd sill g r i o).1 (acc ++ [(stepG wd sill g r i o).1]) else ([], (stepG wd sill g r i o).2)
def zip3 (os xs ys : List Int) : List (Int × Int × Int) := os.zip (xs.zip ys)
def runSl (wd sill : Int) (os xs ys : List Int) : List G3 × Int :=
  if slB wd sill then (if sidesB xs ys && (decide (os.length = xs.length) && os.all orB) then goR wd sill (zip3 os xs ys) (false, 0, 0) [] else ([], 2)) else ([], 1)
theorem zip3_drop {os xs ys : List Int} {k : Nat} {r i o : Int} (h1 : os[k]? = some r) (h2 : xs[k]? = some i) (h3 : ys[k]? = some o) : (zip3 os xs ys).drop k = (r, i, o) :: (zip3 os xs ys).drop (k + 1) := by
  have : (zip3 os xs ys)[k]? = some (r, i, o) := by simp [zip3, List.getElem?_zip_eq_some, h1, h2, h3]
  obtain ⟨hk, e⟩ := List.getElem?_eq_some_iff.1 this
  rw [List.drop_eq_getElem_cons hk, e]
theorem zip3_done {os xs ys : List Int} {n : Nat} (h1 : os.length = n) (h2 : xs.length = n) (h3 : ys.length = n) : (zip3 os xs ys).drop n = [] := by
  apply List.drop_eq_nil_of_le
  simp [zip3, h1, h2, h3]
theorem stepG_ok {wd sill : Int} {g : G3} {r i o : Int} {q : G3} {z : Int} (h : stepG wd sill g r i o = (q, z)) (h0 : z = 0) : gaB q.2.1 q.2.2 = true := by
  unfold stepG at h
  split at h
  · cases h; cases h0
  · split at h
    · rename_i h2; cases h; exact h2
    · cases h; cases h0
theorem all_at {α : Type} {xs : List α} {p : α → Bool} (h : xs.all p = true) {k : Nat} {x : α} (hx : xs[k]? = some x) : p x = true := List.all_eq_true.1 h x (List.mem_of_getElem? hx)
theorem one_cGate : ∀ y, ∀ u ∈ cGate y, u.oneCell' = true := by intro y u hu; simp [cGate] at hu; rcases hu with rfl | rfl | rfl <;> rfl
theorem ret_sl {A : Option Addr} {n c : Nat} {x y : Int} (h : x = y) : Ending.returned (.tuple #[.slice A n c, .int .i64 x]) = .returned (.tuple #[.slice A n c, .int .i64 y]) := by rw [h]
set_option maxHeartbeats 4000000 in
theorem RunSluice_calls (wd sill : Int) (ao ax ay : Option Addr) (no nx ny co cx cy : Nat) (os xs ys : List Int) (w : World) (hro : RdInt64 w ao no os) (hrx : RdInt64 w ax nx xs) (hry : RdInt64 w ay ny ys) (hno : no ≤ 1048576) (hnx : nx ≤ 1048576) (hny : ny ≤ 1048576) :
    Calls Try.prog 34 #[.agg #[.int .i64 wd, .int .i64 sill], .slice ao no co, .slice ax nx cx, .slice ay ny cy] w fun e w' => ∃ A m c, e = .returned (.tuple #[.slice A m c, .int .i64 (runSl wd sill os xs ys).2]) ∧ Own 3 cGate 44 w' w.heap.size w'.heap.size A m c (runSl wd sill os xs ys).1 ∧ m ≤ 1048576 ∧ Below w.heap.size w w' := by
  have Lo := hd hro.len
  have Lx := hd hrx.len
  have Ly := hd hry.len
  have he1 := ent Try.func62 (by kernel_rfl) rfl
  obtain ⟨i0, hi, hz0, hz1, hz2⟩ := info_parts infoGate
  go_enter Try.func34, Try.ntmps34
  go_wp2_with fail
  refine (ValidSluice_calls _ _ _).mono ?_
  rintro e w1 ⟨rfl, b1⟩
  have g4 := box_q b1
  have d1 := bbox1 b1
  clear b1
  cases hs : slB wd sill
  · have K : Hid (runSl wd sill os xs ys = ([], 1)) := hd (by simp [runSl, hs])
    clear hs g4
    go_wp2_with fail
    go_ret2
    exact ⟨_, 0, 0, ret_sl (by rw [K.out]), by rw [K.out]; exact Own.empty w1 _ rfl d1.size (by simp), by omega, d1.alloc d1.size _⟩
  · have Hs := hd hs
    have G4 := hd g4
    clear hs g4
    go_wp2_with fail
    refine (areSides_calls _ _ _ _ _ _ xs ys _ (hrx.below d1) (hry.below d1) hnx hny).mono ?_
    rintro e w2 ⟨rfl, b2⟩
    have g4 := blk_below G4.out b2 (blk_lt G4.out)
    have d2 := bnext d1 b2 (Nat.le_refl _)
    clear G4 b2
    have G4 := hd g4
    clear g4
    cases hv : sidesB xs ys
    · have K : Hid (runSl wd sill os xs ys = ([], 2)) := hd (by simp [runSl, Hs.out, hv])
      clear hv
      go_wp2_with fail
      go_ret2
      exact ⟨_, 0, 0, ret_sl (by rw [K.out]), by rw [K.out]; exact Own.empty w2 _ rfl d2.size (by simp), by omega, d2.alloc d2.size _⟩
    · have hv' := hv
      simp only [sidesB, Bool.and_eq_true, decide_eq_true_eq] at hv'
      obtain ⟨⟨hv1, hv2⟩, hv3, hv4⟩ := hv'
      rw [Lx.out] at hv1 hv2
      rw [Ly.out] at hv2
      subst hv2
      have Hv := hd hv
      have Hv3 := hd hv3
      have Hv4 := hd hv4
      clear hv hv3 hv4
      by_cases hne : no = nx
      · subst hne
        go_wp2_with fail
        refine (allInt64_calls 62 #[] orB _ _ _ _ _ (hro.below d2) (by omega) he1 (fun z W _ => by rw [Array.append_empty]; exact (isOrder_calls z W).mono fun e w' ⟨h1, h2⟩ => ⟨h1, h2 ▸ Below.refl _ _⟩)).mono ?_
        rintro e w3 ⟨rfl, b3⟩
        have g4 := blk_below G4.out b3 (blk_lt G4.out)
        have d3 := bnext d2 b3 (Nat.le_refl _)
        clear G4 b3
        have G4 := hd g4
        clear g4
        cases ho : os.all orB
        · have K : Hid (runSl wd sill os xs ys = ([], 2)) := hd (by simp [runSl, Hs.out, ho])
          clear ho
          go_wp2_with fail
          go_ret2
          exact ⟨_, 0, 0, ret_sl (by rw [K.out]), by rw [K.out]; exact Own.empty w3 _ rfl d3.size (by simp), by omega, d3.alloc d3.size _⟩
        · have K : Hid (runSl wd sill os xs ys = goR wd sill (zip3 os xs ys) (false, 0, 0) []) := hd (by simp [runSl, Hs.out, Hv.out, ho, Lo.out, Lx.out])
          have Ho := hd ho
          clear ho
          have l3 := d3.size
          have l4 := blk_lt G4.out
          go_wp2_with fail
          go_loopw [10, 43] (fun v i wr => ∃ k : Nat, ∃ acc : List G3, ∃ op : Bool, ∃ p m : Int, k ≤ no ∧ i = .int .i64 k ∧ ∃ A c, v = .slice A k c ∧ Own 3 cGate 44 wr w.heap.size wr.heap.size A k c acc ∧ Off A w.heap.size ∧ Off A (w3.heap.size + 1) ∧ goR wd sill ((zip3 os xs ys).drop k) (op, p, m) acc = runSl wd sill os xs ys ∧ gaB p m = true ∧ wr.heap[w.heap.size]? = some (Obj.cells #[Value.int IntKind.i64 wd, Value.int IntKind.i64 sill] 47 (0, 0)) ∧ wr.heap[w3.heap.size + 1]? = some (Obj.cells #[Value.bool op, Value.int IntKind.i64 p, Value.int IntKind.i64 m] 44 (0, 0)) ∧ Below w.heap.size w wr) (fun _ i _ => no - (intOf i).toNat)
          case atStart =>
            refine ⟨0, [], false, 0, 0, Nat.zero_le _, rfl, _, 0, rfl, ((Own.empty w3 _ rfl l3 (Nat.lt_succ_self _)).alloc _).mono (Nat.le_refl _) (by simp), ?_, ?_, by rw [K.out]; rfl, by decide, blk_alloc (blk_alloc G4.out _) _, ?_, (d3.alloc l3 _).alloc (by simp; omega) _⟩
            · intro a ha; obtain rfl := Option.some.inj ha; simp; omega
            · intro a ha; obtain rfl := Option.some.inj ha; simp
            · have := heap_alloc_new (w3.alloc (.cells #[] 44)) (.cells #[.bool false, .int .i64 0, .int .i64 0] 44); simp only [World.size_alloc] at this; exact this
          case round =>
            obtain ⟨k, acc, op, p, m, hk, rfl, A, c, rfl, hown, hf1, hf2, hgo, hga, hb4, hb11, hb⟩ := hrel
            have Hown := hd hown
            have Hf1 := hd hf1
            have Hf2 := hd hf2
            have Hgo := hd hgo
            have Hga := hd hga
            have Hb4 := hd hb4
            have Hb11 := hd hb11
            clear hown hf1 hf2 hgo hga hb4 hb11
            by_cases hlt : k < no
            · obtain ⟨bo, oo, f0, rfl, hbl0, hx0, c0⟩ := getInt64 (hro.below hb) hlt
              obtain ⟨bx, ox, f1, rfl, hbl1, hx1, c1⟩ := getInt64 (hrx.below hb) hlt
              obtain ⟨bz, oz, f2, rfl, hbl2, hx2, c2⟩ := getInt64 (hry.below hb) hlt
              have HO := hd (all_at Ho.out hx0)
              have HI := hd (all_at Hv3.out hx1)
              have HK := hd (all_at Hv4.out hx2)
              have hdrop := zip3_drop hx0 hx1 hx2
              obtain ⟨q, hq⟩ : ∃ q, stepG wd sill (op, p, m) f0 f1 f2 = q := ⟨_, rfl⟩
              obtain ⟨⟨qa, qb, qc⟩, qd⟩ := q
              have Hq := hd hq
              have Hnext : Hid ((if qd = 0 then goR wd sill ((zip3 os xs ys).drop (k + 1)) (qa, qb, qc) (acc ++ [(qa, qb, qc)]) else ([], qd)) = runSl wd sill os xs ys) := hd (by rw [← Hgo.out, hdrop]; simp only [goR, hq])
              clear hx0 hx1 hx2 hdrop hq
              have k0 : wr.cell? ⟨w.heap.size, 0, none⟩ = some (.int .i64 wd) := blk_cell Hb4.out 0
              have k1 : wr.cell? ⟨w.heap.size, 1, none⟩ = some (.int .i64 sill) := blk_cell Hb4.out 1
              have k2 : wr.cell? ⟨w3.heap.size + 1, 0, none⟩ = some (.bool op) := blk_cell Hb11.out 0
              have k3 : wr.cell? ⟨w3.heap.size + 1, 1, none⟩ = some (.int .i64 p) := blk_cell Hb11.out 1
              have k4 : wr.cell? ⟨w3.heap.size + 1, 2, none⟩ = some (.int .i64 m) := blk_cell Hb11.out 2
              have l5 := blk_lt Hb4.out
              have l6 := blk_lt Hb11.out
              have i1 : (0 : Int) ≤ (k : Int) := by omega
              have i2 : (k : Int) < (no : Int) := by omega
              go_upto_region 10 with fail
              go_cut [14, 15] from 48 to 62 (fun s14 s15 wx => ∃ gg : Nat, s14 = .pointer (some ⟨gg, 0, none⟩) ∧ s15 = .int .i64 qd ∧ wx.heap[gg]? = some (Obj.cells #[Value.bool qa, Value.int IntKind.i64 qb, Value.int IntKind.i64 qc] 44 (0, 0)) ∧ Below wr.heap.size wr wx ∧ wr.heap.size ≤ gg)
              case first =>
                have n0 := World.new_ne wr _ k0
                have n1 := World.new_ne wr _ k1
                have n2 := World.new_ne wr _ k2
                have n3 := World.new_ne wr _ k3
                have n4 := World.new_ne wr _ k4
                have n5 := World.new_ne wr _ c0
                have n6 := World.new_ne wr _ c1
                have n7 := World.new_ne wr _ c2
                go_region_held3 (fun w' => w'.cell? ⟨w.heap.size, 0, none⟩ = some (.int .i64 wd) ∧ w'.cell? ⟨w.heap.size, 1, none⟩ = some (.int .i64 sill) ∧ w'.cell? ⟨w3.heap.size + 1, 0, none⟩ = some (.bool op) ∧ w'.cell? ⟨w3.heap.size + 1, 1, none⟩ = some (.int .i64 p) ∧ w'.cell? ⟨w3.heap.size + 1, 2, none⟩ = some (.int .i64 m) ∧ w'.cell? ⟨bo, oo + k, none⟩ = some (.int .i64 f0) ∧ w'.cell? ⟨bx, ox + k, none⟩ = some (.int .i64 f1) ∧ w'.cell? ⟨bz, oz + k, none⟩ = some (.int .i64 f2)) (first | exact ⟨r0, r1, r2, r3, r4, r5, r6, r7⟩ | go_keep)
                  (first | (go_at_call 63; refine (step_calls _ _ _ _ _ _ _ _ _ Hs.out Hga.out HO.out HI.out HK.out).mono ?_; rintro e w9 ⟨he, b9⟩; rw [Hq.out] at he; simp only [aggG] at he; subst he; have b9w : Below wr.heap.size wr w9 := (by first | exact b9 | exact (bdrewN (Below.refl _ _) _).trans b9 | exact (bdrew _).trans b9 | exact bbox1 b9 | exact (bdrew _).trans (bbox1 b9) | exact bbox1 ((bdrew _).trans b9)); have r0 := (b9w.cell (p := ⟨w.heap.size, 0, none⟩) l5).trans k0; have r1 := (b9w.cell (p := ⟨w.heap.size, 1, none⟩) l5).trans k1; have r2 := (b9w.cell (p := ⟨w3.heap.size + 1, 0, none⟩) l6).trans k2; have r3 := (b9w.cell (p := ⟨w3.heap.size + 1, 1, none⟩) l6).trans k3; have r4 := (b9w.cell (p := ⟨w3.heap.size + 1, 2, none⟩) l6).trans k4; have r5 := (b9w.cell (p := ⟨bo, oo + k, none⟩) hbl0).trans c0; have r6 := (b9w.cell (p := ⟨bx, ox + k, none⟩) hbl1).trans c1; have r7 := (b9w.cell (p := ⟨bz, oz + k, none⟩) hbl2).trans c2; (first | (have hq9 : w9.heap[wr.heap.size]? = some (Obj.cells #[Value.bool false, Value.int IntKind.i64 0, Value.int IntKind.i64 0] 44 (0, 0)) := (b9.block wr.heap.size (by simp)).trans (heap_alloc_new wr _); have t0 := blk_cell hq9 0; have t1 := blk_cell hq9 1; have t2 := blk_cell hq9 2; have u0 := blk_free hq9 0; have u1 := blk_free hq9 1; have u2 := blk_free hq9 2) | skip)))
                all_goals
                  go_wp2_with fail
                  go_meet
                  first
                    | exact ⟨_, rfl, rfl, heap_alloc_new _ _, b9w.alloc b9w.size _, b9w.size⟩
                    | exact ⟨_, rfl, rfl, blk_set3 hq9 _ _ _, below_set3 b9w (Nat.le_refl _) _ _ _, Nat.le_refl _⟩
              case rest =>
                obtain ⟨gg, rfl, rfl, hgg, bb, hgl⟩ := hcut
                clear k0 k1 k2 k3 k4 c0 c1 c2 i1 i2
                have hb4 := blk_below Hb4.out bb l5
                have hb11 := blk_below Hb11.out bb l6
                have hb' := bnext hb bb (Nat.le_refl _)
                have own1 := (Hown.out.below bb).mono (Nat.le_refl _) bb.size
                have l7 := blk_lt hb11
                have e0 := blk_cell hgg 0
                have e1 := blk_cell hgg 1
                have e2 := blk_cell hgg 2
                have y0 := blk_cell hb11 0
                have y1 := blk_cell hb11 1
                have y2 := blk_cell hb11 2
                have z0 := blk_free hb11 0
                have z1 := blk_free hb11 1
                have z2 := blk_free hb11 2
                have HB4 := hd hb4
                have HB11 := hd hb11
                have HO1 := hd own1
                clear hb4 hb11 hgg own1 Hb4 Hb11 Hown bb
                by_cases h0 : qd = 0
                · subst h0
                  go_upto_region 14 with fail
                  have hN : Hid (goR wd sill ((zip3 os xs ys).drop (k + 1)) (qa, qb, qc) (acc ++ [(qa, qb, qc)]) = runSl wd sill os xs ys) := hd (by have := Hnext.out; first | rwa [if_pos rfl] at this | rwa [if_pos trivial] at this)
                  have hG : Hid (gaB qb qc = true) := hd (stepG_ok Hq.out rfl)
                  have own2 := HO1.out.far (only_set (only_set (only_set (only_refl wc (some (w3.heap.size + 1))) 0 (.bool qa)) 1 (.int .i64 qb)) 2 (.int .i64 qc)) Hf2.out
                  have q11 := blk_set3 HB11.out (.bool qa) (.int .i64 qb) (.int .i64 qc)
                  have q4 := blk_far3 HB4.out (g' := w3.heap.size + 1) (by omega) (.bool qa) (.int .i64 qb) (.int .i64 qc)
                  have dd := below_set3 hb' (g := w3.heap.size + 1) (by omega) (.bool qa) (.int .i64 qb) (.int .i64 qc)
                  have es : (((wc.setCell ⟨w3.heap.size + 1, 0, none⟩ (.bool qa)).setCell ⟨w3.heap.size + 1, 1, none⟩ (.int .i64 qb)).setCell ⟨w3.heap.size + 1, 2, none⟩ (.int .i64 qc)).heap.size = wc.heap.size := by simp
                  rw [← es] at own2
                  clear y0 y1 y2 z0 z1 z2 e0 e1 e2 es HO1 HB4 HB11 hb'
                  generalize (((wc.setCell ⟨w3.heap.size + 1, 0, none⟩ (.bool qa)).setCell ⟨w3.heap.size + 1, 1, none⟩ (.int .i64 qb)).setCell ⟨w3.heap.size + 1, 2, none⟩ (.int .i64 qc)) = W1 at own2 q11 q4 dd ⊢
                  have y0 := blk_cell q11 0
                  have y1 := blk_cell q11 1
                  have y2 := blk_cell q11 2
                  have l8 := blk_lt q11
                  have l9 := blk_lt q4
                  have Q11 := hd q11
                  have Q4 := hd q4
                  have O2 := hd own2
                  clear q11 q4 own2
                  go_wp2_with (at_builtin; refine wpList_app_at _ rfl _ _ 53 rfl 44 i0 _ 3 24 Try.underlying53 hi hz0 hz1 hz2 rfl (by decide) len_cGate one_cGate w.heap.size W1.heap.size A k c acc rfl (O2.out.alloc _) W1.heap.size (qa, qb, qc) rfl (app_new _ _ _) (by omega) (by unfold maxLen; omega) (by have := dd.size; simp; omega) ?_)
                  intro A' c'' w5 ho2 hg2 hoff
                  have r4 := blk_grown (blk_alloc Q4.out _) hg2 Hf1.out
                  have r11 := blk_grown (blk_alloc Q11.out _) hg2 Hf2.out
                  have hd2 := below_app (dd.alloc dd.size _) (O2.out.alloc _) hg2 (Nat.le_refl _) (Nat.le_refl _)
                  have f1' := hoff _ Hf1.out (by omega)
                  have f2' := hoff _ Hf2.out (by omega)
                  have Ho2 := hd ho2
                  have R4 := hd r4
                  have R11 := hd r11
                  have F1 := hd f1'
                  have F2 := hd f2'
                  clear ho2 hg2 hoff r4 r11 f1' f2' y0 y1 y2
                  go_wp2_with fail
                  go_roundw
                  case rel => exact ⟨k + 1, acc ++ [(qa, qb, qc)], qa, qb, qc, by omega, by go_num, A', c'', rfl, Ho2.out, F1.out, F2.out, hN.out, hG.out, R4.out, R11.out, hd2⟩
                  case measure => simp [intOf]; omega
                · have h0' : (qd != 0) = true := by simpa using h0
                  have K2 : Hid (runSl wd sill os xs ys = ([], qd)) := hd (by rw [← Hnext.out, if_neg h0])
                  clear z0 z1 z2 y0 y1 y2 e0 e1 e2
                  go_wp2_with fail
                  go_ret2
                  exact ⟨_, 0, 0, ret_sl (by rw [K2.out]), by rw [K2.out]; exact Own.empty wc _ rfl hb'.size (by simp), by omega, hb'.alloc hb'.size _⟩
            · obtain rfl : k = no := by omega
              go_wp2_with fail
              go_ret2
              have e1 : ((acc, 0) : List G3 × Int) = runSl wd sill os xs ys := by rw [← Hgo.out, zip3_done Lo.out Lx.out Ly.out]; rfl
              exact ⟨A, k, c, ret_sl (by rw [← e1]), by rw [← e1]; exact Hown.out, hno, hb⟩
      · have K : Hid (runSl wd sill os xs ys = ([], 2)) := hd (by simp [runSl, Hs.out, Lo.out, Lx.out, hne])
        have hne' : ((no : Int) != nx) = true := by simp; omega
        go_wp2_with fail
        go_ret2
        exact ⟨_, 0, 0, ret_sl (by rw [K.out]), by rw [K.out]; exact Own.empty w2 _ rfl d2.size (by simp), by omega, d2.alloc d2.size _⟩
theorem series_bd (wd sill : Int) (xs ys : List Int) : 0 ≤ seriesC wd sill xs ys ∧ seriesC wd sill xs ys ≤ 2 := by
  unfold seriesC sidesC
  split <;> (try split) <;> omega
theorem series_bad {wd sill : Int} {os xs ys : List Int} {z : Int} (h : seriesC wd sill xs ys = z) (h0 : z ≠ 0) : runSl wd sill os xs ys = ([], z) := by
  subst h
  unfold seriesC sidesC at h0 ⊢
  unfold runSl
  cases h1 : slB wd sill <;> cases hs : sidesB xs ys <;> simp_all
theorem series_ok {wd sill : Int} {xs ys : List Int} (h : seriesC wd sill xs ys = 0) : slB wd sill = true ∧ sidesB xs ys = true := by
  unfold seriesC sidesC at h
  split at h
  · rename_i h1
    split at h
    · rename_i h2; exact ⟨h1, h2⟩
    · cases h
  · cases h
set_option maxHeartbeats 8000000 in
theorem specRunSluice_calls (wd sill : Int) (ao ax ay : Option Addr) (no nx ny co cx cy : Nat) (os xs ys : List Int) (w : World) (hro : RdInt64 w ao no os) (hrx : RdInt64 w ax nx xs) (hry : RdInt64 w ay ny ys) (hno : no ≤ 1048576) (hnx : nx ≤ 1048576) (hny : ny ≤ 1048576) :
    Calls Try.prog 32 #[.agg #[.int .i64 wd, .int .i64 sill], .slice ao no co, .slice ax nx cx, .slice ay ny cy] w fun e w' => ∃ A m c, e = .returned (.tuple #[.slice A m c, .int .i64 (runSl wd sill os xs ys).2]) ∧ Own 3 cGate 44 w' w.heap.size w'.heap.size A m c (runSl wd sill os xs ys).1 ∧ m ≤ 1048576 ∧ Below w.heap.size w w' := by
  have Lo := hd hro.len
  have Lx := hd hrx.len
  have Ly := hd hry.len
  obtain ⟨i0, hi, hz0, hz1, hz2⟩ := info_parts infoGate
  have hzb := series_bd wd sill xs ys
  obtain ⟨z, hz⟩ : ∃ z, seriesC wd sill xs ys = z := ⟨_, rfl⟩
  rw [hz] at hzb
  obtain ⟨hzb1, hzb2⟩ := hzb
  have Hz := hd hz
  clear hz
  go_enter Try.func32, Try.ntmps32
  go_wp2_with fail
  refine (l09Series_calls _ _ _ _ _ _ _ _ xs ys _ (hrx.alloc _) (hry.alloc _) hnx hny).mono ?_
  rintro e w3 ⟨he, b3⟩
  rw [Hz.out] at he
  subst he
  have g4 := box_q b3
  have d3 := bbox1 b3
  clear b3
  have G4 := hd g4
  clear g4
  by_cases h0 : z = 0
  · subst h0
    obtain ⟨hs, hv⟩ := series_ok Hz.out
    have hv' := hv
    simp only [sidesB, Bool.and_eq_true, decide_eq_true_eq] at hv'
    obtain ⟨⟨hv1, hv2⟩, hv3, hv4⟩ := hv'
    rw [Lx.out] at hv1 hv2
    rw [Ly.out] at hv2
    subst hv2
    have Hs := hd hs
    have Hv := hd hv
    have Hv3 := hd hv3
    have Hv4 := hd hv4
    clear hs hv hv3 hv4
    by_cases hne : no = nx
    · subst hne
      go_wp2_with fail
      go_loopw [10, 11] (fun v i w3 => ∃ k : Nat, ∃ z : Int, k ≤ no ∧ i = .int .i64 k ∧ v = .int .i64 z ∧ ((z = 0 ∧ (os.take k).all orB = true) ∨ (z = 2 ∧ os.all orB = false)) ∧ w3.heap[w.heap.size]? = some (Obj.cells #[Value.int IntKind.i64 wd, Value.int IntKind.i64 sill] 47 (0, 0)) ∧ Below w.heap.size w w3) (fun _ i _ => no - (intOf i).toNat)
      case atStart => exact ⟨0, 0, Nat.zero_le _, rfl, rfl, .inl ⟨rfl, rfl⟩, G4.out, d3⟩
      case round =>
        clear d3 G4
        obtain ⟨w3, hw3⟩ : ∃ W, W = wr := ⟨_, rfl⟩
        subst hw3
        obtain ⟨k, z, hk, rfl, rfl, hor, hg4, d3⟩ := hrel
        have G4 := hd hg4
        clear hg4
        rcases hor with ⟨hz', hall⟩ | ⟨hz', hall⟩
        · subst hz'
          have Hall := hd hall
          clear hall
          by_cases hlt : k < no
          · obtain ⟨bo, oo, f0, rfl, hbl0, hx0, c0⟩ := getInt64 (hro.below d3) hlt
            have Hx0 := hd hx0
            clear hx0
            cases hof : orB f0
            · have Hof := hd hof
              unfold orB at hof
              go_wp2_with (go_at_call 58; refine (l00In_calls _ _ _ _).mono ?_; rintro e w' ⟨rfl, rfl⟩)
              go_roundw
              case rel => exact ⟨k + 1, 2, by omega, by go_num, rfl, .inr ⟨rfl, all_stop' Hx0.out Hof.out⟩, G4.out, d3⟩
              case measure => simp [intOf]; omega
            · have Hof := hd hof
              unfold orB at hof
              go_wp2_with (go_at_call 58; refine (l00In_calls _ _ _ _).mono ?_; rintro e w' ⟨rfl, rfl⟩)
              go_roundw
              case rel => exact ⟨k + 1, 0, by omega, by go_num, rfl, .inl ⟨rfl, all_take_next Hx0.out Hof.out Hall.out⟩, G4.out, d3⟩
              case measure => simp [intOf]; omega
          · obtain rfl : k = no := by omega
            have ho := all_take_done (by rw [Lo.out]; exact Nat.le_refl _) Hall.out
            have K : Hid (runSl wd sill os xs ys = goR wd sill (zip3 os xs ys) (false, 0, 0) []) := hd (by simp [runSl, Hs.out, Hv.out, ho, Lo.out, Lx.out])
            have Ho := hd ho
            clear ho
            obtain ⟨no, rfl⟩ : ∃ n, n = k := ⟨_, rfl⟩
            have l3 := d3.size
            have l4 := blk_lt G4.out
            go_wp2_with fail
            go_loopw [12, 14] (fun v i wr => ∃ k : Nat, ∃ acc : List G3, ∃ op : Bool, ∃ p m : Int, k ≤ no ∧ i = .int .i64 k ∧ ∃ A c, v = .slice A k c ∧ Own 3 cGate 44 wr w.heap.size wr.heap.size A k c acc ∧ Off A w.heap.size ∧ Off A (w3.heap.size + 1) ∧ goR wd sill ((zip3 os xs ys).drop k) (op, p, m) acc = runSl wd sill os xs ys ∧ gaB p m = true ∧ wr.heap[w.heap.size]? = some (Obj.cells #[Value.int IntKind.i64 wd, Value.int IntKind.i64 sill] 47 (0, 0)) ∧ wr.heap[w3.heap.size + 1]? = some (Obj.cells #[Value.bool op, Value.int IntKind.i64 p, Value.int IntKind.i64 m] 44 (0, 0)) ∧ Below w.heap.size w wr) (fun _ i _ => no - (intOf i).toNat)
            case atStart =>
              refine ⟨0, [], false, 0, 0, Nat.zero_le _, rfl, _, 0, rfl, ((Own.empty w3 _ rfl l3 (Nat.lt_succ_self _)).alloc _).mono (Nat.le_refl _) (by simp), ?_, ?_, by rw [K.out]; rfl, by decide, blk_alloc (blk_alloc G4.out _) _, ?_, (d3.alloc l3 _).alloc (by simp; omega) _⟩
              · intro a ha; obtain rfl := Option.some.inj ha; simp; omega
              · intro a ha; obtain rfl := Option.some.inj ha; simp
              · have := heap_alloc_new (w3.alloc (.cells #[] 44)) (.cells #[.bool false, .int .i64 0, .int .i64 0] 44); simp only [World.size_alloc] at this; exact this
            case round =>
              obtain ⟨k, acc, op, p, m, hk, rfl, A, c, rfl, hown, hf1, hf2, hgo, hga, hb4, hb11, hb⟩ := hrel
              have Hown := hd hown
              have Hf1 := hd hf1
              have Hf2 := hd hf2
              have Hgo := hd hgo
              have Hga := hd hga
              have Hb4 := hd hb4
              have Hb11 := hd hb11
              clear hown hf1 hf2 hgo hga hb4 hb11
              by_cases hlt : k < no
              · obtain ⟨bo, oo, f0, rfl, hbl0, hx0, c0⟩ := getInt64 (hro.below hb) hlt
                obtain ⟨bx, ox, f1, rfl, hbl1, hx1, c1⟩ := getInt64 (hrx.below hb) hlt
                obtain ⟨bz, oz, f2, rfl, hbl2, hx2, c2⟩ := getInt64 (hry.below hb) hlt
                have HO := hd (all_at Ho.out hx0)
                have HI := hd (all_at Hv3.out hx1)
                have HK := hd (all_at Hv4.out hx2)
                have hdrop := zip3_drop hx0 hx1 hx2
                obtain ⟨q, hq⟩ : ∃ q, stepG wd sill (op, p, m) f0 f1 f2 = q := ⟨_, rfl⟩
                obtain ⟨⟨qa, qb, qc⟩, qd⟩ := q
                have Hq := hd hq
                have Hnext : Hid ((if qd = 0 then goR wd sill ((zip3 os xs ys).drop (k + 1)) (qa, qb, qc) (acc ++ [(qa, qb, qc)]) else ([], qd)) = runSl wd sill os xs ys) := hd (by rw [← Hgo.out, hdrop]; simp only [goR, hq])
                clear hx0 hx1 hx2 hdrop hq
                have k0 : wr.cell? ⟨w.heap.size, 0, none⟩ = some (.int .i64 wd) := blk_cell Hb4.out 0
                have k1 : wr.cell? ⟨w.heap.size, 1, none⟩ = some (.int .i64 sill) := blk_cell Hb4.out 1
                have k2 : wr.cell? ⟨w3.heap.size + 1, 0, none⟩ = some (.bool op) := blk_cell Hb11.out 0
                have k3 : wr.cell? ⟨w3.heap.size + 1, 1, none⟩ = some (.int .i64 p) := blk_cell Hb11.out 1
                have k4 : wr.cell? ⟨w3.heap.size + 1, 2, none⟩ = some (.int .i64 m) := blk_cell Hb11.out 2
                have l5 := blk_lt Hb4.out
                have l6 := blk_lt Hb11.out
                have i1 : (0 : Int) ≤ (k : Int) := by omega
                have i2 : (k : Int) < (no : Int) := by omega
                go_upto_region 16 with fail
                go_cut [15, 16] from 57 to 74 (fun s14 s15 wx => ∃ gg : Nat, s14 = .pointer (some ⟨gg, 0, none⟩) ∧ s15 = .int .i64 qd ∧ wx.heap[gg]? = some (Obj.cells #[Value.bool qa, Value.int IntKind.i64 qb, Value.int IntKind.i64 qc] 44 (0, 0)) ∧ Below wr.heap.size wr wx ∧ wr.heap.size ≤ gg)
                case first =>
                  have n0 := World.new_ne wr _ k0
                  have n1 := World.new_ne wr _ k1
                  have n2 := World.new_ne wr _ k2
                  have n3 := World.new_ne wr _ k3
                  have n4 := World.new_ne wr _ k4
                  have n5 := World.new_ne wr _ c0
                  have n6 := World.new_ne wr _ c1
                  have n7 := World.new_ne wr _ c2
                  go_region_held3 (fun w' => w'.cell? ⟨w.heap.size, 0, none⟩ = some (.int .i64 wd) ∧ w'.cell? ⟨w.heap.size, 1, none⟩ = some (.int .i64 sill) ∧ w'.cell? ⟨w3.heap.size + 1, 0, none⟩ = some (.bool op) ∧ w'.cell? ⟨w3.heap.size + 1, 1, none⟩ = some (.int .i64 p) ∧ w'.cell? ⟨w3.heap.size + 1, 2, none⟩ = some (.int .i64 m) ∧ w'.cell? ⟨bo, oo + k, none⟩ = some (.int .i64 f0) ∧ w'.cell? ⟨bx, ox + k, none⟩ = some (.int .i64 f1) ∧ w'.cell? ⟨bz, oz + k, none⟩ = some (.int .i64 f2)) (first | exact ⟨r0, r1, r2, r3, r4, r5, r6, r7⟩ | go_keep)
                    (first | (go_at_call 59; refine (l09Step_calls _ _ _ _ _ _ _ _ _ Hs.out Hga.out HO.out HI.out HK.out).mono ?_; rintro e w9 ⟨he, b9⟩; rw [Hq.out] at he; simp only [aggG] at he; subst he; have b9w : Below wr.heap.size wr w9 := (by first | exact b9 | exact (bdrewN (Below.refl _ _) _).trans b9 | exact (bdrew _).trans b9 | exact bbox1 b9 | exact (bdrew _).trans (bbox1 b9) | exact bbox1 ((bdrew _).trans b9)); have r0 := (b9w.cell (p := ⟨w.heap.size, 0, none⟩) l5).trans k0; have r1 := (b9w.cell (p := ⟨w.heap.size, 1, none⟩) l5).trans k1; have r2 := (b9w.cell (p := ⟨w3.heap.size + 1, 0, none⟩) l6).trans k2; have r3 := (b9w.cell (p := ⟨w3.heap.size + 1, 1, none⟩) l6).trans k3; have r4 := (b9w.cell (p := ⟨w3.heap.size + 1, 2, none⟩) l6).trans k4; have r5 := (b9w.cell (p := ⟨bo, oo + k, none⟩) hbl0).trans c0; have r6 := (b9w.cell (p := ⟨bx, ox + k, none⟩) hbl1).trans c1; have r7 := (b9w.cell (p := ⟨bz, oz + k, none⟩) hbl2).trans c2; (first | (have hq9 : w9.heap[wr.heap.size]? = some (Obj.cells #[Value.bool false, Value.int IntKind.i64 0, Value.int IntKind.i64 0] 44 (0, 0)) := (b9.block wr.heap.size (by simp)).trans (heap_alloc_new wr _); have t0 := blk_cell hq9 0; have t1 := blk_cell hq9 1; have t2 := blk_cell hq9 2; have u0 := blk_free hq9 0; have u1 := blk_free hq9 1; have u2 := blk_free hq9 2) | skip)))
                  all_goals
                    go_wp2_with fail
                    go_meet
                    first
                      | exact ⟨_, rfl, rfl, heap_alloc_new _ _, b9w.alloc b9w.size _, b9w.size⟩
                      | exact ⟨_, rfl, rfl, blk_set3 hq9 _ _ _, below_set3 b9w (Nat.le_refl _) _ _ _, Nat.le_refl _⟩
                case rest =>
                  obtain ⟨gg, rfl, rfl, hgg, bb, hgl⟩ := hcut
                  clear k0 k1 k2 k3 k4 c0 c1 c2 i1 i2
                  have hb4 := blk_below Hb4.out bb l5
                  have hb11 := blk_below Hb11.out bb l6
                  have hb' := bnext hb bb (Nat.le_refl _)
                  have own1 := (Hown.out.below bb).mono (Nat.le_refl _) bb.size
                  have l7 := blk_lt hb11
                  have e0 := blk_cell hgg 0
                  have e1 := blk_cell hgg 1
                  have e2 := blk_cell hgg 2
                  have y0 := blk_cell hb11 0
                  have y1 := blk_cell hb11 1
                  have y2 := blk_cell hb11 2
                  have z0 := blk_free hb11 0
                  have z1 := blk_free hb11 1
                  have z2 := blk_free hb11 2
                  have HB4 := hd hb4
                  have HB11 := hd hb11
                  have HO1 := hd own1
                  clear hb4 hb11 hgg own1 Hb4 Hb11 Hown bb
                  by_cases h0 : qd = 0
                  · subst h0
                    go_upto_region 20 with fail
                    have hN : Hid (goR wd sill ((zip3 os xs ys).drop (k + 1)) (qa, qb, qc) (acc ++ [(qa, qb, qc)]) = runSl wd sill os xs ys) := hd (by have := Hnext.out; first | rwa [if_pos rfl] at this | rwa [if_pos trivial] at this)
                    have hG : Hid (gaB qb qc = true) := hd (stepG_ok Hq.out rfl)
                    have own2 := HO1.out.far (only_set (only_set (only_set (only_refl wc (some (w3.heap.size + 1))) 0 (.bool qa)) 1 (.int .i64 qb)) 2 (.int .i64 qc)) Hf2.out
                    have q11 := blk_set3 HB11.out (.bool qa) (.int .i64 qb) (.int .i64 qc)
                    have q4 := blk_far3 HB4.out (g' := w3.heap.size + 1) (by omega) (.bool qa) (.int .i64 qb) (.int .i64 qc)
                    have dd := below_set3 hb' (g := w3.heap.size + 1) (by omega) (.bool qa) (.int .i64 qb) (.int .i64 qc)
                    have es : (((wc.setCell ⟨w3.heap.size + 1, 0, none⟩ (.bool qa)).setCell ⟨w3.heap.size + 1, 1, none⟩ (.int .i64 qb)).setCell ⟨w3.heap.size + 1, 2, none⟩ (.int .i64 qc)).heap.size = wc.heap.size := by simp
                    rw [← es] at own2
                    clear y0 y1 y2 z0 z1 z2 e0 e1 e2 es HO1 HB4 HB11 hb'
                    generalize (((wc.setCell ⟨w3.heap.size + 1, 0, none⟩ (.bool qa)).setCell ⟨w3.heap.size + 1, 1, none⟩ (.int .i64 qb)).setCell ⟨w3.heap.size + 1, 2, none⟩ (.int .i64 qc)) = W1 at own2 q11 q4 dd ⊢
                    have y0 := blk_cell q11 0
                    have y1 := blk_cell q11 1
                    have y2 := blk_cell q11 2
                    have l8 := blk_lt q11
                    have l9 := blk_lt q4
                    have Q11 := hd q11
                    have Q4 := hd q4
                    have O2 := hd own2
                    clear q11 q4 own2
                    go_wp2_with (at_builtin; refine wpList_app_at _ rfl _ _ 53 rfl 44 i0 _ 3 24 Try.underlying53 hi hz0 hz1 hz2 rfl (by decide) len_cGate one_cGate w.heap.size W1.heap.size A k c acc rfl (O2.out.alloc _) W1.heap.size (qa, qb, qc) rfl (app_new _ _ _) (by omega) (by unfold maxLen; omega) (by have := dd.size; simp; omega) ?_)
                    intro A' c'' w5 ho2 hg2 hoff
                    have r4 := blk_grown (blk_alloc Q4.out _) hg2 Hf1.out
                    have r11 := blk_grown (blk_alloc Q11.out _) hg2 Hf2.out
                    have hd2 := below_app (dd.alloc dd.size _) (O2.out.alloc _) hg2 (Nat.le_refl _) (Nat.le_refl _)
                    have f1' := hoff _ Hf1.out (by omega)
                    have f2' := hoff _ Hf2.out (by omega)
                    have Ho2 := hd ho2
                    have R4 := hd r4
                    have R11 := hd r11
                    have F1 := hd f1'
                    have F2 := hd f2'
                    clear ho2 hg2 hoff r4 r11 f1' f2' y0 y1 y2
                    go_wp2_with fail
                    go_roundw
                    case rel => exact ⟨k + 1, acc ++ [(qa, qb, qc)], qa, qb, qc, by omega, by go_num, A', c'', rfl, Ho2.out, F1.out, F2.out, hN.out, hG.out, R4.out, R11.out, hd2⟩
                    case measure => simp [intOf]; omega
                  · have h0' : (qd != 0) = true := by simpa using h0
                    have K2 : Hid (runSl wd sill os xs ys = ([], qd)) := hd (by rw [← Hnext.out, if_neg h0])
                    clear z0 z1 z2 y0 y1 y2 e0 e1 e2
                    go_wp2_with fail
                    go_ret2
                    exact ⟨none, 0, 0, ret_sl (by rw [K2.out]), by rw [K2.out]; exact Own.nil_, by omega, hb'⟩
              · obtain rfl : k = no := by omega
                go_wp2_with fail
                go_ret2
                have e1 : ((acc, 0) : List G3 × Int) = runSl wd sill os xs ys := by rw [← Hgo.out, zip3_done Lo.out Lx.out Ly.out]; rfl
                exact ⟨A, k, c, ret_sl (by rw [← e1]), by rw [← e1]; exact Hown.out, hno, hb⟩
        · subst hz'
          have K : Hid (runSl wd sill os xs ys = ([], 2)) := hd (by simp [runSl, Hs.out, hall])
          clear hall
          go_wp2_with fail
          all_goals
            go_ret2
            exact ⟨none, 0, 0, ret_sl (by rw [K.out]), by rw [K.out]; exact Own.nil_, by omega, d3⟩
    · have K : Hid (runSl wd sill os xs ys = ([], 2)) := hd (by simp [runSl, Hs.out, Lo.out, Lx.out, hne])
      have hne' : ((no : Int) != nx) = true := by simp; omega
      go_wp2_with fail
      go_loopw [10, 11] (fun v i wr => i = .int .i64 0 ∧ v = .int .i64 2 ∧ Below w.heap.size w wr) (fun _ i _ => 0)
      case atStart => exact ⟨rfl, rfl, d3⟩
      case round =>
        obtain ⟨rfl, rfl, hb⟩ := hrel
        go_wp2_with fail
        all_goals
          go_ret2
          exact ⟨none, 0, 0, ret_sl (by rw [K.out]), by rw [K.out]; exact Own.nil_, by omega, hb⟩
  · have K : Hid (runSl wd sill os xs ys = ([], z)) := hd (series_bad Hz.out h0)
    have h0' : (z != 0) = true := by simpa using h0
    have h0'' : (z == 0) = false := by simpa using h0
    go_wp2_with fail
    go_loopw [10, 11] (fun v i wr => i = .int .i64 0 ∧ v = .int .i64 z ∧ Below w.heap.size w wr) (fun _ i _ => 0)
    case atStart => exact ⟨rfl, rfl, d3⟩
    case round =>
      obtain ⟨rfl, rfl, hb⟩ := hrel
      go_wp2_with fail
      all_goals
        go_ret2
        exact ⟨none, 0, 0, ret_sl (by rw [K.out]), by rw [K.out]; exact Own.nil_, by omega, hb⟩
end Go.Proofs.Ytppkljhnmifilaa
