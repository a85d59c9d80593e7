/- The texts of water. -/
import Derived.Test.YtbbnjddgioaoeaaDoorSwt
import Derived.Test.YtbbnjddgioaoeaaDoorWaterB
namespace Go.Proofs.YtbbnjddgioaoeaaDoor
open Go.RowKit
set_option linter.unusedVariables false

theorem cat (a b : List UInt8) : ((⟨a.toArray⟩ : ByteArray) ++ ⟨b.toArray⟩) = ⟨(a ++ b).toArray⟩ := by
  apply ByteArray.ext
  rw [ByteArray.data_append]
  apply Array.ext'
  simp
def txt5 (r s e p q : List UInt8) : ByteArray := ((((((((((⟨#[114, 97, 105, 110, 32]⟩ : ByteArray) ++ ⟨r.toArray⟩) ++ ⟨#[32, 115, 101, 101, 112, 32]⟩) ++ ⟨s.toArray⟩) ++ ⟨#[32, 100, 114, 121, 32]⟩) ++ ⟨e.toArray⟩) ++ ⟨#[32, 112, 117, 109, 112, 32]⟩) ++ ⟨p.toArray⟩) ++ ⟨#[32, 115, 108, 117, 105, 99, 101, 32]⟩) ++ ⟨q.toArray⟩)
def waT (r s e p q : Int) : ByteArray := if waB (r, s, e, p, q) then txt5 (Lib.itoa r) (Lib.itoa s) (Lib.itoa e) (Lib.itoa p) (Lib.itoa q) else ⟨#[]⟩
set_option maxRecDepth 100000 in
set_option maxHeartbeats 1000000 in
theorem l13Text_calls (g : Nat) (r s e p q : Int) (w : World) (hg : w.heap[g]? = some (.cells #[.int .i64 r, .int .i64 s, .int .i64 e, .int .i64 p, .int .i64 q] 29)) (hr : -9223372036854775808 ≤ r ∧ r ≤ 9223372036854775807) (hs : -9223372036854775808 ≤ s ∧ s ≤ 9223372036854775807) (he : -9223372036854775808 ≤ e ∧ e ≤ 9223372036854775807) (hp : -9223372036854775808 ≤ p ∧ p ≤ 9223372036854775807) (hq : -9223372036854775808 ≤ q ∧ q ≤ 9223372036854775807) :
    Calls Tryd.prog 46 #[.pointer (some ⟨g, 0, none⟩)] w fun e' w' => e' = .returned (.string (txt5 (Lib.itoa r) (Lib.itoa s) (Lib.itoa e) (Lib.itoa p) (Lib.itoa q))) ∧ Below w.heap.size w w' := by
  have HR := hd hr
  have HS := hd hs
  have HE := hd he
  have HP := hd hp
  have HQ := hd hq
  obtain ⟨l1, hl1⟩ : ∃ l, Lib.itoa r = l := ⟨_, rfl⟩
  obtain ⟨l2, hl2⟩ : ∃ l, Lib.itoa s = l := ⟨_, rfl⟩
  obtain ⟨l3, hl3⟩ : ∃ l, Lib.itoa e = l := ⟨_, rfl⟩
  obtain ⟨l4, hl4⟩ : ∃ l, Lib.itoa p = l := ⟨_, rfl⟩
  obtain ⟨l5, hl5⟩ : ∃ l, Lib.itoa q = l := ⟨_, rfl⟩
  have b1 := Lib.itoa_length_le r hr.1 hr.2
  have b2 := Lib.itoa_length_le s hs.1 hs.2
  have b3 := Lib.itoa_length_le e he.1 he.2
  have b4 := Lib.itoa_length_le p hp.1 hp.2
  have b5 := Lib.itoa_length_le q hq.1 hq.2
  rw [hl1] at b1
  rw [hl2] at b2
  rw [hl3] at b3
  rw [hl4] at b4
  rw [hl5] at b5
  have e1 : ¬ (9223372036854775807 < 5 + l1.length) := by omega
  have e2 : ¬ (9223372036854775807 < 5 + l1.length + 6) := by omega
  have e3 : ¬ (9223372036854775807 < 5 + l1.length + 6 + l2.length) := by omega
  have e4 : ¬ (9223372036854775807 < 5 + l1.length + 6 + l2.length + 5) := by omega
  have e5 : ¬ (9223372036854775807 < 5 + l1.length + 6 + l2.length + 5 + l3.length) := by omega
  have e6 : ¬ (9223372036854775807 < 5 + l1.length + 6 + l2.length + 5 + l3.length + 6) := by omega
  have e7 : ¬ (9223372036854775807 < 5 + l1.length + 6 + l2.length + 5 + l3.length + 6 + l4.length) := by omega
  have e8 : ¬ (9223372036854775807 < 5 + l1.length + 6 + l2.length + 5 + l3.length + 6 + l4.length + 8) := by omega
  have e9 : ¬ (9223372036854775807 < 5 + l1.length + 6 + l2.length + 5 + l3.length + 6 + l4.length + 8 + l5.length) := by omega
  have HL1 := hd hl1
  have HL2 := hd hl2
  have HL3 := hd hl3
  have HL4 := hd hl4
  have HL5 := hd hl5
  clear hl1 hl2 hl3 hl4 hl5 hr hs he hp hq
  have k0 := blw_cell (blk_cell hg 0)
  have k1 := blw_cell (blk_cell hg 1)
  have k2 := blw_cell (blk_cell hg 2)
  have k3 := blw_cell (blk_cell hg 3)
  have k4 := blw_cell (blk_cell hg 4)
  go_enter Tryd.func46, Tryd.ntmps46
  go_upto_region 1 with fail
  refine wp_region_blw (by kernel_rfl) (by kernel_rfl) ?_
  repeat (go_big_quiet_step (first | (go_at_call 49; with_reducible exact blw_of ((l01Dec_calls r _ HR.out.1 HR.out.2).mono fun _ _ h => ⟨h.1.trans (by rw [HL1.out]), h.2⟩)) | (go_at_call 49; with_reducible exact blw_of ((l01Dec_calls s _ HS.out.1 HS.out.2).mono fun _ _ h => ⟨h.1.trans (by rw [HL2.out]), h.2⟩)) | (go_at_call 49; with_reducible exact blw_of ((l01Dec_calls e _ HE.out.1 HE.out.2).mono fun _ _ h => ⟨h.1.trans (by rw [HL3.out]), h.2⟩)) | (go_at_call 49; with_reducible exact blw_of ((l01Dec_calls p _ HP.out.1 HP.out.2).mono fun _ _ h => ⟨h.1.trans (by rw [HL4.out]), h.2⟩)) | (go_at_call 49; with_reducible exact blw_of ((l01Dec_calls q _ HQ.out.1 HQ.out.2).mono fun _ _ h => ⟨h.1.trans (by rw [HL5.out]), h.2⟩))))
  refine wpQuiet_nil ?_
  rintro _ ⟨D, rfl⟩
  go_wp2_with fail
  go_ret
  exact ⟨ret_str (by rw [HL1.out, HL2.out, HL3.out, HL4.out, HL5.out]; rfl), D.out⟩
theorem waT_no {r s e p q : Int} (h : waB (r, s, e, p, q) = false) : waT r s e p q = ⟨#[]⟩ := by unfold waT; rw [h]; rfl
theorem waT_ok {r s e p q : Int} (h : waB (r, s, e, p, q) = true) : waT r s e p q = txt5 (Lib.itoa r) (Lib.itoa s) (Lib.itoa e) (Lib.itoa p) (Lib.itoa q) := by unfold waT; rw [h]; rfl
set_option maxRecDepth 100000 in
set_option maxHeartbeats 1000000 in
theorem specWaterText_calls (r s e p q : Int) (w : World) (hr : -9223372036854775808 ≤ r ∧ r ≤ 9223372036854775807) (hs : -9223372036854775808 ≤ s ∧ s ≤ 9223372036854775807) (he : -9223372036854775808 ≤ e ∧ e ≤ 9223372036854775807) (hp : -9223372036854775808 ≤ p ∧ p ≤ 9223372036854775807) (hq : -9223372036854775808 ≤ q ∧ q ≤ 9223372036854775807) :
    Calls Tryd.prog 25 #[.agg #[.int .i64 r, .int .i64 s, .int .i64 e, .int .i64 p, .int .i64 q]] w fun e' w' => e' = .returned (.string (waT r s e p q)) ∧ Below w.heap.size w w' := by
  have hg := heap_alloc_new w (.cells #[.int .i64 r, .int .i64 s, .int .i64 e, .int .i64 p, .int .i64 q] 29)
  have dd := (Below.refl w.heap.size w).alloc (Nat.le_refl _) (.cells #[.int .i64 r, .int .i64 s, .int .i64 e, .int .i64 p, .int .i64 q] 29)
  go_enter Tryd.func25, Tryd.ntmps25
  go_upto_region 1 with fail
  generalize w.alloc (.cells #[.int .i64 r, .int .i64 s, .int .i64 e, .int .i64 p, .int .i64 q] 29) = W1 at dd hg ⊢
  go_wp2_with fail
  refine (l13Ok_calls _ 0 r s e p q _ (blk_cell hg 0) (blk_cell hg 1) (blk_cell hg 2) (blk_cell hg 3) (blk_cell hg 4)).mono ?_
  rintro e' w1 ⟨hee, rfl⟩
  cases hb : waB (r, s, e, p, q)
  · rw [hb] at hee
    subst hee
    have HB := hd hb
    clear hb
    go_wp2_with fail
    go_ret
    exact ⟨ret_str (by rw [waT_no HB.out]), dd⟩
  · rw [hb] at hee
    subst hee
    have HB := hd hb
    clear hb
    go_wp2_with fail
    refine (l13Text_calls _ r s e p q _ hg hr hs he hp hq).mono ?_
    rintro e' w2 ⟨rfl, b2⟩
    have d2 := bnext dd b2 (Nat.le_refl _)
    go_wp2_with fail
    go_ret
    exact ⟨ret_str (by rw [waT_ok HB.out]), d2⟩
def wordL : Nat → List UInt8
  | 0 => [114, 97, 105, 110]
  | 1 => [115, 101, 101, 112]
  | 2 => [100, 114, 121]
  | 3 => [112, 117, 109, 112]
  | _ => [115, 108, 117, 105, 99, 101]
def numL (r s e p q : Int) : Nat → Int
  | 0 => r
  | 1 => s
  | 2 => e
  | 3 => p
  | _ => q
/-- The text of the first k words. -/
def tk (r s e p q : Int) : Nat → List UInt8
  | 0 => []
  | k + 1 => (if k = 0 then tk r s e p q k else tk r s e p q k ++ [32]) ++ (wordL k ++ [32] ++ Lib.itoa (numL r s e p q k))
theorem tk_5 (r s e p q : Int) : (⟨(tk r s e p q 5).toArray⟩ : ByteArray) = txt5 (Lib.itoa r) (Lib.itoa s) (Lib.itoa e) (Lib.itoa p) (Lib.itoa q) := by
  unfold txt5
  rw [show (⟨#[114, 97, 105, 110, 32]⟩ : ByteArray) = ⟨[114, 97, 105, 110, 32].toArray⟩ from rfl, show (⟨#[32, 115, 101, 101, 112, 32]⟩ : ByteArray) = ⟨[32, 115, 101, 101, 112, 32].toArray⟩ from rfl, show (⟨#[32, 100, 114, 121, 32]⟩ : ByteArray) = ⟨[32, 100, 114, 121, 32].toArray⟩ from rfl, show (⟨#[32, 112, 117, 109, 112, 32]⟩ : ByteArray) = ⟨[32, 112, 117, 109, 112, 32].toArray⟩ from rfl, show (⟨#[32, 115, 108, 117, 105, 99, 101, 32]⟩ : ByteArray) = ⟨[32, 115, 108, 117, 105, 99, 101, 32].toArray⟩ from rfl]
  simp only [cat]
  simp [tk, wordL, numL]
theorem numL_at {r s e p q f : Int} {k : Nat} (h : [r, s, e, p, q][k]? = some f) : f = numL r s e p q k := by
  have hk : k < 5 := lt_of_get h
  rcases (show k = 0 ∨ k = 1 ∨ k = 2 ∨ k = 3 ∨ k = 4 by omega) with rfl | rfl | rfl | rfl | rfl <;> simpa [numL, eq_comm] using h
theorem numL_P {P : Int → Prop} {r s e p q : Int} (h0 : P r) (h1 : P s) (h2 : P e) (h3 : P p) (h4 : P q) : ∀ k, P (numL r s e p q k)
  | 0 => h0
  | 1 => h1
  | 2 => h2
  | 3 => h3
  | _ + 4 => h4
theorem word_len : ∀ k, (wordL k).length ≤ 6
  | 0 => by decide
  | 1 => by decide
  | 2 => by decide
  | 3 => by decide
  | _ + 4 => by simp [wordL]
def wordsC : Array Value := #[.string ⟨#[114, 97, 105, 110]⟩, .string ⟨#[115, 101, 101, 112]⟩, .string ⟨#[100, 114, 121]⟩, .string ⟨#[112, 117, 109, 112]⟩, .string ⟨#[115, 108, 117, 105, 99, 101]⟩]
theorem words_at {k : Nat} (hk : k < 5) : wordsC[k]? = some (.string ⟨(wordL k).toArray⟩) := by
  rcases (show k = 0 ∨ k = 1 ∨ k = 2 ∨ k = 3 ∨ k = 4 by omega) with rfl | rfl | rfl | rfl | rfl <;> rfl
theorem tk_len {r s e p q : Int} (h : ∀ k, (Lib.itoa (numL r s e p q k)).length ≤ 21) : ∀ k, (tk r s e p q k).length ≤ 30 * k
  | 0 => by simp [tk]
  | k + 1 => by
    have h1 := tk_len h k
    have h2 := h k
    have h3 := word_len k
    unfold tk
    split <;> simp only [List.length_append, List.length_cons, List.length_nil] <;> omega
end Go.Proofs.YtbbnjddgioaoeaaDoor
