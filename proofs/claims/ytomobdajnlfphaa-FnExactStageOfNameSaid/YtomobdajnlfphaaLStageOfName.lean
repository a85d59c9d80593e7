/- The law on StageOfName, walked out of the contracts of what it calls. -/
import Derived.Test.YtomobdajnlfphaaLst4
namespace Go.Proofs.Ytomobdajnlfphaa
open Go.RowKit
set_option linter.unusedVariables false

set_option maxRecDepth 100000 in
set_option maxHeartbeats 1000000 in
theorem FnExactStageOfName_calls (a : Option Addr) (n c : Nat) (zs : List SL) (name : ByteArray) (w : World)
    (hr : RdSL w a n zs) (hl : n ≤ c) (hm : c ≤ maxLen) (ho : ∀ z ∈ zs, OkSL w z) (hs : name.size ≤ maxLen) :
    Calls Try.prog 3 #[.slice a n c, .string name] w fun e w' => e = .returned (.bool true) ∧ Below w.heap.size w w' := by
  have hnm : n ≤ maxLen := Nat.le_trans hl hm
  have hs' := hs
  unfold maxLen at hs'
  by_cases hbig : (1048576 : Int) < (name.size : Int)
  · go_enter Try.func3, Try.ntmps3
    go_wp2_with fail
    go_ret
    exact ⟨rfl, Below.refl _ _⟩
  have hN : name.size ≤ 1048576 := by omega
  have HI : Hid (InS w zs (zs.map (fun z => z.2.2.2))) := hd ⟨rfl, fun z hz => (ho z hz).1⟩
  go_enter Try.func3, Try.ntmps3
  go_wp2_with fail
  refine (szStringSS_calls a n c zs _ hr hnm ho).mono ?_
  rintro e w1 ⟨r, rfl, hsz, rfl⟩
  rcases hsz with rfl | ⟨r0, hn, hS⟩
  · go_wp2_with fail
    go_ret
    exact ⟨rfl, Below.refl _ _⟩
  obtain ⟨xss, hxss⟩ : ∃ xss, zs.map (fun z => z.2.2.2) = xss := ⟨_, rfl⟩
  rw [hxss] at HI
  obtain ⟨R, hR⟩ : ∃ R, snZ xss name = R := ⟨_, rfl⟩
  have HR := hd hR
  have HS := hd hS
  have hr0 : ¬ r < 0 := by omega
  clear hxss hR hS hs ho hl hm hs'
  go_wp2_with fail
  refine (toStringSS_calls a n c zs xss _ hr hn HI.out HS.out).mono ?_
  rintro e w2 ⟨A2, z2, rfl, r2, i2, s2, b2⟩
  go_wp2_with fail
  refine (specStageOfName_calls A2 n n z2 xss name _ r2 hn i2 s2 hN).mono ?_
  rintro e w3 ⟨he, b3⟩
  rw [HR.out] at he
  subst he
  have d3 := bnext b2 b3 (Nat.le_refl _)
  clear r2 i2 s2 b2 b3
  go_wp2_with fail
  refine (toStringSS_calls a n c zs xss _ (hr.below d3) hn (HI.out.below d3) HS.out).mono ?_
  rintro e w4 ⟨A4, z4, rfl, r4, i4, s4, b4⟩
  have d4 := bnext d3 b4 (Nat.le_refl _)
  clear b4 d3
  go_wp2_with fail
  refine (StageOfName_calls A4 n n z4 xss name _ r4 hn i4 s4 hN).mono ?_
  rintro e w5 ⟨he, b5⟩
  rw [HR.out] at he
  subst he
  have d5 := bnext d4 b5 (Nat.le_refl _)
  have R5 := hd (r4.below b5)
  have I5 := hd (i4.below b5)
  clear b5 d4 r4 i4
  go_wp2_with fail
  refine (toStringSS_calls a n c zs xss _ (hr.below d5) hn (HI.out.below d5) HS.out).mono ?_
  rintro e w6 ⟨A6, z6, rfl, r6, i6, s6, b6⟩
  have d6 := bnext d5 b6 (Nat.le_refl _)
  go_wp2_with fail
  refine (eqStringSS_calls A4 A6 n n n z4 z6 xss _ (R5.out.below b6) r6 hn (I5.out.below b6) i6 s4).mono ?_
  rintro e w7 ⟨rfl, b7⟩
  have d7 := bnext d6 b7 (Nat.le_refl _)
  go_wp2_with fail
  go_ret
  exact ⟨rfl, d7⟩
end Go.Proofs.Ytomobdajnlfphaa
