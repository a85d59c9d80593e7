/- Lists of names: what the program does with them. -/
import Derived.Test.YtomobdajnlfphaaNam
import Derived.Test.YtomobdajnlfphaaAux2
namespace Go.Proofs.Ytomobdajnlfphaa
open Go.RowKit
set_option linter.unusedVariables false

def hasB (xs : List ByteArray) (name : ByteArray) : Bool := xs.any (fun s => s.toList == name.toList)
def rowB (xs : List ByteArray) : Bool := decide (xs.length ≤ 12) && xs.all nameB
def listsB (xss : List (List ByteArray)) : Bool := decide (xss.length ≤ 5) && xss.all rowB
def goS (name : ByteArray) : Int → List (List ByteArray) → Int × Int
  | _, [] => (0, 3)
  | i, xs :: r => if hasB xs name then (i + 1, 0) else goS name (i + 1) r
def snZ (xss : List (List ByteArray)) (name : ByteArray) : Int × Int := if listsB xss then (if nameB name then goS name 0 xss else (0, 2)) else (0, 1)
theorem dropL {α : Type} {L : List α} {k : Nat} {y : α} (h : L[k]? = some y) : L.drop k = y :: L.drop (k + 1) := by
  obtain ⟨hl, rfl⟩ := List.getElem?_eq_some_iff.1 h
  exact List.drop_eq_getElem_cons hl
theorem goS_yes {name : ByteArray} {xss : List (List ByteArray)} {k : Nat} {xs : List ByteArray} {R : Int × Int} (h : xss[k]? = some xs) (hR : goS name (k : Int) (xss.drop k) = R) (hh : hasB xs name = true) : R = ((k : Int) + 1, 0) := by
  rw [dropL h] at hR; simp only [goS, if_pos hh] at hR; exact hR.symm
theorem goS_no {name : ByteArray} {xss : List (List ByteArray)} {k : Nat} {xs : List ByteArray} {R : Int × Int} (h : xss[k]? = some xs) (hR : goS name (k : Int) (xss.drop k) = R) (hh : hasB xs name = false) : goS name ((k + 1 : Nat) : Int) (xss.drop (k + 1)) = R := by
  rw [dropL h] at hR; simp only [goS, hh] at hR; rw [Int.natCast_add]; exact hR
theorem goS_end {name : ByteArray} {xss : List (List ByteArray)} {k : Nat} {R : Int × Int} (h : xss.length ≤ k) (hR : goS name (k : Int) (xss.drop k) = R) : R = (0, 3) := by
  rw [List.drop_of_length_le h] at hR; exact hR.symm
theorem any_next {α : Type} {xs : List α} {p : α → Bool} {k : Nat} {x : α} (hx : xs[k]? = some x) (h : (xs.take k).any p = false) (hp : p x = false) : (xs.take (k + 1)).any p = false := by
  rw [List.take_add_one, hx]; simp [h, hp]
theorem any_stop {α : Type} {xs : List α} {p : α → Bool} {k : Nat} {x : α} (hx : xs[k]? = some x) (hp : p x = true) : xs.any p = true := List.any_eq_true.2 ⟨x, List.mem_of_getElem? hx, hp⟩
theorem any_done {α : Type} {xs : List α} {p : α → Bool} {k : Nat} (hk : xs.length ≤ k) (h : (xs.take k).any p = false) : xs.any p = false := by rwa [List.take_of_length_le hk] at h
theorem ret_ii {a b c d : Int} (h : (a, b) = (c, d)) : Ending.returned (.tuple #[.int .i64 a, .int .i64 b]) = .returned (.tuple #[.int .i64 c, .int .i64 d]) := by cases h; rfl
/-- Sizes that the walks need. -/
def SzS (xs : List ByteArray) : Prop := ∀ s ∈ xs, s.size ≤ 1048576
def SzL (zs : List SL) : Prop := ∀ z ∈ zs, z.2.1 ≤ 1048576 ∧ SzS z.2.2.2
theorem allStr_calls (f : Nat) (caps : Array Value) (p : ByteArray → Bool) (a : Option Addr) (n c : Nat) (xs : List ByteArray) (w : World) (hr : RdStr w a n xs) (hn : n ≤ 1048576)
    (hf : ∀ args w, (callFunc f args).run Try.prog w = .ok (.enter f args) w)
    (H : ∀ s ∈ xs, ∀ W, Below w.heap.size w W → Calls Try.prog f (#[.string s] ++ caps) W fun e w' => e = .returned (.bool (p s)) ∧ Below W.heap.size W w') :
    Calls Try.prog 21 #[.slice a n c, .func (.func f) #[] caps] w fun e w' => e = .returned (.bool (xs.all p)) ∧ Below w.heap.size w w' := by
  have hlen := hd hr.len
  go_enter Try.func21, Try.ntmps21
  go_wp2_with fail
  go_loopw [9] (fun i wr => ∃ k : Nat, k ≤ n ∧ i = .int .i64 k ∧ (xs.take k).all p = true ∧ Below w.heap.size w wr) (fun i _ => n - (intOf i).toNat)
  case atStart => exact ⟨0, Nat.zero_le _, rfl, rfl, Below.refl _ _⟩
  case round =>
    obtain ⟨k, hk, rfl, hall, hb⟩ := hrel
    have Ha := hd hall
    clear hall
    by_cases hlt : k < n
    · obtain ⟨b, o, f0, rfl, hbl, hx, hc0⟩ := getStr (hr.below hb) hlt
      have Hx := hd hx
      clear hx
      go_wp2_with fail
      refine (H f0 (List.mem_of_getElem? Hx.out) _ (by have := hb.size; go_grown)).mono ?_
      rintro e w1 ⟨rfl, b1⟩
      have hb1 : Below w.heap.size w w1 := bnext hb b1 (Nat.le_refl _)
      clear hc0 b1
      by_cases hp : p f0 = true
      · go_wp2_with fail
        go_roundw
        case rel => exact ⟨k + 1, by omega, by go_num, all_next Hx.out Ha.out hp, hb1⟩
        case measure => simp [intOf]; omega
      · go_wp2_with fail
        go_ret
        exact ⟨ret_bool (by rw [all_stop Hx.out (by simpa using hp)]), hb1⟩
    · go_wp2_with fail
      go_ret
      exact ⟨ret_bool (by rw [all_done hlen.out (by omega) Ha.out]), hb⟩
theorem allSL_calls (f : Nat) (caps : Array Value) (p : List ByteArray → Bool) (a : Option Addr) (n c : Nat) (zs : List SL) (w : World) (hr : RdSL w a n zs) (hn : n ≤ 1048576)
    (hf : ∀ args w, (callFunc f args).run Try.prog w = .ok (.enter f args) w)
    (H : ∀ z ∈ zs, ∀ W, Below w.heap.size w W → Calls Try.prog f (#[.slice z.1 z.2.1 z.2.2.1] ++ caps) W fun e w' => e = .returned (.bool (p z.2.2.2)) ∧ Below W.heap.size W w') :
    Calls Try.prog 19 #[.slice a n c, .func (.func f) #[] caps] w fun e w' => e = .returned (.bool (zs.all (fun z => p z.2.2.2))) ∧ Below w.heap.size w w' := by
  have hlen := hd hr.len
  go_enter Try.func19, Try.ntmps19
  go_wp2_with fail
  go_loopw [9] (fun i wr => ∃ k : Nat, k ≤ n ∧ i = .int .i64 k ∧ (zs.take k).all (fun z => p z.2.2.2) = true ∧ Below w.heap.size w wr) (fun i _ => n - (intOf i).toNat)
  case atStart => exact ⟨0, Nat.zero_le _, rfl, rfl, Below.refl _ _⟩
  case round =>
    obtain ⟨k, hk, rfl, hall, hb⟩ := hrel
    have Ha := hd hall
    clear hall
    by_cases hlt : k < n
    · obtain ⟨b, o, f0, rfl, hbl, hx, hc0⟩ := getSL (hr.below hb) hlt
      have Hx := hd hx
      clear hx
      go_wp2_with fail
      refine (H f0 (List.mem_of_getElem? Hx.out) _ (by have := hb.size; go_grown)).mono ?_
      rintro e w1 ⟨rfl, b1⟩
      have hb1 : Below w.heap.size w w1 := bnext hb b1 (Nat.le_refl _)
      clear hc0 b1
      by_cases hp : p f0.2.2.2 = true
      · go_wp2_with fail
        go_roundw
        case rel => exact ⟨k + 1, by omega, by go_num, all_next Hx.out Ha.out hp, hb1⟩
        case measure => simp [intOf]; omega
      · go_wp2_with fail
        go_ret
        exact ⟨ret_bool (by rw [all_stop Hx.out (by simpa using hp)]), hb1⟩
    · go_wp2_with fail
      go_ret
      exact ⟨ret_bool (by rw [all_done hlen.out (by omega) Ha.out]), hb⟩
theorem areLists1_calls (a : Option Addr) (n c : Nat) (xs : List ByteArray) (w : World) (hr : RdStr w a n xs) (hn : n ≤ 1048576) (hs : SzS xs) :
    Calls Try.prog 20 #[.slice a n c] w fun e w' => e = .returned (.bool (rowB xs)) ∧ Below w.heap.size w w' := by
  have HL := hd hr.len
  have he := ent Try.func14 (by kernel_rfl) rfl
  by_cases h : (n : Int) ≤ 12
  · go_enter Try.func20, Try.ntmps20
    go_wp2_with fail
    refine (allStr_calls 14 #[] nameB _ _ _ xs _ hr hn he (fun s hm W _ => by rw [Array.append_empty]; exact IsName_calls s W (hs s hm))).mono ?_
    rintro e w1 ⟨rfl, b1⟩
    go_wp2_with fail
    go_ret
    exact ⟨ret_bool (by unfold rowB; rw [HL.out, decide_eq_true (by omega)]; rfl), b1⟩
  · have h' : (12 : Int) < n := by omega
    go_enter Try.func20, Try.ntmps20
    go_wp2_with fail
    go_ret
    exact ⟨ret_bool (by unfold rowB; rw [HL.out, decide_eq_false (by omega)]; rfl), Below.refl _ _⟩
theorem areLists_calls (a : Option Addr) (n c : Nat) (zs : List SL) (xss : List (List ByteArray)) (w : World) (hr : RdSL w a n zs) (hn : n ≤ 1048576) (hi : InS w zs xss) (hs : SzL zs) :
    Calls Try.prog 13 #[.slice a n c] w fun e w' => e = .returned (.bool (listsB xss)) ∧ Below w.heap.size w w' := by
  have HL : Hid (xss.length = n) := hd (by rw [← hi.1, List.length_map]; exact hr.len)
  have he := ent Try.func20 (by kernel_rfl) rfl
  have hall : zs.all (fun z => rowB z.2.2.2) = xss.all rowB := by rw [← hi.1, List.all_map]; rfl
  by_cases h : (n : Int) ≤ 5
  · go_enter Try.func13, Try.ntmps13
    go_wp2_with fail
    refine (allSL_calls 20 #[] rowB _ _ _ zs _ hr hn he (fun z hm W hb => by rw [Array.append_empty]; exact areLists1_calls _ _ _ _ W ((hi.2 z hm).below hb) (hs z hm).1 (hs z hm).2)).mono ?_
    rintro e w1 ⟨he, b1⟩
    rw [hall] at he
    subst he
    go_wp2_with fail
    go_ret
    exact ⟨ret_bool (by unfold listsB; rw [HL.out, decide_eq_true (by omega)]; rfl), b1⟩
  · have h' : (5 : Int) < n := by omega
    go_enter Try.func13, Try.ntmps13
    go_wp2_with fail
    go_ret
    exact ⟨ret_bool (by unfold listsB; rw [HL.out, decide_eq_false (by omega)]; rfl), Below.refl _ _⟩
theorem hasName_calls (a : Option Addr) (n c : Nat) (xs : List ByteArray) (name : ByteArray) (w : World) (hr : RdStr w a n xs) (hn : n ≤ 1048576) :
    Calls Try.prog 15 #[.slice a n c, .string name] w fun e w' => e = .returned (.bool (hasB xs name)) ∧ Below w.heap.size w w' := by
  have HL := hd hr.len
  go_enter Try.func15, Try.ntmps15
  go_wp2_with fail
  go_loopw [9] (fun i wr => ∃ k : Nat, k ≤ n ∧ i = .int .i64 k ∧ (xs.take k).any (fun s => s.toList == name.toList) = false ∧ Below w.heap.size w wr) (fun i _ => n - (intOf i).toNat)
  case atStart => exact ⟨0, Nat.zero_le _, rfl, rfl, Below.refl _ _⟩
  case round =>
    obtain ⟨k, hk, rfl, hp, hb⟩ := hrel
    have HP := hd hp
    clear hp
    by_cases hlt : k < n
    · obtain ⟨bo, oo, s, rfl, hbl, hx, hc0⟩ := getStr (hr.below hb) hlt
      have HX := hd hx
      clear hx
      cases hq : (s.toList == name.toList)
      · have HQ := hd hq
        go_wp2_with fail
        go_roundw
        case rel => exact ⟨k + 1, by omega, by go_num, any_next HX.out HP.out HQ.out, hb⟩
        case measure => simp [intOf]; omega
      · have HQ := hd hq
        go_wp2_with fail
        go_ret
        exact ⟨ret_bool (by unfold hasB; rw [any_stop HX.out HQ.out]), hb⟩
    · go_wp2_with fail
      go_ret
      exact ⟨ret_bool (by unfold hasB; rw [any_done (by rw [HL.out]; omega) HP.out]), hb⟩
set_option maxRecDepth 100000 in
theorem StageOfName_calls (a : Option Addr) (n c : Nat) (zs : List SL) (xss : List (List ByteArray)) (name : ByteArray) (w : World) (hr : RdSL w a n zs) (hn : n ≤ 1048576) (hi : InS w zs xss) (hs : SzL zs) (hm : name.size ≤ 1048576) :
    Calls Try.prog 7 #[.slice a n c, .string name] w fun e w' => e = .returned (.tuple #[.int .i64 (snZ xss name).1, .int .i64 (snZ xss name).2]) ∧ Below w.heap.size w w' := by
  have HL : Hid (xss.length = n) := hd (by rw [← hi.1, List.length_map]; exact hr.len)
  obtain ⟨R, hR⟩ : ∃ R, snZ xss name = R := ⟨_, rfl⟩
  rw [hR]
  unfold snZ at hR
  have HR := hd hR
  clear hR
  have HI := hd hi
  have HS := hd hs
  go_enter Try.func7, Try.ntmps7
  go_wp2_with fail
  refine (areLists_calls _ _ _ zs xss _ hr hn hi hs).mono ?_
  rintro e w1 ⟨he, b1⟩
  clear hi hs
  cases hl : listsB xss
  · rw [hl] at he
    subst he
    have FF : Hid (R = (0, 1)) := hd (by have := HR.out; rw [hl] at this; exact this.symm)
    clear hl
    go_wp2_with fail
    go_ret2
    exact ⟨ret_ii (by rw [FF.out]), b1⟩
  rw [hl] at he
  subst he
  have HLL := hd hl
  clear hl
  go_wp2_with fail
  refine (IsName_calls name _ hm).mono ?_
  rintro e w2 ⟨he, b2⟩
  replace b1 := bnext b1 b2 (Nat.le_refl _)
  clear b2
  cases hq : nameB name
  · rw [hq] at he
    subst he
    have FF : Hid (R = (0, 2)) := hd (by have := HR.out; rw [HLL.out, hq] at this; exact this.symm)
    clear hq
    go_wp2_with fail
    go_ret2
    exact ⟨ret_ii (by rw [FF.out]), b1⟩
  rw [hq] at he
  subst he
  have HG : Hid (goS name 0 xss = R) := hd (by have := HR.out; rw [HLL.out, hq] at this; exact this)
  clear hq HR HLL
  go_wp2_with fail
  go_loopw [18] (fun i wr => ∃ k : Nat, k ≤ n ∧ i = .int .i64 k ∧ goS name (k : Int) (xss.drop k) = R ∧ Below w.heap.size w wr) (fun i _ => n - (intOf i).toNat)
  case atStart => exact ⟨0, Nat.zero_le _, rfl, HG.out, b1⟩
  case round =>
    clear b1 HG
    obtain ⟨k, hk, rfl, hg, hb⟩ := hrel
    have HG := hd hg
    clear hg
    by_cases hlt : k < n
    · obtain ⟨bo, oo, z, rfl, hbl, hx, hc0⟩ := getSL (hr.below hb) hlt
      have HX := hd (HI.out.at_ hx)
      have HM := hd (List.mem_of_getElem? hx)
      clear hx
      go_wp2_with fail
      refine (hasName_calls _ _ _ z.2.2.2 name _ (HX.out.2.below hb) (HS.out z HM.out).1).mono ?_
      rintro e w3 ⟨he, b3⟩
      have hb3 := bnext hb b3 (Nat.le_refl _)
      clear b3 hc0
      cases hq : hasB z.2.2.2 name
      · rw [hq] at he
        subst he
        have HN := hd (goS_no HX.out.1 HG.out hq)
        clear hq
        go_wp2_with fail
        go_roundw
        case rel => exact ⟨k + 1, by omega, by go_num, HN.out, hb3⟩
        case measure => simp [intOf]; omega
      · rw [hq] at he
        subst he
        have FF := hd (goS_yes HX.out.1 HG.out hq)
        clear hq HG
        go_wp2_with fail
        go_ret2
        exact ⟨ret_ii (by rw [FF.out]), hb3⟩
    · have FF := hd (goS_end (by rw [HL.out]; omega) HG.out)
      clear HG
      go_wp2_with fail
      go_ret2
      exact ⟨ret_ii (by rw [FF.out]), hb⟩
end Go.Proofs.Ytomobdajnlfphaa
