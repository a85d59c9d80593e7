/- WarningTime. -/
import Derived.Test.YtmbonkklfnhkdaaAlarmOf
namespace Go.Proofs.Ytmbonkklfnhkdaa
open Go.RowKit
set_option linter.unusedVariables false

theorem find_some {α : Type} {l : List α} {p : α → Bool} {k : Nat} {x : α} (h : l[k]? = some x) (hp : p x = true) (ha : (l.take k).all (fun y => !p y) = true) : l.findIdx? p = some k := by
  rw [List.findIdx?_eq_some_iff_getElem]
  obtain ⟨hk, e⟩ := List.getElem?_eq_some_iff.1 h
  refine ⟨hk, by rw [e]; exact hp, fun j hj => ?_⟩
  have := List.all_eq_true.1 ha l[j] (by
    rw [List.mem_iff_getElem?]
    exact ⟨j, by rw [List.getElem?_take, if_pos hj]; exact List.getElem?_eq_getElem (by omega)⟩)
  simpa using this
theorem find_none {α : Type} {l : List α} {p : α → Bool} (ha : l.all (fun y => !p y) = true) : l.findIdx? p = none := by
  rw [List.findIdx?_eq_none_iff]
  intro x hx
  have := List.all_eq_true.1 ha x hx
  simpa using this
def firstR (o : Option Nat) : Int × Int := match o with | some k => (k, 0) | none => (0, 3)
def reach (xs : List Int) (st : Int) (y : Int) : Bool := decide (st ≤ (stageN xs y : Int))
def warnT (xs ys : List Int) (st : Int) : Int × Int := if alC xs ys = 0 then (if inB st 1 xs.length then firstR (ys.findIdx? (reach xs st)) else (0, 2)) else (0, alC xs ys)
theorem alC_len {xs ys : List Int} (h : alC xs ys = 0) : xs.length ≤ 5 := by
  unfold alC at h
  split at h
  · rename_i h1
    simp only [alarmsB, Bool.and_eq_true, inB_iff] at h1
    omega
  · cases h
theorem l16Code_calls (a : Option Addr) (n c : Nat) (xs : List Int) (b : Option Addr) (m d : Nat) (ys : List Int) (w : World) (ha : RdInt64 w a n xs) (hn : n ≤ 1048576) (hb : RdInt64 w b m ys) (hm : m ≤ 1048576) :
    Calls Try.prog 57 #[.slice a n c, .slice b m d, .int .i64 0] w fun e w' => e = .returned (.int .i64 (alC xs ys)) ∧ Below w.heap.size w w' := by
  have h00 : inB 0 0 100 = true := rfl
  go_enter Try.func57, Try.ntmps57
  go_wp2_with fail
  refine (l16Ok_calls _ _ _ xs _ ha hn).mono ?_
  rintro e w1 ⟨rfl, b1⟩
  cases hv : alarmsB xs
  · have Hv := hd hv
    clear hv
    go_wp2_with fail
    go_ret
    exact ⟨ret_int (by simp [alC, Hv.out]), b1⟩
  · have Hv := hd hv
    clear hv
    go_wp2_with fail
    refine (l16Levels_calls _ _ _ ys _ (hb.below b1) hm).mono ?_
    rintro e w2 ⟨rfl, b2⟩
    have d2 := bnext b1 b2 (Nat.le_refl _)
    cases hl : levB ys
    · have Hl := hd hl
      clear hl
      go_wp2_with fail
      go_ret
      exact ⟨ret_int (by simp [alC, Hv.out, Hl.out]), d2⟩
    · have Hl := hd hl
      clear hl
      go_wp2_with (go_at_call 56; refine (l00In_calls _ _ _ _).mono ?_; rintro e w' ⟨rfl, rfl⟩)
      go_ret
      exact ⟨ret_int (by simp [alC, Hv.out, Hl.out]), d2⟩
theorem WarningTime_calls (a : Option Addr) (n c : Nat) (xs : List Int) (b : Option Addr) (m d : Nat) (ys : List Int) (st : Int) (w : World) (ha : RdInt64 w a n xs) (hn : n ≤ 1048576) (hb : RdInt64 w b m ys) (hm : m ≤ 1048576) :
    Calls Try.prog 29 #[.slice a n c, .slice b m d, .int .i64 st] w fun e w' => e = .returned (.tuple #[.int .i64 (warnT xs ys st).1, .int .i64 (warnT xs ys st).2]) ∧ Below w.heap.size w w' := by
  have Ha := hd ha.len
  have Hb := hd hb.len
  obtain ⟨z, hz⟩ : ∃ z, alC xs ys = z := ⟨_, rfl⟩
  have Hz := hd hz
  clear hz
  go_enter Try.func29, Try.ntmps29
  go_wp2_with fail
  refine (alarmCode_calls _ _ _ xs _ _ _ ys _ ha hn hb hm).mono ?_
  rintro e w1 ⟨he, b1⟩
  rw [Hz.out] at he
  subst he
  by_cases h0 : z = 0
  · subst h0
    cases hi : inB st 1 n
    · have K : Hid (warnT xs ys st = (0, 2)) := hd (by unfold warnT; rw [if_pos Hz.out, Ha.out, hi]; rfl)
      go_wp2_with (first | (go_at_call 39; refine (sizeInt64_calls _ _ _ _ (by omega)).mono ?_; rintro e w' ⟨rfl, rfl⟩) | (go_at_call 38; refine (in_calls _ _ _ _).mono ?_; rintro e w' ⟨rfl, rfl⟩))
      go_ret2
      exact ⟨ret_ints (by rw [K.out]) (by rw [K.out]), b1⟩
    · have K : Hid (warnT xs ys st = firstR (ys.findIdx? (reach xs st))) := hd (by unfold warnT; rw [if_pos Hz.out, Ha.out, hi]; rfl)
      go_wp2_with (first | (go_at_call 39; refine (sizeInt64_calls _ _ _ _ (by omega)).mono ?_; rintro e w' ⟨rfl, rfl⟩) | (go_at_call 38; refine (in_calls _ _ _ _).mono ?_; rintro e w' ⟨rfl, rfl⟩))
      go_loopw [24] (fun i wr => ∃ k : Nat, k ≤ m ∧ i = .int .i64 k ∧ (ys.take k).all (fun y => !reach xs st y) = true ∧ Below w.heap.size w wr) (fun i _ => m - (intOf i).toNat)
      case atStart => exact ⟨0, Nat.zero_le _, rfl, rfl, b1⟩
      case round =>
        obtain ⟨k, hk, rfl, hp, hb'⟩ := hrel
        have Hp := hd hp
        clear hp
        by_cases hlt : k < m
        · obtain ⟨b1, o1, f0, rfl, hbl, hx, hc0⟩ := getInt64 (hb.below hb') hlt
          have Hx := hd hx
          clear hx
          go_wp2_with fail
          refine (stageOf_calls _ _ _ xs f0 _ (ha.below hb') hn).mono ?_
          rintro e w2 ⟨rfl, b2⟩
          have d2 := bnext hb' b2 (Nat.le_refl _)
          by_cases hs : st ≤ (stageN xs f0 : Int)
          · have hf := find_some Hx.out (p := reach xs st) (by simp [reach, hs]) Hp.out
            have Hf := hd hf
            clear hf
            go_wp2_with fail
            go_ret2
            exact ⟨ret_ints (by rw [K.out, Hf.out]; rfl) (by rw [K.out, Hf.out]; rfl), d2⟩
          · go_wp2_with fail
            go_roundw
            case rel => exact ⟨k + 1, by omega, by go_num, all_take_next Hx.out (by simp [reach]; omega) Hp.out, d2⟩
            case measure => simp [intOf]; omega
        · have hf := find_none (p := reach xs st) (all_take_done (by rw [Hb.out]; omega) Hp.out)
          have Hf := hd hf
          clear hf
          go_wp2_with fail
          go_ret2
          exact ⟨ret_ints (by rw [K.out, Hf.out]; rfl) (by rw [K.out, Hf.out]; rfl), hb'⟩
  · have h0' : (z != 0) = true := by simpa using h0
    have K : Hid (warnT xs ys st = (0, z)) := hd (by unfold warnT; rw [Hz.out, if_neg h0])
    go_wp2_with fail
    go_ret2
    exact ⟨ret_ints (by rw [K.out]) (by rw [K.out]), b1⟩
theorem specWarningTime_calls (a : Option Addr) (n c : Nat) (xs : List Int) (b : Option Addr) (m d : Nat) (ys : List Int) (st : Int) (w : World) (ha : RdInt64 w a n xs) (hn : n ≤ 1048576) (hb : RdInt64 w b m ys) (hm : m ≤ 1048576) :
    Calls Try.prog 28 #[.slice a n c, .slice b m d, .int .i64 st] w fun e w' => e = .returned (.tuple #[.int .i64 (warnT xs ys st).1, .int .i64 (warnT xs ys st).2]) ∧ Below w.heap.size w w' := by
  have Ha := hd ha.len
  have Hb := hd hb.len
  obtain ⟨z, hz⟩ : ∃ z, alC xs ys = z := ⟨_, rfl⟩
  have Hz := hd hz
  clear hz
  go_enter Try.func28, Try.ntmps28
  go_wp2_with fail
  refine (l16Code_calls _ _ _ xs _ _ _ ys _ ha hn hb hm).mono ?_
  rintro e w1 ⟨he, b1⟩
  rw [Hz.out] at he
  subst he
  by_cases h0 : z = 0
  · subst h0
    cases hi : inB st 1 n
    · have K : Hid (warnT xs ys st = (0, 2)) := hd (by unfold warnT; rw [if_pos Hz.out, Ha.out, hi]; rfl)
      go_wp2_with (go_at_call 56; refine (l00In_calls _ _ _ _).mono ?_; rintro e w' ⟨rfl, rfl⟩)
      go_ret2
      exact ⟨ret_ints (by rw [K.out]) (by rw [K.out]), b1⟩
    · have K : Hid (warnT xs ys st = firstR (ys.findIdx? (reach xs st))) := hd (by unfold warnT; rw [if_pos Hz.out, Ha.out, hi]; rfl)
      go_wp2_with (go_at_call 56; refine (l00In_calls _ _ _ _).mono ?_; rintro e w' ⟨rfl, rfl⟩)
      go_loopw [9] (fun i wr => ∃ k : Nat, k ≤ m ∧ i = .int .i64 k ∧ (ys.take k).all (fun y => !reach xs st y) = true ∧ Below w.heap.size w wr) (fun i _ => m - (intOf i).toNat)
      case atStart => exact ⟨0, Nat.zero_le _, rfl, rfl, b1⟩
      case round =>
        obtain ⟨k, hk, rfl, hp, hb'⟩ := hrel
        have Hp := hd hp
        clear hp
        by_cases hlt : k < m
        · obtain ⟨b1, o1, f0, rfl, hbl, hx, hc0⟩ := getInt64 (hb.below hb') hlt
          have Hx := hd hx
          clear hx
          go_wp2_with fail
          refine (l16Stage_calls _ _ _ xs f0 _ (ha.below hb') hn).mono ?_
          rintro e w2 ⟨rfl, rfl⟩
          have d2 := hb'
          by_cases hs : st ≤ (stageN xs f0 : Int)
          · have hf := find_some Hx.out (p := reach xs st) (by simp [reach, hs]) Hp.out
            have Hf := hd hf
            clear hf
            go_wp2_with fail
            go_ret2
            exact ⟨ret_ints (by rw [K.out, Hf.out]; rfl) (by rw [K.out, Hf.out]; rfl), d2⟩
          · go_wp2_with fail
            go_roundw
            case rel => exact ⟨k + 1, by omega, by go_num, all_take_next Hx.out (by simp [reach]; omega) Hp.out, d2⟩
            case measure => simp [intOf]; omega
        · have hf := find_none (p := reach xs st) (all_take_done (by rw [Hb.out]; omega) Hp.out)
          have Hf := hd hf
          clear hf
          go_wp2_with fail
          go_ret2
          exact ⟨ret_ints (by rw [K.out, Hf.out]; rfl) (by rw [K.out, Hf.out]; rfl), hb'⟩
  · have h0' : (z != 0) = true := by simpa using h0
    have h0'' : (z == 0) = false := by simpa using h0
    have K : Hid (warnT xs ys st = (0, z)) := hd (by unfold warnT; rw [Hz.out, if_neg h0])
    go_wp2_with fail
    go_ret2
    exact ⟨ret_ints (by rw [K.out]) (by rw [K.out]), b1⟩
end Go.Proofs.Ytmbonkklfnhkdaa
