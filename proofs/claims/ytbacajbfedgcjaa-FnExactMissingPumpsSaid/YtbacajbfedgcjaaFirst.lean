/- FirstOver. -/
import Derived.Test.YtbacajbfedgcjaaVols
namespace Go.Proofs.Ytbacajbfedgcjaa
open Go.RowKit
set_option linter.unusedVariables false

theorem find_some {α : Type} {l : List α} {p : α → Bool} {k : Nat} {x : α} (h : l[k]? = some x) (hp : p x = true) (ha : (l.take k).all (fun y => !p y) = true) : l.findIdx? p = some k := by
  rw [List.findIdx?_eq_some_iff_getElem]
  obtain ⟨hk, e⟩ := List.getElem?_eq_some_iff.1 h
  refine ⟨hk, by rw [e]; exact hp, fun j hj => ?_⟩
  have := List.all_eq_true.1 ha l[j] (by
    rw [List.mem_iff_getElem?]
    exact ⟨j, by rw [List.getElem?_take, if_pos hj]; exact List.getElem?_eq_getElem (by omega)⟩)
  simpa using this
theorem find_none {α : Type} {l : List α} {p : α → Bool} (ha : l.all (fun y => !p y) = true) : l.findIdx? p = none := by
  rw [List.findIdx?_eq_none_iff]
  intro x hx
  have := List.all_eq_true.1 ha x hx
  simpa using this
/-- The first place where p holds. -/
def firstR (o : Option Nat) : Int × Int := match o with | some k => (k, 0) | none => (0, 3)
def overB (most v : Int) : Bool := decide (most < v)
def firstOver (s : Int) (xs : List W5) (most : Int) : Int × Int := if bothC xs s most = 0 then firstR ((volF s xs).2.findIdx? (overB most)) else (0, bothC xs s most)
theorem l13Most_calls (s : Int) (a : Option Addr) (n c : Nat) (xs : List W5) (e : Int) (w : World) (hr : RdWater w a n xs) (hn : n ≤ 1048576) :
    Calls Try.prog 56 #[.int .i64 s, .slice a n c, .int .i64 e] w fun e' w' => e' = .returned (.int .i64 (bothC xs s e)) ∧ Below w.heap.size w w' := by
  obtain ⟨z1, hz1⟩ : ∃ z, runC xs s = z := ⟨_, rfl⟩
  have b0 := runC_bd xs s
  rw [hz1] at b0
  have Hz1 := hd hz1
  clear hz1
  by_cases h0 : z1 = 0
  · subst h0
    cases hv : voB e
    · rw [bothC_bad Hz1.out hv]
      unfold voB at hv
      go_enter Try.func56, Try.ntmps56
      go_wp2_with fail
      refine (l13Start_calls s _ _ _ xs _ hr hn).mono ?_
      rintro e' w1 ⟨he, d1⟩
      rw [Hz1.out] at he
      subst he
      go_wp2_with (go_at_call 55; refine (l00In_calls _ _ _ _).mono ?_; rintro e w' ⟨rfl, rfl⟩)
      go_ret
      exact ⟨rfl, d1⟩
    · rw [bothC_good Hz1.out hv]
      unfold voB at hv
      go_enter Try.func56, Try.ntmps56
      go_wp2_with fail
      refine (l13Start_calls s _ _ _ xs _ hr hn).mono ?_
      rintro e' w1 ⟨he, d1⟩
      rw [Hz1.out] at he
      subst he
      go_wp2_with (go_at_call 55; refine (l00In_calls _ _ _ _).mono ?_; rintro e w' ⟨rfl, rfl⟩)
      go_ret
      exact ⟨rfl, d1⟩
  · rw [bothC_not0 (e := e) Hz1.out h0]
    have h0' : (z1 == 0) = false := by simpa using h0
    go_enter Try.func56, Try.ntmps56
    go_wp2_with fail
    refine (l13Start_calls s _ _ _ xs _ hr hn).mono ?_
    rintro e' w1 ⟨he, d1⟩
    rw [Hz1.out] at he
    subst he
    go_wp2_with fail
    go_ret
    exact ⟨rfl, d1⟩
theorem FirstOver_calls (s : Int) (a : Option Addr) (n c : Nat) (xs : List W5) (e : Int) (w : World) (hr : RdWater w a n xs) (hn : n ≤ 1048576) :
    Calls Try.prog 31 #[.int .i64 s, .slice a n c, .int .i64 e] w fun e' w' => e' = .returned (.tuple #[.int .i64 (firstOver s xs e).1, .int .i64 (firstOver s xs e).2]) ∧ Below w.heap.size w w' := by
  have Hl := hd hr.len
  have hmax := max_run xs s e
  have b1 := runC_bd xs s
  have b2 := runC_bd xs e
  obtain ⟨z1, hz1⟩ : ∃ z, runC xs s = z := ⟨_, rfl⟩
  obtain ⟨z2, hz2⟩ : ∃ z, runC xs e = z := ⟨_, rfl⟩
  rw [hz1] at hmax b1
  rw [hz2] at hmax b2
  have Hz1 := hd hz1
  have Hz2 := hd hz2
  have Hm := hd hmax
  clear hz1 hz2 hmax
  go_enter Try.func31, Try.ntmps31
  go_wp2_with fail
  refine (runCode_calls _ _ _ xs s _ hr hn).mono ?_
  rintro e' w1 ⟨he, b1⟩
  rw [Hz1.out] at he
  subst he
  go_wp2_with fail
  refine (runCode_calls _ _ _ xs e _ (hr.below b1) hn).mono ?_
  rintro e' w2 ⟨he, b2⟩
  rw [Hz2.out] at he
  subst he
  have hcase : (z1 < z2 ∧ bothC xs s e = z2) ∨ (z2 ≤ z1 ∧ bothC xs s e = z1) := by have := Hm.out; omega
  have d2 := bnext b1 b2 (Nat.le_refl _)
  rcases hcase with ⟨h12, hm⟩ | ⟨h12, hm⟩
  · have Hb := hd hm
    clear hm
    by_cases h0 : z2 = 0
    · subst h0
      obtain ⟨hv, hl, h3, h4⟩ := bothC_ok Hb.out
      rw [voB_iff] at h3 h4
      obtain ⟨h5, h6⟩ := h3
      obtain ⟨h7, h8⟩ := h4
      have hl' : n ≤ 100 := by rw [← Hl.out]; exact hl
      have Hv := hd hv
      clear hv hl
      go_wp2_with fail
      refine (volumes_calls s _ _ _ xs _ (hr.below d2) Hv.out hl' h5 h6).mono ?_
      rintro e' w3 ⟨A, m, c', rfl, ho, b3⟩
      have hm : m = n := by rw [← ho.len, volF_len, Hl.out]
      subst hm
      have d3 := bnext d2 b3 (Nat.le_refl _)
      have ha := ho.rd len_ci
      have Hlen := hd ho.len
      clear ho b3
      go_wp2_with fail
      go_loopw [25] (fun i wr => ∃ k : Nat, k ≤ m ∧ i = .int .i64 k ∧ ((volF s xs).2.take k).all (fun y => !overB e y) = true ∧ Below w.heap.size w wr ∧ Below w3.heap.size w3 wr) (fun i _ => m - (intOf i).toNat)
      case atStart => exact ⟨0, Nat.zero_le _, rfl, rfl, d3, Below.refl _ _⟩
      case round =>
        obtain ⟨k, hk, rfl, hall, hb, hb3⟩ := hrel
        have Ha := hd hall
        clear hall
        by_cases hlt : k < m
        · obtain ⟨b, o, f0, rfl, hbl, hx, hc0⟩ := getInt64 (ha.below hb3) hlt
          have Hx := hd hx
          clear hx
          by_cases hov : e < f0
          · go_wp2_with fail
            go_ret2
            have hf := find_some Hx.out (p := overB e) (by simp [overB, hov]) Ha.out
            exact ⟨ret_ints (by simp [firstOver, Hb.out, hf, firstR]) (by simp [firstOver, Hb.out, hf, firstR]), hb⟩
          · go_wp2_with fail
            go_roundw
            case rel => exact ⟨k + 1, by omega, by go_num, all_next Hx.out Ha.out (by simp [overB]; omega), hb, hb3⟩
            case measure => simp [intOf]; omega
        · go_wp2_with fail
          go_ret2
          have hf := find_none (p := overB e) (all_done Hlen.out (by omega) Ha.out)
          exact ⟨ret_ints (by simp [firstOver, Hb.out, hf, firstR]) (by simp [firstOver, Hb.out, hf, firstR]), hb⟩
    · have h0' : (z2 != 0) = true := by simpa using h0
      go_wp2_with fail
      go_ret2
      exact ⟨ret_ints (by simp [firstOver, Hb.out, h0]) (by simp [firstOver, Hb.out, h0]), d2⟩
  · have Hb := hd hm
    clear hm
    by_cases h0 : z1 = 0
    · subst h0
      obtain ⟨hv, hl, h3, h4⟩ := bothC_ok Hb.out
      rw [voB_iff] at h3 h4
      obtain ⟨h5, h6⟩ := h3
      obtain ⟨h7, h8⟩ := h4
      have hl' : n ≤ 100 := by rw [← Hl.out]; exact hl
      have Hv := hd hv
      clear hv hl
      go_wp2_with fail
      refine (volumes_calls s _ _ _ xs _ (hr.below d2) Hv.out hl' h5 h6).mono ?_
      rintro e' w3 ⟨A, m, c', rfl, ho, b3⟩
      have hm : m = n := by rw [← ho.len, volF_len, Hl.out]
      subst hm
      have d3 := bnext d2 b3 (Nat.le_refl _)
      have ha := ho.rd len_ci
      have Hlen := hd ho.len
      clear ho b3
      go_wp2_with fail
      go_loopw [25] (fun i wr => ∃ k : Nat, k ≤ m ∧ i = .int .i64 k ∧ ((volF s xs).2.take k).all (fun y => !overB e y) = true ∧ Below w.heap.size w wr ∧ Below w3.heap.size w3 wr) (fun i _ => m - (intOf i).toNat)
      case atStart => exact ⟨0, Nat.zero_le _, rfl, rfl, d3, Below.refl _ _⟩
      case round =>
        obtain ⟨k, hk, rfl, hall, hb, hb3⟩ := hrel
        have Ha := hd hall
        clear hall
        by_cases hlt : k < m
        · obtain ⟨b, o, f0, rfl, hbl, hx, hc0⟩ := getInt64 (ha.below hb3) hlt
          have Hx := hd hx
          clear hx
          by_cases hov : e < f0
          · go_wp2_with fail
            go_ret2
            have hf := find_some Hx.out (p := overB e) (by simp [overB, hov]) Ha.out
            exact ⟨ret_ints (by simp [firstOver, Hb.out, hf, firstR]) (by simp [firstOver, Hb.out, hf, firstR]), hb⟩
          · go_wp2_with fail
            go_roundw
            case rel => exact ⟨k + 1, by omega, by go_num, all_next Hx.out Ha.out (by simp [overB]; omega), hb, hb3⟩
            case measure => simp [intOf]; omega
        · go_wp2_with fail
          go_ret2
          have hf := find_none (p := overB e) (all_done Hlen.out (by omega) Ha.out)
          exact ⟨ret_ints (by simp [firstOver, Hb.out, hf, firstR]) (by simp [firstOver, Hb.out, hf, firstR]), hb⟩
    · have h0' : (z1 != 0) = true := by simpa using h0
      go_wp2_with fail
      go_ret2
      exact ⟨ret_ints (by simp [firstOver, Hb.out, h0]) (by simp [firstOver, Hb.out, h0]), d2⟩
theorem specFirstOver_calls (s : Int) (a : Option Addr) (n c : Nat) (xs : List W5) (e : Int) (w : World) (hr : RdWater w a n xs) (hn : n ≤ 1048576) :
    Calls Try.prog 30 #[.int .i64 s, .slice a n c, .int .i64 e] w fun e' w' => e' = .returned (.tuple #[.int .i64 (firstOver s xs e).1, .int .i64 (firstOver s xs e).2]) ∧ Below w.heap.size w w' := by
  have Hl := hd hr.len
  obtain ⟨z1, hz1⟩ : ∃ z, bothC xs s e = z := ⟨_, rfl⟩
  have b0 := bothC_bd xs s e
  rw [hz1] at b0
  have Hb := hd hz1
  clear hz1
  go_enter Try.func30, Try.ntmps30
  go_wp2_with fail
  refine (l13Most_calls s _ _ _ xs e _ hr hn).mono ?_
  rintro e' w1 ⟨he, b1⟩
  rw [Hb.out] at he
  subst he
  by_cases h0 : z1 = 0
  · subst h0
    obtain ⟨hv, hl, h3, h4⟩ := bothC_ok Hb.out
    rw [voB_iff] at h3 h4
    obtain ⟨h5, h6⟩ := h3
    obtain ⟨h7, h8⟩ := h4
    have hl' : n ≤ 100 := by rw [← Hl.out]; exact hl
    have Hv := hd hv
    clear hv hl
    go_wp2_with fail
    go_loopw [0, 9] (fun sv i wr => ∃ k : Nat, ∃ z : Int, ∃ l : List Int, k ≤ n ∧ i = .int .i64 k ∧ sv = .int .i64 z ∧ volF s (xs.take k) = (z, l) ∧ l.all (fun y => !overB e y) = true ∧ Below w.heap.size w wr) (fun _ i _ => n - (intOf i).toNat)
    case atStart => exact ⟨0, s, [], Nat.zero_le _, rfl, rfl, rfl, rfl, b1⟩
    case round =>
      obtain ⟨k, z, l, hk, rfl, rfl, hs, hall, hb⟩ := hrel
      have hbd := volF_bd Hv.out h5 h6 k (by rw [Hl.out]; exact hk)
      rw [hs] at hbd
      have q1 := hbd.1
      have q2 := hbd.2.1
      have q3 := hbd.2.2
      simp only [] at q1 q2 q3
      have Hs := hd hs
      have Hall := hd hall
      have Hk := hd q3
      clear hs hbd hall q3
      by_cases hlt : k < n
      · obtain ⟨b, o, f0, f1, f2, f3, f4, rfl, hbl, hx, hc0, hc1, hc2, hc3, hc4⟩ := getWater (hr.below hb) hlt
        have hw := all_get Hv.out hx
        have hsm := netW_small hw
        have hnb := waB_nb hw
        obtain ⟨q, hq⟩ : ∃ q, netW (f0, f1, f2, f3, f4) = q := ⟨_, rfl⟩
        rw [hq] at hsm
        have m1 := hsm.1
        have m2 := hsm.2
        have Hq := hd hq
        have Hnb := hd hnb
        have Hnext : Hid (volF s (xs.take (k + 1)) = (z + q, l ++ [z + q])) := by rw [volF_next hx, Hs.out]; unfold volS; rw [hq]; exact rfl
        clear hx hw hsm hq hnb
        go_wp2_with fail
        refine (l13Net_calls _ _ f0 f1 f2 f3 f4 _ Hnb.out hc0 hc1 hc2 hc3 hc4).mono ?_
        rintro e' w2 ⟨he, b2⟩
        rw [Hq.out] at he
        subst he
        have hb1 := bnext hb b2 (Nat.le_refl _)
        clear b2 hc0 hc1 hc2 hc3 hc4
        by_cases hov : e < z + q
        · have hf : (volF s xs).2.findIdx? (overB e) = some k := by
            obtain ⟨r, hr'⟩ := volF_pre s xs (k + 1)
            rw [hr', Hnext.out]
            have hk' := Hk.out
            refine find_some (x := z + q) ?_ (by simp [overB, hov]) ?_
            · simp [← hk']
            · simp only [List.append_assoc]
              rw [← hk', List.take_left]
              exact Hall.out
          have Hf := hd hf
          clear hf
          go_wp2_with fail
          go_ret2
          exact ⟨ret_ints (by simp [firstOver, Hb.out, Hf.out, firstR]) (by simp [firstOver, Hb.out, Hf.out, firstR]), hb1⟩
        · go_wp2_with fail
          go_roundw
          case rel => exact ⟨k + 1, z + q, l ++ [z + q], by omega, by go_num, rfl, Hnext.out, by rw [List.all_append, Hall.out]; simp [overB]; omega, hb1⟩
          case measure => simp [intOf]; omega
      · obtain rfl : k = n := by omega
        have e1 := Hs.out
        rw [List.take_of_length_le (by rw [Hl.out]; exact Nat.le_refl _)] at e1
        have hf : (volF s xs).2.findIdx? (overB e) = none := by rw [e1]; exact find_none Hall.out
        have Hf := hd hf
        clear hf e1
        go_wp2_with fail
        go_ret2
        exact ⟨ret_ints (by simp [firstOver, Hb.out, Hf.out, firstR]) (by simp [firstOver, Hb.out, Hf.out, firstR]), hb⟩
  · have h0' : (z1 != 0) = true := by simpa using h0
    go_wp2_with fail
    go_ret2
    exact ⟨ret_ints (by simp [firstOver, Hb.out, h0]) (by simp [firstOver, Hb.out, h0]), b1⟩
end Go.Proofs.Ytbacajbfedgcjaa
