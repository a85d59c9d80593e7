/- The parts of a text between blanks: the reference's l01Split. -/
import Derived.Test.YtbbnjddgioaoeaaDoorNum
import Derived.Test.YtbbnjddgioaoeaaDoorStr
namespace Go.Proofs.YtbbnjddgioaoeaaDoor
open Go.RowKit
set_option linter.unusedVariables false

theorem infoStr : (Tryd.prog.info? 9).map (fun i => (i.zero, i.size, i.bytes)) = some (some (.string ⟨#[]⟩), 1, 16) := by kernel_rfl
theorem one_cStr : ∀ y, ∀ u ∈ cStr y, u.oneCell' = true := by intro y u hu; simp [cStr] at hu; subst hu; rfl
theorem sp_blank {l out : List (List UInt8)} {r : List UInt8} {cur : List UInt8} {b : UInt8} {R : List (List UInt8)} (hb : b = 32) (h : out ++ sp cur (b :: r) = R) : (out ++ [cur]) ++ sp [] r = R := by
  subst hb
  rw [← h, sp, if_pos rfl]
  simp
theorem sp_other {out : List (List UInt8)} {r : List UInt8} {cur : List UInt8} {b : UInt8} {R : List (List UInt8)} (hb : b ≠ 32) (h : out ++ sp cur (b :: r) = R) : out ++ sp (cur ++ [b]) r = R := by
  rw [← h, sp, if_neg hb]
set_option maxRecDepth 100000 in
set_option maxHeartbeats 1000000 in
theorem l01Split_calls (l : List UInt8) (w : World) (hl : l.length ≤ 1048576) :
    Calls Tryd.prog 32 #[.string (mkS l), .int .u8 32] w fun e w' => ∃ A n c, e = .returned (.slice A n c) ∧ Own 1 cStr 9 w' w.heap.size w'.heap.size A n c ((sp [] l).map mkS) ∧ n ≤ 1048577 ∧ Below w.heap.size w w' := by
  obtain ⟨i0, hi, hz0, hz1, hz2⟩ := info_parts infoStr
  have hS := mkS_size l
  have HLEN : Hid ((sp [] l).length ≤ 1048577) := hd (by have := sp_len l []; omega)
  go_enter Tryd.func32, Tryd.ntmps32
  go_wp2_with fail
  go_loopw [5, 6, 7] (fun s5 s6 s7 wr => ∃ i fr m : Nat, ∃ A c, ∃ out : List (List UInt8), i ≤ l.length ∧ fr ≤ i ∧ m ≤ i ∧ s7 = .int .i64 i ∧ s6 = .int .i64 fr ∧ s5 = .slice A m c ∧ Own 1 cStr 9 wr w.heap.size wr.heap.size A m c (out.map mkS) ∧ out ++ sp ((l.drop fr).take (i - fr)) (l.drop i) = sp [] l ∧ Below w.heap.size w wr) (fun _ _ i _ => l.length - (intOf i).toNat)
  case atStart => exact ⟨0, 0, 0, _, 0, [], Nat.zero_le _, Nat.le_refl _, Nat.le_refl _, rfl, rfl, rfl, Own.empty w _ rfl (Nat.le_refl _) (by simp), by simp, (Below.refl _ _).alloc (Nat.le_refl _) _⟩
  case round =>
    obtain ⟨i, fr, m, A, c', out, hil, hfr, hmi, rfl, rfl, rfl, ho, hsp, hb⟩ := hrel
    have HO := hd ho
    have HSP := hd hsp
    clear ho hsp
    by_cases hlt : i < l.length
    · have hks : i < (mkS l).size := by omega
      obtain ⟨d, hbd⟩ : ∃ d, (l[i]'hlt).toNat = d := ⟨_, rfl⟩
      have hcc : ((mkS l)[i]'hks).toNat = d := by rw [mkS_get hlt, hbd]
      have HBD := hd hbd
      have j1 : (0 : Int) ≤ (i : Int) := by omega
      have j2 : (i : Int) < (l.length : Int) := by omega
      have HDR := hd (drop_at hlt)
      clear hbd
      by_cases h32 : d = 32
      · have d5 : ((d : Int) == 32) = true := by simp; omega
        have hb32 : l[i]'hlt = 32 := UInt8.toNat_inj.1 (by rw [HBD.out, h32]; rfl)
        have HN : Hid ((out ++ [(l.drop fr).take (i - fr)]) ++ sp [] (l.drop (i + 1)) = sp [] l) := hd (sp_blank (l := []) hb32 (by rw [← HDR.out]; exact HSP.out))
        have j3 : (fr : Int) ≤ (i : Int) := by omega
        clear h32 hb32
        obtain ⟨W1, hW⟩ : ∃ W, W = wr := ⟨_, rfl⟩
        subst hW
        go_wp2_with (at_builtin; refine wpList_app _ rfl _ _ 55 rfl 9 i0 _ 1 16 Tryd.underlying55 hi hz0 hz1 hz2 rfl (by decide) len_cStr one_cStr w.heap.size W1.heap.size A m c' _ rfl (HO.out.alloc _) W1.heap.size ((mkS l).extract fr i) rfl (app_new _ _ _) (by omega) (by unfold maxLen; omega) (by have := hb.size; simp; omega) ?_)
        intro A' c'' w2 ho2 hg2
        have hb2 := below_app (hb.alloc hb.size _) (HO.out.alloc _) hg2 (Nat.le_refl _) (Nat.le_refl _)
        have HO2 := hd ho2
        clear ho2 hg2
        go_wp2_with fail
        go_roundw
        case rel => exact ⟨i + 1, i + 1, m + 1, A', c'', out ++ [(l.drop fr).take (i - fr)], by omega, by omega, by omega, by go_num, by go_num, rfl, by rw [List.map_append, List.map_cons, List.map_nil, ← mkS_ext]; exact HO2.out, by rw [Nat.sub_self, List.take_zero]; exact HN.out, hb2⟩
        case measure => simp [intOf]; omega
      · have d5 : ((d : Int) == 32) = false := by simp; omega
        have hb32 : l[i]'hlt ≠ 32 := fun e => h32 (by rw [← HBD.out, e]; rfl)
        have HN : Hid (out ++ sp ((l.drop fr).take (i + 1 - fr)) (l.drop (i + 1)) = sp [] l) := hd (by
          rw [cur_next hlt hfr]
          exact sp_other hb32 (by rw [← HDR.out]; exact HSP.out))
        clear h32 hb32
        go_wp2_with fail
        go_roundw
        case rel => exact ⟨i + 1, fr, m, A, c', out, by omega, by omega, by omega, by go_num, rfl, rfl, HO.out, HN.out, hb⟩
        case measure => simp [intOf]; omega
    · obtain rfl : i = l.length := by omega
      have HN : Hid (out ++ [(l.drop fr).take (l.length - fr)] = sp [] l) := hd (by
        rw [← HSP.out, List.drop_length]
        rfl)
      have j3 : (fr : Int) ≤ (l.length : Int) := by omega
      have j4 : (0 : Int) ≤ (fr : Int) := by omega
      obtain ⟨W1, hW⟩ : ∃ W, W = wr := ⟨_, rfl⟩
      subst hW
      go_wp2_with (at_builtin; refine wpList_app _ rfl _ _ 55 rfl 9 i0 _ 1 16 Tryd.underlying55 hi hz0 hz1 hz2 rfl (by decide) len_cStr one_cStr w.heap.size W1.heap.size A m c' _ rfl (HO.out.alloc _) W1.heap.size ((mkS l).extract fr l.length) rfl (app_new _ _ _) (by omega) (by unfold maxLen; omega) (by have := hb.size; simp; omega) ?_)
      intro A' c'' w2 ho2 hg2
      have hb2 := below_app (hb.alloc hb.size _) (HO.out.alloc _) hg2 (Nat.le_refl _) (Nat.le_refl _)
      have HO2 := hd ho2
      clear ho2 hg2
      go_wp2_with fail
      go_ret
      exact ⟨A', m + 1, c'', rfl, by rw [← HN.out, List.map_append, List.map_cons, List.map_nil, ← mkS_ext]; exact HO2.out, by omega, hb2⟩
end Go.Proofs.YtbbnjddgioaoeaaDoor
