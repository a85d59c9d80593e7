/- The arguments of a row, opened: structs of one-cell fields, slices of whatever elements. No program in sight. -/
import Derived.Test.YtbbnjddgioaoeaaDoorAux
import Derived.ProofKit
import Derived.OpenShut
import Derived.ShutString
import Derived.ChangeOld
import Derived.Below
import Derived.Deep.Slices
import Derived.Deep.Fields
namespace Go.Proofs.YtbbnjddgioaoeaaDoor
open Go.ChangeShapes Go.WideShapes Go.ChangeAt Go.RowKit Go.Deep
set_option linter.unusedVariables false

theorem len1 {α : Type} {l : List α} (h : l.length = 1) : ∃ a, l = [a] := List.length_eq_one_iff.1 h
theorem len2 {α : Type} {l : List α} (h : l.length = 2) : ∃ a b, l = [a, b] := by
  match l, h with
  | [a, b], _ => exact ⟨a, b, rfl⟩
theorem len3 {α : Type} {l : List α} (h : l.length = 3) : ∃ a b c, l = [a, b, c] := by
  match l, h with
  | [a, b, c], _ => exact ⟨a, b, c, rfl⟩
theorem len4 {α : Type} {l : List α} (h : l.length = 4) : ∃ a b c d, l = [a, b, c, d] := by
  match l, h with
  | [a, b, c, d], _ => exact ⟨a, b, c, d, rfl⟩
theorem len5 {α : Type} {l : List α} (h : l.length = 5) : ∃ a b c d e, l = [a, b, c, d, e] := by
  match l, h with
  | [a, b, c, d, e], _ => exact ⟨a, b, c, d, e, rfl⟩
theorem len6 {α : Type} {l : List α} (h : l.length = 6) : ∃ a b c d e f, l = [a, b, c, d, e, f] := by
  match l, h with
  | [a, b, c, d, e, f], _ => exact ⟨a, b, c, d, e, f, rfl⟩

section
variable {H : Type} {enc : TypeId × Value → H} {P : Program} {w : World} {base : Nat} {spare : Nat → Bool} {held : Bool}

theorem struct_cells {t : TypeId} {fs : Array Field} {fuel : Nat} {cs : List Value} {x : DataW H × List MemPlace} (ht : P.underlying t = some (.struct fs)) (hone : oneCellFields P fs = true) (hC : P.cellsOf t = fs.size)
    (h : DataW.trod enc P w base spare held fuel t cs = some x) :
    cs.length = fs.size ∧ ∀ (i : Nat) (f : Field), fs[i]? = some f → ∃ (n : Nat) (y : DataW H × List MemPlace), DataW.trod enc P w base spare held n f.type ((cs.drop i).take 1) = some y := by
  obtain ⟨ys, n, _, _, hl, hyl, hf⟩ := DataW.trod_struct ht h
  refine ⟨hl.trans hC, fun i f hi => ?_⟩
  obtain ⟨ho, hk⟩ := hone_of hone i f hi
  have hlt : i < fs.size := (Array.getElem?_eq_some_iff.1 hi).1
  have := hf i f hi
  rw [ho, hk, List.getElem?_eq_getElem (by omega)] at this
  exact ⟨n, _, this⟩

/-- A struct by value. -/
theorem open_struct {r : Reach} {b0 : Nat} {t : TypeId} {fs : Array Field} {v : Value} {d : DataW H} {p : List MemPlace} (ht : P.underlying t = some (.struct fs)) (hone : oneCellFields P fs = true) (hC : P.cellsOf t = fs.size)
    (hv : Value.okWide P w r b0 t v) (h : DataW.Trod enc P w base spare held t v d p) :
    ∃ cs : List Value, v = .agg cs.toArray ∧ cs.length = fs.size ∧ ∀ (i : Nat) (f : Field), fs[i]? = some f → ∃ (n : Nat) (y : DataW H × List MemPlace), DataW.trod enc P w base spare held n f.type ((cs.drop i).take 1) = some y := by
  obtain ⟨cs, rfl, _⟩ := okWide_struct ht hv
  obtain ⟨fuel, hf⟩ := h
  obtain ⟨h1, h2⟩ := struct_cells ht hone hC hf
  exact ⟨cs.toList, rfl, h1, h2⟩

theorem trod_int_cell {t : TypeId} {k : IntKind} {n : Nat} {v : Value} {y : DataW H × List MemPlace} (ht : P.underlying t = some (.int k)) (h : DataW.trod enc P w base spare held n t [v] = some y) : ∃ z, v = .int k z ∧ (Lit.int k z).wf = true := by
  obtain ⟨z, e, _, wz⟩ := DataW.trod_int ht h
  exact ⟨z, by simpa using e, wz⟩
theorem trod_bool_cell {t : TypeId} {n : Nat} {v : Value} {y : DataW H × List MemPlace} (ht : P.underlying t = some .bool) (h : DataW.trod enc P w base spare held n t [v] = some y) : ∃ z, v = .bool z := by
  obtain ⟨z, e, _⟩ := DataW.trod_bool ht h
  exact ⟨z, by simpa using e⟩
theorem trod_string_cell {t : TypeId} {n : Nat} {v : Value} {y : DataW H × List MemPlace} (ht : P.underlying t = some .string) (h : DataW.trod enc P w base spare held n t [v] = some y) : ∃ z : ByteArray, v = .string z ∧ z.size ≤ maxLen := by
  obtain ⟨z, e, _, wz⟩ := DataW.trod_string ht h
  exact ⟨z, by simpa using e, wz⟩

/-- A slice whose elements each read as some x of α, in sz cells. -/
theorem open_rows {α : Type} {sz : Nat} {cs : α → List Value} {Ok : α → Prop} {t e : TypeId} {fuel : Nat} {v : Value} {x : DataW H × List MemPlace} (ht : P.underlying t = some (.slice e)) (hC : P.cellsOf e = sz) (hpos : 0 < sz)
    (hel : ∀ (n : Nat) (cs' : List Value) (y : DataW H × List MemPlace), DataW.trod enc P w base spare held n e cs' = some y → ∃ z, cs z = cs' ∧ Ok z)
    (h : DataW.trod enc P w base spare held fuel t [v] = some x) : ∃ (a : Option Addr) (n c : Nat) (xs : List α), v = .slice a n c ∧ Rd sz cs w a n xs ∧ n ≤ c ∧ c ≤ maxLen ∧ ∀ z ∈ xs, Ok z := by
  rcases open_slice ht h with ⟨h0, _⟩ | ⟨a, len, cap, m, n, D, Pl, hcs, _, hl, hm, hmm, _, hi⟩
  · exact ⟨none, 0, 0, [], by simpa using h0, Rd.nil_, Nat.le_refl _, Nat.zero_le _, fun z hz => by cases hz⟩
  · have hle : len ≤ m := by rw [hmm]; split <;> omega
    have each : ∀ i, i < len → ∃ z : α, Ok z ∧ (cs z).length = sz ∧ ∀ j, j < sz → w.cell? (a.add (i * sz + j)) = (cs z)[j]? := by
      intro i hlt
      obtain ⟨cs', hc, htr⟩ := hi i (by omega)
      obtain ⟨z, hz, hok⟩ := hel _ _ _ htr
      obtain ⟨_, hlen, hat⟩ := World.cells?_some hc
      refine ⟨z, hok, by rw [hz, hlen, hC], fun j hj => ?_⟩
      have := hat j (by omega)
      rw [hC] at this
      rw [← Go.Deep.add_add, this, hz]
    have hget : ∀ i z, (List.ofFn fun i : Fin len => (each i.1 i.2).choose)[i]? = some z → i < len ∧ Ok z ∧ (cs z).length = sz ∧ ∀ j, j < sz → w.cell? (a.add (i * sz + j)) = (cs z)[j]? := by
      intro i z hz
      rw [List.getElem?_ofFn] at hz
      split at hz
      · rename_i hlt
        obtain rfl := Option.some.inj hz
        exact ⟨hlt, (each i hlt).choose_spec⟩
      · cases hz
    refine ⟨some a, len, cap, List.ofFn fun i : Fin len => (each i.1 i.2).choose, by simpa using hcs, ⟨List.length_ofFn, fun hp => ?_⟩, hl, hm, ?_⟩
    · obtain ⟨z0, _, hl0, hc0⟩ := each 0 hp
      have h00 := hc0 0 hpos
      rw [List.getElem?_eq_getElem (by omega)] at h00
      obtain ⟨b, off, spot⟩ := a
      rw [Nat.zero_mul, Nat.add_zero] at h00
      have hspot := World.cell?_spot h00
      have hsp : spot = none := by simpa [Addr.add] using hspot
      subst hsp
      refine ⟨b, off, rfl, fun i z hz j v hv => ?_⟩
      obtain ⟨_, _, hlz, hcell⟩ := hget i z hz
      have hj : j < sz := by rw [← hlz]; exact lt_of_get hv
      have := hcell j hj
      rw [hv, Addr.add_lit] at this
      exact this
    · intro z hz
      obtain ⟨i, hi'⟩ := List.mem_iff_getElem?.1 hz
      exact (hget i z hi').2.1
end
end Go.Proofs.YtbbnjddgioaoeaaDoor
