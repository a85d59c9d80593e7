/- Lists of strings, and lists of those, as they lie in memory. -/
import Derived.Test.YtbbnjddgioaoeaaDoorBasic
import Derived.Test.YtbbnjddgioaoeaaDoorOpen
namespace Go.Proofs.YtbbnjddgioaoeaaDoor
open Go.ChangeShapes Go.WideShapes Go.ChangeAt Go.RowKit Go.Deep
set_option linter.unusedVariables false

def cStr (s : ByteArray) : List Value := [.string s]
abbrev RdStr := Rd 1 cStr
theorem len_cStr (x : ByteArray) : (cStr x).length = 1 := rfl
theorem getStr {w : World} {a : Option Addr} {n : Nat} {xs : List ByteArray} (h : RdStr w a n xs) {k : Nat} (hk : k < n) :
    ∃ (b o : Nat) (s : ByteArray), a = some ⟨b, o, none⟩ ∧ b < w.heap.size ∧ xs[k]? = some s ∧ w.cell? ⟨b, o + k, none⟩ = some (.string s) := by
  obtain ⟨b, o, e, hc⟩ := h.2 (by omega)
  have hl : k < xs.length := by have := h.1; omega
  have hx := List.getElem?_eq_getElem hl
  have h0 := hc k _ hx 0 (.string xs[k]) rfl
  simp only [Nat.mul_one, Nat.add_zero] at h0
  exact ⟨b, o, xs[k], e, World.block_lt_of_cell? w _ h0, hx, h0⟩
/-- A slice of strings as a value, and what it reads as. -/
abbrev SL := Option Addr × Nat × Nat × List ByteArray
def cSL (z : SL) : List Value := [.slice z.1 z.2.1 z.2.2.1]
abbrev RdSL := Rd 1 cSL
theorem getSL {w : World} {a : Option Addr} {n : Nat} {xs : List SL} (h : RdSL w a n xs) {k : Nat} (hk : k < n) :
    ∃ (b o : Nat) (s : SL), a = some ⟨b, o, none⟩ ∧ b < w.heap.size ∧ xs[k]? = some s ∧ w.cell? ⟨b, o + k, none⟩ = some (.slice s.1 s.2.1 s.2.2.1) := by
  obtain ⟨b, o, e, hc⟩ := h.2 (by omega)
  have hl : k < xs.length := by have := h.1; omega
  have hx := List.getElem?_eq_getElem hl
  have h0 := hc k _ hx 0 (.slice xs[k].1 xs[k].2.1 xs[k].2.2.1) rfl
  simp only [Nat.mul_one, Nat.add_zero] at h0
  exact ⟨b, o, xs[k], e, World.block_lt_of_cell? w _ h0, hx, h0⟩
/-- The texts of a list of lists; each lies where its slice says. -/
def InS (w : World) (zs : List SL) (xss : List (List ByteArray)) : Prop := zs.map (fun z => z.2.2.2) = xss ∧ ∀ z ∈ zs, RdStr w z.1 z.2.1 z.2.2.2
theorem InS.below {w w' : World} {zs : List SL} {xss : List (List ByteArray)} (h : InS w zs xss) (hb : Below w.heap.size w w') : InS w' zs xss := ⟨h.1, fun z hz => (h.2 z hz).below hb⟩
theorem InS.at_ {w : World} {zs : List SL} {xss : List (List ByteArray)} (h : InS w zs xss) {k : Nat} {z : SL} (hz : zs[k]? = some z) : xss[k]? = some z.2.2.2 ∧ RdStr w z.1 z.2.1 z.2.2.2 := by
  refine ⟨?_, h.2 z (List.mem_of_getElem? hz)⟩
  rw [← h.1, List.getElem?_map, hz]
  rfl
section
variable {H : Type} {enc : TypeId × Value → H} {P : Program} {w : World} {base : Nat} {spare : Nat → Bool} {held : Bool}
def OkStr (s : ByteArray) : Prop := s.size ≤ maxLen
theorem el_string {t : TypeId} (ht : P.underlying t = some .string) (hC : P.cellsOf t = 1) (n : Nat) (cs' : List Value) (y : DataW H × List MemPlace) (h : DataW.trod enc P w base spare held n t cs' = some y) : ∃ z, cStr z = cs' ∧ OkStr z := by
  obtain ⟨z, e, _, wz⟩ := DataW.trod_string ht h
  exact ⟨z, e.symm, wz⟩
def OkSL (w : World) (z : SL) : Prop := RdStr w z.1 z.2.1 z.2.2.2 ∧ z.2.1 ≤ z.2.2.1 ∧ z.2.2.1 ≤ maxLen ∧ ∀ s ∈ z.2.2.2, OkStr s
theorem el_slices {t e : TypeId} (ht : P.underlying t = some (.slice e)) (hCt : P.cellsOf t = 1) (he : P.underlying e = some .string) (hC : P.cellsOf e = 1) (n : Nat) (cs' : List Value) (y : DataW H × List MemPlace) (h : DataW.trod enc P w base spare held n t cs' = some y) : ∃ z, cSL z = cs' ∧ OkSL w z := by
  have hone : ∃ v, cs' = [v] := by
    rcases open_slice ht h with ⟨h0, _⟩ | ⟨a, len, cap, m, n, D, Pl, hcs, _⟩
    · exact ⟨_, h0⟩
    · exact ⟨_, hcs⟩
  obtain ⟨v, rfl⟩ := hone
  obtain ⟨a, n', c, xs, rfl, hr, hl, hm, ho⟩ := open_rows (sz := 1) ht hC (by decide) (el_string he hC) h
  exact ⟨(a, n', c, xs), rfl, hr, hl, hm, ho⟩
end
end Go.Proofs.YtbbnjddgioaoeaaDoor
