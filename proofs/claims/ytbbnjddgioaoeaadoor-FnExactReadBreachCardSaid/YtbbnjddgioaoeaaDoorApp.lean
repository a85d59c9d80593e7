/- append onto a row of the call's own, and where the new row lies. -/
import Derived.Test.YtbbnjddgioaoeaaDoorAux2
import Derived.Maps.AppendAt
namespace Go.Proofs.YtbbnjddgioaoeaaDoor
open Go.RowKit
set_option linter.unusedVariables false

section
variable {α : Type} {sz : Nat} {cs : α → List Value} {E : TypeId} {w w' : World} {L U : Nat} {A : Option Addr} {n c : Nat} {xs : List α}
/-- The row lies in another block than g. -/
def Off (A : Option Addr) (g : Nat) : Prop := ∀ a, A = some a → a.block ≠ g
theorem Own.far (h : Own sz cs E w L U A n c xs) {g : Nat} (hg : w.grownBy w' (some g)) (hne : Off A g) : Own sz cs E w' L U A n c xs := by
  refine ⟨h.1, World.ownsRow.kept h.2.1 hg ?_, h.2.2⟩
  cases A with
  | none => exact .inl rfl
  | some a => exact .inr fun e => hne a rfl (Option.some.inj e)
theorem Off.ne {g : Nat} (h : Off A g) : A.map (·.block) ≠ some g := by
  cases A with
  | none => simp
  | some a => simpa using h a rfl
theorem wpList_app_at {P : Program} {ops : Array Oper} {rest : List Oper} {o : Oper} {a : Act} {Q : Exit → Act → World → Prop} (w : World) (hgd : o.guard = none) (s x : Operand) (t : TypeId)
    (ho : o.op = .call { callee := .builtin .append, args := #[s, x], argTypes := #[t, t] })
    (E : TypeId) (i : TypeInfo) (z : Value) (sz bytes : Nat) (ht : P.underlying t = some (.slice E)) (hi : P.info? E = some i) (hz : i.zero = some z)
    (hsize : i.size = sz) (hby : i.bytes = bytes) (hzs : z.cells.size = sz) (hsz : 0 < sz) {cs : α → List Value} (hcs : ∀ y, (cs y).length = sz) (hone : ∀ y, ∀ u ∈ cs y, u.oneCell' = true)
    (L U : Nat) (A : Option Addr) (n c : Nat) (xs : List α) (hs : a.eval s = .slice A n c) (hown : Own sz cs E w L U A n c xs) (g : Nat) (y : α)
    (hx : a.eval x = .slice (some ⟨g, 0, none⟩) 1 1) (hc : ∀ j v, (cs y)[j]? = some v → w.cell? ⟨g, j, none⟩ = some v)
    (hn : (n + 1) * bytes ≤ 140737488355328) (hm : n + 1 ≤ maxLen) (hL : L ≤ w.heap.size)
    (h : ∀ A' c' w', Own sz cs E w' L w'.heap.size A' (n + 1) c' (xs ++ [y]) → w.grownBy w' (A.map (·.block)) → (∀ g, Off A g → g < w.heap.size → Off A' g) → wpList P ops Q rest (a.put o.dst (.slice A' (n + 1) c')) w') :
    wpList P ops Q (o :: rest) a w := by
  refine wpList_append_own_at w hgd s x t ho L E i z sz bytes ht hi hz hsize hby hzs hsz (.slice A n c) n (xs.flatMap cs) hs hown.2.1 ⟨g, 0, none⟩ 1 1 (cs y) hx (by rw [hcs, Nat.one_mul])
    (fun j u hu => by rw [Addr.add_lit, Nat.zero_add]; exact hc j u hu) (hone y) hm hn hL ?_
  intro v' w' hown' hg _ hat
  have e : (xs ++ [y]).flatMap cs = xs.flatMap cs ++ cs y := by simp
  rw [← e] at hown'
  obtain ⟨A', c', rfl, ho'⟩ := Own.of hcs hown' (by simp [hown.1])
  have e2 : Value.ownBlock (.slice A n c) = A.map (·.block) := by cases A <;> rfl
  have e3 : Value.ownBlock (.slice A' (n + 1) c') = A'.map (·.block) := by cases A' <;> rfl
  rw [e2] at hg hat
  rw [e3] at hat
  refine h A' c' w' ho' hg ?_
  intro g hne hlt a' ha'
  subst ha'
  rcases hat with h1 | h1
  · cases A with
    | none => simp at h1
    | some a =>
      simp at h1
      rw [h1]
      exact hne a rfl
  · simp at h1
    omega
theorem blk_grown {w w' : World} {g : Nat} {O : Obj} (h : w.heap[g]? = some O) (hg : w.grownBy w' (A.map (·.block))) (hne : Off A g) : w'.heap[g]? = some O :=
  (hg.block g (blk_lt h) (by intro k; exact hne.ne k.symm)).trans h
end
theorem one_of {cs : List Value} (h : cs.all (fun v => v.oneCell') = true) : ∀ u ∈ cs, u.oneCell' = true := List.all_eq_true.1 h
end Go.Proofs.YtbbnjddgioaoeaaDoor
