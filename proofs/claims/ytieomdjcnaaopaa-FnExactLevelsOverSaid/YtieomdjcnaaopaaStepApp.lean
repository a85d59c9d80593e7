/- append of one element, in a region that draws its order. -/
import Derived.Test.YtieomdjcnaaopaaAux2
import Derived.Deep.AppendLies
import Derived.Deep.RegionHeld3
namespace Go.Proofs.Ytieomdjcnaaopaa
open Go.RowKit
set_option linter.unusedVariables false

section
variable {α : Type} {sz : Nat} {cs : α → List Value} {E : TypeId} {w w' : World} {L U : Nat} {A : Option Addr} {n c : Nat} {xs : List α}
theorem step_app {P : Program} {ops : Array Oper} {o : Oper} {a : Act} {K : Act → World → Prop} {Q : Exit → Act → World → Prop} {F : Prop} (w : World) (hgd : o.guard = none) (s x : Operand) (t : TypeId)
    (ho : o.op = .call { callee := .builtin .append, args := #[s, x], argTypes := #[t, t] })
    (E : TypeId) (i : TypeInfo) (z : Value) (sz bytes : Nat) (ht : P.underlying t = some (.slice E)) (hi : P.info? E = some i) (hz : i.zero = some z)
    (hsize : i.size = sz) (hby : i.bytes = bytes) (hzs : z.cells.size = sz) (hsz : 0 < sz) {cs : α → List Value} (hcs : ∀ y, (cs y).length = sz) (hone : ∀ y, ∀ u ∈ cs y, u.oneCell' = true)
    (L U : Nat) (A : Option Addr) (n c : Nat) (xs : List α) (hs : a.eval s = .slice A n c) (hown : Own sz cs E w L U A n c xs) (g : Nat) (y : α)
    (hx : a.eval x = .slice (some ⟨g, 0, none⟩) 1 1) (hc : ∀ j v, (cs y)[j]? = some v → w.cell? ⟨g, j, none⟩ = some v)
    (hn : (n + 1) * bytes ≤ 140737488355328) (hm : n + 1 ≤ maxLen) (hL : L ≤ w.heap.size)
    (h : ∀ A' c' w', Own sz cs E w' L w'.heap.size A' (n + 1) c' (xs ++ [y]) → w.grownBy w' (A.map (·.block)) → K (a.put o.dst (.slice A' (n + 1) c')) w') :
    if Region.wanted o (yielded ops a.tmps) = true then Oper.wp P o a w K Q else F := by
  refine step_append_lies w hgd s x t ho L E i z sz bytes ht hi hz hsize hby hzs hsz (.slice A n c) n (xs.flatMap cs) hs hown.2.1 ⟨g, 0, none⟩ 1 1 (cs y) hx (by rw [hcs, Nat.one_mul])
    (fun j u hu => by rw [Addr.add_lit, Nat.zero_add]; exact hc j u hu) (hone y) (by omega) hm hn hL _ rfl ?_
  intro gg cap w' hown' hg _ _
  have e : (xs ++ [y]).flatMap cs = xs.flatMap cs ++ cs y := by simp
  rw [← e] at hown'
  have e2 : Value.ownBlock (.slice A n c) = A.map (·.block) := by cases A <;> rfl
  rw [e2] at hg
  obtain ⟨A', c', h1, ho'⟩ := Own.of hcs hown' (by simp [hown.1])
  rw [h1]
  exact h A' c' w' ho' hg
end
end Go.Proofs.Ytieomdjcnaaopaa
