/- Draws of marks. -/
import Derived.Test.YteedgmaeopnidaaDraw2
namespace Go.Proofs.Yteedgmaeopnidaa
open Go.RowKit
set_option linter.unusedVariables false
set_option linter.unusedSimpArgs false

def MarksInv (w : World) (R p q P d : Nat) (v : Value) (wc : World) : Prop := ∃ (zs : List Int) (p' : Nat), wc.ownsRow w.heap.size 3 1 v zs.length (ints zs) ∧ P ≤ zs.length ∧ zs.length ≤ P + d ∧ (∀ x ∈ zs, -1 ≤ x ∧ x ≤ 5) ∧ p' ≤ p + q ∧ RdV wc R p' ∧ w.grownBy wc (some R)
theorem mem_set_bound {zs : List Int} {k : Nat} {y : Int} (h : ∀ x ∈ zs, -1 ≤ x ∧ x ≤ 5) (hy : -1 ≤ y ∧ y ≤ 5) : ∀ x ∈ zs.set k y, -1 ≤ x ∧ x ≤ 5 := by
  intro x hx
  rcases List.mem_or_eq_of_mem_set hx with h1 | rfl
  · exact h x h1
  · exact hy
theorem own_form {w : World} {base n : Nat} {e : TypeId} {v : Value} {xs : List Value} (h : w.ownsRow base e 1 v n xs) (hn : 0 < n) : ∃ g c, v = .slice (some ⟨g, 0, none⟩) n c ∧ base ≤ g ∧ g < w.heap.size ∧ n ≤ c := by
  rcases h.2 with ⟨_, h0⟩ | ⟨g, cap, cur, rfl, hg, hh, hc, _⟩
  · omega
  · exact ⟨g, cap, rfl, hg, (h.lt g rfl).2, hc⟩

end Go.Proofs.Yteedgmaeopnidaa
