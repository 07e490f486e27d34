/- Draws of nets, and of places, marks and data beside them. -/
import Derived.Test.YtkcbghaadjhceaaAny
import Derived.Test.YtkcbghaadjhceaaDraw4
import Derived.Test.YtkcbghaadjhceaaMore
namespace Go.Proofs.Ytkcbghaadjhceaa
open Go.RowKit
set_option linter.unusedVariables false
set_option linter.unusedSimpArgs false

/-- A net that is drawn: it reads well, all in new memory. -/
def NetG (w w' : World) (P : Int) (b1 k c1 : Nat) (n : NNet) : Prop := Small n ∧ n.places = P ∧ n.tasks.length = k ∧ NetV w' w.heap.size w'.heap.size (.agg #[.int .i64 P, .slice (some ⟨b1, 0, none⟩) k c1]) n
theorem NetG.of {w w1 w' : World} {P : Int} {b1 k c1 : Nat} {n : NNet} (hs : Small n) (h : FN w' w1.heap.size w'.heap.size (.agg #[.int .i64 P, .slice (some ⟨b1, 0, none⟩) k c1]) n) (hl : w.heap.size ≤ w1.heap.size) : NetG w w' P b1 k c1 n := by
  obtain ⟨h1, h2, _⟩ := h.parts
  exact ⟨hs, h1, h2, h.net.more hl (Nat.le_refl _)⟩
theorem NetG.keep {w w' w2 : World} {P : Int} {b1 k c1 : Nat} {n : NNet} (h : NetG w w' P b1 k c1 n) (hk : ∀ g, w.heap.size ≤ g → g < w'.heap.size → w2.heap[g]? = w'.heap[g]?) (hs : w'.heap.size ≤ w2.heap.size) : NetG w w2 P b1 k c1 n :=
  ⟨h.1, h.2.1, h.2.2.1, (h.2.2.2.keep hk).more (Nat.le_refl _) hs⟩
def NetRes (w : World) (e : Ending) (w' : World) : Prop := ∃ (P : Int) (b1 k c1 : Nat) (n : NNet), e = .returned (.agg #[.int .i64 P, .slice (some ⟨b1, 0, none⟩) k c1]) ∧ NetG w w' P b1 k c1 n ∧ Below w.heap.size w w'
theorem NetRes.of {w w' : World} {P : Int} {b1 k c1 : Nat} {n : NNet} (h1 : NetG w w' P b1 k c1 n) (h2 : Below w.heap.size w w') : NetRes w (.returned (.agg #[.int .i64 P, .slice (some ⟨b1, 0, none⟩) k c1])) w' := ⟨P, b1, k, c1, n, rfl, h1, h2⟩
def NetInts (w : World) (e : Ending) (w' : World) : Prop := ∃ (P : Int) (b1 k c1 : Nat) (n : NNet) (x : Int), e = .returned (.tuple #[.agg #[.int .i64 P, .slice (some ⟨b1, 0, none⟩) k c1], .int .i64 x]) ∧ -1 ≤ x ∧ x ≤ 10 ∧ NetG w w' P b1 k c1 n ∧ Below w.heap.size w w'
def NetInts2 (w : World) (e : Ending) (w' : World) : Prop := ∃ (P : Int) (b1 k c1 : Nat) (n : NNet) (x y : Int), e = .returned (.tuple #[.agg #[.int .i64 P, .slice (some ⟨b1, 0, none⟩) k c1], .int .i64 x, .int .i64 y]) ∧ -1 ≤ x ∧ x ≤ 10 ∧ -1 ≤ y ∧ y ≤ 10 ∧ NetG w w' P b1 k c1 n ∧ Below w.heap.size w w'
def NetMarks (w : World) (e : Ending) (w' : World) : Prop := ∃ (P : Int) (b1 k c1 : Nat) (n : NNet) (v : Value) (ys : List Int), e = .returned (.tuple #[.agg #[.int .i64 P, .slice (some ⟨b1, 0, none⟩) k c1], v]) ∧ ys.length ≤ 10 ∧ (∀ x ∈ ys, -1 ≤ x ∧ x ≤ 5) ∧ NumsV w' w.heap.size v ys ∧ NetG w w' P b1 k c1 n ∧ Below w.heap.size w w'
theorem grown_drew (w : World) (R : Nat) : w.grownBy w.drew (some R) := ⟨rfl, rfl, rfl, Nat.le_refl _, fun _ _ _ => rfl⟩
theorem below_two {B : Nat} {a w : World} (h : Below B a w) {b : Nat} (hb : B ≤ b) (u v : Value) : Below B a ((w.setCell ⟨b, 0, none⟩ u).setCell ⟨b, 1, none⟩ v) := (h.setCell (p := ⟨b, 0, none⟩) hb u).setCell (p := ⟨b, 1, none⟩) hb v
theorem two_block (w : World) {b g : Nat} (hg : g ≠ b) (u v : Value) : ((w.setCell ⟨b, 0, none⟩ u).setCell ⟨b, 1, none⟩ v).heap[g]? = w.heap[g]? := by
  rw [Below.heap_setCell _ _ _ _ hg, Below.heap_setCell _ _ _ _ hg]
theorem two_size (w : World) (b : Nat) (u v : Value) : ((w.setCell ⟨b, 0, none⟩ u).setCell ⟨b, 1, none⟩ v).heap.size = w.heap.size := by simp [World.setCell]
theorem NumsV.keep {w w' : World} {lo : Nat} {v : Value} {zs : List Int} (h : NumsV w lo v zs) (hk : ∀ g, lo ≤ g → g < w.heap.size → w'.heap[g]? = w.heap[g]?) (hs : w.heap.size ≤ w'.heap.size) : NumsV w' lo v zs := by
  obtain ⟨A, b, o, c, h1, h2, h3⟩ := h; exact ⟨A, b, o, c, h1, h2, (h3.keep hk).more (Nat.le_refl _) hs⟩
end Go.Proofs.Ytkcbghaadjhceaa
