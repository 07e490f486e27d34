/- Marks: numbers written into a row, and read back. -/
import Derived.Test.YtoggdhbnkbdilaaBase
namespace Go.Proofs.Ytoggdhbnkbdilaa
open Go.RowKit
set_option linter.unusedVariables false
set_option linter.unusedSimpArgs false

/-- w' is w but for writes to blocks from lo on and ahead of hi. -/
structure Upd (lo hi : Nat) (w w' : World) : Prop where
  os : w'.os = w.os
  tape : w'.tape = w.tape
  output : w'.output = w.output
  size : w'.heap.size = w.heap.size
  block : ∀ g, ¬ (lo ≤ g ∧ g < hi) → w'.heap[g]? = w.heap[g]?
theorem Upd.refl (lo hi : Nat) (w : World) : Upd lo hi w w := ⟨rfl, rfl, rfl, rfl, fun _ _ => rfl⟩
theorem Upd.trans {lo hi : Nat} {a b c : World} (h : Upd lo hi a b) (k : Upd lo hi b c) : Upd lo hi a c :=
  ⟨k.os.trans h.os, k.tape.trans h.tape, k.output.trans h.output, k.size.trans h.size, fun g hg => (k.block g hg).trans (h.block g hg)⟩
theorem Upd.setCell {lo hi : Nat} {a w : World} (h : Upd lo hi a w) {p : Addr} (h1 : lo ≤ p.block) (h2 : p.block < hi) (u : Value) : Upd lo hi a (w.setCell p u) :=
  h.trans ⟨rfl, rfl, rfl, by simp [World.setCell], fun g hg => Below.heap_setCell w p u g (by rintro rfl; exact hg ⟨h1, h2⟩)⟩
theorem Upd.below {lo hi B : Nat} {w w' : World} (h : Upd lo hi w w') (hB : B ≤ lo) : Below B w w' := ⟨h.os, h.tape, h.output, by rw [h.size]; exact Nat.le_refl _, fun g hg => h.block g (by omega)⟩
theorem Upd.drewN {lo hi : Nat} {a w : World} (h : Upd lo hi a w) (n : Nat) : Upd lo hi a (w.drewN n) := ⟨h.os, h.tape, h.output, h.size, h.block⟩
theorem Upd.more {lo hi lo' hi' : Nat} {a w : World} (h : Upd lo hi a w) (h1 : lo' ≤ lo) (h2 : hi ≤ hi') : Upd lo' hi' a w := ⟨h.os, h.tape, h.output, h.size, fun g hg => h.block g (by omega)⟩
theorem Row.upd {w w' : World} {lo hi lo' hi' b off : Nat} {A : Option Addr} {xs : List Value} (h : Row w lo' hi' A b off xs) (hu : Upd lo hi w w') (hd : hi' ≤ lo ∨ hi ≤ lo') : Row w' lo' hi' A b off xs :=
  h.keep fun g h1 h2 => hu.block g (by omega)

theorem cell_setCell_same {w : World} {p : Addr} {u v : Value} (h : w.cell? p = some v) : (w.setCell p u).cell? p = some u := World.cell?_setCell_same _ _ _ h
/-- One cell of a row is stored. -/
theorem Row.set_ {w : World} {lo hi b off : Nat} {A : Option Addr} {xs : List Value} (h : Row w lo hi A b off xs) (k : Nat) (u : Value) (hk : k < xs.length) : Row (w.setCell ⟨b, off + k, none⟩ u) lo hi A b off (xs.set k u) := by
  refine ⟨fun _ => h.ref hk, fun j v hj => ?_⟩
  have hf : (w.setCell ⟨b, off + k, none⟩ u).frozen? ⟨b, off + j, none⟩ = w.frozen? ⟨b, off + j, none⟩ := World.frozen?_setCell _ _ _ _
  rw [List.getElem?_set] at hj
  by_cases hjk : k = j
  · subst hjk
    rw [if_pos rfl, if_pos hk] at hj
    injection hj with hj
    subst hj
    obtain ⟨u0, _, hc, hz⟩ := h.at_ hk
    exact ⟨cell_setCell_same hc, hf.trans hz⟩
  · rw [if_neg hjk] at hj
    obtain ⟨hc, hz⟩ := h.2 j v hj
    exact ⟨(World.cell?_setCell_other _ _ _ _ (by intro e; simp only [Addr.mk.injEq] at e; omega)).trans hc, hf.trans hz⟩

/-- k, k + 1, .. : n of them. -/
def marks (k : Int) (n : Nat) : List Int := (List.range n).map fun i : Nat => k + (i : Int)
theorem marks_length (k : Int) (n : Nat) : (marks k n).length = n := by simp [marks]
theorem marks_at (k : Int) (n j : Nat) (h : j < n) : (marks k n)[j]? = some (k + (j : Int)) := by simp [marks, h]


end Go.Proofs.Ytoggdhbnkbdilaa
