/- Marks written into a whole net that the call has made. -/
import Derived.Test.YtkcbghaadjhceaaNetMark
namespace Go.Proofs.Ytkcbghaadjhceaa
open Go.RowKit
set_option linter.unusedVariables false
set_option linter.unusedSimpArgs false

/-- Of what was there only blocks lo .. hi - 1 may have changed; new memory may lie beside. -/
structure Chg (lo hi : Nat) (w w' : World) : Prop where
  os : w'.os = w.os
  tape : w'.tape = w.tape
  output : w'.output = w.output
  size : w.heap.size ≤ w'.heap.size
  block : ∀ g, g < w.heap.size → ¬ (lo ≤ g ∧ g < hi) → w'.heap[g]? = w.heap[g]?
theorem Chg.of_upd {lo hi : Nat} {w w' : World} (h : Upd lo hi w w') : Chg lo hi w w' := ⟨h.os, h.tape, h.output, by rw [h.size]; exact Nat.le_refl _, fun g _ hg => h.block g hg⟩
theorem Chg.below {lo hi B : Nat} {w w' : World} (h : Chg lo hi w w') (hB : B ≤ lo) (hw : B ≤ w.heap.size) : Below B w w' := ⟨h.os, h.tape, h.output, h.size, fun g hg => h.block g (by omega) (by omega)⟩
theorem Chg.cell {lo hi : Nat} {w w' : World} (h : Chg lo hi w w') {p : Addr} (h1 : p.block < w.heap.size) (h2 : ¬ (lo ≤ p.block ∧ p.block < hi)) : w'.cell? p = w.cell? p := by
  have e := h.block p.block h1 h2
  simp only [World.cell?, e]
theorem Upd.cell {lo hi : Nat} {w w' : World} (h : Upd lo hi w w') {p : Addr} (h2 : ¬ (lo ≤ p.block ∧ p.block < hi)) : w'.cell? p = w.cell? p := by
  have e := h.block p.block h2
  simp only [World.cell?, e]
theorem Row.chg {w w' : World} {lo hi lo' hi' b off : Nat} {A : Option Addr} {xs : List Value} (h : Row w lo' hi' A b off xs) (hu : Chg lo hi w w') (hd : hi' ≤ lo ∨ hi ≤ lo') (hw : hi' ≤ w.heap.size) : Row w' lo' hi' A b off xs :=
  h.keep fun g h1 h2 => hu.block g (by omega) (by omega)
theorem NetV.chg {w w' : World} {lo hi lo' hi' : Nat} {v : Value} {n : NNet} (h : NetV w lo' hi' v n) (hu : Chg lo hi w w') (hd : hi' ≤ lo ∨ hi ≤ lo') (hw : hi' ≤ w.heap.size) : NetV w' lo' hi' v n :=
  h.keep fun g h1 h2 => hu.block g (by omega) (by omega)
theorem FNet.chg {w w' : World} {lo hi lo' hi' : Nat} {v : Value} {n : NNet} (h : FNet w lo' hi' v n) (hu : Chg lo hi w w') (hd : hi' ≤ lo ∨ hi ≤ lo') (hw : hi' ≤ w.heap.size) : FNet w' lo' hi' v n :=
  h.keep fun g h1 h2 => hu.block g (by omega) (by omega)

end Go.Proofs.Ytkcbghaadjhceaa
