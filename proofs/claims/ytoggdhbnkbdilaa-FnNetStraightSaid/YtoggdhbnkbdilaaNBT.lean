/- A task of a drawn net in a variable's block. -/
import Derived.Test.YtoggdhbnkbdilaaNB
namespace Go.Proofs.Ytoggdhbnkbdilaa
open Go.RowKit
set_option linter.unusedVariables false
set_option linter.unusedSimpArgs false

theorem NB.task {w0 w : World} {B b1 k c1 : Nat} {P : Int} {n : NNet} (h : NB w0 B P b1 k c1 n w) {i : Nat} (hi : i < n.tasks.length) :
    ∃ (t : NTask) (Ai : Option Addr) (bi oi ci : Nat) (Ao : Option Addr) (bo oo co : Nat) (Ac : Option Addr) (bc oc cc : Nat), n.tasks[i]? = some t ∧ Row w w0.heap.size B Ai bi oi (ints t.ins) ∧ Row w w0.heap.size B Ao bo oo (flowCells t.out) ∧ Row w w0.heap.size B Ac bc oc (ints t.clear) ∧
      TaskV w w0.heap.size B t (.slice Ai t.ins.length ci) (.slice Ao t.out.length co) (.slice Ac t.clear.length cc) ∧
      w.cell? ⟨b1, i * 9, none⟩ = some (.int .i64 t.join) ∧ w.cell? ⟨b1, i * 9 + 1, none⟩ = some (.int .i64 t.split) ∧ w.cell? ⟨b1, i * 9 + 2, none⟩ = some (.slice Ai t.ins.length ci) ∧ w.cell? ⟨b1, i * 9 + 3, none⟩ = some (.slice Ao t.out.length co) ∧ w.cell? ⟨b1, i * 9 + 4, none⟩ = some (.slice Ac t.clear.length cc) ∧
      w.cell? ⟨b1, i * 9 + 5, none⟩ = some (.int .i64 t.role) ∧ w.cell? ⟨b1, i * 9 + 6, none⟩ = some (.int .i64 t.apart) ∧ w.cell? ⟨b1, i * 9 + 7, none⟩ = some (.int .i64 t.all) ∧ w.cell? ⟨b1, i * 9 + 8, none⟩ = some (.int .i64 t.need) := by
  obtain ⟨A, b, off, c, ms, e, hm, hT⟩ := h.nv
  injection e with e
  have e2 := congrArg (fun a => a[1]?) e
  simp at e2
  obtain ⟨hA, _, _⟩ := e2
  obtain ⟨t1, _, _, t, vi, vo, vc, h1, _, hV, ⟨c0, c1', c2, c3, c4, c5, c6, c7, c8⟩, _⟩ := hT.task hi
  rw [t1] at hA
  injection hA with hA
  injection hA with hb hoff _
  subst hb hoff
  have hV' := hV
  obtain ⟨⟨Ai, bi, oi, ci, rfl, _, hri⟩, ⟨Ao, bo, oo, co, rfl, _, hro⟩, ⟨Ac, bc, oc, cc, rfl, _, hrc⟩⟩ := hV
  simp only [Nat.zero_add] at c0 c1' c2 c3 c4 c5 c6 c7 c8
  exact ⟨t, Ai, bi, oi, ci, Ao, bo, oo, co, Ac, bc, oc, cc, h1, hri, hro, hrc, hV', c0, c1', c2, c3, c4, c5, c6, c7, c8⟩
end Go.Proofs.Ytoggdhbnkbdilaa
