/- Marks written into a whole net: only numbers are overwritten, and what was a number stays one. -/
import Derived.Test.YtkcbghaadjhceaaNetEq
namespace Go.Proofs.Ytkcbghaadjhceaa
open Go.RowKit
set_option linter.unusedVariables false
set_option linter.unusedSimpArgs false

/-- Only cells of blocks lo .. hi - 1 have been written, and each cell that held a number holds one. -/
structure Scr (lo hi : Nat) (w w' : World) : Prop where
  upd : Upd lo hi w w'
  nums : ∀ (p : Addr) (x : Int), w.cell? p = some (.int .i64 x) → ∃ y, w'.cell? p = some (.int .i64 y)
  frozen : ∀ p, w'.frozen? p = w.frozen? p
  keep : ∀ (p : Addr) (v : Value), w.cell? p = some v → (∀ x, v ≠ .int .i64 x) → w'.cell? p = some v
theorem Scr.refl (lo hi : Nat) (w : World) : Scr lo hi w w := ⟨Upd.refl _ _ _, fun p x h => ⟨x, h⟩, fun _ => rfl, fun _ _ h _ => h⟩
theorem Scr.trans {lo hi : Nat} {a b c : World} (h : Scr lo hi a b) (k : Scr lo hi b c) : Scr lo hi a c :=
  ⟨h.upd.trans k.upd, fun p x hx => by obtain ⟨y, hy⟩ := h.nums p x hx; exact k.nums p y hy, fun p => (k.frozen p).trans (h.frozen p), fun p v hv hn => k.keep p v (h.keep p v hv hn) hn⟩
theorem Scr.more {lo hi lo' hi' : Nat} {a b : World} (h : Scr lo hi a b) (h1 : lo' ≤ lo) (h2 : hi ≤ hi') : Scr lo' hi' a b := ⟨h.upd.more h1 h2, h.nums, h.frozen, h.keep⟩
theorem Scr.set {lo hi : Nat} {a w : World} (h : Scr lo hi a w) {p : Addr} (h1 : lo ≤ p.block) (h2 : p.block < hi) (ha : ∃ x, a.cell? p = some (.int .i64 x)) (y : Int) : Scr lo hi a (w.setCell p (.int .i64 y)) := by
  obtain ⟨x0, hx0⟩ := ha
  obtain ⟨z, hz⟩ := h.nums p x0 hx0
  refine h.trans ⟨(Upd.refl lo hi w).setCell h1 h2 _, fun q x hx => ?_, fun q => World.frozen?_setCell _ _ _ _, fun q v hv hn => ?_⟩
  · by_cases hq : q = p
    · subst hq; exact ⟨y, cell_setCell_same hx⟩
    · exact ⟨x, (World.cell?_setCell_other _ _ _ _ (fun e => hq e.symm)).trans hx⟩
  · by_cases hq : q = p
    · subst hq
      rw [hz] at hv
      injection hv with hv
      exact absurd hv.symm (hn z)
    · exact (World.cell?_setCell_other _ _ _ _ (fun e => hq e.symm)).trans hv

/-- n cells that hold numbers. -/
def IntRow (w : World) (lo hi : Nat) (A : Option Addr) (b off n : Nat) : Prop := (0 < n → A = some ⟨b, off, none⟩ ∧ lo ≤ b ∧ b < hi) ∧ ∀ j, j < n → (∃ x, w.cell? ⟨b, off + j, none⟩ = some (.int .i64 x)) ∧ w.frozen? ⟨b, off + j, none⟩ = false
theorem IntRow.scr {w w' : World} {lo hi lo' hi' b off n : Nat} {A : Option Addr} (h : IntRow w lo hi A b off n) (hs : Scr lo' hi' w w') : IntRow w' lo hi A b off n :=
  ⟨h.1, fun j hj => by
    obtain ⟨⟨x, hx⟩, hf⟩ := h.2 j hj
    exact ⟨hs.nums _ x hx, (hs.frozen _).trans hf⟩⟩
theorem IntRow.of_ints {w : World} {lo hi b off : Nat} {A : Option Addr} {zs : List Int} (h : Row w lo hi A b off (ints zs)) : IntRow w lo hi A b off zs.length :=
  ⟨fun h0 => h.ref (k := 0) (by simpa using h0), fun j hj => by
    obtain ⟨_, _, _, x, _, hc, hf⟩ := h.int hj
    exact ⟨⟨x, hc⟩, hf⟩⟩
theorem flowCells_ints (l : List NFlow) : flowCells l = ints (l.flatMap fun f => [f.to, f.op, f.var, f.k]) := by
  simp [ints, List.map_flatMap]
theorem itemCells_ints (l : List NItem) : itemCells l = ints (l.flatMap fun f => [f.task, f.who, f.did]) := by
  simp [ints, List.map_flatMap]
theorem IntRow.of_flows {w : World} {lo hi b off : Nat} {A : Option Addr} {l : List NFlow} (h : Row w lo hi A b off (flowCells l)) : IntRow w lo hi A b off (l.length * 4) := by
  have e := flowCells_len l
  rw [flowCells_ints] at h e
  have := IntRow.of_ints h
  rwa [show (l.flatMap fun f => [f.to, f.op, f.var, f.k]).length = l.length * 4 by simpa using e] at this
theorem IntRow.of_items {w : World} {lo hi b off : Nat} {A : Option Addr} {l : List NItem} (h : Row w lo hi A b off (itemCells l)) : IntRow w lo hi A b off (l.length * 3) := by
  have e := itemCells_len l
  rw [itemCells_ints] at h e
  have := IntRow.of_ints h
  rwa [show (l.flatMap fun f => [f.task, f.who, f.did]).length = l.length * 3 by simpa using e] at this




/-- The three slices of a task hold numbers alone. -/
structure MTask (w : World) (lo hi : Nat) (m : TaskM) : Prop where
  ins : ∃ A b off c, m.vi = .slice A m.t.ins.length c ∧ IntRow w lo hi A b off m.t.ins.length
  out : ∃ A b off c, m.vo = .slice A m.t.out.length c ∧ IntRow w lo hi A b off (m.t.out.length * 4)
  clear : ∃ A b off c, m.vc = .slice A m.t.clear.length c ∧ IntRow w lo hi A b off m.t.clear.length
theorem MTask.of {w : World} {lo hi : Nat} {m : TaskM} (h : TaskV w lo hi m.t m.vi m.vo m.vc) : MTask w lo hi m := by
  obtain ⟨⟨A1, b1, o1, c1, e1, _, h1⟩, ⟨A2, b2, o2, c2, e2, _, h2⟩, ⟨A3, b3, o3, c3, e3, _, h3⟩⟩ := h
  exact ⟨⟨A1, b1, o1, c1, e1, IntRow.of_ints h1⟩, ⟨A2, b2, o2, c2, e2, IntRow.of_flows h2⟩, ⟨A3, b3, o3, c3, e3, IntRow.of_ints h3⟩⟩

end Go.Proofs.Ytkcbghaadjhceaa
