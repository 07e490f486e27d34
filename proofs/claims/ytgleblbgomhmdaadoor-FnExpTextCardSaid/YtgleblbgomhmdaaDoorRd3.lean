/- What the reference reads of a text. -/
import Derived.Test.YtgleblbgomhmdaaDoorRd2
import Derived.Test.YtgleblbgomhmdaaDoorDraw4
namespace Go.Proofs.YtgleblbgomhmdaaDoor
open Go.RowKit
set_option linter.unusedVariables false
set_option linter.unusedSimpArgs false

abbrev askC (o v k : Int) : Array Value := #[.int .i64 o, .int .i64 v, .int .i64 k]
/-- The cells of a reading: the result's ahead, the question's behind. -/
structure RdB (w W : World) (o v k : Int) : Prop where
  res : Blk W w.heap.size 25 (askC 0 0 0)
  ask : Blk W (w.heap.size + 1) 25 (askC o v k)
  bel : Below w.heap.size w W
  sz : w.heap.size + 2 ≤ W.heap.size
theorem RdB.below {w W W' : World} {o v k : Int} (h : RdB w W o v k) (hb : Below W.heap.size W W') : RdB w W' o v k :=
  ⟨h.res.below hb (by have := h.sz; omega), h.ask.below hb (by have := h.sz; omega), Below.trans h.bel (hb.mono (by have := h.sz; omega)), Nat.le_trans h.sz hb.size⟩
theorem RdB.new (w : World) (o v k : Int) : RdB w ((w.alloc (.cells (askC 0 0 0) 25)).alloc (.cells (askC o v k) 25)) o v k := by
  refine ⟨(Blk.new_ w _ _).alloc _, ?_, ((Below.refl _ w).alloc (Nat.le_refl _) _).alloc (by simp) _, by simp⟩
  have := Blk.new_ (w.alloc (.cells (askC 0 0 0) 25)) 25 (askC o v k)
  simpa using this
theorem RdB.cells {w W : World} {o v k : Int} (h : RdB w W o v k) :
    (W.cell? ⟨w.heap.size, 0, none⟩ = some (.int .i64 0) ∧ W.cell? ⟨w.heap.size, 1, none⟩ = some (.int .i64 0) ∧ W.cell? ⟨w.heap.size, 2, none⟩ = some (.int .i64 0)) ∧
    (W.cell? ⟨w.heap.size + 1, 0, none⟩ = some (.int .i64 o) ∧ W.cell? ⟨w.heap.size + 1, 1, none⟩ = some (.int .i64 v) ∧ W.cell? ⟨w.heap.size + 1, 2, none⟩ = some (.int .i64 k)) ∧
    (W.frozen? ⟨w.heap.size, 0, none⟩ = false ∧ W.frozen? ⟨w.heap.size, 1, none⟩ = false ∧ W.frozen? ⟨w.heap.size, 2, none⟩ = false) ∧
    (W.frozen? ⟨w.heap.size + 1, 0, none⟩ = false ∧ W.frozen? ⟨w.heap.size + 1, 1, none⟩ = false ∧ W.frozen? ⟨w.heap.size + 1, 2, none⟩ = false) :=
  ⟨⟨h.res.cell 0, h.res.cell 1, h.res.cell 2⟩, ⟨h.ask.cell 0, h.ask.cell 1, h.ask.cell 2⟩, ⟨h.res.free 0, h.res.free 1, h.res.free 2⟩, ⟨h.ask.free 0, h.ask.free 1, h.ask.free 2⟩⟩

theorem RdB.out {w W : World} {o v k : Int} (h : RdB w W o v k) (a b c : Int) :
    let W3 := ((W.setCell ⟨w.heap.size, 0, none⟩ (.int .i64 a)).setCell ⟨w.heap.size, 1, none⟩ (.int .i64 b)).setCell ⟨w.heap.size, 2, none⟩ (.int .i64 c)
    (W3.cell? ⟨w.heap.size, 0, none⟩ = some (.int .i64 a) ∧ W3.cell? ⟨w.heap.size, 1, none⟩ = some (.int .i64 b) ∧ W3.cell? ⟨w.heap.size, 2, none⟩ = some (.int .i64 c)) ∧ Below w.heap.size w W3 := by
  have hb := ((h.res.set_ 0 (.int .i64 a)).set_ 1 (.int .i64 b)).set_ 2 (.int .i64 c)
  exact ⟨⟨hb.cell 0, hb.cell 1, hb.cell 2⟩, ((h.bel.setCell (Nat.le_refl _) _).setCell (Nat.le_refl _) _).setCell (Nat.le_refl _) _⟩
theorem noText_short {l : List UInt8} (ha : l ≠ [97, 108, 119, 97, 121, 115]) (hc : l.length ≤ 2) : ∀ o' v' k' : Int, askOk ⟨o', v', k'⟩ = true → askT ⟨o', v', k'⟩ ≠ l := by
  intro o v k h he
  obtain ⟨_, _, _, c0, c1, r, e1, _, _, _, hr⟩ := askT_spells h he ha
  rw [e1] at hc
  cases r with
  | nil => exact hr rfl
  | cons x r => simp at hc
theorem ok000 : askOk ⟨0, 0, 0⟩ = true := by decide

set_option maxRecDepth 100000 in
set_option maxHeartbeats 4000000 in
theorem specExpRead_a (l : List UInt8) (hl : l.length ≤ 1048576) (hc : l.length ≤ 2 ∨ l = [97, 108, 119, 97, 121, 115]) (w : World) :
    Calls Tryd.prog 12 #[.string ⟨l.toArray⟩] w fun e w' => (∃ (o v k : Int) (b : Bool), e = .returned (.tuple #[.agg #[.int .i64 o, .int .i64 v, .int .i64 k], .bool b]) ∧ ReadsAs l o v k b) ∧ Below w.heap.size w w' := by
  have hR := RdB.new w 0 0 0
  by_cases ha : l = [97, 108, 119, 97, 121, 115]
  · subst ha
    go_enter Tryd.func12, Tryd.ntmps12
    go_wp2_with fail
    refine (specExpText_c 0 0 0 _).mono ?_
    rintro e w2 ⟨rfl, hb⟩
    replace hR := hR.below hb
    rw [askV_always ok000 rfl]
    obtain ⟨⟨x0, x1, x2⟩, ⟨y0, y1, y2⟩, ⟨f0, f1, f2⟩, ⟨g0, g1, g2⟩⟩ := hR.cells
    go_wp2_with fail
    obtain ⟨⟨z0, z1, z2⟩, hbl⟩ := hR.out 0 0 0
    refine bodyPost_ret (v := .tuple #[.agg #[.int .i64 0, .int .i64 0, .int .i64 0], .bool true]) (by simp [results, Tryd.results12, go_sem, z0, z1, z2]) rfl ⟨⟨0, 0, 0, true, rfl, .inl ⟨rfl, ok000, askT_always ok000⟩⟩, hbl⟩
  · have hc2 : l.length ≤ 2 := by rcases hc with h | h; exact h; exact absurd h ha
    have hc3 : ¬ (2 : Int) < l.length := by omega
    have hno := noText_short ha hc2
    have hne : ([97, 108, 119, 97, 121, 115] : List UInt8) ≠ l := fun h => ha h.symm
    have hnb : (([97, 108, 119, 97, 121, 115] : List UInt8) == l) = false := by simpa using hne
    go_enter Tryd.func12, Tryd.ntmps12
    go_wp2_with fail
    refine (specExpText_c 0 0 0 _).mono ?_
    rintro e w2 ⟨rfl, hb⟩
    replace hR := hR.below hb
    rw [askV_always ok000 rfl]
    obtain ⟨⟨x0, x1, x2⟩, ⟨y0, y1, y2⟩, ⟨f0, f1, f2⟩, ⟨g0, g1, g2⟩⟩ := hR.cells
    go_wp2_with fail
    obtain ⟨⟨z0, z1, z2⟩, hbl⟩ := hR.out 0 0 0
    refine bodyPost_ret (v := .tuple #[.agg #[.int .i64 0, .int .i64 0, .int .i64 0], .bool false]) (by simp [results, Tryd.results12, go_sem, z0, z1, z2]) rfl ⟨⟨0, 0, 0, false, rfl, .inr ⟨rfl, rfl, rfl, rfl, hno⟩⟩, hbl⟩
end Go.Proofs.YtgleblbgomhmdaaDoor
