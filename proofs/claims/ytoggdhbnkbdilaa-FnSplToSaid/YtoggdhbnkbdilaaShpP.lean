/- What the draw of a net keeps while it makes tasks; the draw of a task among them. -/
import Derived.Test.YtoggdhbnkbdilaaDrawT
namespace Go.Proofs.Ytoggdhbnkbdilaa
open Go.RowKit
set_option linter.unusedVariables false
set_option linter.unusedSimpArgs false

/-- The reader, the result's cells and the tasks made so far. -/
structure ShD (w0 : World) (R p : Nat) (ms : List TaskM) (w : World) : Prop where
  rd : RdV w R p
  gr : w0.grownBy w (some R)
  res : Blk w w0.heap.size 25 #[.int .i64 0, .slice none 0 0]
  tks : Tks w (w0.heap.size + 1) ms
  lt : w0.heap.size < w.heap.size
  hR : R < w0.heap.size
section
variable {w0 w w' : World} {R p p' : Nat} {ms : List TaskM}
theorem ShD.start (hR : RdV w0 R p) : ShD w0 R p [] (w0.alloc (.cells #[.int .i64 0, .slice none 0 0] 25)) :=
  ⟨hR.alloc _, World.grownBy_alloc _ _ _, Blk.new_ _ _ _, Tks.nil_ _ _, by simp, hR.lt⟩
theorem ShD.upd (h : ShD w0 R p ms w) (hu : Upd R (R + 1) w w') (hr : RdV w' R p') : ShD w0 R p' ms w' :=
  ⟨hr, grown_tr h.gr (grown_upd hu), h.res.upd hu (by have := h.hR; omega), h.tks.grown (grown_upd hu) (by have := h.hR; omega), by rw [hu.size]; exact h.lt, h.hR⟩
theorem ShD.alloc (h : ShD w0 R p ms w) (o : Obj) : ShD w0 R p ms (w.alloc o) :=
  ⟨h.rd.alloc o, grown_alloc h.gr o, h.res.alloc o, h.tks.alloc o, by have := h.lt; simp; omega, h.hR⟩
theorem ShD.facts (h : ShD w0 R p ms w) : w.cell? ⟨w0.heap.size, 0, none⟩ = some (.int .i64 0) ∧ w.cell? ⟨w0.heap.size, 1, none⟩ = some (.slice none 0 0) ∧ w.frozen? ⟨w0.heap.size, 0, none⟩ = false ∧ w.frozen? ⟨w0.heap.size, 1, none⟩ = false :=
  ⟨h.res.cell 0, h.res.cell 1, h.res.free 0, h.res.free 1⟩
theorem ShD.fin (h : ShD w0 R p ms w) (k : Nat) (hk : ms.length = k) (hm : k ≤ maxLen) (cs : Array Value) (hcs : taskCells ms = cs.toList) (P : Int) :
    FN (((w.setCell ⟨w0.heap.size, 0, none⟩ (.int .i64 P)).setCell ⟨w0.heap.size, 1, none⟩ (.slice (some ⟨w.heap.size, 0, none⟩) k k)).alloc (.cells cs 38)) w0.heap.size (((w.setCell ⟨w0.heap.size, 0, none⟩ (.int .i64 P)).setCell ⟨w0.heap.size, 1, none⟩ (.slice (some ⟨w.heap.size, 0, none⟩) k k)).alloc (.cells cs 38)).heap.size (.agg #[.int .i64 P, .slice (some ⟨w.heap.size, 0, none⟩) k k]) ⟨P, ms.map TaskM.t⟩ ∧
    RdV (((w.setCell ⟨w0.heap.size, 0, none⟩ (.int .i64 P)).setCell ⟨w0.heap.size, 1, none⟩ (.slice (some ⟨w.heap.size, 0, none⟩) k k)).alloc (.cells cs 38)) R p ∧
    w0.grownBy (((w.setCell ⟨w0.heap.size, 0, none⟩ (.int .i64 P)).setCell ⟨w0.heap.size, 1, none⟩ (.slice (some ⟨w.heap.size, 0, none⟩) k k)).alloc (.cells cs 38)) (some R) := by
  have hlt := h.lt; have hR := h.hR
  refine ⟨?_, ((h.rd.setCell (by dsimp only; omega) _).setCell (by dsimp only; omega) _).alloc _, grown_alloc (grown_setCell (grown_setCell h.gr (by dsimp only; omega) _) (by dsimp only; omega) _) _⟩
  have hs : ((w.setCell ⟨w0.heap.size, 0, none⟩ (.int .i64 P)).setCell ⟨w0.heap.size, 1, none⟩ (.slice (some ⟨w.heap.size, 0, none⟩) k k)).heap.size = w.heap.size := by simp [World.setCell]
  have ht : Tks ((w.setCell ⟨w0.heap.size, 0, none⟩ (.int .i64 P)).setCell ⟨w0.heap.size, 1, none⟩ (.slice (some ⟨w.heap.size, 0, none⟩) k k)) (w0.heap.size + 1) ms := fun m hm => by
    rw [hs]
    refine (h.tks m hm).keep fun g h2 h3 => ?_
    rw [Below.heap_setCell _ _ _ _ (by dsimp only; omega), Below.heap_setCell _ _ _ _ (by dsimp only; omega)]
  have h1 := ht.lay (T := 38) (p := P) (by rw [hs]; omega) (by omega) k hk cs hcs
  rw [hs] at h1
  exact h1.more (by omega) (by simp [World.setCell])
theorem row_up {lo hi b off : Nat} {A : Option Addr} {xs : List Value} (h : Row w lo hi A b off xs) (hk : hi ≤ w.heap.size) (hg : w.grownBy w' (some R)) (hR : R < lo) : Row w' lo hi A b off xs := h.grown hg (.inr hR) hk
end

/-- A net that a draw returns. -/
def NetOut (w : World) (R q : Nat) (e : Ending) (w' : World) : Prop := ∃ (P : Int) (b k c : Nat) (n : NNet) (p' : Nat), e = .returned (.agg #[.int .i64 P, .slice (some ⟨b, 0, none⟩) k c]) ∧ k ≤ 8 ∧ p' ≤ q ∧ FN w' w.heap.size w'.heap.size (.agg #[.int .i64 P, .slice (some ⟨b, 0, none⟩) k c]) n ∧ RdV w' R p' ∧ w.grownBy w' (some R)
theorem NetOut.of {w w' : World} {R q : Nat} (P : Int) (b k c : Nat) (n : NNet) (p' : Nat) (h0 : k ≤ 8) (h1 : p' ≤ q) (h2 : FN w' w.heap.size w'.heap.size (.agg #[.int .i64 P, .slice (some ⟨b, 0, none⟩) k c]) n) (h3 : RdV w' R p') (h4 : w.grownBy w' (some R)) : NetOut w R q (.returned (.agg #[.int .i64 P, .slice (some ⟨b, 0, none⟩) k c])) w' :=
  ⟨P, b, k, c, n, p', rfl, h0, h1, h2, h3, h4⟩

theorem l20Task_sh (w0 w : World) (R p : Nat) (ms : List TaskM) (h : ShD w0 R p ms w) (hp : p ≤ 800000) (j s m : Int) (hm : m ≤ 1000) (hm0 : -1000000 ≤ m) (ins tos : List Int) (ni nt : Nat) (hni : ins.length = ni) (hnt : tos.length = nt) (hnt2 : nt ≤ 10) (hni2 : ni ≤ 10)
    (Ai : Option Addr) (bi oi ci : Nat) (A : Option Addr) (b off c : Nat) (hI : Row w (w0.heap.size + 1) w.heap.size Ai bi oi (ints ins)) (hV : Row w (w0.heap.size + 1) w.heap.size A b off (ints tos)) :
    Calls Try.prog 92 #[.pointer (some ⟨R, 0, none⟩), .int .i64 j, .int .i64 s, .slice Ai ni ci, .slice A nt c, .int .i64 m] w fun e w' => ∃ (t : NTask) (Ao : Option Addr) (no co : Nat) (p' : Nat),
      e = .returned (.agg #[.int .i64 t.join, .int .i64 t.split, .slice Ai ni ci, .slice Ao no co, .slice none 0 0, .int .i64 t.role, .int .i64 t.apart, .int .i64 t.all, .int .i64 t.need]) ∧ p' ≤ p + 40 ∧
      ShD w0 R p' (ms ++ [⟨t, .slice Ai ni ci, .slice Ao no co, .slice none 0 0⟩]) w' := by
  subst hni hnt
  have hRl := h.hR
  refine (l20Task_c R p j s m ins tos (w0.heap.size + 1) w.heap.size A b off c Ai ci w h.rd (by omega) hm hm0 hV (Nat.le_refl _) (by omega) (by omega)).mono ?_
  rintro e w' ⟨t, Ao, co, p', rfl, hin, hcl, hol, hp', hsl, hrd, hg⟩
  refine ⟨t, Ao, t.out.length, co, p', rfl, by omega, hrd, grown_tr h.gr hg, h.res.grown hg (by omega), (h.tks.grown hg (by omega)).snoc ⟨?_, ?_, ?_⟩, Nat.lt_of_lt_of_le h.lt hg.size, h.hR⟩
  · show Sl w' (w0.heap.size + 1) w'.heap.size (.slice Ai ins.length ci) t.ins.length (ints t.ins)
    rw [hin]
    exact ⟨Ai, bi, oi, ci, rfl, by unfold maxLen; omega, (hI.grown hg (.inr (by omega)) (Nat.le_refl _)).more (Nat.le_refl _) hg.size⟩
  · exact hsl.more (by have := h.lt; omega) (Nat.le_refl _)
  · show Sl w' (w0.heap.size + 1) w'.heap.size (.slice none 0 0) t.clear.length (ints t.clear)
    rw [hcl]
    exact ⟨none, 0, 0, 0, rfl, Nat.zero_le _, Row.nil_⟩

theorem l20Task_v (w : World) (R p lo : Nat) (hR : RdV w R p) (hp : p ≤ 800000) (j s m : Int) (hm : m ≤ 1000) (hm0 : -1000000 ≤ m) (ins tos : List Int) (ni nt : Nat) (hni : ins.length = ni) (hnt : tos.length = nt) (hnt2 : nt ≤ 10) (hni2 : ni ≤ 10)
    (Ai : Option Addr) (bi oi ci : Nat) (A : Option Addr) (b off c : Nat) (hI : Row w lo w.heap.size Ai bi oi (ints ins)) (hV : Row w lo w.heap.size A b off (ints tos)) (hlo : R < lo) (hlo2 : lo ≤ w.heap.size) :
    Calls Try.prog 92 #[.pointer (some ⟨R, 0, none⟩), .int .i64 j, .int .i64 s, .slice Ai ni ci, .slice A nt c, .int .i64 m] w fun e w' => ∃ (t : NTask) (Ao : Option Addr) (no co : Nat) (p' : Nat),
      e = .returned (.agg #[.int .i64 t.join, .int .i64 t.split, .slice Ai ni ci, .slice Ao no co, .slice none 0 0, .int .i64 t.role, .int .i64 t.apart, .int .i64 t.all, .int .i64 t.need]) ∧ p' ≤ p + 40 ∧
      TaskV w' lo w'.heap.size t (.slice Ai ni ci) (.slice Ao no co) (.slice none 0 0) ∧ RdV w' R p' ∧ w.grownBy w' (some R) := by
  subst hni hnt
  refine (l20Task_c R p j s m ins tos lo w.heap.size A b off c Ai ci w hR (by omega) hm hm0 hV (Nat.le_refl _) (by omega) (by omega)).mono ?_
  rintro e w' ⟨t, Ao, co, p', rfl, hin, hcl, hol, hp', hsl, hrd, hg⟩
  refine ⟨t, Ao, t.out.length, co, p', rfl, by omega, ⟨?_, hsl.more hlo2 (Nat.le_refl _), ?_⟩, hrd, hg⟩
  · rw [hin]
    exact ⟨Ai, bi, oi, ci, rfl, by unfold maxLen; omega, (hI.grown hg (.inr (by omega)) (Nat.le_refl _)).more (Nat.le_refl _) hg.size⟩
  · rw [hcl]
    exact ⟨none, 0, 0, 0, rfl, Nat.zero_le _, Row.nil_⟩

theorem l20Task_2 (w0 w : World) (R p : Nat) (ms : List TaskM) (h : ShD w0 R p ms w) (hp : p ≤ 800000) (j s m : Int) (hm : m ≤ 1000) (hm0 : -1000000 ≤ m) (ins tos : List Int) (ni nt : Nat) (hni : ins.length = ni) (hnt : tos.length = nt) (hnt2 : nt ≤ 10) (hni2 : ni ≤ 10) (c1 c2 : Array Value) (hc1 : c1.toList = ints ins) (hc2 : c2.toList = ints tos) :
    Calls Try.prog 92 #[.pointer (some ⟨R, 0, none⟩), .int .i64 j, .int .i64 s, .slice (some ⟨w.heap.size, 0, none⟩) ni ni, .slice (some ⟨w.heap.size + 1, 0, none⟩) nt nt, .int .i64 m] ((w.alloc (.cells c1 3)).alloc (.cells c2 3)) fun e w' => ∃ (t : NTask) (Ao : Option Addr) (no co : Nat) (p' : Nat),
      e = .returned (.agg #[.int .i64 t.join, .int .i64 t.split, .slice (some ⟨w.heap.size, 0, none⟩) ni ni, .slice Ao no co, .slice none 0 0, .int .i64 t.role, .int .i64 t.apart, .int .i64 t.all, .int .i64 t.need]) ∧ p' ≤ p + 40 ∧
      ShD w0 R p' (ms ++ [⟨t, .slice (some ⟨w.heap.size, 0, none⟩) ni ni, .slice Ao no co, .slice none 0 0⟩]) w' := by
  have hlt := h.lt
  have r1 := Row.new w c1 3
  have r2 := Row.newAt (w.alloc (.cells c1 3)) c2 3 (w.heap.size + 1) (by simp)
  rw [hc1] at r1
  rw [hc2] at r2
  exact l20Task_sh w0 _ R p ms ((h.alloc _).alloc _) hp j s m hm hm0 ins tos ni nt hni hnt hnt2 hni2 _ _ _ _ _ _ _ _ ((r1.alloc (by simp) _).more (by omega) (by simp)) (r2.more (by omega) (by simp))
end Go.Proofs.Ytoggdhbnkbdilaa
