/- Marks written into a whole net that the call has made. -/
import Derived.Test.YtjbfkgckpbpdeaaNetMark
namespace Go.Proofs.Ytjbfkgckpbpdeaa
open Go.RowKit
set_option linter.unusedVariables false
set_option linter.unusedSimpArgs false

/-- Of what was there only blocks lo .. hi - 1 may have changed; new memory may lie beside. -/
structure Chg (lo hi : Nat) (w w' : World) : Prop where
  os : w'.os = w.os
  tape : w'.tape = w.tape
  output : w'.output = w.output
  size : w.heap.size ≤ w'.heap.size
  block : ∀ g, g < w.heap.size → ¬ (lo ≤ g ∧ g < hi) → w'.heap[g]? = w.heap[g]?
theorem Chg.of_upd {lo hi : Nat} {w w' : World} (h : Upd lo hi w w') : Chg lo hi w w' := ⟨h.os, h.tape, h.output, by rw [h.size]; exact Nat.le_refl _, fun g _ hg => h.block g hg⟩
theorem Chg.below {lo hi B : Nat} {w w' : World} (h : Chg lo hi w w') (hB : B ≤ lo) (hw : B ≤ w.heap.size) : Below B w w' := ⟨h.os, h.tape, h.output, h.size, fun g hg => h.block g (by omega) (by omega)⟩
theorem Chg.cell {lo hi : Nat} {w w' : World} (h : Chg lo hi w w') {p : Addr} (h1 : p.block < w.heap.size) (h2 : ¬ (lo ≤ p.block ∧ p.block < hi)) : w'.cell? p = w.cell? p := by
  have e := h.block p.block h1 h2
  simp only [World.cell?, e]
theorem Upd.cell {lo hi : Nat} {w w' : World} (h : Upd lo hi w w') {p : Addr} (h2 : ¬ (lo ≤ p.block ∧ p.block < hi)) : w'.cell? p = w.cell? p := by
  have e := h.block p.block h2
  simp only [World.cell?, e]
theorem Row.chg {w w' : World} {lo hi lo' hi' b off : Nat} {A : Option Addr} {xs : List Value} (h : Row w lo' hi' A b off xs) (hu : Chg lo hi w w') (hd : hi' ≤ lo ∨ hi ≤ lo') (hw : hi' ≤ w.heap.size) : Row w' lo' hi' A b off xs :=
  h.keep fun g h1 h2 => hu.block g (by omega) (by omega)
theorem NetV.chg {w w' : World} {lo hi lo' hi' : Nat} {v : Value} {n : NNet} (h : NetV w lo' hi' v n) (hu : Chg lo hi w w') (hd : hi' ≤ lo ∨ hi ≤ lo') (hw : hi' ≤ w.heap.size) : NetV w' lo' hi' v n :=
  h.keep fun g h1 h2 => hu.block g (by omega) (by omega)
theorem FNet.chg {w w' : World} {lo hi lo' hi' : Nat} {v : Value} {n : NNet} (h : FNet w lo' hi' v n) (hu : Chg lo hi w w') (hd : hi' ≤ lo ∨ hi ≤ lo') (hw : hi' ≤ w.heap.size) : FNet w' lo' hi' v n :=
  h.keep fun g h1 h2 => hu.block g (by omega) (by omega)

set_option maxRecDepth 10000 in
theorem markNetNet_s (n : NNet) (v : Value) (lo hi : Nat) (k0 : Int) (w : World) (hV : FNet w lo hi v n) (hhi : hi ≤ w.heap.size) (hs : netSize n ≤ 1048576) (hk0 : 0 ≤ k0) (hk1 : k0 ≤ 16777216) :
    Calls Try.prog 10 #[v, .int .i64 k0] w fun e w' => ∃ k1 : Int, e = .returned (.int .i64 k1) ∧ 0 ≤ k1 ∧ k1 ≤ k0 + 10485760 ∧ Chg lo hi w w' := by
  obtain ⟨g, ms, rfl, hm, h1, h2, hT⟩ := hV
  have hl := hT.len
  have hsz : (ms.length : Int) + tasksSize (ms.map TaskM.t) ≤ 1048576 := by rw [hT.map, hl]; exact hs
  have HM := (markNetTaskS_s ms g hi n.tasks.length k0 (w.alloc (.cells #[.int .i64 n.places, .slice (some ⟨g, 0, none⟩) n.tasks.length n.tasks.length] 30)) (hT.row.alloc (by omega) _) (fun m hm => MTask.of ((hT.each m hm).keep fun g _ h => Below.heap_alloc w _ g (by omega))) h2 hsz hk0 hk1)
  rw [hl] at HM
  replace HM := Lib.hid HM
  clear hl
  clear hT hsz hs
  go_enter Try.func10, Try.ntmps10
  go_wp2_with fail
  refine HM.out.mono ?_
  rintro e w1 ⟨k1, rfl, hk2, hk3, hs1⟩
  have HC : Chg lo hi w w1 := ⟨hs1.upd.os, hs1.upd.tape, hs1.upd.output, by rw [hs1.upd.size]; simp, fun g' h3 h4 => (hs1.upd.block g' (by omega)).trans (Below.heap_alloc w _ g' h3)⟩
  have HC := Lib.hid HC
  clear hs1
  go_wp2
  go_ret
  exact ⟨_, rfl, hk2, hk3, HC.out⟩
end Go.Proofs.Ytjbfkgckpbpdeaa
