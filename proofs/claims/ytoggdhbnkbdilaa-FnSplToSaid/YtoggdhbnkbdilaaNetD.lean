/- Nets that a draw makes: one task of them is written. -/
import Derived.Test.YtoggdhbnkbdilaaShpP
namespace Go.Proofs.Ytoggdhbnkbdilaa
open Go.RowKit
set_option linter.unusedVariables false
set_option linter.unusedSimpArgs false

theorem task_cells_at {ms : List TaskM} {i j : Nat} {m : TaskM} (h : ms[i]? = some m) (hj : j < 9) : (taskCells ms)[i * 9 + j]? = m.cells[j]? := flat_at (f := TaskM.cells) (d := 9) (fun _ _ => rfl) h hj
theorem taskCells_ext {ms : List TaskM} {xs : List Value} (hl : xs.length = ms.length * 9) (h : ∀ i m j, ms[i]? = some m → j < 9 → xs[i * 9 + j]? = m.cells[j]?) : xs = taskCells ms :=
  List.ext_getElem? fun q => by
    by_cases hq : q < ms.length * 9
    · have hi : q / 9 < ms.length := by omega
      have e : q = q / 9 * 9 + q % 9 := by omega
      have hm := List.getElem?_eq_getElem hi
      rw [e, h _ _ _ hm (by omega), task_cells_at hm (by omega)]
    · rw [List.getElem?_eq_none (by omega), List.getElem?_eq_none (by rw [taskCells_len]; omega)]
theorem taskCells_set {ms : List TaskM} {i j : Nat} {m m' : TaskM} {u : Value} (h : ms[i]? = some m) (hj : j < 9) (hc : m.cells.set j u = m'.cells) : (taskCells ms).set (i * 9 + j) u = taskCells (ms.set i m') := by
  have hi := lt_of_some h
  refine taskCells_ext (by rw [List.length_set, List.length_set, taskCells_len]) fun a x r ha hr => ?_
  rw [List.getElem?_set]
  rw [List.getElem?_set] at ha
  by_cases hia : i = a
  · subst hia
    rw [if_pos rfl, if_pos hi] at ha
    injection ha with ha
    subst ha
    rw [← hc, List.getElem?_set]
    by_cases hjr : j = r
    · subst hjr
      rw [if_pos rfl, if_pos rfl, if_pos (by rw [taskCells_len]; omega), if_pos (by simpa using hj)]
    · rw [if_neg (by omega), if_neg hjr, task_cells_at h hr]
  · rw [if_neg hia] at ha
    rw [if_neg (by omega), task_cells_at ha hr]
theorem taskCells_put {ms : List TaskM} {i : Nat} {m m' : TaskM} (h : ms[i]? = some m) : putL (taskCells ms) (i * 9) m'.cells = taskCells (ms.set i m') := by
  have hi := lt_of_some h
  refine taskCells_ext (by rw [putL_length, List.length_set, taskCells_len]) fun a x r ha hr => ?_
  rw [List.getElem?_set] at ha
  by_cases hia : i = a
  · subst hia
    rw [if_pos rfl, if_pos hi] at ha
    injection ha with ha
    subst ha
    exact putL_at _ _ _ _ (by simpa using hr) (by rw [taskCells_len]; show i * 9 + 9 ≤ _; omega)
  · rw [if_neg hia] at ha
    have h9 : m'.cells.length = 9 := rfl
    by_cases hlt : a < i
    · rw [putL_lt _ _ _ _ (by omega), task_cells_at ha hr]
    · rw [putL_past _ _ _ _ (by omega), task_cells_at ha hr]

section
variable {w : World} {lo hi b k c : Nat} {P : Int} {n : NNet}
theorem FN.parts {b : Nat} (h : FN w lo hi (.agg #[.int .i64 P, .slice (some ⟨b, 0, none⟩) k c]) n) : n.places = P ∧ n.tasks.length = k ∧ k ≤ maxLen ∧ lo ≤ b ∧ b < hi ∧ ∃ ms, Row w b (b + 1) (some ⟨b, 0, none⟩) b 0 (taskCells ms) ∧ ms.map TaskM.t = n.tasks ∧ ∀ m ∈ ms, TaskA w lo hi b m := by
  obtain ⟨b', c', ms, e, hm, h1, h2, hr, hmap, hT⟩ := h
  injection e with e
  have e1 := congrArg (fun a => a[0]?) e
  have e2 := congrArg (fun a => a[1]?) e
  simp at e1 e2
  obtain ⟨⟨rfl⟩, rfl, rfl⟩ := e2
  exact ⟨e1.symm, rfl, hm, h1, h2, ms, hr, hmap, hT⟩
theorem FN.of_parts {ms : List TaskM} (hm : ms.length ≤ maxLen) (hk : ms.length = k) (h1 : lo ≤ b) (h2 : b < hi) (hr : Row w b (b + 1) (some ⟨b, 0, none⟩) b 0 (taskCells ms)) (hT : ∀ m ∈ ms, TaskA w lo hi b m) :
    FN w lo hi (.agg #[.int .i64 P, .slice (some ⟨b, 0, none⟩) k c]) ⟨P, ms.map TaskM.t⟩ := by
  subst hk; exact ⟨b, c, ms, by simp, by simpa using hm, h1, h2, hr, rfl, hT⟩
/-- One cell of one task is written. -/
theorem FN.put {i j : Nat} {u : Value} (h : FN w lo hi (.agg #[.int .i64 P, .slice (some ⟨b, 0, none⟩) k c]) n) (hi' : i < k) (hj : j < 9)
    (hf : ∀ m : TaskM, TaskA w lo hi b m → ∃ m' : TaskM, m.cells.set j u = m'.cells ∧ TaskA w lo hi b m') : ∃ n', FN (w.setCell ⟨b, i * 9 + j, none⟩ u) lo hi (.agg #[.int .i64 P, .slice (some ⟨b, 0, none⟩) k c]) n' := by
  obtain ⟨_, hk, hm, h1, h2, ms, hr, hmap, hT⟩ := h.parts
  have hkm : ms.length = k := by rw [← hk, ← hmap]; simp
  have hx : ms[i]? = some (ms[i]'(by omega)) := List.getElem?_eq_getElem (by omega)
  obtain ⟨m', hc, hA⟩ := hf (ms[i]'(by omega)) (hT _ (List.getElem_mem (by omega)))
  refine ⟨_, FN.of_parts (ms := ms.set i m') (by rw [List.length_set]; omega) (by rw [List.length_set]; exact hkm) h1 h2 ?_ fun x hx => ?_⟩
  · have := hr.set_ (i * 9 + j) u (by rw [taskCells_len]; omega)
    rwa [taskCells_set hx hj hc, Nat.zero_add] at this
  · have hxA : TaskA w lo hi b x := by
      rcases List.mem_or_eq_of_mem_set hx with hx | rfl
      · exact hT x hx
      · exact hA
    exact hxA.keep fun g _ _ hne => Below.heap_setCell w _ u g hne
/-- One task is written whole. -/
theorem FN.putTask {i : Nat} {m' : TaskM} (h : FN w lo hi (.agg #[.int .i64 P, .slice (some ⟨b, 0, none⟩) k c]) n) (hi' : i < k) (hA : TaskA w lo hi b m') :
    FN (putAt w b (i * 9) m'.cells) lo hi (.agg #[.int .i64 P, .slice (some ⟨b, 0, none⟩) k c]) ⟨P, n.tasks.set i m'.t⟩ := by
  obtain ⟨_, hk, hm, h1, h2, ms, hr, hmap, hT⟩ := h.parts
  have hkm : ms.length = k := by rw [← hk, ← hmap]; simp
  have hx : ms[i]? = some (ms[i]'(by omega)) := List.getElem?_eq_getElem (by omega)
  have hU := upd_put (lo := b) (hi := b + 1) (b := b) (Nat.le_refl _) (by omega) m'.cells (i * 9) (Upd.refl b (b + 1) w)
  have hf := FN.of_parts (w := putAt w b (i * 9) m'.cells) (lo := lo) (hi := hi) (b := b) (k := k) (c := c) (P := P) (ms := ms.set i m') (by rw [List.length_set]; omega) (by rw [List.length_set]; exact hkm) h1 h2 ?_ fun x hx => ?_
  · rw [List.map_set, hmap] at hf; exact hf
  · have := Row.put m'.cells _ (i * 9) hr (by rw [taskCells_len]; show i * 9 + 9 ≤ _; omega)
    rwa [taskCells_put hx, Nat.zero_add] at this
  · have hxA : TaskA w lo hi b x := by
      rcases List.mem_or_eq_of_mem_set hx with hx | rfl
      · exact hT x hx
      · exact hA
    exact hxA.keep fun g _ _ hne => hU.block g (by omega)
/-- One task's cells. -/
theorem FN.task {i : Nat} (h : FN w lo hi (.agg #[.int .i64 P, .slice (some ⟨b, 0, none⟩) k c]) n) (hi' : i < k) : ∃ m : TaskM, n.tasks[i]? = some m.t ∧ TaskA w lo hi b m ∧
    (∀ j u, m.cells[j]? = some u → w.cell? ⟨b, i * 9 + j, none⟩ = some u) ∧ ∀ j, j < 9 → w.frozen? ⟨b, i * 9 + j, none⟩ = false := by
  obtain ⟨_, hk, hm, h1, h2, ms, hr, hmap, hT⟩ := h.parts
  have hkm : ms.length = k := by rw [← hk, ← hmap]; simp
  have hx : ms[i]? = some (ms[i]'(by omega)) := List.getElem?_eq_getElem (by omega)
  have cc := fun (j : Nat) (u : Value) (hj : j < 9) (hu : (ms[i]'(by omega)).cells[j]? = some u) => hr.2 (i * 9 + j) u ((task_cells_at hx hj).trans hu)
  simp only [Nat.zero_add] at cc
  refine ⟨_, by rw [← hmap]; simp [hx], hT _ (List.getElem_mem (by omega)), fun j u hu => (cc j u (by have := lt_of_some hu; simpa using this) hu).1, fun j hj => (cc j _ hj (List.getElem?_eq_getElem (by simpa using hj))).2⟩
end

/-- The reader, the result's cells, the net's own cells in block N, its tasks. -/
structure NtD (w0 : World) (R p N : Nat) (P : Int) (b k c : Nat) (n : NNet) (w : World) : Prop where
  rd : RdV w R p
  gr : w0.grownBy w (some R)
  res : Blk w w0.heap.size 25 #[.int .i64 0, .slice none 0 0]
  net : Blk w N 25 #[.int .i64 P, .slice (some ⟨b, 0, none⟩) k c]
  fn : FN w (w0.heap.size + 1) w.heap.size (.agg #[.int .i64 P, .slice (some ⟨b, 0, none⟩) k c]) n
  hN : w0.heap.size < N
  lt : N < w.heap.size
  ne : b ≠ N
  hR : R < w0.heap.size
section
variable {w0 w w' : World} {R p p' N b k c : Nat} {P : Int} {n : NNet}
theorem NtD.grown (h : NtD w0 R p N P b k c n w) (hg : w.grownBy w' (some R)) (hr : RdV w' R p') : NtD w0 R p' N P b k c n w' := by
  have hR := h.hR; have hN := h.hN
  exact ⟨hr, grown_tr h.gr hg, h.res.grown hg (by omega), h.net.grown hg (by omega), (h.fn.grown hg (by omega) (Nat.le_refl _)).more (Nat.le_refl _) hg.size, hN, Nat.lt_of_lt_of_le h.lt hg.size, h.ne, hR⟩
theorem NtD.upd (h : NtD w0 R p N P b k c n w) (hu : Upd R (R + 1) w w') (hr : RdV w' R p') : NtD w0 R p' N P b k c n w' := h.grown (grown_upd hu) hr
theorem NtD.alloc (h : NtD w0 R p N P b k c n w) (o : Obj) : NtD w0 R p N P b k c n (w.alloc o) := h.grown (World.grownBy_alloc _ _ _) (h.rd.alloc o)
theorem NtD.below (h : NtD w0 R p N P b k c n w) (hb : Below w.heap.size w w') : NtD w0 R p N P b k c n w' := h.grown (grown_below _ hb) (h.rd.below hb)
theorem NtD.facts (h : NtD w0 R p N P b k c n w) : (w.cell? ⟨w0.heap.size, 0, none⟩ = some (.int .i64 0) ∧ w.cell? ⟨w0.heap.size, 1, none⟩ = some (.slice none 0 0) ∧ w.frozen? ⟨w0.heap.size, 0, none⟩ = false ∧ w.frozen? ⟨w0.heap.size, 1, none⟩ = false) ∧
    w.cell? ⟨N, 0, none⟩ = some (.int .i64 P) ∧ w.cell? ⟨N, 1, none⟩ = some (.slice (some ⟨b, 0, none⟩) k c) ∧ w.frozen? ⟨N, 0, none⟩ = false ∧ w.frozen? ⟨N, 1, none⟩ = false :=
  ⟨⟨h.res.cell 0, h.res.cell 1, h.res.free 0, h.res.free 1⟩, h.net.cell 0, h.net.cell 1, h.net.free 0, h.net.free 1⟩
theorem NtD.bnd (h : NtD w0 R p N P b k c n w) : n.places = P ∧ n.tasks.length = k ∧ k ≤ maxLen ∧ w0.heap.size < b ∧ b < w.heap.size := by
  obtain ⟨h1, h2, h3, h4, h5, _⟩ := h.fn.parts; exact ⟨h1, h2, h3, h4, h5⟩
/-- A cell of the tasks' block is written. -/
theorem NtD.put {j : Nat} {u : Value} {n' : NNet} (h : NtD w0 R p N P b k c n w) (hf : FN (w.setCell ⟨b, j, none⟩ u) (w0.heap.size + 1) w.heap.size (.agg #[.int .i64 P, .slice (some ⟨b, 0, none⟩) k c]) n') : NtD w0 R p N P b k c n' (w.setCell ⟨b, j, none⟩ u) := by
  obtain ⟨_, _, _, h4, h5⟩ := h.bnd
  have hR := h.hR
  have hs : (w.setCell ⟨b, j, none⟩ u).heap.size = w.heap.size := by simp [World.setCell]
  exact ⟨h.rd.setCell (by dsimp only; omega) _, grown_setCell h.gr (by dsimp only; omega) _, h.res.far (by dsimp only; omega) _, h.net.far (Ne.symm h.ne) _, by rw [hs]; exact hf, h.hN, by rw [hs]; exact h.lt, h.ne, hR⟩
/-- The result is stored. -/
theorem NtD.fin (h : NtD w0 R p N P b k c n w) :
    FN ((w.setCell ⟨w0.heap.size, 0, none⟩ (.int .i64 P)).setCell ⟨w0.heap.size, 1, none⟩ (.slice (some ⟨b, 0, none⟩) k c)) w0.heap.size ((w.setCell ⟨w0.heap.size, 0, none⟩ (.int .i64 P)).setCell ⟨w0.heap.size, 1, none⟩ (.slice (some ⟨b, 0, none⟩) k c)).heap.size (.agg #[.int .i64 P, .slice (some ⟨b, 0, none⟩) k c]) n ∧
    RdV ((w.setCell ⟨w0.heap.size, 0, none⟩ (.int .i64 P)).setCell ⟨w0.heap.size, 1, none⟩ (.slice (some ⟨b, 0, none⟩) k c)) R p ∧
    w0.grownBy ((w.setCell ⟨w0.heap.size, 0, none⟩ (.int .i64 P)).setCell ⟨w0.heap.size, 1, none⟩ (.slice (some ⟨b, 0, none⟩) k c)) (some R) := by
  have hR := h.hR
  refine ⟨?_, (h.rd.setCell (by dsimp only; omega) _).setCell (by dsimp only; omega) _, grown_setCell (grown_setCell h.gr (by dsimp only; omega) _) (by dsimp only; omega) _⟩
  have hs : ((w.setCell ⟨w0.heap.size, 0, none⟩ (.int .i64 P)).setCell ⟨w0.heap.size, 1, none⟩ (.slice (some ⟨b, 0, none⟩) k c)).heap.size = w.heap.size := by simp [World.setCell]
  rw [hs]
  refine (h.fn.keep fun g h2 h3 => ?_).more (by omega) (Nat.le_refl _)
  rw [Below.heap_setCell _ _ _ _ (by dsimp only; omega), Below.heap_setCell _ _ _ _ (by dsimp only; omega)]
end
/-- A net that a draw returns, of which something holds. -/
def NetOutQ (w : World) (R q : Nat) (Q : NNet → Prop) (e : Ending) (w' : World) : Prop := ∃ (P : Int) (b k c : Nat) (n : NNet) (p' : Nat), e = .returned (.agg #[.int .i64 P, .slice (some ⟨b, 0, none⟩) k c]) ∧ Q n ∧ p' ≤ q ∧ FN w' w.heap.size w'.heap.size (.agg #[.int .i64 P, .slice (some ⟨b, 0, none⟩) k c]) n ∧ RdV w' R p' ∧ w.grownBy w' (some R)
theorem NetOutQ.of {w w' : World} {R q : Nat} {Q : NNet → Prop} (P : Int) (b k c : Nat) (n : NNet) (p' : Nat) (h0 : Q n) (h1 : p' ≤ q) (h2 : FN w' w.heap.size w'.heap.size (.agg #[.int .i64 P, .slice (some ⟨b, 0, none⟩) k c]) n) (h3 : RdV w' R p') (h4 : w.grownBy w' (some R)) : NetOutQ w R q Q (.returned (.agg #[.int .i64 P, .slice (some ⟨b, 0, none⟩) k c])) w' :=
  ⟨P, b, k, c, n, p', rfl, h0, h1, h2, h3, h4⟩
end Go.Proofs.Ytoggdhbnkbdilaa
