/- Tasks and nets that a draw makes: where they lie, and what keeps them. -/
import Derived.Test.YtkcbghaadjhceaaDraw4
import Derived.Test.YtkcbghaadjhceaaNetEq
import Derived.Test.YtkcbghaadjhceaaMore
import Derived.Maps.AppendAt
import Derived.Deep.DeepCutAuto
namespace Go.Proofs.Ytkcbghaadjhceaa
open Go.RowKit
set_option linter.unusedVariables false
set_option linter.unusedSimpArgs false

/-- A slice of which the block lies between lo and hi, and is not b. -/
def SlA (w : World) (lo hi b : Nat) (v : Value) (n : Nat) (xs : List Value) : Prop := ∃ l h, lo ≤ l ∧ h ≤ hi ∧ (h ≤ b ∨ b < l) ∧ Sl w l h v n xs
structure TaskA (w : World) (lo hi b : Nat) (m : TaskM) : Prop where
  ins : SlA w lo hi b m.vi m.t.ins.length (ints m.t.ins)
  out : SlA w lo hi b m.vo m.t.out.length (flowCells m.t.out)
  clear : SlA w lo hi b m.vc m.t.clear.length (ints m.t.clear)
section
variable {w w' : World} {lo hi lo' hi' b n : Nat} {v : Value} {xs : List Value} {m : TaskM}
theorem SlA.nil_ (w : World) (lo hi b : Nat) : SlA w lo hi b (.slice none 0 0) 0 [] := ⟨lo, 0, Nat.le_refl _, Nat.zero_le _, .inl (Nat.zero_le _), none, 0, 0, 0, rfl, Nat.zero_le _, Row.nil_⟩
theorem SlA.sl (h : SlA w lo hi b v n xs) : Sl w lo hi v n xs := by
  obtain ⟨l, h', h1, h2, _, h3⟩ := h; exact h3.more h1 h2
theorem SlA.keep (h : SlA w lo hi b v n xs) (hk : ∀ g, lo ≤ g → g < hi → g ≠ b → w'.heap[g]? = w.heap[g]?) : SlA w' lo hi b v n xs := by
  obtain ⟨l, h', h1, h2, h3, h4⟩ := h; exact ⟨l, h', h1, h2, h3, h4.keep fun g h5 h6 => hk g (by omega) (by omega) (by omega)⟩
theorem SlA.more (h : SlA w lo hi b v n xs) (h1 : lo' ≤ lo) (h2 : hi ≤ hi') : SlA w lo' hi' b v n xs := by
  obtain ⟨l, h', h3, h4, h5, h6⟩ := h; exact ⟨l, h', by omega, by omega, h5, h6⟩
theorem Sl.away (h : Sl w lo hi v n xs) (hb : hi ≤ b ∨ b < lo) : SlA w lo hi b v n xs := ⟨lo, hi, Nat.le_refl _, Nat.le_refl _, hb, h⟩
theorem TaskA.keep (h : TaskA w lo hi b m) (hk : ∀ g, lo ≤ g → g < hi → g ≠ b → w'.heap[g]? = w.heap[g]?) : TaskA w' lo hi b m := ⟨h.ins.keep hk, h.out.keep hk, h.clear.keep hk⟩
theorem TaskA.more (h : TaskA w lo hi b m) (h1 : lo' ≤ lo) (h2 : hi ≤ hi') : TaskA w lo' hi' b m := ⟨h.ins.more h1 h2, h.out.more h1 h2, h.clear.more h1 h2⟩
theorem TaskA.task (h : TaskA w lo hi b m) : TaskV w lo hi m.t m.vi m.vo m.vc := ⟨h.ins.sl, h.out.sl, h.clear.sl⟩
theorem TaskV.away {t : NTask} {vi vo vc : Value} (h : TaskV w lo hi t vi vo vc) (hb : hi ≤ b ∨ b < lo) : TaskA w lo hi b ⟨t, vi, vo, vc⟩ := ⟨h.ins.away hb, h.out.away hb, h.clear.away hb⟩
theorem TaskA.grown {R : Nat} (h : TaskA w lo hi b m) (hg : w.grownBy w' (some R)) (hR : R < lo) (hh : hi ≤ w.heap.size) : TaskA w' lo hi b m := h.keep fun g h1 h2 _ => hg.block g (by omega) (fun e => by injection e; omega)
end

/-- Tasks made one behind the other, each by itself. -/
def Tks (w : World) (lo : Nat) (ms : List TaskM) : Prop := ∀ m ∈ ms, TaskV w lo w.heap.size m.t m.vi m.vo m.vc
section
variable {w w' : World} {lo R : Nat} {ms : List TaskM} {m : TaskM}
theorem Tks.nil_ (w : World) (lo : Nat) : Tks w lo [] := fun m hm => by simp at hm
theorem Tks.grown (h : Tks w lo ms) (hg : w.grownBy w' (some R)) (hR : R < lo) : Tks w' lo ms := fun m hm =>
  ((h m hm).keep fun g h1 h2 => hg.block g (by omega) (fun e => by injection e; omega)).more (Nat.le_refl _) hg.size
theorem Tks.alloc (h : Tks w lo ms) (o : Obj) : Tks (w.alloc o) lo ms := fun m hm => ((h m hm).keep fun g h1 h2 => Below.heap_alloc w o g h2).more (Nat.le_refl _) (by simp)
theorem Tks.snoc (h : Tks w lo ms) (hm : TaskV w lo w.heap.size m.t m.vi m.vo m.vc) : Tks w lo (ms ++ [m]) := fun x hx => by
  rcases List.mem_append.1 hx with hx | hx
  · exact h x hx
  · simp at hx; subst hx; exact hm
end

/-- A net made by the call itself: the tasks' block b is none of those that hold the tasks' slices. -/
def FN (w : World) (lo hi : Nat) (v : Value) (n : NNet) : Prop := ∃ b c ms, v = .agg #[.int .i64 n.places, .slice (some ⟨b, 0, none⟩) n.tasks.length c] ∧ n.tasks.length ≤ maxLen ∧ lo ≤ b ∧ b < hi ∧
  Row w b (b + 1) (some ⟨b, 0, none⟩) b 0 (taskCells ms) ∧ ms.map TaskM.t = n.tasks ∧ ∀ m ∈ ms, TaskA w lo hi b m
section
variable {w w' : World} {lo hi lo' hi' : Nat} {v : Value} {n : NNet}
theorem FN.net (h : FN w lo hi v n) : NetV w lo hi v n := by
  obtain ⟨b, c, ms, rfl, hm, h1, h2, hr, hmap, hT⟩ := h
  exact ⟨_, b, 0, c, ms, rfl, hm, hr.more h1 h2, hmap, fun m hm => (hT m hm).task⟩
theorem FN.keep (h : FN w lo hi v n) (hk : ∀ g, lo ≤ g → g < hi → w'.heap[g]? = w.heap[g]?) : FN w' lo hi v n := by
  obtain ⟨b, c, ms, rfl, hm, h1, h2, hr, hmap, hT⟩ := h
  exact ⟨b, c, ms, rfl, hm, h1, h2, hr.keep (fun g h3 h4 => hk g (by omega) (by omega)), hmap, fun m hm => (hT m hm).keep fun g h3 h4 _ => hk g h3 h4⟩
theorem FN.more (h : FN w lo hi v n) (h1 : lo' ≤ lo) (h2 : hi ≤ hi') : FN w lo' hi' v n := by
  obtain ⟨b, c, ms, rfl, hm, h3, h4, hr, hmap, hT⟩ := h
  exact ⟨b, c, ms, rfl, hm, by omega, by omega, hr, hmap, fun m hm => (hT m hm).more h1 h2⟩
theorem FN.grown {R : Nat} (h : FN w lo hi v n) (hg : w.grownBy w' (some R)) (hR : R < lo) (hh : hi ≤ w.heap.size) : FN w' lo hi v n := h.keep fun g h1 h2 => hg.block g (by omega) (fun e => by injection e; omega)
theorem FN.alloc (h : FN w lo hi v n) (hh : hi ≤ w.heap.size) (o : Obj) : FN (w.alloc o) lo hi v n := h.keep fun g h1 h2 => Below.heap_alloc w o g (by omega)
theorem FN.below (h : FN w lo hi v n) {B : Nat} (hb : Below B w w') (hh : hi ≤ B) : FN w' lo hi v n := h.keep fun g h1 h2 => hb.block g (by omega)
/-- Tasks laid in a new block: a net. -/
theorem Tks.lay {w : World} {lo : Nat} {ms : List TaskM} {T : TypeId} {p : Int} (h : Tks w lo ms) (hlo : lo ≤ w.heap.size) (hm : ms.length ≤ maxLen) (k : Nat) (hk : ms.length = k) (cs : Array Value) (hcs : taskCells ms = cs.toList) : FN (w.alloc (.cells cs T)) lo (w.heap.size + 1) (.agg #[.int .i64 p, .slice (some ⟨w.heap.size, 0, none⟩) k k]) ⟨p, ms.map TaskM.t⟩ := by
  subst hk
  refine ⟨w.heap.size, ms.length, ms, by simp, by simpa using hm, hlo, by omega, by rw [hcs]; exact Row.new w cs T, rfl, fun m hm => ?_⟩
  have h1 := (h m hm).keep (w' := w.alloc (.cells cs T)) fun g h1 h2 => Below.heap_alloc w _ g h2
  exact TaskA.more (TaskV.away (b := w.heap.size) h1 (.inl (Nat.le_refl _))) (Nat.le_refl _) (by omega)
end
end Go.Proofs.Ytkcbghaadjhceaa

/- The draw of a task: whatever its arguments, it returns, and what it makes is its own. -/
namespace Go.Proofs.Ytkcbghaadjhceaa
open Go.RowKit
set_option linter.unusedVariables false
set_option linter.unusedSimpArgs false

/-- A task under way: its nine cells in block T, its flows in a row of its own behind T, the cell of the result ahead of T. -/
structure TskW (w0 : World) (R T : Nat) (t : NTask) (vin vo : Value) (p : Nat) (w : World) : Prop where
  row : Row w T (T + 1) (some ⟨T, 0, none⟩) T 0 (t.cells vin vo (.slice none 0 0))
  res : Row w w0.heap.size (w0.heap.size + 1) (some ⟨w0.heap.size, 0, none⟩) w0.heap.size 0 (NTask.cells ⟨0, 0, [], [], [], 0, 0, 0, 0⟩ (.slice none 0 0) (.slice none 0 0) (.slice none 0 0))
  own : w.ownsRow (T + 1) 56 4 vo t.out.length (flowCells t.out)
  rd : RdV w R p
  gr : w0.grownBy w (some R)
  hR : R < w0.heap.size
  hT : w0.heap.size < T
  lt : T < w.heap.size
section
variable {w0 w w' : World} {R T p p' : Nat} {t : NTask} {vin vo : Value}
theorem TskW.upd (h : TskW w0 R T t vin vo p w) (hu : Upd R (R + 1) w w') (hr : RdV w' R p') : TskW w0 R T t vin vo p' w' :=
  ⟨h.row.upd hu (.inr (by have := h.hR; have := h.hT; omega)), h.res.upd hu (.inr (by have := h.hR; omega)), h.own.kept (grown_upd hu) (by
    rcases hv : vo.ownBlock with _ | g
    · exact .inl rfl
    · right; intro e; injection e with e; have := (h.own.lt g hv).1; have := h.hR; have := h.hT; omega), hr, grown_tr h.gr (grown_upd hu), h.hR, h.hT, by rw [hu.size]; exact h.lt⟩
theorem TskW.alloc (h : TskW w0 R T t vin vo p w) (o : Obj) : TskW w0 R T t vin vo p (w.alloc o) :=
  ⟨h.row.alloc h.lt o, h.res.alloc (by have := h.hT; have := h.lt; omega) o, h.own.alloc o, h.rd.alloc o, grown_alloc h.gr o, h.hR, h.hT, by have := h.lt; simp; omega⟩
/-- A cell of the task is written. -/
theorem TskW.put (h : TskW w0 R T t vin vo p w) {t' : NTask} (k : Nat) (u : Value) (hk : k < 9) (hc : (t.cells vin vo (.slice none 0 0)).set k u = t'.cells vin vo (.slice none 0 0)) (ho : t'.out = t.out) : TskW w0 R T t' vin vo p (w.setCell ⟨T, k, none⟩ u) := by
  have hT := h.hT; have hR := h.hR; have hlt := h.lt
  refine ⟨by rw [← hc]; have := h.row.set_ k u (by simpa using hk); rwa [Nat.zero_add] at this, h.res.setCell (.inr (by dsimp only; omega)) _, ?_, h.rd.setCell (by dsimp only; omega) _, grown_setCell h.gr (by dsimp only; omega) _, hR, hT, by simpa [World.setCell] using hlt⟩
  rw [ho]
  refine h.own.kept (row := some T) ⟨rfl, rfl, rfl, by simp [World.setCell], fun g hg hne => Below.heap_setCell w _ u g (by intro e; exact hne (by rw [e]))⟩ ?_
  rcases hv : vo.ownBlock with _ | g
  · exact .inl rfl
  · right; intro e; injection e with e; have := (h.own.lt g hv).1; omega
/-- A flow more. -/
theorem TskW.more (h : TskW w0 R T t vin vo p w) {vo' : Value} {f : NFlow} (hg : w.grownBy w' vo.ownBlock) (ho : w'.ownsRow (T + 1) 56 4 vo' (t.out.length + 1) (flowCells t.out ++ f.cells)) :
    TskW w0 R T { t with out := t.out ++ [f] } vin vo' p (w'.setCell ⟨T, 3, none⟩ vo') := by
  have hT := h.hT; have hR := h.hR; have hlt := h.lt
  have hb : ∀ g, g ≤ T → w'.heap[g]? = w.heap[g]? := fun g hg' => hg.block g (by omega) (fun e => by have := (h.own.lt g e.symm).1; omega)
  have hr := (h.row.keep (w' := w') fun g h1 h2 => hb g (by omega)).set_ 3 vo' (by simp)
  rw [Nat.zero_add] at hr
  refine ⟨hr, (h.res.keep (w' := w') fun g h1 h2 => hb g (by omega)).setCell (.inr (by dsimp only; omega)) _, ?_, (h.rd.keep (fun g hg' => hb g (by omega)) hg.size).setCell (by dsimp only; omega) _,
    grown_setCell ⟨hg.os.trans h.gr.os, hg.tape.trans h.gr.tape, hg.output.trans h.gr.output, Nat.le_trans h.gr.size hg.size, fun i hi hne => (hb i (by omega)).trans (h.gr.block i hi hne)⟩ (by dsimp only; omega) _, hR, hT, by have := hg.size; simp [World.setCell]; omega⟩
  have ho' : w'.ownsRow (T + 1) 56 4 vo' (t.out ++ [f]).length (flowCells (t.out ++ [f])) := by simpa [List.flatMap_append] using ho
  refine ho'.kept (row := some T) ⟨rfl, rfl, rfl, by simp [World.setCell], fun g hg hne => Below.heap_setCell w' _ _ g (by intro e; exact hne (by rw [e]))⟩ ?_
  rcases hv : vo'.ownBlock with _ | g
  · exact .inl rfl
  · right; intro e; injection e with e; have := (ho.lt g hv).1; omega
theorem TskW.facts (h : TskW w0 R T t vin vo p w) : (w.cell? ⟨T, 3, none⟩ = some vo ∧ w.cell? ⟨T, 7, none⟩ = some (.int .i64 t.all) ∧ w.cell? ⟨T, 6, none⟩ = some (.int .i64 t.apart) ∧ w.cell? ⟨T, 8, none⟩ = some (.int .i64 t.need)) ∧ w.frozen? ⟨T, 3, none⟩ = false ∧ w.frozen? ⟨T, 6, none⟩ = false ∧ w.frozen? ⟨T, 7, none⟩ = false ∧ w.frozen? ⟨T, 8, none⟩ = false := by
  obtain ⟨⟨_, _, _, c3, _, _, c6, c7, c8⟩, _, _, _, f3, _, _, f6, f7, f8⟩ := h.row.nine
  exact ⟨⟨c3, c7, c6, c8⟩, f3, f6, f7, f8⟩
/-- A cell behind the task's is written. -/
theorem TskW.far (h : TskW w0 R T t vin vo p w) {b : Nat} (hb : T < b) (hv : ∀ g, vo.ownBlock = some g → g ≠ b) (k : Nat) (u : Value) : TskW w0 R T t vin vo p (w.setCell ⟨b, k, none⟩ u) := by
  have hT := h.hT; have hR := h.hR; have hlt := h.lt
  refine ⟨h.row.setCell (.inr (by dsimp only; omega)) _, h.res.setCell (.inr (by dsimp only; omega)) _, ?_, h.rd.setCell (by dsimp only; omega) _, grown_setCell h.gr (by dsimp only; omega) _, hR, hT, by simpa [World.setCell] using hlt⟩
  refine h.own.kept (row := some b) ⟨rfl, rfl, rfl, by simp [World.setCell], fun g hg hne => Below.heap_setCell w _ u g (by intro e; exact hne (by rw [e]))⟩ ?_
  rcases hv' : vo.ownBlock with _ | g
  · exact .inl rfl
  · right; intro e; injection e with e; exact hv g hv' e
/-- The flows as a slice. -/
theorem own_sl {w : World} {base n : Nat} {e : TypeId} {sz : Nat} {v : Value} {xs : List Value} (h : w.ownsRow base e sz v n xs) : Sl w base w.heap.size v n xs := by
  rcases h.2 with ⟨rfl, hn⟩ | ⟨g, cap, cur, rfl, hg, hh, hc, hm, _⟩
  · have := h.1
    subst hn
    rw [Nat.zero_mul] at this
    obtain rfl := List.length_eq_zero_iff.1 this
    exact ⟨none, 0, 0, 0, rfl, Nat.zero_le _, Row.nil_⟩
  · obtain ⟨b, hr⟩ := Row.of_own h
    exact ⟨_, b, 0, cap, rfl, Nat.le_trans hc hm, hr⟩
theorem own_any {w : World} {base n : Nat} {e : TypeId} {sz : Nat} {v : Value} {xs : List Value} (h : w.ownsRow base e sz v n xs) : ∃ A c, v = .slice A n c := by
  rcases h.2 with ⟨rfl, rfl⟩ | ⟨g, cap, cur, rfl, _⟩
  · exact ⟨none, 0, rfl⟩
  · exact ⟨_, cap, rfl⟩
end

/-- Four new cells, as an appended flow. -/
theorem four_cells (w : World) (x y z u : Value) (T : TypeId) : ∀ (j : Nat) (v : Value), [x, y, z, u][j]? = some v → (w.alloc (.cells #[x, y, z, u] T)).cell? ((⟨w.heap.size, 0, none⟩ : Addr).add j) = some v := by
  intro j v hj
  rw [addr_add0, Nat.zero_add, World.cell?_alloc_at _ _ _ _ rfl]
  simpa using hj

def TskInv (w : World) (R p q T : Nat) (j s : Int) (ins : List Int) (vin : Value) (k : Nat) (wr : World) : Prop := ∃ (t : NTask) (vo : Value) (p' : Nat), t.join = j ∧ t.split = s ∧ t.ins = ins ∧ t.clear = [] ∧ t.out.length = k ∧ p' ≤ p + q + 3 * k ∧ TskW w R T t vin vo p' wr

set_option maxHeartbeats 1000000 in
set_option maxRecDepth 20000 in
theorem l20Task_c (R p : Nat) (j s m : Int) (ins tos : List Int) (lo hi : Nat) (A : Option Addr) (b off c : Nat) (Ai : Option Addr) (ci : Nat) (w : World) (hR : RdV w R p) (hp : p ≤ 900000) (hm : m ≤ 1000) (hm0 : -1000000 ≤ m)
    (hV : Row w lo hi A b off (ints tos)) (hhi : hi ≤ w.heap.size) (hlo : R < lo) (hl : tos.length ≤ 1000) :
    Calls Try.prog 90 #[.pointer (some ⟨R, 0, none⟩), .int .i64 j, .int .i64 s, .slice Ai ins.length ci, .slice A tos.length c, .int .i64 m] w fun e w' => ∃ (t : NTask) (Ao : Option Addr) (co : Nat) (p' : Nat),
      e = .returned (.agg #[.int .i64 t.join, .int .i64 t.split, .slice Ai ins.length ci, .slice Ao t.out.length co, .slice none 0 0, .int .i64 t.role, .int .i64 t.apart, .int .i64 t.all, .int .i64 t.need]) ∧ t.ins = ins ∧ t.clear = [] ∧ t.out.length = tos.length ∧ p' ≤ p + 5 + 3 * tos.length ∧
      Sl w' w.heap.size w'.heap.size (.slice Ao t.out.length co) t.out.length (flowCells t.out) ∧ RdV w' R p' ∧ w.grownBy w' (some R) := by
  obtain ⟨i0, hi0, hz0, hz1, hz2⟩ := info_parts Try.infoFlow
  have hRlt := hR.lt
  go_enter Try.func90, Try.ntmps90
  go_wp2_with fail
  refine (pick_c R p 3 _ (hR.alloc _) (by omega) (by omega) (by omega)).mono ?_
  rintro e w1 ⟨r1, rfl, hr1, hrd1, hu1⟩
  have HRES1 := Lib.hid ((Row.new w (NTask.cells ⟨0, 0, [], [], [], 0, 0, 0, 0⟩ (.slice none 0 0) (.slice none 0 0) (.slice none 0 0)).toArray 36).upd hu1 (.inr (by omega)))
  have hr1' : (r1 : Int) < 3 := pick_lt hr1 (by omega)
  have HG1 := Lib.hid (grown_tr (World.grownBy_alloc w _ (some R)) (grown_upd hu1))
  have HR1 := Lib.hid hrd1
  have hs1 : w.heap.size + 1 = w1.heap.size := by have := hu1.size; simp at this; omega
  have HS1 := Lib.hid hs1
  clear hrd1 hu1 hr1 hs1
  go_wp2_with fail
  refine (pick_c R (p + 1) 3 _ HR1.out (by omega) (by omega) (by omega)).mono ?_
  rintro e w2 ⟨r2, rfl, hr2, hrd2, hu2⟩
  have hr2' : (r2 : Int) < 3 := pick_lt hr2 (by omega)
  have HRES2 := Lib.hid (HRES1.out.upd hu2 (.inr (by omega)))
  have HG2 := Lib.hid (grown_tr HG1.out (grown_upd hu2))
  have HR2 := Lib.hid hrd2
  have HS2 : Hid (w.heap.size + 1 = w2.heap.size) := Lib.hid (HS1.out.trans hu2.size.symm)
  clear hrd2 hu2 hr2
  have HW2 : Hid (TskW w R w2.heap.size ⟨j, s, ins, [], [], 1 + (r1 : Int), -1, 1 + (r2 : Int), 0⟩ (.slice Ai ins.length ci) (.slice none 0 0) (p + 1 + 1) (w2.alloc (.cells (NTask.cells ⟨j, s, ins, [], [], 1 + (r1 : Int), -1, 1 + (r2 : Int), 0⟩ (.slice Ai ins.length ci) (.slice none 0 0) (.slice none 0 0)).toArray 36))) :=
    Lib.hid ⟨Row.new w2 _ _, HRES2.out.alloc (by have := HS2.out; omega) _, World.ownsRow_nil _ _ _ _, HR2.out.alloc _, grown_alloc HG2.out _, hRlt, by have := HS2.out; omega, by simp⟩
  clear HRES1 HG1 HR1 HS1 HRES2 HG2 HR2
  go_wp2_with fail
  refine (pick_c R (p + 1 + 1) (1 + (r2 : Int)) _ HW2.out.rd (by omega) (by omega) (by omega)).mono ?_
  rintro e w3 ⟨r3, rfl, hr3, hrd3, hu3⟩
  have HW3 := Lib.hid (HW2.out.upd hu3 hrd3)
  obtain ⟨⟨_, _, _, hc8⟩, _, _, _, hf8⟩ := HW3.out.facts
  have HW4 := Lib.hid (HW3.out.put (t' := ⟨j, s, ins, [], [], 1 + (r1 : Int), -1, 1 + (r2 : Int), 1 + (r3 : Int)⟩) 8 (.int .i64 (1 + (r3 : Int))) (by omega) rfl rfl)
  have hr3' : (r3 : Int) < 3 := by rcases hr3 with h | h <;> omega
  clear hrd3 hu3 hr3
  go_upto_if 34 with (first
    | (go_at_call 43; refine (pick_c R (p + 1 + 1 + 1) 3 _ HW4.out.rd (by omega) (by omega) (by omega)).mono ?_; rintro e w5 ⟨r5, rfl, hr5, hrd5, hu5⟩))
  have HW5 := Lib.hid (HW4.out.upd hu5 hrd5)
  obtain ⟨⟨_, _, hc6, _⟩, _, hf6, _, _⟩ := HW5.out.facts
  have HS5 := Lib.hid HW5.out.lt
  clear hrd5 hu5 hf8 hc8
  go_cut [13] (fun s13 wc => ∃ T, s13 = .pointer (some ⟨T, 0, none⟩) ∧ TskInv w R p 5 T j s ins (.slice Ai ins.length ci) 0 wc)
  case first =>
    by_cases h5 : r5 = 0
    · have h5' : ((r5 : Int) == 0) = true := by simp [h5]
      clear h5
      go_wp2_with fail
      refine (pick_c R (p + 1 + 1 + 1 + 1) m _ HW5.out.rd (by omega) (by omega) (by omega)).mono ?_
      rintro e w6 ⟨r6, rfl, hr6, hrd6, hu6⟩
      have HW6 := Lib.hid (HW5.out.upd hu6 hrd6)
      obtain ⟨⟨_, _, hc6, _⟩, _, hf6, _, _⟩ := HW6.out.facts
      clear hrd6 hu6 hr6
      go_wp2
      go_meet
      exact ⟨w2.heap.size, rfl, ⟨j, s, ins, [], [], 1 + (r1 : Int), (r6 : Int), 1 + (r2 : Int), 1 + (r3 : Int)⟩, .slice none 0 0, p + 1 + 1 + 1 + 1 + 1, rfl, rfl, rfl, rfl, rfl, by omega, HW6.out.put 6 (.int .i64 (r6 : Int)) (by omega) rfl rfl⟩
    · have h5' : ((r5 : Int) == 0) = false := by simp [h5]
      clear h5
      go_wp2
      go_meet
      exact ⟨w2.heap.size, rfl, ⟨j, s, ins, [], [], 1 + (r1 : Int), -1, 1 + (r2 : Int), 1 + (r3 : Int)⟩, .slice none 0 0, p + 1 + 1 + 1 + 1, rfl, rfl, rfl, rfl, rfl, by omega, HW5.out⟩
  case rest =>
    clear HW2 HW3 HW4 HW5 hf6 hc6 HS5 HS2
    obtain ⟨T, rfl, hinv⟩ := hcut
    have HINV := Lib.hid hinv
    clear hinv
    go_wp2
    go_loopw [14] (fun i wr => ∃ k : Nat, k ≤ tos.length ∧ i = .int .i64 k ∧ TskInv w R p 5 T j s ins (.slice Ai ins.length ci) k wr) (fun i _ => tos.length - (intOf i).toNat)
    case atStart => exact ⟨0, Nat.zero_le _, rfl, HINV.out⟩
    case round =>
      obtain ⟨k, hk, rfl, t, vo, p', hj, hs, hins, hcl, hol, hp', hW⟩ := hrel
      have HW := Lib.hid hW
      have HOL := Lib.hid hol
      have HH := Lib.hid (And.intro hj (And.intro hs (And.intro hins hcl)))
      have hTl := hW.lt
      have hwl : w.heap.size ≤ wr.heap.size := hW.gr.size
      obtain ⟨⟨hc3, _, _, _⟩, hf3, _, _, _⟩ := hW.facts
      have HC3 := Lib.hid hc3
      have HF3 := Lib.hid hf3
      have HT := Lib.hid hW.hT
      clear hW hol hj hs hins hcl hc3 hf3
      by_cases hlt : k < tos.length
      · have hlt1 : (k : Int) < (tos.length : Int) := by omega
        obtain ⟨rfl, hb1, hb2, x, hx, hcx, hfx⟩ := (hV.grown HW.out.gr (.inr hlo) hhi).int hlt
        clear hfx hx
        have HWF := Lib.hid (HW.out.alloc (.cells #[.int .i64 x, .int .i64 0, .int .i64 0, .int .i64 0] 56))
        by_cases hs1 : s = 1
        · subst hs1
          have HWG := Lib.hid (HWF.out.alloc (.cells #[.int .i64 x, .int .i64 0, .int .i64 0, .int .i64 0] 56))
          obtain ⟨⟨hc3, _, _, _⟩, hf3, _, _, _⟩ := HWF.out.facts
          obtain ⟨⟨hc3g, _, _, _⟩, hf3g, _, _, _⟩ := HWG.out.facts
          obtain ⟨Ao, co, rfl⟩ := own_any HW.out.own
          have hc3w := HC3.out
          have hf3w := HF3.out
          clear HC3 HF3
          go_wp2_with (at_builtin; refine wpList_append_own _ rfl _ _ 34 rfl (T + 1) 56 i0 _ 4 32 Try.underlying34 hi0 hz0 hz1 hz2 rfl (by omega) _ t.out.length (flowCells t.out) rfl HWG.out.own ⟨wr.heap.size + 1, 0, none⟩ 1 1 [.int .i64 x, .int .i64 0, .int .i64 0, .int .i64 0] rfl rfl (by have := four_cells (wr.alloc (.cells #[.int .i64 x, .int .i64 0, .int .i64 0, .int .i64 0] 56)) (.int .i64 x) (.int .i64 0) (.int .i64 0) (.int .i64 0) 56; simpa [World.setCell] using this) (by intro u hu; simp at hu; rcases hu with rfl | rfl | rfl | rfl <;> rfl) (by have := HOL.out; unfold maxLen; omega) (by have := HOL.out; omega) (by simp; omega) ?_; intro v' w3 hown3 hg3 _; obtain ⟨Ao', co', rfl⟩ := own_any hown3; have HM := Lib.hid (HWG.out.more (f := ⟨x, 0, 0, 0⟩) hg3 hown3); have hT3 := hg3.block T (by have := HWG.out.lt; simpa using this) (fun e => by have := (HWG.out.own.lt T e.symm).1; omega); have hf3' : w3.frozen? ⟨T, 3, none⟩ = false := (World.frozen?_of_block (a := ⟨T, 3, none⟩) hT3).trans hf3g; have hc3' := (World.cell?_of_block (a := ⟨T, 3, none⟩) hT3).trans hc3g; clear hown3 hg3 hc3 hf3 hc3g hf3g hT3)
          go_roundw
          case rel => exact ⟨k + 1, by omega, by go_num, { t with out := t.out ++ [⟨x, 0, 0, 0⟩] }, _, p', HH.out.1, HH.out.2.1, HH.out.2.2.1, HH.out.2.2.2, by simp [HOL.out], by omega, HM.out⟩
          case measure => simp [intOf]; omega
        · by_cases hlast : (k : Int) < (tos.length : Int) - 1
          · have HF := Lib.hid (Row.new wr #[.int .i64 x, .int .i64 0, .int .i64 0, .int .i64 0] 56)
            go_wp2_with fail
            refine (pick_c R p' 3 _ HWF.out.rd (by omega) (by omega) (by omega)).mono ?_
            rintro e w4 ⟨r7, rfl, hr7, hrd4, hu4⟩
            have HW4 := Lib.hid (HWF.out.upd hu4 hrd4)
            have HF4 := Lib.hid (HF.out.upd hu4 (.inr (by omega)))
            have HS4 : Hid (wr.heap.size + 1 = w4.heap.size) := Lib.hid (by have := hu4.size; simp at this; omega)
            clear hrd4 hu4 HWF HF
            go_wp2_with fail
            refine (pick_c R (p' + 1) 3 _ HW4.out.rd (by omega) (by omega) (by omega)).mono ?_
            rintro e w5 ⟨r8, rfl, hr8, hrd5, hu5⟩
            have HW5 := Lib.hid (HW4.out.upd hu5 hrd5)
            have HF5 := Lib.hid (HF4.out.upd hu5 (.inr (by omega)))
            have HS5 : Hid (wr.heap.size + 1 = w5.heap.size) := Lib.hid (HS4.out.trans hu5.size.symm)
            clear hrd5 hu5 HW4 HF4 HS4
            go_wp2_with fail
            refine (pick_c R (p' + 1 + 1) 5 _ HW5.out.rd (by omega) (by omega) (by omega)).mono ?_
            rintro e w6 ⟨r9, rfl, hr9, hrd6, hu6⟩
            have HW6 := Lib.hid (HW5.out.upd hu6 hrd6)
            have HF6 := Lib.hid (HF5.out.upd hu6 (.inr (by omega)))
            have hs6 : wr.heap.size + 1 = w6.heap.size := HS5.out.trans hu6.size.symm
            clear hrd6 hu6 HW5 HF5 HS5
            have hv6 : ∀ g, vo.ownBlock = some g → g ≠ wr.heap.size := fun g hg => by have := (HW.out.own.lt g hg).2; omega
            have HT' := HT.out
            have HW7 := Lib.hid (((HW6.out.far (b := wr.heap.size) (by have := HW.out.lt; omega) hv6 1 (.int .i64 (1 + (r7 : Int)))).far (b := wr.heap.size) (by have := HW.out.lt; omega) hv6 2 (.int .i64 (r8 : Int))).far (b := wr.heap.size) (by have := HW.out.lt; omega) hv6 3 (.int .i64 ((r9 : Int) - 1)))
            obtain ⟨⟨q0, q1, q2, q3⟩, j0, j1, j2, j3⟩ := HF6.out.four
            have hTw := HW.out.lt
            have HWG := Lib.hid (HW7.out.alloc (.cells #[.int .i64 x, .int .i64 (1 + (r7 : Int)), .int .i64 (r8 : Int), .int .i64 ((r9 : Int) - 1)] 56))
            obtain ⟨⟨hc3, _, _, _⟩, hf3, _, _, _⟩ := HW7.out.facts
            obtain ⟨⟨hc3g, _, _, _⟩, hf3g, _, _, _⟩ := HWG.out.facts
            obtain ⟨Ao, co, rfl⟩ := own_any HW.out.own
            have hc3w := HC3.out
            have hf3w := HF3.out
            clear HC3 HF3
            go_wp2_with (at_builtin; refine wpList_append_own _ rfl _ _ 34 rfl (T + 1) 56 i0 _ 4 32 Try.underlying34 hi0 hz0 hz1 hz2 rfl (by omega) _ t.out.length (flowCells t.out) rfl HWG.out.own ⟨w6.heap.size, 0, none⟩ 1 1 [.int .i64 x, .int .i64 (1 + (r7 : Int)), .int .i64 (r8 : Int), .int .i64 ((r9 : Int) - 1)] rfl rfl (by have := four_cells (((w6.setCell ⟨wr.heap.size, 1, none⟩ (.int .i64 (1 + (r7 : Int)))).setCell ⟨wr.heap.size, 2, none⟩ (.int .i64 (r8 : Int))).setCell ⟨wr.heap.size, 3, none⟩ (.int .i64 ((r9 : Int) - 1))) (.int .i64 x) (.int .i64 (1 + (r7 : Int))) (.int .i64 (r8 : Int)) (.int .i64 ((r9 : Int) - 1)) 56; simpa [World.setCell] using this) (by intro u hu; simp at hu; rcases hu with rfl | rfl | rfl | rfl <;> rfl) (by have := HOL.out; unfold maxLen; omega) (by have := HOL.out; omega) (by simp; omega) ?_; intro v' w3 hown3 hg3 _; obtain ⟨Ao', co', rfl⟩ := own_any hown3; have HM := Lib.hid (HWG.out.more (f := ⟨x, 1 + (r7 : Int), (r8 : Int), (r9 : Int) - 1⟩) hg3 hown3); have hT3 := hg3.block T (by have := HWG.out.lt; simpa using this) (fun e => by have := (HWG.out.own.lt T e.symm).1; omega); have hf3' : w3.frozen? ⟨T, 3, none⟩ = false := (World.frozen?_of_block (a := ⟨T, 3, none⟩) hT3).trans hf3g; have hc3' := (World.cell?_of_block (a := ⟨T, 3, none⟩) hT3).trans hc3g; clear hown3 hg3 hc3 hf3 hc3g hf3g hT3)
            go_roundw
            case rel => exact ⟨k + 1, by omega, by go_num, { t with out := t.out ++ [⟨x, 1 + (r7 : Int), (r8 : Int), (r9 : Int) - 1⟩] }, _, p' + 1 + 1 + 1, HH.out.1, HH.out.2.1, HH.out.2.2.1, HH.out.2.2.2, by simp [HOL.out], by omega, HM.out⟩
            case measure => simp [intOf]; omega
          · have hlast' : ¬ ((k : Int) < (tos.length : Int) - 1) := hlast
            have HWG := Lib.hid (HWF.out.alloc (.cells #[.int .i64 x, .int .i64 0, .int .i64 0, .int .i64 0] 56))
            obtain ⟨⟨hc3, _, _, _⟩, hf3, _, _, _⟩ := HWF.out.facts
            obtain ⟨⟨hc3g, _, _, _⟩, hf3g, _, _, _⟩ := HWG.out.facts
            obtain ⟨Ao, co, rfl⟩ := own_any HW.out.own
            have hc3w := HC3.out
            have hf3w := HF3.out
            clear HC3 HF3
            go_wp2_with (at_builtin; refine wpList_append_own _ rfl _ _ 34 rfl (T + 1) 56 i0 _ 4 32 Try.underlying34 hi0 hz0 hz1 hz2 rfl (by omega) _ t.out.length (flowCells t.out) rfl HWG.out.own ⟨wr.heap.size + 1, 0, none⟩ 1 1 [.int .i64 x, .int .i64 0, .int .i64 0, .int .i64 0] rfl rfl (by have := four_cells (wr.alloc (.cells #[.int .i64 x, .int .i64 0, .int .i64 0, .int .i64 0] 56)) (.int .i64 x) (.int .i64 0) (.int .i64 0) (.int .i64 0) 56; simpa [World.setCell] using this) (by intro u hu; simp at hu; rcases hu with rfl | rfl | rfl | rfl <;> rfl) (by have := HOL.out; unfold maxLen; omega) (by have := HOL.out; omega) (by simp; omega) ?_; intro v' w3 hown3 hg3 _; obtain ⟨Ao', co', rfl⟩ := own_any hown3; have HM := Lib.hid (HWG.out.more (f := ⟨x, 0, 0, 0⟩) hg3 hown3); have hT3 := hg3.block T (by have := HWG.out.lt; simpa using this) (fun e => by have := (HWG.out.own.lt T e.symm).1; omega); have hf3' : w3.frozen? ⟨T, 3, none⟩ = false := (World.frozen?_of_block (a := ⟨T, 3, none⟩) hT3).trans hf3g; have hc3' := (World.cell?_of_block (a := ⟨T, 3, none⟩) hT3).trans hc3g; clear hown3 hg3 hc3 hf3 hc3g hf3g hT3)
            go_roundw
            case rel => exact ⟨k + 1, by omega, by go_num, { t with out := t.out ++ [⟨x, 0, 0, 0⟩] }, _, p', HH.out.1, HH.out.2.1, HH.out.2.2.1, HH.out.2.2.2, by simp [HOL.out], by omega, HM.out⟩
            case measure => simp [intOf]; omega
      · have hkm : k = tos.length := by omega
        subst hkm
        obtain ⟨Ao, co, rfl⟩ := own_any HW.out.own
        obtain ⟨⟨c0, c1, c2, c3, c4, c5, c6, c7, c8⟩, _⟩ := HW.out.row.nine
        obtain ⟨⟨d0, d1, d2, d3, d4, d5, d6, d7, d8⟩, g0, g1, g2, g3, g4, g5, g6, g7, g8⟩ := HW.out.res.nine
        go_wp2
        have hU := upd_put (lo := w.heap.size) (hi := w.heap.size + 1) (b := w.heap.size) (Nat.le_refl _) (by omega) (t.cells (.slice Ai ins.length ci) (.slice Ao t.out.length co) (.slice none 0 0)) 0 (Upd.refl w.heap.size (w.heap.size + 1) wr)
        have hRlt := HW.out.hR
        have hTT := HW.out.hT
        have hsz := hU.size
        refine bodyPost_ret (v := .agg #[.int .i64 t.join, .int .i64 t.split, .slice Ai ins.length ci, .slice Ao t.out.length co, .slice none 0 0, .int .i64 t.role, .int .i64 t.apart, .int .i64 t.all, .int .i64 t.need]) (by simp [results, Try.results90, go_sem, d0, d1, d2, d3, d4, d5, d6, d7, d8]) rfl ⟨t, Ao, co, rfl, HH.out.2.2.1, HH.out.2.2.2, HOL.out, p', by omega, ?_, ?_, ?_⟩
        · exact ((own_sl HW.out.own).keep fun g h1 h2 => hU.block g (by omega)).more (by omega) (Nat.le_of_eq hsz.symm)
        · exact HW.out.rd.keep (fun g hg => hU.block g (by omega)) (Nat.le_of_eq hsz.symm)
        · exact ⟨hU.os.trans HW.out.gr.os, hU.tape.trans HW.out.gr.tape, hU.output.trans HW.out.gr.output, Nat.le_trans HW.out.gr.size (Nat.le_of_eq hsz.symm), fun g h1 h2 => (hU.block g (by omega)).trans (HW.out.gr.block g h1 h2)⟩
end Go.Proofs.Ytkcbghaadjhceaa

/- What the draw of a net keeps while it makes tasks; the draw of a task among them. -/
namespace Go.Proofs.Ytkcbghaadjhceaa
open Go.RowKit
set_option linter.unusedVariables false
set_option linter.unusedSimpArgs false

/-- The reader, the result's cells and the tasks made so far. -/
structure ShD (w0 : World) (R p : Nat) (ms : List TaskM) (w : World) : Prop where
  rd : RdV w R p
  gr : w0.grownBy w (some R)
  res : Blk w w0.heap.size 25 #[.int .i64 0, .slice none 0 0]
  tks : Tks w (w0.heap.size + 1) ms
  lt : w0.heap.size < w.heap.size
  hR : R < w0.heap.size
section
variable {w0 w w' : World} {R p p' : Nat} {ms : List TaskM}
theorem ShD.start (hR : RdV w0 R p) : ShD w0 R p [] (w0.alloc (.cells #[.int .i64 0, .slice none 0 0] 25)) :=
  ⟨hR.alloc _, World.grownBy_alloc _ _ _, Blk.new_ _ _ _, Tks.nil_ _ _, by simp, hR.lt⟩
theorem ShD.upd (h : ShD w0 R p ms w) (hu : Upd R (R + 1) w w') (hr : RdV w' R p') : ShD w0 R p' ms w' :=
  ⟨hr, grown_tr h.gr (grown_upd hu), h.res.upd hu (by have := h.hR; omega), h.tks.grown (grown_upd hu) (by have := h.hR; omega), by rw [hu.size]; exact h.lt, h.hR⟩
theorem ShD.alloc (h : ShD w0 R p ms w) (o : Obj) : ShD w0 R p ms (w.alloc o) :=
  ⟨h.rd.alloc o, grown_alloc h.gr o, h.res.alloc o, h.tks.alloc o, by have := h.lt; simp; omega, h.hR⟩
theorem ShD.facts (h : ShD w0 R p ms w) : w.cell? ⟨w0.heap.size, 0, none⟩ = some (.int .i64 0) ∧ w.cell? ⟨w0.heap.size, 1, none⟩ = some (.slice none 0 0) ∧ w.frozen? ⟨w0.heap.size, 0, none⟩ = false ∧ w.frozen? ⟨w0.heap.size, 1, none⟩ = false :=
  ⟨h.res.cell 0, h.res.cell 1, h.res.free 0, h.res.free 1⟩
theorem ShD.fin (h : ShD w0 R p ms w) (k : Nat) (hk : ms.length = k) (hm : k ≤ maxLen) (cs : Array Value) (hcs : taskCells ms = cs.toList) (P : Int) :
    FN (((w.setCell ⟨w0.heap.size, 0, none⟩ (.int .i64 P)).setCell ⟨w0.heap.size, 1, none⟩ (.slice (some ⟨w.heap.size, 0, none⟩) k k)).alloc (.cells cs 36)) w0.heap.size (((w.setCell ⟨w0.heap.size, 0, none⟩ (.int .i64 P)).setCell ⟨w0.heap.size, 1, none⟩ (.slice (some ⟨w.heap.size, 0, none⟩) k k)).alloc (.cells cs 36)).heap.size (.agg #[.int .i64 P, .slice (some ⟨w.heap.size, 0, none⟩) k k]) ⟨P, ms.map TaskM.t⟩ ∧
    RdV (((w.setCell ⟨w0.heap.size, 0, none⟩ (.int .i64 P)).setCell ⟨w0.heap.size, 1, none⟩ (.slice (some ⟨w.heap.size, 0, none⟩) k k)).alloc (.cells cs 36)) R p ∧
    w0.grownBy (((w.setCell ⟨w0.heap.size, 0, none⟩ (.int .i64 P)).setCell ⟨w0.heap.size, 1, none⟩ (.slice (some ⟨w.heap.size, 0, none⟩) k k)).alloc (.cells cs 36)) (some R) := by
  have hlt := h.lt; have hR := h.hR
  refine ⟨?_, ((h.rd.setCell (by dsimp only; omega) _).setCell (by dsimp only; omega) _).alloc _, grown_alloc (grown_setCell (grown_setCell h.gr (by dsimp only; omega) _) (by dsimp only; omega) _) _⟩
  have hs : ((w.setCell ⟨w0.heap.size, 0, none⟩ (.int .i64 P)).setCell ⟨w0.heap.size, 1, none⟩ (.slice (some ⟨w.heap.size, 0, none⟩) k k)).heap.size = w.heap.size := by simp [World.setCell]
  have ht : Tks ((w.setCell ⟨w0.heap.size, 0, none⟩ (.int .i64 P)).setCell ⟨w0.heap.size, 1, none⟩ (.slice (some ⟨w.heap.size, 0, none⟩) k k)) (w0.heap.size + 1) ms := fun m hm => by
    rw [hs]
    refine (h.tks m hm).keep fun g h2 h3 => ?_
    rw [Below.heap_setCell _ _ _ _ (by dsimp only; omega), Below.heap_setCell _ _ _ _ (by dsimp only; omega)]
  have h1 := ht.lay (T := 36) (p := P) (by rw [hs]; omega) (by omega) k hk cs hcs
  rw [hs] at h1
  exact h1.more (by omega) (by simp [World.setCell])
theorem row_up {lo hi b off : Nat} {A : Option Addr} {xs : List Value} (h : Row w lo hi A b off xs) (hk : hi ≤ w.heap.size) (hg : w.grownBy w' (some R)) (hR : R < lo) : Row w' lo hi A b off xs := h.grown hg (.inr hR) hk
end

/-- A net that a draw returns. -/
def NetOut (w : World) (R q : Nat) (e : Ending) (w' : World) : Prop := ∃ (P : Int) (b k c : Nat) (n : NNet) (p' : Nat), e = .returned (.agg #[.int .i64 P, .slice (some ⟨b, 0, none⟩) k c]) ∧ k ≤ 8 ∧ p' ≤ q ∧ FN w' w.heap.size w'.heap.size (.agg #[.int .i64 P, .slice (some ⟨b, 0, none⟩) k c]) n ∧ RdV w' R p' ∧ w.grownBy w' (some R)
theorem NetOut.of {w w' : World} {R q : Nat} (P : Int) (b k c : Nat) (n : NNet) (p' : Nat) (h0 : k ≤ 8) (h1 : p' ≤ q) (h2 : FN w' w.heap.size w'.heap.size (.agg #[.int .i64 P, .slice (some ⟨b, 0, none⟩) k c]) n) (h3 : RdV w' R p') (h4 : w.grownBy w' (some R)) : NetOut w R q (.returned (.agg #[.int .i64 P, .slice (some ⟨b, 0, none⟩) k c])) w' :=
  ⟨P, b, k, c, n, p', rfl, h0, h1, h2, h3, h4⟩

theorem l20Task_sh (w0 w : World) (R p : Nat) (ms : List TaskM) (h : ShD w0 R p ms w) (hp : p ≤ 800000) (j s m : Int) (hm : m ≤ 1000) (hm0 : -1000000 ≤ m) (ins tos : List Int) (ni nt : Nat) (hni : ins.length = ni) (hnt : tos.length = nt) (hnt2 : nt ≤ 10) (hni2 : ni ≤ 10)
    (Ai : Option Addr) (bi oi ci : Nat) (A : Option Addr) (b off c : Nat) (hI : Row w (w0.heap.size + 1) w.heap.size Ai bi oi (ints ins)) (hV : Row w (w0.heap.size + 1) w.heap.size A b off (ints tos)) :
    Calls Try.prog 90 #[.pointer (some ⟨R, 0, none⟩), .int .i64 j, .int .i64 s, .slice Ai ni ci, .slice A nt c, .int .i64 m] w fun e w' => ∃ (t : NTask) (Ao : Option Addr) (no co : Nat) (p' : Nat),
      e = .returned (.agg #[.int .i64 t.join, .int .i64 t.split, .slice Ai ni ci, .slice Ao no co, .slice none 0 0, .int .i64 t.role, .int .i64 t.apart, .int .i64 t.all, .int .i64 t.need]) ∧ p' ≤ p + 40 ∧
      ShD w0 R p' (ms ++ [⟨t, .slice Ai ni ci, .slice Ao no co, .slice none 0 0⟩]) w' := by
  subst hni hnt
  have hRl := h.hR
  refine (l20Task_c R p j s m ins tos (w0.heap.size + 1) w.heap.size A b off c Ai ci w h.rd (by omega) hm hm0 hV (Nat.le_refl _) (by omega) (by omega)).mono ?_
  rintro e w' ⟨t, Ao, co, p', rfl, hin, hcl, hol, hp', hsl, hrd, hg⟩
  refine ⟨t, Ao, t.out.length, co, p', rfl, by omega, hrd, grown_tr h.gr hg, h.res.grown hg (by omega), (h.tks.grown hg (by omega)).snoc ⟨?_, ?_, ?_⟩, Nat.lt_of_lt_of_le h.lt hg.size, h.hR⟩
  · show Sl w' (w0.heap.size + 1) w'.heap.size (.slice Ai ins.length ci) t.ins.length (ints t.ins)
    rw [hin]
    exact ⟨Ai, bi, oi, ci, rfl, by unfold maxLen; omega, (hI.grown hg (.inr (by omega)) (Nat.le_refl _)).more (Nat.le_refl _) hg.size⟩
  · exact hsl.more (by have := h.lt; omega) (Nat.le_refl _)
  · show Sl w' (w0.heap.size + 1) w'.heap.size (.slice none 0 0) t.clear.length (ints t.clear)
    rw [hcl]
    exact ⟨none, 0, 0, 0, rfl, Nat.zero_le _, Row.nil_⟩

theorem l20Task_v (w : World) (R p lo : Nat) (hR : RdV w R p) (hp : p ≤ 800000) (j s m : Int) (hm : m ≤ 1000) (hm0 : -1000000 ≤ m) (ins tos : List Int) (ni nt : Nat) (hni : ins.length = ni) (hnt : tos.length = nt) (hnt2 : nt ≤ 10) (hni2 : ni ≤ 10)
    (Ai : Option Addr) (bi oi ci : Nat) (A : Option Addr) (b off c : Nat) (hI : Row w lo w.heap.size Ai bi oi (ints ins)) (hV : Row w lo w.heap.size A b off (ints tos)) (hlo : R < lo) (hlo2 : lo ≤ w.heap.size) :
    Calls Try.prog 90 #[.pointer (some ⟨R, 0, none⟩), .int .i64 j, .int .i64 s, .slice Ai ni ci, .slice A nt c, .int .i64 m] w fun e w' => ∃ (t : NTask) (Ao : Option Addr) (no co : Nat) (p' : Nat),
      e = .returned (.agg #[.int .i64 t.join, .int .i64 t.split, .slice Ai ni ci, .slice Ao no co, .slice none 0 0, .int .i64 t.role, .int .i64 t.apart, .int .i64 t.all, .int .i64 t.need]) ∧ p' ≤ p + 40 ∧
      TaskV w' lo w'.heap.size t (.slice Ai ni ci) (.slice Ao no co) (.slice none 0 0) ∧ RdV w' R p' ∧ w.grownBy w' (some R) := by
  subst hni hnt
  refine (l20Task_c R p j s m ins tos lo w.heap.size A b off c Ai ci w hR (by omega) hm hm0 hV (Nat.le_refl _) (by omega) (by omega)).mono ?_
  rintro e w' ⟨t, Ao, co, p', rfl, hin, hcl, hol, hp', hsl, hrd, hg⟩
  refine ⟨t, Ao, t.out.length, co, p', rfl, by omega, ⟨?_, hsl.more hlo2 (Nat.le_refl _), ?_⟩, hrd, hg⟩
  · rw [hin]
    exact ⟨Ai, bi, oi, ci, rfl, by unfold maxLen; omega, (hI.grown hg (.inr (by omega)) (Nat.le_refl _)).more (Nat.le_refl _) hg.size⟩
  · rw [hcl]
    exact ⟨none, 0, 0, 0, rfl, Nat.zero_le _, Row.nil_⟩

theorem l20Task_2 (w0 w : World) (R p : Nat) (ms : List TaskM) (h : ShD w0 R p ms w) (hp : p ≤ 800000) (j s m : Int) (hm : m ≤ 1000) (hm0 : -1000000 ≤ m) (ins tos : List Int) (ni nt : Nat) (hni : ins.length = ni) (hnt : tos.length = nt) (hnt2 : nt ≤ 10) (hni2 : ni ≤ 10) (c1 c2 : Array Value) (hc1 : c1.toList = ints ins) (hc2 : c2.toList = ints tos) :
    Calls Try.prog 90 #[.pointer (some ⟨R, 0, none⟩), .int .i64 j, .int .i64 s, .slice (some ⟨w.heap.size, 0, none⟩) ni ni, .slice (some ⟨w.heap.size + 1, 0, none⟩) nt nt, .int .i64 m] ((w.alloc (.cells c1 3)).alloc (.cells c2 3)) fun e w' => ∃ (t : NTask) (Ao : Option Addr) (no co : Nat) (p' : Nat),
      e = .returned (.agg #[.int .i64 t.join, .int .i64 t.split, .slice (some ⟨w.heap.size, 0, none⟩) ni ni, .slice Ao no co, .slice none 0 0, .int .i64 t.role, .int .i64 t.apart, .int .i64 t.all, .int .i64 t.need]) ∧ p' ≤ p + 40 ∧
      ShD w0 R p' (ms ++ [⟨t, .slice (some ⟨w.heap.size, 0, none⟩) ni ni, .slice Ao no co, .slice none 0 0⟩]) w' := by
  have hlt := h.lt
  have r1 := Row.new w c1 3
  have r2 := Row.newAt (w.alloc (.cells c1 3)) c2 3 (w.heap.size + 1) (by simp)
  rw [hc1] at r1
  rw [hc2] at r2
  exact l20Task_sh w0 _ R p ms ((h.alloc _).alloc _) hp j s m hm hm0 ins tos ni nt hni hnt hnt2 hni2 _ _ _ _ _ _ _ _ ((r1.alloc (by simp) _).more (by omega) (by simp)) (r2.more (by omega) (by simp))
end Go.Proofs.Ytkcbghaadjhceaa

/- Nets that a draw makes: one task of them is written. -/
namespace Go.Proofs.Ytkcbghaadjhceaa
open Go.RowKit
set_option linter.unusedVariables false
set_option linter.unusedSimpArgs false

theorem task_cells_at {ms : List TaskM} {i j : Nat} {m : TaskM} (h : ms[i]? = some m) (hj : j < 9) : (taskCells ms)[i * 9 + j]? = m.cells[j]? := flat_at (f := TaskM.cells) (d := 9) (fun _ _ => rfl) h hj
theorem taskCells_ext {ms : List TaskM} {xs : List Value} (hl : xs.length = ms.length * 9) (h : ∀ i m j, ms[i]? = some m → j < 9 → xs[i * 9 + j]? = m.cells[j]?) : xs = taskCells ms :=
  List.ext_getElem? fun q => by
    by_cases hq : q < ms.length * 9
    · have hi : q / 9 < ms.length := by omega
      have e : q = q / 9 * 9 + q % 9 := by omega
      have hm := List.getElem?_eq_getElem hi
      rw [e, h _ _ _ hm (by omega), task_cells_at hm (by omega)]
    · rw [List.getElem?_eq_none (by omega), List.getElem?_eq_none (by rw [taskCells_len]; omega)]
theorem taskCells_set {ms : List TaskM} {i j : Nat} {m m' : TaskM} {u : Value} (h : ms[i]? = some m) (hj : j < 9) (hc : m.cells.set j u = m'.cells) : (taskCells ms).set (i * 9 + j) u = taskCells (ms.set i m') := by
  have hi := lt_of_some h
  refine taskCells_ext (by rw [List.length_set, List.length_set, taskCells_len]) fun a x r ha hr => ?_
  rw [List.getElem?_set]
  rw [List.getElem?_set] at ha
  by_cases hia : i = a
  · subst hia
    rw [if_pos rfl, if_pos hi] at ha
    injection ha with ha
    subst ha
    rw [← hc, List.getElem?_set]
    by_cases hjr : j = r
    · subst hjr
      rw [if_pos rfl, if_pos rfl, if_pos (by rw [taskCells_len]; omega), if_pos (by simpa using hj)]
    · rw [if_neg (by omega), if_neg hjr, task_cells_at h hr]
  · rw [if_neg hia] at ha
    rw [if_neg (by omega), task_cells_at ha hr]
theorem taskCells_put {ms : List TaskM} {i : Nat} {m m' : TaskM} (h : ms[i]? = some m) : putL (taskCells ms) (i * 9) m'.cells = taskCells (ms.set i m') := by
  have hi := lt_of_some h
  refine taskCells_ext (by rw [putL_length, List.length_set, taskCells_len]) fun a x r ha hr => ?_
  rw [List.getElem?_set] at ha
  by_cases hia : i = a
  · subst hia
    rw [if_pos rfl, if_pos hi] at ha
    injection ha with ha
    subst ha
    exact putL_at _ _ _ _ (by simpa using hr) (by rw [taskCells_len]; show i * 9 + 9 ≤ _; omega)
  · rw [if_neg hia] at ha
    have h9 : m'.cells.length = 9 := rfl
    by_cases hlt : a < i
    · rw [putL_lt _ _ _ _ (by omega), task_cells_at ha hr]
    · rw [putL_past _ _ _ _ (by omega), task_cells_at ha hr]

section
variable {w : World} {lo hi b k c : Nat} {P : Int} {n : NNet}
theorem FN.parts {b : Nat} (h : FN w lo hi (.agg #[.int .i64 P, .slice (some ⟨b, 0, none⟩) k c]) n) : n.places = P ∧ n.tasks.length = k ∧ k ≤ maxLen ∧ lo ≤ b ∧ b < hi ∧ ∃ ms, Row w b (b + 1) (some ⟨b, 0, none⟩) b 0 (taskCells ms) ∧ ms.map TaskM.t = n.tasks ∧ ∀ m ∈ ms, TaskA w lo hi b m := by
  obtain ⟨b', c', ms, e, hm, h1, h2, hr, hmap, hT⟩ := h
  injection e with e
  have e1 := congrArg (fun a => a[0]?) e
  have e2 := congrArg (fun a => a[1]?) e
  simp at e1 e2
  obtain ⟨⟨rfl⟩, rfl, rfl⟩ := e2
  exact ⟨e1.symm, rfl, hm, h1, h2, ms, hr, hmap, hT⟩
theorem FN.of_parts {ms : List TaskM} (hm : ms.length ≤ maxLen) (hk : ms.length = k) (h1 : lo ≤ b) (h2 : b < hi) (hr : Row w b (b + 1) (some ⟨b, 0, none⟩) b 0 (taskCells ms)) (hT : ∀ m ∈ ms, TaskA w lo hi b m) :
    FN w lo hi (.agg #[.int .i64 P, .slice (some ⟨b, 0, none⟩) k c]) ⟨P, ms.map TaskM.t⟩ := by
  subst hk; exact ⟨b, c, ms, by simp, by simpa using hm, h1, h2, hr, rfl, hT⟩
/-- One cell of one task is written. -/
theorem FN.put {i j : Nat} {u : Value} (h : FN w lo hi (.agg #[.int .i64 P, .slice (some ⟨b, 0, none⟩) k c]) n) (hi' : i < k) (hj : j < 9)
    (hf : ∀ m : TaskM, TaskA w lo hi b m → ∃ m' : TaskM, m.cells.set j u = m'.cells ∧ TaskA w lo hi b m') : ∃ n', FN (w.setCell ⟨b, i * 9 + j, none⟩ u) lo hi (.agg #[.int .i64 P, .slice (some ⟨b, 0, none⟩) k c]) n' := by
  obtain ⟨_, hk, hm, h1, h2, ms, hr, hmap, hT⟩ := h.parts
  have hkm : ms.length = k := by rw [← hk, ← hmap]; simp
  have hx : ms[i]? = some (ms[i]'(by omega)) := List.getElem?_eq_getElem (by omega)
  obtain ⟨m', hc, hA⟩ := hf (ms[i]'(by omega)) (hT _ (List.getElem_mem (by omega)))
  refine ⟨_, FN.of_parts (ms := ms.set i m') (by rw [List.length_set]; omega) (by rw [List.length_set]; exact hkm) h1 h2 ?_ fun x hx => ?_⟩
  · have := hr.set_ (i * 9 + j) u (by rw [taskCells_len]; omega)
    rwa [taskCells_set hx hj hc, Nat.zero_add] at this
  · have hxA : TaskA w lo hi b x := by
      rcases List.mem_or_eq_of_mem_set hx with hx | rfl
      · exact hT x hx
      · exact hA
    exact hxA.keep fun g _ _ hne => Below.heap_setCell w _ u g hne
/-- One task is written whole. -/
theorem FN.putTask {i : Nat} {m' : TaskM} (h : FN w lo hi (.agg #[.int .i64 P, .slice (some ⟨b, 0, none⟩) k c]) n) (hi' : i < k) (hA : TaskA w lo hi b m') :
    FN (putAt w b (i * 9) m'.cells) lo hi (.agg #[.int .i64 P, .slice (some ⟨b, 0, none⟩) k c]) ⟨P, n.tasks.set i m'.t⟩ := by
  obtain ⟨_, hk, hm, h1, h2, ms, hr, hmap, hT⟩ := h.parts
  have hkm : ms.length = k := by rw [← hk, ← hmap]; simp
  have hx : ms[i]? = some (ms[i]'(by omega)) := List.getElem?_eq_getElem (by omega)
  have hU := upd_put (lo := b) (hi := b + 1) (b := b) (Nat.le_refl _) (by omega) m'.cells (i * 9) (Upd.refl b (b + 1) w)
  have hf := FN.of_parts (w := putAt w b (i * 9) m'.cells) (lo := lo) (hi := hi) (b := b) (k := k) (c := c) (P := P) (ms := ms.set i m') (by rw [List.length_set]; omega) (by rw [List.length_set]; exact hkm) h1 h2 ?_ fun x hx => ?_
  · rw [List.map_set, hmap] at hf; exact hf
  · have := Row.put m'.cells _ (i * 9) hr (by rw [taskCells_len]; show i * 9 + 9 ≤ _; omega)
    rwa [taskCells_put hx, Nat.zero_add] at this
  · have hxA : TaskA w lo hi b x := by
      rcases List.mem_or_eq_of_mem_set hx with hx | rfl
      · exact hT x hx
      · exact hA
    exact hxA.keep fun g _ _ hne => hU.block g (by omega)
/-- One task's cells. -/
theorem FN.task {i : Nat} (h : FN w lo hi (.agg #[.int .i64 P, .slice (some ⟨b, 0, none⟩) k c]) n) (hi' : i < k) : ∃ m : TaskM, n.tasks[i]? = some m.t ∧ TaskA w lo hi b m ∧
    (∀ j u, m.cells[j]? = some u → w.cell? ⟨b, i * 9 + j, none⟩ = some u) ∧ ∀ j, j < 9 → w.frozen? ⟨b, i * 9 + j, none⟩ = false := by
  obtain ⟨_, hk, hm, h1, h2, ms, hr, hmap, hT⟩ := h.parts
  have hkm : ms.length = k := by rw [← hk, ← hmap]; simp
  have hx : ms[i]? = some (ms[i]'(by omega)) := List.getElem?_eq_getElem (by omega)
  have cc := fun (j : Nat) (u : Value) (hj : j < 9) (hu : (ms[i]'(by omega)).cells[j]? = some u) => hr.2 (i * 9 + j) u ((task_cells_at hx hj).trans hu)
  simp only [Nat.zero_add] at cc
  refine ⟨_, by rw [← hmap]; simp [hx], hT _ (List.getElem_mem (by omega)), fun j u hu => (cc j u (by have := lt_of_some hu; simpa using this) hu).1, fun j hj => (cc j _ hj (List.getElem?_eq_getElem (by simpa using hj))).2⟩
end

/-- The reader, the result's cells, the net's own cells in block N, its tasks. -/
structure NtD (w0 : World) (R p N : Nat) (P : Int) (b k c : Nat) (n : NNet) (w : World) : Prop where
  rd : RdV w R p
  gr : w0.grownBy w (some R)
  res : Blk w w0.heap.size 25 #[.int .i64 0, .slice none 0 0]
  net : Blk w N 25 #[.int .i64 P, .slice (some ⟨b, 0, none⟩) k c]
  fn : FN w (w0.heap.size + 1) w.heap.size (.agg #[.int .i64 P, .slice (some ⟨b, 0, none⟩) k c]) n
  hN : w0.heap.size < N
  lt : N < w.heap.size
  ne : b ≠ N
  hR : R < w0.heap.size
section
variable {w0 w w' : World} {R p p' N b k c : Nat} {P : Int} {n : NNet}
theorem NtD.grown (h : NtD w0 R p N P b k c n w) (hg : w.grownBy w' (some R)) (hr : RdV w' R p') : NtD w0 R p' N P b k c n w' := by
  have hR := h.hR; have hN := h.hN
  exact ⟨hr, grown_tr h.gr hg, h.res.grown hg (by omega), h.net.grown hg (by omega), (h.fn.grown hg (by omega) (Nat.le_refl _)).more (Nat.le_refl _) hg.size, hN, Nat.lt_of_lt_of_le h.lt hg.size, h.ne, hR⟩
theorem NtD.upd (h : NtD w0 R p N P b k c n w) (hu : Upd R (R + 1) w w') (hr : RdV w' R p') : NtD w0 R p' N P b k c n w' := h.grown (grown_upd hu) hr
theorem NtD.alloc (h : NtD w0 R p N P b k c n w) (o : Obj) : NtD w0 R p N P b k c n (w.alloc o) := h.grown (World.grownBy_alloc _ _ _) (h.rd.alloc o)
theorem NtD.below (h : NtD w0 R p N P b k c n w) (hb : Below w.heap.size w w') : NtD w0 R p N P b k c n w' := h.grown (grown_below _ hb) (h.rd.below hb)
theorem NtD.facts (h : NtD w0 R p N P b k c n w) : (w.cell? ⟨w0.heap.size, 0, none⟩ = some (.int .i64 0) ∧ w.cell? ⟨w0.heap.size, 1, none⟩ = some (.slice none 0 0) ∧ w.frozen? ⟨w0.heap.size, 0, none⟩ = false ∧ w.frozen? ⟨w0.heap.size, 1, none⟩ = false) ∧
    w.cell? ⟨N, 0, none⟩ = some (.int .i64 P) ∧ w.cell? ⟨N, 1, none⟩ = some (.slice (some ⟨b, 0, none⟩) k c) ∧ w.frozen? ⟨N, 0, none⟩ = false ∧ w.frozen? ⟨N, 1, none⟩ = false :=
  ⟨⟨h.res.cell 0, h.res.cell 1, h.res.free 0, h.res.free 1⟩, h.net.cell 0, h.net.cell 1, h.net.free 0, h.net.free 1⟩
theorem NtD.bnd (h : NtD w0 R p N P b k c n w) : n.places = P ∧ n.tasks.length = k ∧ k ≤ maxLen ∧ w0.heap.size < b ∧ b < w.heap.size := by
  obtain ⟨h1, h2, h3, h4, h5, _⟩ := h.fn.parts; exact ⟨h1, h2, h3, h4, h5⟩
/-- A cell of the tasks' block is written. -/
theorem NtD.put {j : Nat} {u : Value} {n' : NNet} (h : NtD w0 R p N P b k c n w) (hf : FN (w.setCell ⟨b, j, none⟩ u) (w0.heap.size + 1) w.heap.size (.agg #[.int .i64 P, .slice (some ⟨b, 0, none⟩) k c]) n') : NtD w0 R p N P b k c n' (w.setCell ⟨b, j, none⟩ u) := by
  obtain ⟨_, _, _, h4, h5⟩ := h.bnd
  have hR := h.hR
  have hs : (w.setCell ⟨b, j, none⟩ u).heap.size = w.heap.size := by simp [World.setCell]
  exact ⟨h.rd.setCell (by dsimp only; omega) _, grown_setCell h.gr (by dsimp only; omega) _, h.res.far (by dsimp only; omega) _, h.net.far (Ne.symm h.ne) _, by rw [hs]; exact hf, h.hN, by rw [hs]; exact h.lt, h.ne, hR⟩
/-- The result is stored. -/
theorem NtD.fin (h : NtD w0 R p N P b k c n w) :
    FN ((w.setCell ⟨w0.heap.size, 0, none⟩ (.int .i64 P)).setCell ⟨w0.heap.size, 1, none⟩ (.slice (some ⟨b, 0, none⟩) k c)) w0.heap.size ((w.setCell ⟨w0.heap.size, 0, none⟩ (.int .i64 P)).setCell ⟨w0.heap.size, 1, none⟩ (.slice (some ⟨b, 0, none⟩) k c)).heap.size (.agg #[.int .i64 P, .slice (some ⟨b, 0, none⟩) k c]) n ∧
    RdV ((w.setCell ⟨w0.heap.size, 0, none⟩ (.int .i64 P)).setCell ⟨w0.heap.size, 1, none⟩ (.slice (some ⟨b, 0, none⟩) k c)) R p ∧
    w0.grownBy ((w.setCell ⟨w0.heap.size, 0, none⟩ (.int .i64 P)).setCell ⟨w0.heap.size, 1, none⟩ (.slice (some ⟨b, 0, none⟩) k c)) (some R) := by
  have hR := h.hR
  refine ⟨?_, (h.rd.setCell (by dsimp only; omega) _).setCell (by dsimp only; omega) _, grown_setCell (grown_setCell h.gr (by dsimp only; omega) _) (by dsimp only; omega) _⟩
  have hs : ((w.setCell ⟨w0.heap.size, 0, none⟩ (.int .i64 P)).setCell ⟨w0.heap.size, 1, none⟩ (.slice (some ⟨b, 0, none⟩) k c)).heap.size = w.heap.size := by simp [World.setCell]
  rw [hs]
  refine (h.fn.keep fun g h2 h3 => ?_).more (by omega) (Nat.le_refl _)
  rw [Below.heap_setCell _ _ _ _ (by dsimp only; omega), Below.heap_setCell _ _ _ _ (by dsimp only; omega)]
end
/-- A net that a draw returns, of which something holds. -/
def NetOutQ (w : World) (R q : Nat) (Q : NNet → Prop) (e : Ending) (w' : World) : Prop := ∃ (P : Int) (b k c : Nat) (n : NNet) (p' : Nat), e = .returned (.agg #[.int .i64 P, .slice (some ⟨b, 0, none⟩) k c]) ∧ Q n ∧ p' ≤ q ∧ FN w' w.heap.size w'.heap.size (.agg #[.int .i64 P, .slice (some ⟨b, 0, none⟩) k c]) n ∧ RdV w' R p' ∧ w.grownBy w' (some R)
theorem NetOutQ.of {w w' : World} {R q : Nat} {Q : NNet → Prop} (P : Int) (b k c : Nat) (n : NNet) (p' : Nat) (h0 : Q n) (h1 : p' ≤ q) (h2 : FN w' w.heap.size w'.heap.size (.agg #[.int .i64 P, .slice (some ⟨b, 0, none⟩) k c]) n) (h3 : RdV w' R p') (h4 : w.grownBy w' (some R)) : NetOutQ w R q Q (.returned (.agg #[.int .i64 P, .slice (some ⟨b, 0, none⟩) k c])) w' :=
  ⟨P, b, k, c, n, p', rfl, h0, h1, h2, h3, h4⟩
end Go.Proofs.Ytkcbghaadjhceaa

/- What the draw of a net keeps while it appends tasks in a loop. -/
namespace Go.Proofs.Ytkcbghaadjhceaa
open Go.RowKit
set_option linter.unusedVariables false
set_option linter.unusedSimpArgs false

/-- The reader, the result's cells, the net's own cells in block N, its tasks in a row of their own behind N. -/
structure ShL (w0 : World) (R p N : Nat) (pl : Int) (ms : List TaskM) (vt : Value) (w : World) : Prop where
  rd : RdV w R p
  gr : w0.grownBy w (some R)
  res : Blk w w0.heap.size 25 #[.int .i64 0, .slice none 0 0]
  net : Blk w N 25 #[.int .i64 pl, vt]
  own : w.ownsRow (N + 1) 36 9 vt ms.length (taskCells ms)
  each : ∀ m ∈ ms, ∀ g, vt.ownBlock = some g → TaskA w (N + 1) w.heap.size g m
  lt : N < w.heap.size
  hN : w0.heap.size < N
  hR : R < w0.heap.size
section
variable {w0 w w' : World} {R p p' N : Nat} {pl : Int} {ms : List TaskM} {vt : Value}
theorem ShL.grown (h : ShL w0 R p N pl ms vt w) (hg : w.grownBy w' (some R)) (hr : RdV w' R p') : ShL w0 R p' N pl ms vt w' := by
  have hR := h.hR; have hN := h.hN
  refine ⟨hr, grown_tr h.gr hg, h.res.grown hg (by omega), h.net.grown hg (by omega), h.own.kept hg ?_, fun m hm g hgo => ((h.each m hm g hgo).grown hg (by omega) (Nat.le_refl _)).more (Nat.le_refl _) hg.size, Nat.lt_of_lt_of_le h.lt hg.size, hN, hR⟩
  rcases hv : vt.ownBlock with _ | g
  · exact .inl rfl
  · right; intro e; injection e with e; have := (h.own.lt g hv).1; omega
theorem ShL.upd (h : ShL w0 R p N pl ms vt w) (hu : Upd R (R + 1) w w') (hr : RdV w' R p') : ShL w0 R p' N pl ms vt w' := h.grown (grown_upd hu) hr
theorem ShL.alloc (h : ShL w0 R p N pl ms vt w) (o : Obj) : ShL w0 R p N pl ms vt (w.alloc o) := h.grown (World.grownBy_alloc _ _ _) (h.rd.alloc o)
theorem ShL.below (h : ShL w0 R p N pl ms vt w) (hb : Below w.heap.size w w') : ShL w0 R p N pl ms vt w' := h.grown (grown_below _ hb) (h.rd.below hb)
theorem ShL.start (h : ShD w0 R p [] w) (pl : Int) : ShL w0 R p w.heap.size pl [] (.slice none 0 0) (w.alloc (.cells #[.int .i64 pl, .slice none 0 0] 25)) :=
  ⟨h.rd.alloc _, grown_alloc h.gr _, h.res.alloc _, Blk.new_ _ _ _, World.ownsRow_nil _ _ _ _, fun m hm => by simp at hm, by simp, h.lt, h.hR⟩
theorem ShL.drew (h : ShL w0 R p N pl ms vt w) : ShL w0 R p N pl ms vt w.drew := h.grown ⟨rfl, rfl, rfl, Nat.le_refl _, fun _ _ _ => rfl⟩ h.rd
theorem ShL.away (h : ShL w0 R p N pl ms vt w) {g : Nat} (hg : vt.ownBlock = some g) : g < w.heap.size := (h.own.lt g hg).2
theorem ShL.facts (h : ShL w0 R p N pl ms vt w) : (w.cell? ⟨w0.heap.size, 0, none⟩ = some (.int .i64 0) ∧ w.cell? ⟨w0.heap.size, 1, none⟩ = some (.slice none 0 0) ∧ w.frozen? ⟨w0.heap.size, 0, none⟩ = false ∧ w.frozen? ⟨w0.heap.size, 1, none⟩ = false) ∧
    w.cell? ⟨N, 0, none⟩ = some (.int .i64 pl) ∧ w.cell? ⟨N, 1, none⟩ = some vt ∧ w.frozen? ⟨N, 0, none⟩ = false ∧ w.frozen? ⟨N, 1, none⟩ = false :=
  ⟨⟨h.res.cell 0, h.res.cell 1, h.res.free 0, h.res.free 1⟩, h.net.cell 0, h.net.cell 1, h.net.free 0, h.net.free 1⟩
theorem ShL.more {L : Nat} {m : TaskM} {vt' : Value} (h : ShL w0 R p N pl ms vt w) (hm : TaskV w L w.heap.size m.t m.vi m.vo m.vc) (hL : ∀ g, vt.ownBlock = some g → g < L) (hL2 : N + 1 ≤ L) (hg : w.grownBy w' vt.ownBlock)
    (ho : w'.ownsRow (N + 1) 36 9 vt' (ms.length + 1) (taskCells ms ++ m.cells)) (hat : vt'.ownBlock = vt.ownBlock ∨ vt'.ownBlock = some w.heap.size) : ShL w0 R p N pl (ms ++ [m]) vt' (w'.setCell ⟨N, 1, none⟩ vt') := by
  have hR := h.hR; have hN := h.hN; have hlt := h.lt
  have hb : ∀ g, g ≤ N → w'.heap[g]? = w.heap[g]? := fun g hg' => hg.block g (by omega) (fun e => by have := (h.own.lt g e.symm).1; omega)
  have hsz : (w'.setCell ⟨N, 1, none⟩ vt').heap.size = w'.heap.size := by simp [World.setCell]
  have hbs : ∀ g, g ≠ N → (w'.setCell ⟨N, 1, none⟩ vt').heap[g]? = w'.heap[g]? := fun g hne => Below.heap_setCell w' _ _ g hne
  refine ⟨(h.rd.keep (fun g hg' => hb g (by omega)) hg.size).setCell (by dsimp only; omega) _,
    grown_setCell ⟨hg.os.trans h.gr.os, hg.tape.trans h.gr.tape, hg.output.trans h.gr.output, Nat.le_trans h.gr.size hg.size, fun i hi hne => (hb i (by omega)).trans (h.gr.block i hi hne)⟩ (by dsimp only; omega) _,
    (h.res.keep (hb _ (by omega))).far (by dsimp only; omega) _, (h.net.keep (hb _ (Nat.le_refl _))).set_ 1 vt', ?_, ?_, by rw [hsz]; have := hg.size; omega, hN, hR⟩
  · have ho' : w'.ownsRow (N + 1) 36 9 vt' (ms ++ [m]).length (taskCells (ms ++ [m])) := by simpa [List.flatMap_append] using ho
    refine ho'.kept (row := some N) ⟨rfl, rfl, rfl, Nat.le_of_eq hsz.symm, fun g hg hne => hbs g (by intro e; exact hne (by rw [e]))⟩ ?_
    rcases hv : vt'.ownBlock with _ | g
    · exact .inl rfl
    · right; intro e; injection e with e; have := (ho.lt g hv).1; omega
  · intro x hx g hgo
    rw [hsz]
    have hgN := (ho.lt g hgo).1
    rcases List.mem_append.1 hx with hx | hx
    · rcases hat with hat | hat
      · -- in its place
        have hgo' : vt.ownBlock = some g := by rw [← hat]; exact hgo
        refine (TaskA.keep (h.each x hx g hgo') fun i h1 h2 h3 => ?_).more (Nat.le_refl _) hg.size
        exact (hbs i (by omega)).trans (hg.block i h2 (fun e => h3 (by rw [hgo'] at e; injection e)))
      · -- in the new block
        have hgw : g = w.heap.size := by rw [hat] at hgo; injection hgo with e; exact e.symm
        subst hgw
        rcases hv : vt.ownBlock with _ | g0
        · exfalso
          rcases h.own.2 with ⟨_, h0⟩ | ⟨g1, _, _, e, _⟩
          · rw [List.length_eq_zero_iff] at h0; subst h0; simp at hx
          · rw [e] at hv; simp [Value.ownBlock] at hv
        · have ht := h.each x hx g0 hv
          have ht' : TaskA w' (N + 1) w.heap.size g0 x := ht.keep fun i h1 h2 h3 => hg.block i h2 (fun e => h3 (by rw [hv] at e; injection e))
          have ht2 : TaskA w' (N + 1) w.heap.size w.heap.size x := TaskV.away ht'.task (.inl (Nat.le_refl _))
          exact (ht2.keep fun i h1 h2 h3 => hbs i (by omega)).more (Nat.le_refl _) hg.size
    · simp at hx; subst hx
      have hgb : w.heap.size ≤ g ∨ g < L := by
        rcases hat with hat | hat
        · exact .inr (hL g (by rw [← hat]; exact hgo))
        · exact .inl (by rw [hat] at hgo; injection hgo with e; omega)
      have hx' : TaskV (w'.setCell ⟨N, 1, none⟩ vt') L w.heap.size x.t x.vi x.vo x.vc := hm.keep fun i h1 h2 => by
        refine (hbs i (by omega)).trans (hg.block i h2 (fun e => ?_))
        have := hL i e.symm; omega
      exact (TaskV.away hx' hgb).more (by omega) hg.size
theorem ShL.fin {g k c : Nat} (h : ShL w0 R p N pl ms (.slice (some ⟨g, 0, none⟩) k c) w) (hk : ms.length = k) (hkm : k ≤ maxLen) :
    FN ((w.setCell ⟨w0.heap.size, 0, none⟩ (.int .i64 pl)).setCell ⟨w0.heap.size, 1, none⟩ (.slice (some ⟨g, 0, none⟩) k c)) w0.heap.size ((w.setCell ⟨w0.heap.size, 0, none⟩ (.int .i64 pl)).setCell ⟨w0.heap.size, 1, none⟩ (.slice (some ⟨g, 0, none⟩) k c)).heap.size (.agg #[.int .i64 pl, .slice (some ⟨g, 0, none⟩) k c]) ⟨pl, ms.map TaskM.t⟩ ∧
    RdV ((w.setCell ⟨w0.heap.size, 0, none⟩ (.int .i64 pl)).setCell ⟨w0.heap.size, 1, none⟩ (.slice (some ⟨g, 0, none⟩) k c)) R p ∧
    w0.grownBy ((w.setCell ⟨w0.heap.size, 0, none⟩ (.int .i64 pl)).setCell ⟨w0.heap.size, 1, none⟩ (.slice (some ⟨g, 0, none⟩) k c)) (some R) := by
  have hlt := h.lt; have hR := h.hR; have hN := h.hN
  subst hk
  refine ⟨?_, (h.rd.setCell (by dsimp only; omega) _).setCell (by dsimp only; omega) _, grown_setCell (grown_setCell h.gr (by dsimp only; omega) _) (by dsimp only; omega) _⟩
  have hb : ∀ i, i ≠ w0.heap.size → ((w.setCell ⟨w0.heap.size, 0, none⟩ (.int .i64 pl)).setCell ⟨w0.heap.size, 1, none⟩ (.slice (some ⟨g, 0, none⟩) ms.length c)).heap[i]? = w.heap[i]? := fun i hi => by
    rw [Below.heap_setCell _ _ _ _ (by dsimp only; omega), Below.heap_setCell _ _ _ _ (by dsimp only; omega)]
  have hsz : ((w.setCell ⟨w0.heap.size, 0, none⟩ (.int .i64 pl)).setCell ⟨w0.heap.size, 1, none⟩ (.slice (some ⟨g, 0, none⟩) ms.length c)).heap.size = w.heap.size := by simp [World.setCell]
  rw [hsz]
  have hg := h.own.lt g rfl
  refine ⟨g, c, ms, by simp, by simpa using hkm, by omega, hg.2, (Row.made h.own).keep fun i h1 h2 => hb i (by omega), rfl, fun m hm => ?_⟩
  exact ((h.each m hm g rfl).keep fun i h1 h2 _ => hb i (by omega)).more (by omega) (Nat.le_refl _)
end
theorem own_formN {w : World} {base n sz : Nat} {e : TypeId} {v : Value} {xs : List Value} (h : w.ownsRow base e sz v n xs) (hn : 0 < n) : ∃ g c, v = .slice (some ⟨g, 0, none⟩) n c ∧ n ≤ maxLen := by
  rcases h.2 with ⟨_, h0⟩ | ⟨g, cap, cur, rfl, hg, hh, hc, hm, _⟩
  · omega
  · exact ⟨g, cap, rfl, by omega⟩
theorem own_lit1 (w : World) (e : TypeId) (x : Value) (base : Nat) (hb : base ≤ w.heap.size) : (w.alloc (.cells #[x] e)).ownsRow base e 1 (.slice (some ⟨w.heap.size, 0, none⟩) 1 1) 1 [x] :=
  ⟨rfl, .inr ⟨w.heap.size, 1, #[x], rfl, hb, heap_alloc_new w _, Nat.le_refl _, by unfold maxLen; omega, rfl, rfl⟩⟩
theorem lit_cells (w : World) (cs : Array Value) (T : TypeId) : ∀ (j : Nat) (v : Value), cs.toList[j]? = some v → (w.alloc (.cells cs T)).cell? ((⟨w.heap.size, 0, none⟩ : Addr).add j) = some v := by
  intro j v hj
  rw [addr_add0, Nat.zero_add, World.cell?_alloc_at _ _ _ _ rfl]
  simpa using hj
/-- What a round of the loop holds: the reader, all old blocks, the row of places from which the task takes. -/
def ShR (wr : World) (R q bi : Nat) (x : Int) (wc : World) : Prop :=
  ∃ p' : Nat, p' ≤ q ∧ RdV wc R p' ∧ wr.grownBy wc (some R) ∧ Row wc bi (bi + 1) (some ⟨bi, 0, none⟩) bi 0 (ints [x]) ∧ bi < wc.heap.size
theorem ShR.grown {wr w w' : World} {R q p' bi : Nat} {x : Int} (h : ShR wr R q bi x w) (hg : w.grownBy w' (some R)) (hR : R < bi) (hr : RdV w' R p') (hq : p' ≤ q) : ShR wr R q bi x w' := by
  obtain ⟨p0, _, _, h3, h4, h5⟩ := h
  exact ⟨p', hq, hr, grown_tr h3 hg, h4.grown hg (.inr hR) (by omega), Nat.lt_of_lt_of_le h5 hg.size⟩
section
variable {P : Program}
theorem wp_append_at (w : World) {o : Oper} {a : Act} {K : Act → World → Prop} {Q : Exit → Act → World → Prop} (s x : Operand) (t : TypeId)
    (ho : o.op = .call { callee := .builtin .append, args := #[s, x], argTypes := #[t, t] })
    (base : Nat) (e : TypeId) (i : TypeInfo) (z : Value) (size bytes : Nat) (ht : P.underlying t = some (.slice e)) (hi : P.info? e = some i) (hz : i.zero = some z)
    (hsize : i.size = size) (hby : i.bytes = bytes) (hzs : z.cells.size = size) (hsz : 0 < size)
    (v : Value) (n : Nat) (xs : List Value) (hs : a.eval s = v) (hown : w.ownsRow base e size v n xs)
    (ad : Addr) (m c : Nat) (news : List Value) (hx : a.eval x = .slice (some ad) m c) (hl : news.length = m * size) (hnews : ∀ j u, news[j]? = some u → w.cell? (ad.add j) = some u) (h1 : ∀ u ∈ news, u.oneCell' = true)
    (h63 : n + m ≤ maxLen) (hbytes : (n + m) * bytes ≤ 140737488355328) (hbase : base ≤ w.heap.size)
    (h : ∀ v' w', w'.ownsRow base e size v' (n + m) (xs ++ news) → w.grownBy w' v.ownBlock → (v'.ownBlock = v.ownBlock ∨ v'.ownBlock = some w.heap.size) → K (a.put o.dst v') w') : o.wp P a w K Q := by
  obtain ⟨v', w', hr, h2, h3, h4, h5⟩ := run_append_own_at (P := P) w base t o.type e i z size bytes ht hi hz hsize hby hzs hsz v n xs hown ad m c news hl hnews h1 h63 hbytes hbase
  unfold Oper.wp execOp
  simp only [ho, resolve, invoke, builtin, Sem.run_bind, Sem.run_pure, Result.andThen_ok, List.map_toArray, List.map_cons, List.map_nil, hs, hx, hr]
  exact h v' w' h2 h3 h5
end
end Go.Proofs.Ytkcbghaadjhceaa
