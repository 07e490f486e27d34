/- Tasks and nets that a draw makes: where they lie, and what keeps them. -/
import Derived.Test.YtoggdhbnkbdilaaDraw3
import Derived.Test.YtoggdhbnkbdilaaNetTo
import Derived.Maps.AppendAt
namespace Go.Proofs.Ytoggdhbnkbdilaa
open Go.RowKit
set_option linter.unusedVariables false
set_option linter.unusedSimpArgs false

/-- A slice of which the block lies between lo and hi, and is not b. -/
def SlA (w : World) (lo hi b : Nat) (v : Value) (n : Nat) (xs : List Value) : Prop := ∃ l h, lo ≤ l ∧ h ≤ hi ∧ (h ≤ b ∨ b < l) ∧ Sl w l h v n xs
structure TaskA (w : World) (lo hi b : Nat) (m : TaskM) : Prop where
  ins : SlA w lo hi b m.vi m.t.ins.length (ints m.t.ins)
  out : SlA w lo hi b m.vo m.t.out.length (flowCells m.t.out)
  clear : SlA w lo hi b m.vc m.t.clear.length (ints m.t.clear)
section
variable {w w' : World} {lo hi lo' hi' b n : Nat} {v : Value} {xs : List Value} {m : TaskM}
theorem SlA.nil_ (w : World) (lo hi b : Nat) : SlA w lo hi b (.slice none 0 0) 0 [] := ⟨lo, 0, Nat.le_refl _, Nat.zero_le _, .inl (Nat.zero_le _), none, 0, 0, 0, rfl, Nat.zero_le _, Row.nil_⟩
theorem SlA.sl (h : SlA w lo hi b v n xs) : Sl w lo hi v n xs := by
  obtain ⟨l, h', h1, h2, _, h3⟩ := h; exact h3.more h1 h2
theorem SlA.keep (h : SlA w lo hi b v n xs) (hk : ∀ g, lo ≤ g → g < hi → g ≠ b → w'.heap[g]? = w.heap[g]?) : SlA w' lo hi b v n xs := by
  obtain ⟨l, h', h1, h2, h3, h4⟩ := h; exact ⟨l, h', h1, h2, h3, h4.keep fun g h5 h6 => hk g (by omega) (by omega) (by omega)⟩
theorem SlA.more (h : SlA w lo hi b v n xs) (h1 : lo' ≤ lo) (h2 : hi ≤ hi') : SlA w lo' hi' b v n xs := by
  obtain ⟨l, h', h3, h4, h5, h6⟩ := h; exact ⟨l, h', by omega, by omega, h5, h6⟩
theorem Sl.away (h : Sl w lo hi v n xs) (hb : hi ≤ b ∨ b < lo) : SlA w lo hi b v n xs := ⟨lo, hi, Nat.le_refl _, Nat.le_refl _, hb, h⟩
theorem TaskA.keep (h : TaskA w lo hi b m) (hk : ∀ g, lo ≤ g → g < hi → g ≠ b → w'.heap[g]? = w.heap[g]?) : TaskA w' lo hi b m := ⟨h.ins.keep hk, h.out.keep hk, h.clear.keep hk⟩
theorem TaskA.more (h : TaskA w lo hi b m) (h1 : lo' ≤ lo) (h2 : hi ≤ hi') : TaskA w lo' hi' b m := ⟨h.ins.more h1 h2, h.out.more h1 h2, h.clear.more h1 h2⟩
theorem TaskA.task (h : TaskA w lo hi b m) : TaskV w lo hi m.t m.vi m.vo m.vc := ⟨h.ins.sl, h.out.sl, h.clear.sl⟩
theorem TaskV.away {t : NTask} {vi vo vc : Value} (h : TaskV w lo hi t vi vo vc) (hb : hi ≤ b ∨ b < lo) : TaskA w lo hi b ⟨t, vi, vo, vc⟩ := ⟨h.ins.away hb, h.out.away hb, h.clear.away hb⟩
theorem TaskA.grown {R : Nat} (h : TaskA w lo hi b m) (hg : w.grownBy w' (some R)) (hR : R < lo) (hh : hi ≤ w.heap.size) : TaskA w' lo hi b m := h.keep fun g h1 h2 _ => hg.block g (by omega) (fun e => by injection e; omega)
end

/-- Tasks made one behind the other, each by itself. -/
def Tks (w : World) (lo : Nat) (ms : List TaskM) : Prop := ∀ m ∈ ms, TaskV w lo w.heap.size m.t m.vi m.vo m.vc
section
variable {w w' : World} {lo R : Nat} {ms : List TaskM} {m : TaskM}
theorem Tks.nil_ (w : World) (lo : Nat) : Tks w lo [] := fun m hm => by simp at hm
theorem Tks.grown (h : Tks w lo ms) (hg : w.grownBy w' (some R)) (hR : R < lo) : Tks w' lo ms := fun m hm =>
  ((h m hm).keep fun g h1 h2 => hg.block g (by omega) (fun e => by injection e; omega)).more (Nat.le_refl _) hg.size
theorem Tks.alloc (h : Tks w lo ms) (o : Obj) : Tks (w.alloc o) lo ms := fun m hm => ((h m hm).keep fun g h1 h2 => Below.heap_alloc w o g h2).more (Nat.le_refl _) (by simp)
theorem Tks.snoc (h : Tks w lo ms) (hm : TaskV w lo w.heap.size m.t m.vi m.vo m.vc) : Tks w lo (ms ++ [m]) := fun x hx => by
  rcases List.mem_append.1 hx with hx | hx
  · exact h x hx
  · simp at hx; subst hx; exact hm
end

/-- A net made by the call itself: the tasks' block b is none of those that hold the tasks' slices. -/
def FN (w : World) (lo hi : Nat) (v : Value) (n : NNet) : Prop := ∃ b c ms, v = .agg #[.int .i64 n.places, .slice (some ⟨b, 0, none⟩) n.tasks.length c] ∧ n.tasks.length ≤ maxLen ∧ lo ≤ b ∧ b < hi ∧
  Row w b (b + 1) (some ⟨b, 0, none⟩) b 0 (taskCells ms) ∧ ms.map TaskM.t = n.tasks ∧ ∀ m ∈ ms, TaskA w lo hi b m
section
variable {w w' : World} {lo hi lo' hi' : Nat} {v : Value} {n : NNet}
theorem FN.net (h : FN w lo hi v n) : NetV w lo hi v n := by
  obtain ⟨b, c, ms, rfl, hm, h1, h2, hr, hmap, hT⟩ := h
  exact ⟨_, b, 0, c, ms, rfl, hm, hr.more h1 h2, hmap, fun m hm => (hT m hm).task⟩
theorem FN.keep (h : FN w lo hi v n) (hk : ∀ g, lo ≤ g → g < hi → w'.heap[g]? = w.heap[g]?) : FN w' lo hi v n := by
  obtain ⟨b, c, ms, rfl, hm, h1, h2, hr, hmap, hT⟩ := h
  exact ⟨b, c, ms, rfl, hm, h1, h2, hr.keep (fun g h3 h4 => hk g (by omega) (by omega)), hmap, fun m hm => (hT m hm).keep fun g h3 h4 _ => hk g h3 h4⟩
theorem FN.more (h : FN w lo hi v n) (h1 : lo' ≤ lo) (h2 : hi ≤ hi') : FN w lo' hi' v n := by
  obtain ⟨b, c, ms, rfl, hm, h3, h4, hr, hmap, hT⟩ := h
  exact ⟨b, c, ms, rfl, hm, by omega, by omega, hr, hmap, fun m hm => (hT m hm).more h1 h2⟩
theorem FN.grown {R : Nat} (h : FN w lo hi v n) (hg : w.grownBy w' (some R)) (hR : R < lo) (hh : hi ≤ w.heap.size) : FN w' lo hi v n := h.keep fun g h1 h2 => hg.block g (by omega) (fun e => by injection e; omega)
theorem FN.alloc (h : FN w lo hi v n) (hh : hi ≤ w.heap.size) (o : Obj) : FN (w.alloc o) lo hi v n := h.keep fun g h1 h2 => Below.heap_alloc w o g (by omega)
theorem FN.below (h : FN w lo hi v n) {B : Nat} (hb : Below B w w') (hh : hi ≤ B) : FN w' lo hi v n := h.keep fun g h1 h2 => hb.block g (by omega)
/-- Tasks laid in a new block: a net. -/
theorem Tks.lay {w : World} {lo : Nat} {ms : List TaskM} {T : TypeId} {p : Int} (h : Tks w lo ms) (hlo : lo ≤ w.heap.size) (hm : ms.length ≤ maxLen) (k : Nat) (hk : ms.length = k) (cs : Array Value) (hcs : taskCells ms = cs.toList) : FN (w.alloc (.cells cs T)) lo (w.heap.size + 1) (.agg #[.int .i64 p, .slice (some ⟨w.heap.size, 0, none⟩) k k]) ⟨p, ms.map TaskM.t⟩ := by
  subst hk
  refine ⟨w.heap.size, ms.length, ms, by simp, by simpa using hm, hlo, by omega, by rw [hcs]; exact Row.new w cs T, rfl, fun m hm => ?_⟩
  have h1 := (h m hm).keep (w' := w.alloc (.cells cs T)) fun g h1 h2 => Below.heap_alloc w _ g h2
  exact TaskA.more (TaskV.away (b := w.heap.size) h1 (.inl (Nat.le_refl _))) (Nat.le_refl _) (by omega)
end
end Go.Proofs.Ytoggdhbnkbdilaa
