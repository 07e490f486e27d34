/- What a net, a task and a flow are in plain Lean, and how they lie in memory. No function of the program is spoken of. -/
import Derived.Test.YtkcbghaadjhceaaMore
import Derived.StillTailTactics
namespace Go.Proofs.Ytkcbghaadjhceaa
open Go.RowKit
set_option linter.unusedVariables false
set_option linter.unusedSimpArgs false

structure NFlow where
  to : Int
  op : Int
  var : Int
  k : Int
  deriving DecidableEq, Inhabited
structure NTask where
  join : Int
  split : Int
  ins : List Int
  out : List NFlow
  clear : List Int
  role : Int
  apart : Int
  all : Int
  need : Int
  deriving DecidableEq, Inhabited
structure NNet where
  places : Int
  tasks : List NTask
  deriving DecidableEq, Inhabited
structure NItem where
  task : Int
  who : Int
  did : Int
  deriving DecidableEq, Inhabited

abbrev NFlow.cells (f : NFlow) : List Value := [.int .i64 f.to, .int .i64 f.op, .int .i64 f.var, .int .i64 f.k]
abbrev NItem.cells (f : NItem) : List Value := [.int .i64 f.task, .int .i64 f.who, .int .i64 f.did]
abbrev flowCells (l : List NFlow) : List Value := l.flatMap NFlow.cells
abbrev itemCells (l : List NItem) : List Value := l.flatMap NItem.cells

theorem flat_at {α β : Type} {f : α → List β} {d : Nat} : ∀ {l : List α} (_ : ∀ x ∈ l, (f x).length = d) {k j : Nat} {x : α}, l[k]? = some x → j < d → (l.flatMap f)[k * d + j]? = (f x)[j]?
  | [], _, k, j, x, h, _ => by simp at h
  | y :: r, hd, 0, j, x, h, hj => by
    simp at h; subst h
    have := hd y (List.mem_cons_self ..)
    simp [List.getElem?_append_left (show j < (f y).length by omega)]
  | y :: r, hd, k + 1, j, x, h, hj => by
    have e := hd y (List.mem_cons_self ..)
    have ih := flat_at (l := r) (fun z hz => hd z (List.mem_cons_of_mem _ hz)) (k := k) (j := j) (x := x) (by simpa using h) hj
    have e2 : (k + 1) * d + j = d + (k * d + j) := by rw [Nat.add_mul]; omega
    rw [List.flatMap_cons, e2, List.getElem?_append_right (by omega), e, Nat.add_sub_cancel_left]
    exact ih
theorem flat_len {α β : Type} {f : α → List β} {d : Nat} : ∀ {l : List α} (_ : ∀ x ∈ l, (f x).length = d), (l.flatMap f).length = l.length * d
  | [], _ => by simp
  | y :: r, hd => by
    rw [List.flatMap_cons, List.length_append, hd y (List.mem_cons_self ..), flat_len (fun z hz => hd z (List.mem_cons_of_mem _ hz)), List.length_cons, Nat.add_mul]; omega
theorem flowCells_len (l : List NFlow) : (flowCells l).length = l.length * 4 := flat_len fun _ _ => rfl
theorem itemCells_len (l : List NItem) : (itemCells l).length = l.length * 3 := flat_len fun _ _ => rfl

theorem Row.flow {w : World} {lo hi b off : Nat} {A : Option Addr} {l : List NFlow} (h : Row w lo hi A b off (flowCells l)) {k : Nat} (hk : k < l.length) :
    A = some ⟨b, off, none⟩ ∧ lo ≤ b ∧ b < hi ∧ ∃ x, l[k]? = some x ∧
      (w.cell? ⟨b, off + k * 4, none⟩ = some (.int .i64 x.to) ∧ w.cell? ⟨b, off + k * 4 + 1, none⟩ = some (.int .i64 x.op) ∧ w.cell? ⟨b, off + k * 4 + 2, none⟩ = some (.int .i64 x.var) ∧ w.cell? ⟨b, off + k * 4 + 3, none⟩ = some (.int .i64 x.k)) ∧
      (w.frozen? ⟨b, off + k * 4, none⟩ = false ∧ w.frozen? ⟨b, off + k * 4 + 1, none⟩ = false ∧ w.frozen? ⟨b, off + k * 4 + 2, none⟩ = false ∧ w.frozen? ⟨b, off + k * 4 + 3, none⟩ = false) := by
  obtain ⟨h1, h2, h3⟩ := h.ref (k := k) (by rw [flowCells_len]; omega)
  have hx := List.getElem?_eq_getElem hk
  have hd : ∀ x ∈ l, (NFlow.cells x).length = 4 := fun _ _ => rfl
  have c0 := h.2 _ _ ((flat_at hd hx (j := 0) (by omega)).trans rfl)
  have c1 := h.2 _ _ ((flat_at hd hx (j := 1) (by omega)).trans rfl)
  have c2 := h.2 _ _ ((flat_at hd hx (j := 2) (by omega)).trans rfl)
  have c3 := h.2 _ _ ((flat_at hd hx (j := 3) (by omega)).trans rfl)
  simp only [← Nat.add_assoc, Nat.add_zero] at c0 c1 c2 c3
  exact ⟨h1, h2, h3, l[k], hx, ⟨c0.1, c1.1, c2.1, c3.1⟩, c0.2, c1.2, c2.2, c3.2⟩
theorem Row.item {w : World} {lo hi b off : Nat} {A : Option Addr} {l : List NItem} (h : Row w lo hi A b off (itemCells l)) {k : Nat} (hk : k < l.length) :
    A = some ⟨b, off, none⟩ ∧ lo ≤ b ∧ b < hi ∧ ∃ x, l[k]? = some x ∧
      (w.cell? ⟨b, off + k * 3, none⟩ = some (.int .i64 x.task) ∧ w.cell? ⟨b, off + k * 3 + 1, none⟩ = some (.int .i64 x.who) ∧ w.cell? ⟨b, off + k * 3 + 2, none⟩ = some (.int .i64 x.did)) ∧
      (w.frozen? ⟨b, off + k * 3, none⟩ = false ∧ w.frozen? ⟨b, off + k * 3 + 1, none⟩ = false ∧ w.frozen? ⟨b, off + k * 3 + 2, none⟩ = false) := by
  obtain ⟨h1, h2, h3⟩ := h.ref (k := k) (by rw [itemCells_len]; omega)
  have hx := List.getElem?_eq_getElem hk
  have hd : ∀ x ∈ l, (NItem.cells x).length = 3 := fun _ _ => rfl
  have c0 := h.2 _ _ ((flat_at hd hx (j := 0) (by omega)).trans rfl)
  have c1 := h.2 _ _ ((flat_at hd hx (j := 1) (by omega)).trans rfl)
  have c2 := h.2 _ _ ((flat_at hd hx (j := 2) (by omega)).trans rfl)
  simp only [← Nat.add_assoc, Nat.add_zero] at c0 c1 c2
  exact ⟨h1, h2, h3, l[k], hx, ⟨c0.1, c1.1, c2.1⟩, c0.2, c1.2, c2.2⟩

/-- Cells stored one behind another. -/
def putAt (w : World) (b o : Nat) : List Value → World
  | [] => w
  | c :: r => putAt (w.setCell ⟨b, o, none⟩ c) b (o + 1) r
def putL (xs : List Value) (k : Nat) : List Value → List Value
  | [] => xs
  | c :: r => putL (xs.set k c) (k + 1) r
theorem putL_length : ∀ (cs xs : List Value) (k : Nat), (putL xs k cs).length = xs.length
  | [], _, _ => rfl
  | c :: r, xs, k => by rw [putL, putL_length r]; simp
theorem putL_lt : ∀ (cs xs : List Value) (k j : Nat), j < k → (putL xs k cs)[j]? = xs[j]?
  | [], _, _, _, _ => rfl
  | c :: r, xs, k, j, h => by rw [putL, putL_lt r _ _ _ (by omega), List.getElem?_set, if_neg (by omega)]
theorem putL_at : ∀ (cs xs : List Value) (k i : Nat), i < cs.length → k + cs.length ≤ xs.length → (putL xs k cs)[k + i]? = cs[i]?
  | [], _, _, _, h, _ => by simp at h
  | c :: r, xs, k, 0, h, hl => by
    simp at hl
    rw [putL, putL_lt _ _ _ _ (by omega), List.getElem?_set, if_pos (by omega), if_pos (by omega)]; rfl
  | c :: r, xs, k, i + 1, h, hl => by
    simp at hl h
    rw [putL, show k + (i + 1) = (k + 1) + i by omega, putL_at r _ _ _ (by omega) (by simp; omega)]; rfl
theorem putL_past : ∀ (cs xs : List Value) (k j : Nat), k + cs.length ≤ j → (putL xs k cs)[j]? = xs[j]?
  | [], _, _, _, _ => rfl
  | c :: r, xs, k, j, h => by simp at h; rw [putL, putL_past r _ _ _ (by omega), List.getElem?_set, if_neg (by omega)]
theorem Row.put {lo hi b off : Nat} {A : Option Addr} : ∀ (cs xs : List Value) (k : Nat) {w : World}, Row w lo hi A b off xs → k + cs.length ≤ xs.length → Row (putAt w b (off + k) cs) lo hi A b off (putL xs k cs)
  | [], _, _, _, h, _ => h
  | c :: r, xs, k, w, h, hl => by
    simp at hl
    exact Row.put r _ (k + 1) (h.set_ k c (by omega)) (by simp; omega)
theorem upd_put {lo hi b : Nat} {a : World} (h1 : lo ≤ b) (h2 : b < hi) : ∀ (cs : List Value) (o : Nat) {w : World}, Upd lo hi a w → Upd lo hi a (putAt w b o cs)
  | [], _, _, h => h
  | c :: r, o, w, h => upd_put h1 h2 r (o + 1) (h.setCell h1 h2 c)
theorem below_put {B b : Nat} {a : World} (hB : B ≤ b) : ∀ (cs : List Value) (o : Nat) {w : World}, Below B a w → Below B a (putAt w b o cs)
  | [], _, _, h => h
  | c :: r, o, w, h => below_put hB r (o + 1) (h.setCell hB c)
theorem put_size : ∀ (cs : List Value) (b o : Nat) (w : World), (putAt w b o cs).heap.size = w.heap.size
  | [], _, _, _ => rfl
  | c :: r, b, o, w => by rw [putAt, put_size r]; simp [World.setCell]
/-- One element more of a copy that is being filled. -/
theorem fill_step {α : Type} {f : α → List Value} {d : Nat} {l : List α} (hd : ∀ x ∈ l, (f x).length = d) {k : Nat} {x : α} (hx : l[k]? = some x) {xs : List Value} (hl : xs.length = l.length * d)
    (hp : ∀ j, j < k * d → xs[j]? = (l.flatMap f)[j]?) : (putL xs (k * d) (f x)).length = l.length * d ∧ ∀ j, j < (k + 1) * d → (putL xs (k * d) (f x))[j]? = (l.flatMap f)[j]? := by
  have hk := lt_of_some hx
  have hfx := hd x (List.mem_of_getElem? hx)
  have hle : k * d + d ≤ l.length * d := by
    have := Nat.mul_le_mul_right d (show k + 1 ≤ l.length by omega)
    rwa [Nat.add_mul, Nat.one_mul] at this
  refine ⟨by rw [putL_length]; exact hl, fun j hj => ?_⟩
  rw [Nat.add_mul, Nat.one_mul] at hj
  by_cases h : j < k * d
  · rw [putL_lt _ _ _ _ h]; exact hp j h
  · obtain ⟨i, rfl⟩ : ∃ i, j = k * d + i := ⟨j - k * d, by omega⟩
    rw [putL_at _ _ _ _ (by omega) (by omega), flat_at hd hx (by omega)]
theorem fill_more {α : Type} {f : α → List Value} {d : Nat} {l : List α} {x : α} (hd : ∀ x ∈ l ++ [x], (f x).length = d) {xs : List Value} (hl : (l.length + 1) * d ≤ xs.length)
    (hp : ∀ j, j < l.length * d → xs[j]? = (l.flatMap f)[j]?) : (putL xs (l.length * d) (f x)).length = xs.length ∧ ∀ j, j < (l ++ [x]).length * d → (putL xs (l.length * d) (f x))[j]? = ((l ++ [x]).flatMap f)[j]? := by
  have hfx := hd x (by simp)
  have hlen : (l.flatMap f).length = l.length * d := flat_len fun y hy => hd y (by simp [hy])
  refine ⟨putL_length _ _ _, fun j hj => ?_⟩
  rw [Nat.add_mul, Nat.one_mul] at hl
  have hj' : j < l.length * d + d := by simpa [Nat.add_mul] using hj
  rw [List.flatMap_append]
  by_cases h : j < l.length * d
  · rw [putL_lt _ _ _ _ h, List.getElem?_append_left (by omega)]; exact hp j h
  · obtain ⟨i, rfl⟩ : ∃ i, j = l.length * d + i := ⟨j - l.length * d, by omega⟩
    rw [putL_at _ _ _ _ (by omega) (by omega), List.getElem?_append_right (by omega), hlen, Nat.add_sub_cancel_left]; simp
theorem fill_end {α : Type} {f : α → List Value} {d : Nat} {l : List α} (hd : ∀ x ∈ l, (f x).length = d) {xs : List Value} (hl : xs.length = l.length * d) (hp : ∀ j, j < l.length * d → xs[j]? = (l.flatMap f)[j]?) : xs = l.flatMap f :=
  List.ext_getElem? fun j => by
    by_cases h : j < l.length * d
    · exact hp j h
    · rw [List.getElem?_eq_none (by omega), List.getElem?_eq_none (by rw [flat_len hd]; omega)]

theorem Row.made {w1 : World} {e : TypeId} {size n c : Nat} {base : Nat} {g : Nat} {xs : List Value} (h : w1.ownsRow base e size (.slice (some ⟨g, 0, none⟩) n c) n xs) : Row w1 g (g + 1) (some ⟨g, 0, none⟩) g 0 xs := by
  refine ⟨fun _ => ⟨rfl, Nat.le_refl _, Nat.lt_succ_self _⟩, fun j u hu => ⟨?_, h.frozenAt _⟩⟩
  rw [Nat.zero_add]
  exact (h.cellAt j (by have := lt_of_some hu; have := h.1; omega)).trans hu
theorem Row.new (w : World) (cs : Array Value) (t : TypeId) : Row (w.alloc (.cells cs t)) w.heap.size (w.heap.size + 1) (some ⟨w.heap.size, 0, none⟩) w.heap.size 0 cs.toList :=
  ⟨fun _ => ⟨rfl, Nat.le_refl _, Nat.lt_succ_self _⟩, fun j u hu => ⟨by rw [Nat.zero_add, World.cell?_alloc_new]; simpa using hu, by rw [Nat.zero_add, World.frozen?_alloc_new]⟩⟩
theorem Row.newAt (w : World) (cs : Array Value) (t : TypeId) (n : Nat) (hn : n = w.heap.size) : Row (w.alloc (.cells cs t)) n (n + 1) (some ⟨n, 0, none⟩) n 0 cs.toList := by
  subst hn; exact Row.new w cs t
theorem Upd.one (w : World) (g j : Nat) (u : Value) : Upd g (g + 1) w (w.setCell ⟨g, j, none⟩ u) := (Upd.refl g (g + 1) w).setCell (p := ⟨g, j, none⟩) (Nat.le_refl g) (Nat.lt_succ_self g) u
theorem Row.cell {w : World} {lo hi g : Nat} {A : Option Addr} {xs : List Value} (h : Row w lo hi A g 0 xs) {j : Nat} {u : Value} (hu : xs[j]? = some u) : w.cell? ⟨g, j, none⟩ = some u ∧ w.frozen? ⟨g, j, none⟩ = false := by
  have := h.2 j u hu; rwa [Nat.zero_add] at this
theorem Row.nine {w : World} {lo hi g : Nat} {A : Option Addr} {a0 a1 a2 a3 a4 a5 a6 a7 a8 : Value} (h : Row w lo hi A g 0 [a0, a1, a2, a3, a4, a5, a6, a7, a8]) :
    (w.cell? ⟨g, 0, none⟩ = some a0 ∧ w.cell? ⟨g, 1, none⟩ = some a1 ∧ w.cell? ⟨g, 2, none⟩ = some a2 ∧ w.cell? ⟨g, 3, none⟩ = some a3 ∧ w.cell? ⟨g, 4, none⟩ = some a4 ∧ w.cell? ⟨g, 5, none⟩ = some a5 ∧ w.cell? ⟨g, 6, none⟩ = some a6 ∧ w.cell? ⟨g, 7, none⟩ = some a7 ∧ w.cell? ⟨g, 8, none⟩ = some a8) ∧ (w.frozen? ⟨g, 0, none⟩ = false ∧ w.frozen? ⟨g, 1, none⟩ = false ∧ w.frozen? ⟨g, 2, none⟩ = false ∧ w.frozen? ⟨g, 3, none⟩ = false ∧ w.frozen? ⟨g, 4, none⟩ = false ∧ w.frozen? ⟨g, 5, none⟩ = false ∧ w.frozen? ⟨g, 6, none⟩ = false ∧ w.frozen? ⟨g, 7, none⟩ = false ∧ w.frozen? ⟨g, 8, none⟩ = false) :=
  ⟨⟨(h.cell (j := 0) rfl).1, (h.cell (j := 1) rfl).1, (h.cell (j := 2) rfl).1, (h.cell (j := 3) rfl).1, (h.cell (j := 4) rfl).1, (h.cell (j := 5) rfl).1, (h.cell (j := 6) rfl).1, (h.cell (j := 7) rfl).1, (h.cell (j := 8) rfl).1⟩, (h.cell (j := 0) rfl).2, (h.cell (j := 1) rfl).2, (h.cell (j := 2) rfl).2, (h.cell (j := 3) rfl).2, (h.cell (j := 4) rfl).2, (h.cell (j := 5) rfl).2, (h.cell (j := 6) rfl).2, (h.cell (j := 7) rfl).2, (h.cell (j := 8) rfl).2⟩
theorem Row.four {w : World} {lo hi g : Nat} {A : Option Addr} {a0 a1 a2 a3 : Value} (h : Row w lo hi A g 0 [a0, a1, a2, a3]) :
    (w.cell? ⟨g, 0, none⟩ = some a0 ∧ w.cell? ⟨g, 1, none⟩ = some a1 ∧ w.cell? ⟨g, 2, none⟩ = some a2 ∧ w.cell? ⟨g, 3, none⟩ = some a3) ∧ (w.frozen? ⟨g, 0, none⟩ = false ∧ w.frozen? ⟨g, 1, none⟩ = false ∧ w.frozen? ⟨g, 2, none⟩ = false ∧ w.frozen? ⟨g, 3, none⟩ = false) :=
  ⟨⟨(h.cell (j := 0) rfl).1, (h.cell (j := 1) rfl).1, (h.cell (j := 2) rfl).1, (h.cell (j := 3) rfl).1⟩, (h.cell (j := 0) rfl).2, (h.cell (j := 1) rfl).2, (h.cell (j := 2) rfl).2, (h.cell (j := 3) rfl).2⟩
/-- A slice value of n elements whose cells read as xs. -/
def Sl (w : World) (lo hi : Nat) (v : Value) (n : Nat) (xs : List Value) : Prop := ∃ A b off c, v = .slice A n c ∧ n ≤ maxLen ∧ Row w lo hi A b off xs
section
variable {w w' : World} {lo hi lo' hi' n : Nat} {v : Value} {xs : List Value}
theorem Sl.keep (h : Sl w lo hi v n xs) (hk : ∀ g, lo ≤ g → g < hi → w'.heap[g]? = w.heap[g]?) : Sl w' lo hi v n xs := by
  obtain ⟨A, b, off, c, rfl, hn, hr⟩ := h; exact ⟨A, b, off, c, rfl, hn, hr.keep hk⟩
theorem Sl.more (h : Sl w lo hi v n xs) (h1 : lo' ≤ lo) (h2 : hi ≤ hi') : Sl w lo' hi' v n xs := by
  obtain ⟨A, b, off, c, rfl, hn, hr⟩ := h; exact ⟨A, b, off, c, rfl, hn, hr.more h1 h2⟩
end

/-- The nine cells of a task. -/
structure TaskV (w : World) (lo hi : Nat) (t : NTask) (vi vo vc : Value) : Prop where
  ins : Sl w lo hi vi t.ins.length (ints t.ins)
  out : Sl w lo hi vo t.out.length (flowCells t.out)
  clear : Sl w lo hi vc t.clear.length (ints t.clear)
abbrev NTask.cells (t : NTask) (vi vo vc : Value) : List Value := [.int .i64 t.join, .int .i64 t.split, vi, vo, vc, .int .i64 t.role, .int .i64 t.apart, .int .i64 t.all, .int .i64 t.need]
/-- A task as it lies in memory: itself and the values of its three slices. -/
structure TaskM where
  t : NTask
  vi : Value
  vo : Value
  vc : Value
abbrev TaskM.cells (m : TaskM) : List Value := m.t.cells m.vi m.vo m.vc
abbrev taskCells (l : List TaskM) : List Value := l.flatMap TaskM.cells
theorem taskCells_len (l : List TaskM) : (taskCells l).length = l.length * 9 := flat_len fun _ _ => rfl
theorem TaskV.keep {w w' : World} {lo hi : Nat} {t : NTask} {vi vo vc : Value} (h : TaskV w lo hi t vi vo vc) (hk : ∀ g, lo ≤ g → g < hi → w'.heap[g]? = w.heap[g]?) : TaskV w' lo hi t vi vo vc := ⟨h.ins.keep hk, h.out.keep hk, h.clear.keep hk⟩
theorem TaskV.more {w : World} {lo hi lo' hi' : Nat} {t : NTask} {vi vo vc : Value} (h : TaskV w lo hi t vi vo vc) (h1 : lo' ≤ lo) (h2 : hi ≤ hi') : TaskV w lo' hi' t vi vo vc := ⟨h.ins.more h1 h2, h.out.more h1 h2, h.clear.more h1 h2⟩

theorem TaskV.forms {w : World} {lo hi : Nat} {t : NTask} {vi vo vc : Value} (h : TaskV w lo hi t vi vo vc) : ∃ A1 c1 A2 c2 A3 c3, vi = .slice A1 t.ins.length c1 ∧ vo = .slice A2 t.out.length c2 ∧ vc = .slice A3 t.clear.length c3 := by
  obtain ⟨⟨A1, _, _, c1, h1, _⟩, ⟨A2, _, _, c2, h2, _⟩, ⟨A3, _, _, c3, h3, _⟩⟩ := h
  exact ⟨A1, c1, A2, c2, A3, c3, h1, h2, h3⟩
/-- Tasks as they lie in memory: ms, in block b from off on; what their slices hold lies between lo2 and hi2. -/
structure TasksV (w : World) (lo hi lo2 hi2 : Nat) (A : Option Addr) (b off : Nat) (ts : List NTask) (ms : List TaskM) : Prop where
  row : Row w lo hi A b off (taskCells ms)
  map : ms.map TaskM.t = ts
  each : ∀ m ∈ ms, TaskV w lo2 hi2 m.t m.vi m.vo m.vc
theorem TasksV.len {w : World} {lo hi lo2 hi2 b off : Nat} {A : Option Addr} {ts : List NTask} {ms : List TaskM} (h : TasksV w lo hi lo2 hi2 A b off ts ms) : ms.length = ts.length := by rw [← h.map]; simp
theorem TasksV.keep {w w' : World} {lo hi lo2 hi2 b off : Nat} {A : Option Addr} {ts : List NTask} {ms : List TaskM} (h : TasksV w lo hi lo2 hi2 A b off ts ms) (hk : ∀ g, lo ≤ g → g < hi → w'.heap[g]? = w.heap[g]?) (hk2 : ∀ g, lo2 ≤ g → g < hi2 → w'.heap[g]? = w.heap[g]?) : TasksV w' lo hi lo2 hi2 A b off ts ms :=
  ⟨h.row.keep hk, h.map, fun m hm => (h.each m hm).keep hk2⟩
theorem TasksV.more {w : World} {lo hi lo2 hi2 b off : Nat} {A : Option Addr} {ts : List NTask} {ms : List TaskM} (h : TasksV w lo hi lo2 hi2 A b off ts ms) {lo' hi' lo2' hi2' : Nat} (h1 : lo' ≤ lo) (h2 : hi ≤ hi') (h3 : lo2' ≤ lo2) (h4 : hi2 ≤ hi2') : TasksV w lo' hi' lo2' hi2' A b off ts ms :=
  ⟨h.row.more h1 h2, h.map, fun m hm => (h.each m hm).more h3 h4⟩
/-- One task out of tasks: its nine cells, and its slices. -/
theorem TasksV.task {w : World} {lo hi lo2 hi2 b off : Nat} {A : Option Addr} {ts : List NTask} {ms : List TaskM} (h : TasksV w lo hi lo2 hi2 A b off ts ms) {k : Nat} (hk : k < ts.length) :
    A = some ⟨b, off, none⟩ ∧ lo ≤ b ∧ b < hi ∧ ∃ (t : NTask) (vi vo vc : Value), ts[k]? = some t ∧ ms[k]? = some ⟨t, vi, vo, vc⟩ ∧ TaskV w lo2 hi2 t vi vo vc ∧
      (w.cell? ⟨b, off + k * 9, none⟩ = some (.int .i64 t.join) ∧ w.cell? ⟨b, off + k * 9 + 1, none⟩ = some (.int .i64 t.split) ∧ w.cell? ⟨b, off + k * 9 + 2, none⟩ = some vi ∧ w.cell? ⟨b, off + k * 9 + 3, none⟩ = some vo ∧ w.cell? ⟨b, off + k * 9 + 4, none⟩ = some vc ∧
       w.cell? ⟨b, off + k * 9 + 5, none⟩ = some (.int .i64 t.role) ∧ w.cell? ⟨b, off + k * 9 + 6, none⟩ = some (.int .i64 t.apart) ∧ w.cell? ⟨b, off + k * 9 + 7, none⟩ = some (.int .i64 t.all) ∧ w.cell? ⟨b, off + k * 9 + 8, none⟩ = some (.int .i64 t.need)) ∧
      (∀ j, j < 9 → w.frozen? ⟨b, off + k * 9 + j, none⟩ = false) := by
  have hl := h.len
  obtain ⟨h1, h2, h3⟩ := h.row.ref (k := k) (by rw [taskCells_len]; omega)
  have hx : ms[k]? = some (ms[k]'(by omega)) := List.getElem?_eq_getElem (by omega)
  have hm : ms[k]'(by omega) ∈ ms := List.getElem_mem (by omega)
  have he := h.each _ hm
  generalize ms[k]'(by omega) = m at hx he
  obtain ⟨t, vi, vo, vc⟩ := m
  have hd : ∀ x ∈ ms, (TaskM.cells x).length = 9 := fun _ _ => rfl
  have cc := fun (j : Nat) (u : Value) (hj : j < 9) (hu : (TaskM.cells ⟨t, vi, vo, vc⟩)[j]? = some u) => h.row.2 (k * 9 + j) u ((flat_at hd hx hj).trans hu)
  simp only [← Nat.add_assoc] at cc
  refine ⟨h1, h2, h3, t, vi, vo, vc, ?_, hx, he, ⟨(cc 0 _ (by omega) rfl).1, (cc 1 _ (by omega) rfl).1, (cc 2 _ (by omega) rfl).1, (cc 3 _ (by omega) rfl).1, (cc 4 _ (by omega) rfl).1, (cc 5 _ (by omega) rfl).1, (cc 6 _ (by omega) rfl).1, (cc 7 _ (by omega) rfl).1, (cc 8 _ (by omega) rfl).1⟩, fun j hj => ?_⟩
  · rw [← h.map]; simp [hx]
  · exact (cc j _ hj (List.getElem?_eq_getElem (by simpa using hj))).2

/-- A net value. -/
def NetV (w : World) (lo hi : Nat) (v : Value) (n : NNet) : Prop :=
  ∃ A b off c ms, v = .agg #[.int .i64 n.places, .slice A n.tasks.length c] ∧ n.tasks.length ≤ maxLen ∧ TasksV w lo hi lo hi A b off n.tasks ms
theorem NetV.keep {w w' : World} {lo hi : Nat} {v : Value} {n : NNet} (h : NetV w lo hi v n) (hk : ∀ g, lo ≤ g → g < hi → w'.heap[g]? = w.heap[g]?) : NetV w' lo hi v n := by
  obtain ⟨A, b, off, c, ms, rfl, hm, hr⟩ := h; exact ⟨A, b, off, c, ms, rfl, hm, hr.keep hk hk⟩
theorem NetV.more {w : World} {lo hi lo' hi' : Nat} {v : Value} {n : NNet} (h : NetV w lo hi v n) (h1 : lo' ≤ lo) (h2 : hi ≤ hi') : NetV w lo' hi' v n := by
  obtain ⟨A, b, off, c, ms, rfl, hm, hr⟩ := h; exact ⟨A, b, off, c, ms, rfl, hm, hr.more h1 h2 h1 h2⟩
theorem NetV.below {w w' : World} {lo hi B : Nat} {v : Value} {n : NNet} (h : NetV w lo hi v n) (hb : Below B w w') (hB : hi ≤ B) : NetV w' lo hi v n := h.keep fun g _ h2 => hb.block g (by omega)
theorem NetV.upd {w w' : World} {lo hi lo' hi' : Nat} {v : Value} {n : NNet} (h : NetV w lo' hi' v n) (hu : Upd lo hi w w') (hd : hi' ≤ lo ∨ hi ≤ lo') : NetV w' lo' hi' v n := h.keep fun g h1 h2 => hu.block g (by omega)
end Go.Proofs.Ytkcbghaadjhceaa

/- The laws' conversions of flows, tasks, nets and items: fresh memory that reads as what was given. -/
namespace Go.Proofs.Ytkcbghaadjhceaa
open Go.RowKit
set_option linter.unusedVariables false
set_option linter.unusedSimpArgs false

theorem Try.infoFlow : (Try.prog.info? 56).map (fun i => (i.zero, i.size, i.bytes)) = some (some (.agg #[.int .i64 0, .int .i64 0, .int .i64 0, .int .i64 0]), 4, 32) := by kernel_rfl
theorem Try.infoTask : (Try.prog.info? 36).map (fun i => (i.zero, i.size, i.bytes)) = some (some (.agg #[.int .i64 0, .int .i64 0, .slice none 0 0, .slice none 0 0, .slice none 0 0, .int .i64 0, .int .i64 0, .int .i64 0, .int .i64 0]), 9, 120) := by kernel_rfl
theorem Try.infoItem : (Try.prog.info? 52).map (fun i => (i.zero, i.size, i.bytes)) = some (some (.agg #[.int .i64 0, .int .i64 0, .int .i64 0]), 3, 24) := by kernel_rfl






/-- The three slices of a task are not too long to be copied. -/
def taskSmall (t : NTask) : Prop := t.ins.length ≤ 1048576 ∧ t.out.length ≤ 1048576 ∧ t.clear.length ≤ 1048576


end Go.Proofs.Ytkcbghaadjhceaa

/- A net's size as the laws reckon it, and the conversion of a whole net. -/
namespace Go.Proofs.Ytkcbghaadjhceaa
open Go.RowKit
set_option linter.unusedVariables false
set_option linter.unusedSimpArgs false

/-- What is left behind a size is taken off; -1, if that is too much. -/
def cutI (left s : Int) : Int := if s ≤ left then left - s else -1
theorem cutI_pos {l s : Int} (h : s ≤ l) : cutI l s = l - s := if_pos h
theorem cutI_neg {l s : Int} (h : ¬ s ≤ l) : cutI l s = -1 := if_neg h
def taskSize (t : NTask) : Int := (t.ins.length : Int) + ((t.out.length : Int) + (t.clear.length : Int))
def tasksSize (ts : List NTask) : Int := (ts.map taskSize).sum
theorem taskSize_pos (t : NTask) : 0 ≤ taskSize t := by unfold taskSize; omega
theorem tasksSize_pos : ∀ (ts : List NTask), 0 ≤ tasksSize ts
  | [] => by simp [tasksSize]
  | t :: r => by
    have := tasksSize_pos r
    have := taskSize_pos t
    simp only [tasksSize, List.map_cons, List.sum_cons] at *; omega
theorem tasksSize_append (a b : List NTask) : tasksSize (a ++ b) = tasksSize a + tasksSize b := by simp [tasksSize]
theorem tasksSize_mem {ts : List NTask} {t : NTask} (h : t ∈ ts) : taskSize t ≤ tasksSize ts := by
  obtain ⟨a, b, rfl⟩ := List.append_of_mem h
  rw [tasksSize_append, show (t :: b) = [t] ++ b from rfl, tasksSize_append]
  have := tasksSize_pos a; have := tasksSize_pos b
  simp [tasksSize] at *; omega
theorem tasksSize_take (ts : List NTask) (k : Nat) : tasksSize (ts.take k) ≤ tasksSize ts := by
  have h := tasksSize_append (ts.take k) (ts.drop k)
  rw [List.take_append_drop] at h
  have := tasksSize_pos (ts.drop k); omega
def netSize (n : NNet) : Int := (n.tasks.length : Int) + tasksSize n.tasks



theorem TaskV.lens {w : World} {lo hi : Nat} {t : NTask} {vi vo vc : Value} (h : TaskV w lo hi t vi vo vc) : t.ins.length ≤ maxLen ∧ t.out.length ≤ maxLen ∧ t.clear.length ≤ maxLen := by
  obtain ⟨⟨_, _, _, _, _, h1, _⟩, ⟨_, _, _, _, _, h2, _⟩, ⟨_, _, _, _, _, h3, _⟩⟩ := h
  exact ⟨h1, h2, h3⟩

end Go.Proofs.Ytkcbghaadjhceaa

/- The conversion of a whole net, and its size. -/
namespace Go.Proofs.Ytkcbghaadjhceaa
open Go.RowKit
set_option linter.unusedVariables false
set_option linter.unusedSimpArgs false


/-- A net that the call itself has made: its tasks lie in a block b' of their own, what these hold behind it. -/
def FNet (w : World) (lo hi : Nat) (v : Value) (n : NNet) : Prop :=
  ∃ b' ms, v = .agg #[.int .i64 n.places, .slice (some ⟨b', 0, none⟩) n.tasks.length n.tasks.length] ∧ n.tasks.length ≤ maxLen ∧ lo ≤ b' ∧ b' < hi ∧ TasksV w b' (b' + 1) (b' + 1) hi (some ⟨b', 0, none⟩) b' 0 n.tasks ms
theorem FNet.net {w : World} {lo hi : Nat} {v : Value} {n : NNet} (h : FNet w lo hi v n) : NetV w lo hi v n := by
  obtain ⟨b', ms, rfl, hm, h1, h2, hT⟩ := h
  exact ⟨_, _, _, _, ms, rfl, hm, hT.more h1 h2 (by omega) (Nat.le_refl _)⟩
theorem FNet.form {w : World} {lo hi : Nat} {v : Value} {n : NNet} (h : FNet w lo hi v n) : ∃ b', v = .agg #[.int .i64 n.places, .slice (some ⟨b', 0, none⟩) n.tasks.length n.tasks.length] := by
  obtain ⟨b', ms, rfl, _⟩ := h
  exact ⟨b', rfl⟩
theorem FNet.keep {w w' : World} {lo hi : Nat} {v : Value} {n : NNet} (h : FNet w lo hi v n) (hk : ∀ g, lo ≤ g → g < hi → w'.heap[g]? = w.heap[g]?) : FNet w' lo hi v n := by
  obtain ⟨b', ms, rfl, hm, h1, h2, hT⟩ := h
  exact ⟨b', ms, rfl, hm, h1, h2, hT.keep (fun g h3 h4 => hk g (by omega) (by omega)) (fun g h3 h4 => hk g (by omega) (by omega))⟩
theorem FNet.below {w w' : World} {lo hi B : Nat} {v : Value} {n : NNet} (h : FNet w lo hi v n) (hb : Below B w w') (hB : hi ≤ B) : FNet w' lo hi v n := h.keep fun g _ h2 => hb.block g (by omega)

theorem netSize_small {n : NNet} (h : netSize n ≤ 1048576) : n.tasks.length ≤ 1048576 ∧ ∀ t ∈ n.tasks, taskSmall t := by
  have := tasksSize_pos n.tasks
  unfold netSize at h
  refine ⟨by omega, fun t ht => ?_⟩
  have := tasksSize_mem ht
  unfold taskSize at this
  exact ⟨by omega, by omega, by omega⟩

end Go.Proofs.Ytkcbghaadjhceaa

/- The laws' comparisons of flows, tasks, nets and items: what reads alike is alike. -/
namespace Go.Proofs.Ytkcbghaadjhceaa
open Go.RowKit
set_option linter.unusedVariables false
set_option linter.unusedSimpArgs false






end Go.Proofs.Ytkcbghaadjhceaa
