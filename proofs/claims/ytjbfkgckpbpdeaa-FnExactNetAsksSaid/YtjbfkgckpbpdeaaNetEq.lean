/- What a net, a task and a flow are in plain Lean, and how they lie in memory. No function of the program is spoken of. -/
import Derived.Test.YtjbfkgckpbpdeaaMore
import Derived.StillTailTactics
namespace Go.Proofs.Ytjbfkgckpbpdeaa
open Go.RowKit
set_option linter.unusedVariables false
set_option linter.unusedSimpArgs false

structure NFlow where
  to : Int
  op : Int
  var : Int
  k : Int
  deriving DecidableEq, Inhabited
structure NTask where
  join : Int
  split : Int
  ins : List Int
  out : List NFlow
  clear : List Int
  role : Int
  apart : Int
  all : Int
  need : Int
  deriving DecidableEq, Inhabited
structure NNet where
  places : Int
  tasks : List NTask
  deriving DecidableEq, Inhabited
structure NItem where
  task : Int
  who : Int
  did : Int
  deriving DecidableEq, Inhabited

abbrev NFlow.cells (f : NFlow) : List Value := [.int .i64 f.to, .int .i64 f.op, .int .i64 f.var, .int .i64 f.k]
abbrev NItem.cells (f : NItem) : List Value := [.int .i64 f.task, .int .i64 f.who, .int .i64 f.did]
abbrev flowCells (l : List NFlow) : List Value := l.flatMap NFlow.cells
abbrev itemCells (l : List NItem) : List Value := l.flatMap NItem.cells

theorem flat_at {α β : Type} {f : α → List β} {d : Nat} : ∀ {l : List α} (_ : ∀ x ∈ l, (f x).length = d) {k j : Nat} {x : α}, l[k]? = some x → j < d → (l.flatMap f)[k * d + j]? = (f x)[j]?
  | [], _, k, j, x, h, _ => by simp at h
  | y :: r, hd, 0, j, x, h, hj => by
    simp at h; subst h
    have := hd y (List.mem_cons_self ..)
    simp [List.getElem?_append_left (show j < (f y).length by omega)]
  | y :: r, hd, k + 1, j, x, h, hj => by
    have e := hd y (List.mem_cons_self ..)
    have ih := flat_at (l := r) (fun z hz => hd z (List.mem_cons_of_mem _ hz)) (k := k) (j := j) (x := x) (by simpa using h) hj
    have e2 : (k + 1) * d + j = d + (k * d + j) := by rw [Nat.add_mul]; omega
    rw [List.flatMap_cons, e2, List.getElem?_append_right (by omega), e, Nat.add_sub_cancel_left]
    exact ih
theorem flat_len {α β : Type} {f : α → List β} {d : Nat} : ∀ {l : List α} (_ : ∀ x ∈ l, (f x).length = d), (l.flatMap f).length = l.length * d
  | [], _ => by simp
  | y :: r, hd => by
    rw [List.flatMap_cons, List.length_append, hd y (List.mem_cons_self ..), flat_len (fun z hz => hd z (List.mem_cons_of_mem _ hz)), List.length_cons, Nat.add_mul]; omega
theorem flowCells_len (l : List NFlow) : (flowCells l).length = l.length * 4 := flat_len fun _ _ => rfl
theorem itemCells_len (l : List NItem) : (itemCells l).length = l.length * 3 := flat_len fun _ _ => rfl

theorem Row.flow {w : World} {lo hi b off : Nat} {A : Option Addr} {l : List NFlow} (h : Row w lo hi A b off (flowCells l)) {k : Nat} (hk : k < l.length) :
    A = some ⟨b, off, none⟩ ∧ lo ≤ b ∧ b < hi ∧ ∃ x, l[k]? = some x ∧
      (w.cell? ⟨b, off + k * 4, none⟩ = some (.int .i64 x.to) ∧ w.cell? ⟨b, off + k * 4 + 1, none⟩ = some (.int .i64 x.op) ∧ w.cell? ⟨b, off + k * 4 + 2, none⟩ = some (.int .i64 x.var) ∧ w.cell? ⟨b, off + k * 4 + 3, none⟩ = some (.int .i64 x.k)) ∧
      (w.frozen? ⟨b, off + k * 4, none⟩ = false ∧ w.frozen? ⟨b, off + k * 4 + 1, none⟩ = false ∧ w.frozen? ⟨b, off + k * 4 + 2, none⟩ = false ∧ w.frozen? ⟨b, off + k * 4 + 3, none⟩ = false) := by
  obtain ⟨h1, h2, h3⟩ := h.ref (k := k) (by rw [flowCells_len]; omega)
  have hx := List.getElem?_eq_getElem hk
  have hd : ∀ x ∈ l, (NFlow.cells x).length = 4 := fun _ _ => rfl
  have c0 := h.2 _ _ ((flat_at hd hx (j := 0) (by omega)).trans rfl)
  have c1 := h.2 _ _ ((flat_at hd hx (j := 1) (by omega)).trans rfl)
  have c2 := h.2 _ _ ((flat_at hd hx (j := 2) (by omega)).trans rfl)
  have c3 := h.2 _ _ ((flat_at hd hx (j := 3) (by omega)).trans rfl)
  simp only [← Nat.add_assoc, Nat.add_zero] at c0 c1 c2 c3
  exact ⟨h1, h2, h3, l[k], hx, ⟨c0.1, c1.1, c2.1, c3.1⟩, c0.2, c1.2, c2.2, c3.2⟩
theorem Row.item {w : World} {lo hi b off : Nat} {A : Option Addr} {l : List NItem} (h : Row w lo hi A b off (itemCells l)) {k : Nat} (hk : k < l.length) :
    A = some ⟨b, off, none⟩ ∧ lo ≤ b ∧ b < hi ∧ ∃ x, l[k]? = some x ∧
      (w.cell? ⟨b, off + k * 3, none⟩ = some (.int .i64 x.task) ∧ w.cell? ⟨b, off + k * 3 + 1, none⟩ = some (.int .i64 x.who) ∧ w.cell? ⟨b, off + k * 3 + 2, none⟩ = some (.int .i64 x.did)) ∧
      (w.frozen? ⟨b, off + k * 3, none⟩ = false ∧ w.frozen? ⟨b, off + k * 3 + 1, none⟩ = false ∧ w.frozen? ⟨b, off + k * 3 + 2, none⟩ = false) := by
  obtain ⟨h1, h2, h3⟩ := h.ref (k := k) (by rw [itemCells_len]; omega)
  have hx := List.getElem?_eq_getElem hk
  have hd : ∀ x ∈ l, (NItem.cells x).length = 3 := fun _ _ => rfl
  have c0 := h.2 _ _ ((flat_at hd hx (j := 0) (by omega)).trans rfl)
  have c1 := h.2 _ _ ((flat_at hd hx (j := 1) (by omega)).trans rfl)
  have c2 := h.2 _ _ ((flat_at hd hx (j := 2) (by omega)).trans rfl)
  simp only [← Nat.add_assoc, Nat.add_zero] at c0 c1 c2
  exact ⟨h1, h2, h3, l[k], hx, ⟨c0.1, c1.1, c2.1⟩, c0.2, c1.2, c2.2⟩

/-- Cells stored one behind another. -/
def putAt (w : World) (b o : Nat) : List Value → World
  | [] => w
  | c :: r => putAt (w.setCell ⟨b, o, none⟩ c) b (o + 1) r
def putL (xs : List Value) (k : Nat) : List Value → List Value
  | [] => xs
  | c :: r => putL (xs.set k c) (k + 1) r
theorem putL_length : ∀ (cs xs : List Value) (k : Nat), (putL xs k cs).length = xs.length
  | [], _, _ => rfl
  | c :: r, xs, k => by rw [putL, putL_length r]; simp
theorem putL_lt : ∀ (cs xs : List Value) (k j : Nat), j < k → (putL xs k cs)[j]? = xs[j]?
  | [], _, _, _, _ => rfl
  | c :: r, xs, k, j, h => by rw [putL, putL_lt r _ _ _ (by omega), List.getElem?_set, if_neg (by omega)]
theorem putL_at : ∀ (cs xs : List Value) (k i : Nat), i < cs.length → k + cs.length ≤ xs.length → (putL xs k cs)[k + i]? = cs[i]?
  | [], _, _, _, h, _ => by simp at h
  | c :: r, xs, k, 0, h, hl => by
    simp at hl
    rw [putL, putL_lt _ _ _ _ (by omega), List.getElem?_set, if_pos (by omega), if_pos (by omega)]; rfl
  | c :: r, xs, k, i + 1, h, hl => by
    simp at hl h
    rw [putL, show k + (i + 1) = (k + 1) + i by omega, putL_at r _ _ _ (by omega) (by simp; omega)]; rfl
theorem putL_past : ∀ (cs xs : List Value) (k j : Nat), k + cs.length ≤ j → (putL xs k cs)[j]? = xs[j]?
  | [], _, _, _, _ => rfl
  | c :: r, xs, k, j, h => by simp at h; rw [putL, putL_past r _ _ _ (by omega), List.getElem?_set, if_neg (by omega)]
theorem Row.put {lo hi b off : Nat} {A : Option Addr} : ∀ (cs xs : List Value) (k : Nat) {w : World}, Row w lo hi A b off xs → k + cs.length ≤ xs.length → Row (putAt w b (off + k) cs) lo hi A b off (putL xs k cs)
  | [], _, _, _, h, _ => h
  | c :: r, xs, k, w, h, hl => by
    simp at hl
    exact Row.put r _ (k + 1) (h.set_ k c (by omega)) (by simp; omega)
theorem upd_put {lo hi b : Nat} {a : World} (h1 : lo ≤ b) (h2 : b < hi) : ∀ (cs : List Value) (o : Nat) {w : World}, Upd lo hi a w → Upd lo hi a (putAt w b o cs)
  | [], _, _, h => h
  | c :: r, o, w, h => upd_put h1 h2 r (o + 1) (h.setCell h1 h2 c)
theorem below_put {B b : Nat} {a : World} (hB : B ≤ b) : ∀ (cs : List Value) (o : Nat) {w : World}, Below B a w → Below B a (putAt w b o cs)
  | [], _, _, h => h
  | c :: r, o, w, h => below_put hB r (o + 1) (h.setCell hB c)
theorem put_size : ∀ (cs : List Value) (b o : Nat) (w : World), (putAt w b o cs).heap.size = w.heap.size
  | [], _, _, _ => rfl
  | c :: r, b, o, w => by rw [putAt, put_size r]; simp [World.setCell]
/-- One element more of a copy that is being filled. -/
theorem fill_step {α : Type} {f : α → List Value} {d : Nat} {l : List α} (hd : ∀ x ∈ l, (f x).length = d) {k : Nat} {x : α} (hx : l[k]? = some x) {xs : List Value} (hl : xs.length = l.length * d)
    (hp : ∀ j, j < k * d → xs[j]? = (l.flatMap f)[j]?) : (putL xs (k * d) (f x)).length = l.length * d ∧ ∀ j, j < (k + 1) * d → (putL xs (k * d) (f x))[j]? = (l.flatMap f)[j]? := by
  have hk := lt_of_some hx
  have hfx := hd x (List.mem_of_getElem? hx)
  have hle : k * d + d ≤ l.length * d := by
    have := Nat.mul_le_mul_right d (show k + 1 ≤ l.length by omega)
    rwa [Nat.add_mul, Nat.one_mul] at this
  refine ⟨by rw [putL_length]; exact hl, fun j hj => ?_⟩
  rw [Nat.add_mul, Nat.one_mul] at hj
  by_cases h : j < k * d
  · rw [putL_lt _ _ _ _ h]; exact hp j h
  · obtain ⟨i, rfl⟩ : ∃ i, j = k * d + i := ⟨j - k * d, by omega⟩
    rw [putL_at _ _ _ _ (by omega) (by omega), flat_at hd hx (by omega)]
theorem fill_more {α : Type} {f : α → List Value} {d : Nat} {l : List α} {x : α} (hd : ∀ x ∈ l ++ [x], (f x).length = d) {xs : List Value} (hl : (l.length + 1) * d ≤ xs.length)
    (hp : ∀ j, j < l.length * d → xs[j]? = (l.flatMap f)[j]?) : (putL xs (l.length * d) (f x)).length = xs.length ∧ ∀ j, j < (l ++ [x]).length * d → (putL xs (l.length * d) (f x))[j]? = ((l ++ [x]).flatMap f)[j]? := by
  have hfx := hd x (by simp)
  have hlen : (l.flatMap f).length = l.length * d := flat_len fun y hy => hd y (by simp [hy])
  refine ⟨putL_length _ _ _, fun j hj => ?_⟩
  rw [Nat.add_mul, Nat.one_mul] at hl
  have hj' : j < l.length * d + d := by simpa [Nat.add_mul] using hj
  rw [List.flatMap_append]
  by_cases h : j < l.length * d
  · rw [putL_lt _ _ _ _ h, List.getElem?_append_left (by omega)]; exact hp j h
  · obtain ⟨i, rfl⟩ : ∃ i, j = l.length * d + i := ⟨j - l.length * d, by omega⟩
    rw [putL_at _ _ _ _ (by omega) (by omega), List.getElem?_append_right (by omega), hlen, Nat.add_sub_cancel_left]; simp
theorem fill_end {α : Type} {f : α → List Value} {d : Nat} {l : List α} (hd : ∀ x ∈ l, (f x).length = d) {xs : List Value} (hl : xs.length = l.length * d) (hp : ∀ j, j < l.length * d → xs[j]? = (l.flatMap f)[j]?) : xs = l.flatMap f :=
  List.ext_getElem? fun j => by
    by_cases h : j < l.length * d
    · exact hp j h
    · rw [List.getElem?_eq_none (by omega), List.getElem?_eq_none (by rw [flat_len hd]; omega)]

theorem Row.made {w1 : World} {e : TypeId} {size n c : Nat} {base : Nat} {g : Nat} {xs : List Value} (h : w1.ownsRow base e size (.slice (some ⟨g, 0, none⟩) n c) n xs) : Row w1 g (g + 1) (some ⟨g, 0, none⟩) g 0 xs := by
  refine ⟨fun _ => ⟨rfl, Nat.le_refl _, Nat.lt_succ_self _⟩, fun j u hu => ⟨?_, h.frozenAt _⟩⟩
  rw [Nat.zero_add]
  exact (h.cellAt j (by have := lt_of_some hu; have := h.1; omega)).trans hu
theorem Row.new (w : World) (cs : Array Value) (t : TypeId) : Row (w.alloc (.cells cs t)) w.heap.size (w.heap.size + 1) (some ⟨w.heap.size, 0, none⟩) w.heap.size 0 cs.toList :=
  ⟨fun _ => ⟨rfl, Nat.le_refl _, Nat.lt_succ_self _⟩, fun j u hu => ⟨by rw [Nat.zero_add, World.cell?_alloc_new]; simpa using hu, by rw [Nat.zero_add, World.frozen?_alloc_new]⟩⟩
theorem Row.newAt (w : World) (cs : Array Value) (t : TypeId) (n : Nat) (hn : n = w.heap.size) : Row (w.alloc (.cells cs t)) n (n + 1) (some ⟨n, 0, none⟩) n 0 cs.toList := by
  subst hn; exact Row.new w cs t
theorem Upd.one (w : World) (g j : Nat) (u : Value) : Upd g (g + 1) w (w.setCell ⟨g, j, none⟩ u) := (Upd.refl g (g + 1) w).setCell (p := ⟨g, j, none⟩) (Nat.le_refl g) (Nat.lt_succ_self g) u
theorem Row.cell {w : World} {lo hi g : Nat} {A : Option Addr} {xs : List Value} (h : Row w lo hi A g 0 xs) {j : Nat} {u : Value} (hu : xs[j]? = some u) : w.cell? ⟨g, j, none⟩ = some u ∧ w.frozen? ⟨g, j, none⟩ = false := by
  have := h.2 j u hu; rwa [Nat.zero_add] at this
theorem Row.nine {w : World} {lo hi g : Nat} {A : Option Addr} {a0 a1 a2 a3 a4 a5 a6 a7 a8 : Value} (h : Row w lo hi A g 0 [a0, a1, a2, a3, a4, a5, a6, a7, a8]) :
    (w.cell? ⟨g, 0, none⟩ = some a0 ∧ w.cell? ⟨g, 1, none⟩ = some a1 ∧ w.cell? ⟨g, 2, none⟩ = some a2 ∧ w.cell? ⟨g, 3, none⟩ = some a3 ∧ w.cell? ⟨g, 4, none⟩ = some a4 ∧ w.cell? ⟨g, 5, none⟩ = some a5 ∧ w.cell? ⟨g, 6, none⟩ = some a6 ∧ w.cell? ⟨g, 7, none⟩ = some a7 ∧ w.cell? ⟨g, 8, none⟩ = some a8) ∧ (w.frozen? ⟨g, 0, none⟩ = false ∧ w.frozen? ⟨g, 1, none⟩ = false ∧ w.frozen? ⟨g, 2, none⟩ = false ∧ w.frozen? ⟨g, 3, none⟩ = false ∧ w.frozen? ⟨g, 4, none⟩ = false ∧ w.frozen? ⟨g, 5, none⟩ = false ∧ w.frozen? ⟨g, 6, none⟩ = false ∧ w.frozen? ⟨g, 7, none⟩ = false ∧ w.frozen? ⟨g, 8, none⟩ = false) :=
  ⟨⟨(h.cell (j := 0) rfl).1, (h.cell (j := 1) rfl).1, (h.cell (j := 2) rfl).1, (h.cell (j := 3) rfl).1, (h.cell (j := 4) rfl).1, (h.cell (j := 5) rfl).1, (h.cell (j := 6) rfl).1, (h.cell (j := 7) rfl).1, (h.cell (j := 8) rfl).1⟩, (h.cell (j := 0) rfl).2, (h.cell (j := 1) rfl).2, (h.cell (j := 2) rfl).2, (h.cell (j := 3) rfl).2, (h.cell (j := 4) rfl).2, (h.cell (j := 5) rfl).2, (h.cell (j := 6) rfl).2, (h.cell (j := 7) rfl).2, (h.cell (j := 8) rfl).2⟩
theorem Row.four {w : World} {lo hi g : Nat} {A : Option Addr} {a0 a1 a2 a3 : Value} (h : Row w lo hi A g 0 [a0, a1, a2, a3]) :
    (w.cell? ⟨g, 0, none⟩ = some a0 ∧ w.cell? ⟨g, 1, none⟩ = some a1 ∧ w.cell? ⟨g, 2, none⟩ = some a2 ∧ w.cell? ⟨g, 3, none⟩ = some a3) ∧ (w.frozen? ⟨g, 0, none⟩ = false ∧ w.frozen? ⟨g, 1, none⟩ = false ∧ w.frozen? ⟨g, 2, none⟩ = false ∧ w.frozen? ⟨g, 3, none⟩ = false) :=
  ⟨⟨(h.cell (j := 0) rfl).1, (h.cell (j := 1) rfl).1, (h.cell (j := 2) rfl).1, (h.cell (j := 3) rfl).1⟩, (h.cell (j := 0) rfl).2, (h.cell (j := 1) rfl).2, (h.cell (j := 2) rfl).2, (h.cell (j := 3) rfl).2⟩
/-- A slice value of n elements whose cells read as xs. -/
def Sl (w : World) (lo hi : Nat) (v : Value) (n : Nat) (xs : List Value) : Prop := ∃ A b off c, v = .slice A n c ∧ n ≤ maxLen ∧ Row w lo hi A b off xs
section
variable {w w' : World} {lo hi lo' hi' n : Nat} {v : Value} {xs : List Value}
theorem Sl.keep (h : Sl w lo hi v n xs) (hk : ∀ g, lo ≤ g → g < hi → w'.heap[g]? = w.heap[g]?) : Sl w' lo hi v n xs := by
  obtain ⟨A, b, off, c, rfl, hn, hr⟩ := h; exact ⟨A, b, off, c, rfl, hn, hr.keep hk⟩
theorem Sl.more (h : Sl w lo hi v n xs) (h1 : lo' ≤ lo) (h2 : hi ≤ hi') : Sl w lo' hi' v n xs := by
  obtain ⟨A, b, off, c, rfl, hn, hr⟩ := h; exact ⟨A, b, off, c, rfl, hn, hr.more h1 h2⟩
end

/-- The nine cells of a task. -/
structure TaskV (w : World) (lo hi : Nat) (t : NTask) (vi vo vc : Value) : Prop where
  ins : Sl w lo hi vi t.ins.length (ints t.ins)
  out : Sl w lo hi vo t.out.length (flowCells t.out)
  clear : Sl w lo hi vc t.clear.length (ints t.clear)
abbrev NTask.cells (t : NTask) (vi vo vc : Value) : List Value := [.int .i64 t.join, .int .i64 t.split, vi, vo, vc, .int .i64 t.role, .int .i64 t.apart, .int .i64 t.all, .int .i64 t.need]
/-- A task as it lies in memory: itself and the values of its three slices. -/
structure TaskM where
  t : NTask
  vi : Value
  vo : Value
  vc : Value
abbrev TaskM.cells (m : TaskM) : List Value := m.t.cells m.vi m.vo m.vc
abbrev taskCells (l : List TaskM) : List Value := l.flatMap TaskM.cells
theorem taskCells_len (l : List TaskM) : (taskCells l).length = l.length * 9 := flat_len fun _ _ => rfl
theorem TaskV.keep {w w' : World} {lo hi : Nat} {t : NTask} {vi vo vc : Value} (h : TaskV w lo hi t vi vo vc) (hk : ∀ g, lo ≤ g → g < hi → w'.heap[g]? = w.heap[g]?) : TaskV w' lo hi t vi vo vc := ⟨h.ins.keep hk, h.out.keep hk, h.clear.keep hk⟩
theorem TaskV.more {w : World} {lo hi lo' hi' : Nat} {t : NTask} {vi vo vc : Value} (h : TaskV w lo hi t vi vo vc) (h1 : lo' ≤ lo) (h2 : hi ≤ hi') : TaskV w lo' hi' t vi vo vc := ⟨h.ins.more h1 h2, h.out.more h1 h2, h.clear.more h1 h2⟩

theorem TaskV.forms {w : World} {lo hi : Nat} {t : NTask} {vi vo vc : Value} (h : TaskV w lo hi t vi vo vc) : ∃ A1 c1 A2 c2 A3 c3, vi = .slice A1 t.ins.length c1 ∧ vo = .slice A2 t.out.length c2 ∧ vc = .slice A3 t.clear.length c3 := by
  obtain ⟨⟨A1, _, _, c1, h1, _⟩, ⟨A2, _, _, c2, h2, _⟩, ⟨A3, _, _, c3, h3, _⟩⟩ := h
  exact ⟨A1, c1, A2, c2, A3, c3, h1, h2, h3⟩
/-- Tasks as they lie in memory: ms, in block b from off on; what their slices hold lies between lo2 and hi2. -/
structure TasksV (w : World) (lo hi lo2 hi2 : Nat) (A : Option Addr) (b off : Nat) (ts : List NTask) (ms : List TaskM) : Prop where
  row : Row w lo hi A b off (taskCells ms)
  map : ms.map TaskM.t = ts
  each : ∀ m ∈ ms, TaskV w lo2 hi2 m.t m.vi m.vo m.vc
theorem TasksV.len {w : World} {lo hi lo2 hi2 b off : Nat} {A : Option Addr} {ts : List NTask} {ms : List TaskM} (h : TasksV w lo hi lo2 hi2 A b off ts ms) : ms.length = ts.length := by rw [← h.map]; simp
theorem TasksV.keep {w w' : World} {lo hi lo2 hi2 b off : Nat} {A : Option Addr} {ts : List NTask} {ms : List TaskM} (h : TasksV w lo hi lo2 hi2 A b off ts ms) (hk : ∀ g, lo ≤ g → g < hi → w'.heap[g]? = w.heap[g]?) (hk2 : ∀ g, lo2 ≤ g → g < hi2 → w'.heap[g]? = w.heap[g]?) : TasksV w' lo hi lo2 hi2 A b off ts ms :=
  ⟨h.row.keep hk, h.map, fun m hm => (h.each m hm).keep hk2⟩
theorem TasksV.more {w : World} {lo hi lo2 hi2 b off : Nat} {A : Option Addr} {ts : List NTask} {ms : List TaskM} (h : TasksV w lo hi lo2 hi2 A b off ts ms) {lo' hi' lo2' hi2' : Nat} (h1 : lo' ≤ lo) (h2 : hi ≤ hi') (h3 : lo2' ≤ lo2) (h4 : hi2 ≤ hi2') : TasksV w lo' hi' lo2' hi2' A b off ts ms :=
  ⟨h.row.more h1 h2, h.map, fun m hm => (h.each m hm).more h3 h4⟩
/-- One task out of tasks: its nine cells, and its slices. -/
theorem TasksV.task {w : World} {lo hi lo2 hi2 b off : Nat} {A : Option Addr} {ts : List NTask} {ms : List TaskM} (h : TasksV w lo hi lo2 hi2 A b off ts ms) {k : Nat} (hk : k < ts.length) :
    A = some ⟨b, off, none⟩ ∧ lo ≤ b ∧ b < hi ∧ ∃ (t : NTask) (vi vo vc : Value), ts[k]? = some t ∧ ms[k]? = some ⟨t, vi, vo, vc⟩ ∧ TaskV w lo2 hi2 t vi vo vc ∧
      (w.cell? ⟨b, off + k * 9, none⟩ = some (.int .i64 t.join) ∧ w.cell? ⟨b, off + k * 9 + 1, none⟩ = some (.int .i64 t.split) ∧ w.cell? ⟨b, off + k * 9 + 2, none⟩ = some vi ∧ w.cell? ⟨b, off + k * 9 + 3, none⟩ = some vo ∧ w.cell? ⟨b, off + k * 9 + 4, none⟩ = some vc ∧
       w.cell? ⟨b, off + k * 9 + 5, none⟩ = some (.int .i64 t.role) ∧ w.cell? ⟨b, off + k * 9 + 6, none⟩ = some (.int .i64 t.apart) ∧ w.cell? ⟨b, off + k * 9 + 7, none⟩ = some (.int .i64 t.all) ∧ w.cell? ⟨b, off + k * 9 + 8, none⟩ = some (.int .i64 t.need)) ∧
      (∀ j, j < 9 → w.frozen? ⟨b, off + k * 9 + j, none⟩ = false) := by
  have hl := h.len
  obtain ⟨h1, h2, h3⟩ := h.row.ref (k := k) (by rw [taskCells_len]; omega)
  have hx : ms[k]? = some (ms[k]'(by omega)) := List.getElem?_eq_getElem (by omega)
  have hm : ms[k]'(by omega) ∈ ms := List.getElem_mem (by omega)
  have he := h.each _ hm
  generalize ms[k]'(by omega) = m at hx he
  obtain ⟨t, vi, vo, vc⟩ := m
  have hd : ∀ x ∈ ms, (TaskM.cells x).length = 9 := fun _ _ => rfl
  have cc := fun (j : Nat) (u : Value) (hj : j < 9) (hu : (TaskM.cells ⟨t, vi, vo, vc⟩)[j]? = some u) => h.row.2 (k * 9 + j) u ((flat_at hd hx hj).trans hu)
  simp only [← Nat.add_assoc] at cc
  refine ⟨h1, h2, h3, t, vi, vo, vc, ?_, hx, he, ⟨(cc 0 _ (by omega) rfl).1, (cc 1 _ (by omega) rfl).1, (cc 2 _ (by omega) rfl).1, (cc 3 _ (by omega) rfl).1, (cc 4 _ (by omega) rfl).1, (cc 5 _ (by omega) rfl).1, (cc 6 _ (by omega) rfl).1, (cc 7 _ (by omega) rfl).1, (cc 8 _ (by omega) rfl).1⟩, fun j hj => ?_⟩
  · rw [← h.map]; simp [hx]
  · exact (cc j _ hj (List.getElem?_eq_getElem (by simpa using hj))).2

/-- A net value. -/
def NetV (w : World) (lo hi : Nat) (v : Value) (n : NNet) : Prop :=
  ∃ A b off c ms, v = .agg #[.int .i64 n.places, .slice A n.tasks.length c] ∧ n.tasks.length ≤ maxLen ∧ TasksV w lo hi lo hi A b off n.tasks ms
theorem NetV.keep {w w' : World} {lo hi : Nat} {v : Value} {n : NNet} (h : NetV w lo hi v n) (hk : ∀ g, lo ≤ g → g < hi → w'.heap[g]? = w.heap[g]?) : NetV w' lo hi v n := by
  obtain ⟨A, b, off, c, ms, rfl, hm, hr⟩ := h; exact ⟨A, b, off, c, ms, rfl, hm, hr.keep hk hk⟩
theorem NetV.more {w : World} {lo hi lo' hi' : Nat} {v : Value} {n : NNet} (h : NetV w lo hi v n) (h1 : lo' ≤ lo) (h2 : hi ≤ hi') : NetV w lo' hi' v n := by
  obtain ⟨A, b, off, c, ms, rfl, hm, hr⟩ := h; exact ⟨A, b, off, c, ms, rfl, hm, hr.more h1 h2 h1 h2⟩
theorem NetV.below {w w' : World} {lo hi B : Nat} {v : Value} {n : NNet} (h : NetV w lo hi v n) (hb : Below B w w') (hB : hi ≤ B) : NetV w' lo hi v n := h.keep fun g _ h2 => hb.block g (by omega)
theorem NetV.upd {w w' : World} {lo hi lo' hi' : Nat} {v : Value} {n : NNet} (h : NetV w lo' hi' v n) (hu : Upd lo hi w w') (hd : hi' ≤ lo ∨ hi ≤ lo') : NetV w' lo' hi' v n := h.keep fun g h1 h2 => hu.block g (by omega)
end Go.Proofs.Ytjbfkgckpbpdeaa

/- The laws' conversions of flows, tasks, nets and items: fresh memory that reads as what was given. -/
namespace Go.Proofs.Ytjbfkgckpbpdeaa
open Go.RowKit
set_option linter.unusedVariables false
set_option linter.unusedSimpArgs false

theorem Try.infoFlow : (Try.prog.info? 86).map (fun i => (i.zero, i.size, i.bytes)) = some (some (.agg #[.int .i64 0, .int .i64 0, .int .i64 0, .int .i64 0]), 4, 32) := by kernel_rfl
theorem Try.infoTask : (Try.prog.info? 41).map (fun i => (i.zero, i.size, i.bytes)) = some (some (.agg #[.int .i64 0, .int .i64 0, .slice none 0 0, .slice none 0 0, .slice none 0 0, .int .i64 0, .int .i64 0, .int .i64 0, .int .i64 0]), 9, 120) := by kernel_rfl

set_option maxHeartbeats 2000000 in
theorem toNetFlow_c (a o v k : Int) (w : World) :
    Calls Try.prog 59 #[.agg #[.int .i64 a, .int .i64 o, .int .i64 v, .int .i64 k]] w fun e w' => e = .returned (.agg #[.int .i64 a, .int .i64 o, .int .i64 v, .int .i64 k]) ∧ Below w.heap.size w w' := by
  go_enter Try.func59, Try.ntmps59
  go_wp2_with fail
  refine (toExpAsk_c _ _ _ _).mono ?_
  rintro e w1 ⟨rfl, hb1⟩
  have cx0 := hb1.cell (p := ⟨w.heap.size + 1 + 1, 0, none⟩) (by simp)
  have fx0 := hb1.frozen (p := ⟨w.heap.size + 1 + 1, 0, none⟩) (by simp)
  have cx1 := hb1.cell (p := ⟨w.heap.size + 1 + 1, 1, none⟩) (by simp)
  have fx1 := hb1.frozen (p := ⟨w.heap.size + 1 + 1, 1, none⟩) (by simp)
  have cx2 := hb1.cell (p := ⟨w.heap.size + 1 + 1, 2, none⟩) (by simp)
  have fx2 := hb1.frozen (p := ⟨w.heap.size + 1 + 1, 2, none⟩) (by simp)
  have cx3 := hb1.cell (p := ⟨w.heap.size + 1 + 1, 3, none⟩) (by simp)
  have fx3 := hb1.frozen (p := ⟨w.heap.size + 1 + 1, 3, none⟩) (by simp)
  simp [World.cell?_alloc_at, World.frozen?_alloc_at, World.cell?_alloc_past, World.frozen?_alloc_past] at cx0 fx0 cx1 fx1 cx2 fx2 cx3 fx3
  have cy0 := hb1.cell (p := ⟨w.heap.size + 1, 0, none⟩) (by simp)
  have fy0 := hb1.frozen (p := ⟨w.heap.size + 1, 0, none⟩) (by simp)
  have cy1 := hb1.cell (p := ⟨w.heap.size + 1, 1, none⟩) (by simp)
  have fy1 := hb1.frozen (p := ⟨w.heap.size + 1, 1, none⟩) (by simp)
  have cy2 := hb1.cell (p := ⟨w.heap.size + 1, 2, none⟩) (by simp)
  have fy2 := hb1.frozen (p := ⟨w.heap.size + 1, 2, none⟩) (by simp)
  have cy3 := hb1.cell (p := ⟨w.heap.size + 1, 3, none⟩) (by simp)
  have fy3 := hb1.frozen (p := ⟨w.heap.size + 1, 3, none⟩) (by simp)
  simp [World.cell?_alloc_at, World.frozen?_alloc_at, World.cell?_alloc_past, World.frozen?_alloc_past] at cy0 fy0 cy1 fy1 cy2 fy2 cy3 fy3
  have HB := Lib.hid ((((Below.refl w.heap.size w).alloc (Nat.le_refl _) _).alloc (by simp) _).alloc (by simp; omega) _ |>.trans (hb1.mono (by simp; omega)))
  clear hb1
  go_wp2
  refine bodyPost_ret (v := .agg #[.int .i64 a, .int .i64 o, .int .i64 v, .int .i64 k]) (by simp [results, Try.results59, go_sem, cx0, cx1, cx2, cx3, cy0, cy1, cy2, cy3, fx0, fx1, fx2, fx3, fy0, fy1, fy2, fy3]) rfl ⟨rfl, ?_⟩
  have h1 : w.heap.size ≤ w.heap.size + 1 := Nat.le_succ _
  have h2 : w.heap.size ≤ w.heap.size + 1 + 1 := Nat.le_trans h1 (Nat.le_succ _)
  exact ((((((HB.out.setCell h2 _).setCell h2 _).setCell h2 _).setCell h1 _).setCell h1 _).setCell h1 _).setCell h1 _

set_option maxHeartbeats 1000000 in
theorem toNetFlowS_c (l : List NFlow) (lo hi : Nat) (A : Option Addr) (b off c : Nat) (w : World) (hV : Row w lo hi A b off (flowCells l)) (hhi : hi ≤ w.heap.size) (hm : l.length ≤ 1048576) :
    Calls Try.prog 39 #[.slice A l.length c] w fun e w' => ∃ b', e = .returned (.slice (some ⟨b', 0, none⟩) l.length l.length) ∧ w.heap.size ≤ b' ∧ b' < w'.heap.size ∧ Row w' b' (b' + 1) (some ⟨b', 0, none⟩) b' 0 (flowCells l) ∧ Below w.heap.size w w' := by
  obtain ⟨i0, hi0, hz0, hz1, hz2⟩ := info_parts Try.infoFlow
  go_enter Try.func39, Try.ntmps39
  go_wp2_with (at_make; refine wpList_make_full _ rfl (.tmp 6) (.tmp 6) 39 rfl w.heap.size 86 i0 _ 4 Try.underlying39 hi0 hz0 hz1 .i64 .i64 _ _ l.length rfl rfl rfl rfl (by rw [hz2]; omega) (by unfold maxLen; omega) (Nat.le_refl _) ?_; intro w1 hown1 hg1)
  have hb1 : Below w.heap.size w w1 := (Below.refl _ _).grown hg1 (Nat.le_refl _) (fun k hk => by cases hk)
  have hsz : w.heap.size < w1.heap.size := (hown1.lt _ rfl).2
  obtain ⟨xs1, hxl1, hR1⟩ : ∃ xs, xs.length = l.length * 4 ∧ Row w1 w.heap.size (w.heap.size + 1) (some ⟨w.heap.size, 0, none⟩) w.heap.size 0 xs := ⟨_, hown1.1, Row.made hown1⟩
  clear hg1 hown1
  go_loopw [4] (fun i wr => ∃ (k : Nat) (xs : List Value), k ≤ l.length ∧ i = .int .i64 k ∧ xs.length = l.length * 4 ∧ Row wr w.heap.size (w.heap.size + 1) (some ⟨w.heap.size, 0, none⟩) w.heap.size 0 xs ∧
      (∀ j, j < k * 4 → xs[j]? = (flowCells l)[j]?) ∧ Below w.heap.size w wr ∧ w.heap.size < wr.heap.size) (fun i _ => l.length - (intOf i).toNat)
  case atStart => exact ⟨0, xs1, Nat.zero_le _, rfl, hxl1, hR1, fun j hj => absurd hj (by omega), hb1, hsz⟩
  case round =>
    obtain ⟨k, xs, hk, rfl, hxl, hR, hxs, hb, hsz'⟩ := hrel
    clear hR1 hxl1 hb1 hsz
    by_cases hlt : k < l.length
    · obtain ⟨rfl, _, h3, x, hx, ⟨c0, c1, c2, c3⟩, _⟩ := hV.flow hlt
      have d0 := (hb.cell (p := ⟨b, off + k * 4, none⟩) (by show b < _; omega)).trans c0
      have d1 := (hb.cell (p := ⟨b, off + k * 4 + 1, none⟩) (by show b < _; omega)).trans c1
      have d2 := (hb.cell (p := ⟨b, off + k * 4 + 2, none⟩) (by show b < _; omega)).trans c2
      have d3 := (hb.cell (p := ⟨b, off + k * 4 + 3, none⟩) (by show b < _; omega)).trans c3
      clear c0 c1 c2 c3
      have HX := Lib.hid hx
      have HB := Lib.hid hb
      have HXS := Lib.hid hxs
      have HR := Lib.hid hR
      have HV := Lib.hid hV
      have HL := Lib.hid hxl
      have HS := Lib.hid hsz'
      clear hx hb hxs hR hV hxl hsz'
      go_wp2_with fail
      refine (toNetFlow_c _ _ _ _ _).mono ?_
      rintro e w2 ⟨rfl, hb2⟩
      have hR2 := HR.out.below hb2 HS.out
      obtain ⟨u0_, _, e0, g0⟩ := hR2.at_ (k := k * 4) (by have := HL.out; omega)
      obtain ⟨u1_, _, e1, g1⟩ := hR2.at_ (k := k * 4 + 1) (by have := HL.out; omega)
      obtain ⟨u2_, _, e2, g2⟩ := hR2.at_ (k := k * 4 + 2) (by have := HL.out; omega)
      obtain ⟨u3_, _, e3, g3⟩ := hR2.at_ (k := k * 4 + 3) (by have := HL.out; omega)
      simp only [Nat.zero_add] at e0 g0 e1 g1 e2 g2 e3 g3
      have hP := Row.put (NFlow.cells x) xs (k * 4) hR2 (by have := HL.out; show _ + 4 ≤ _; omega)
      rw [Nat.zero_add] at hP
      have HP := Lib.hid hP
      have HF := Lib.hid (fill_step (f := NFlow.cells) (d := 4) (fun _ _ => rfl) HX.out HL.out HXS.out)
      have HB2 := Lib.hid (below_put (Nat.le_refl w.heap.size) (NFlow.cells x) (k * 4) (HB.out.trans (hb2.mono HB.out.size)))
      have HS2 := Lib.hid (Nat.lt_of_lt_of_le HS.out hb2.size)
      clear hR2 hP hb2
      go_wp2
      go_roundw
      case rel => exact ⟨k + 1, _, by omega, by go_num, HF.out.1, HP.out, HF.out.2, HB2.out, by simpa [World.setCell] using HS2.out⟩
      case measure => simp [intOf]; omega
    · have hkn : k = l.length := by omega
      subst hkn
      obtain rfl := fill_end (f := NFlow.cells) (d := 4) (fun _ _ => rfl) hxl hxs
      have HB := Lib.hid hb
      have HR := Lib.hid hR
      have HS := Lib.hid hsz'
      clear hxs hb hR hsz'
      go_wp2
      go_ret
      exact ⟨_, rfl, Nat.le_refl _, HS.out, HR.out, HB.out⟩



set_option maxHeartbeats 2000000 in
theorem toNetTask_c (t : NTask) (vi vo vc : Value) (lo hi : Nat) (w : World) (hV : TaskV w lo hi t vi vo vc) (hhi : hi ≤ w.heap.size) (hm1 : t.ins.length ≤ 1048576) (hm2 : t.out.length ≤ 1048576) (hm3 : t.clear.length ≤ 1048576) :
    Calls Try.prog 24 #[.agg #[.int .i64 t.join, .int .i64 t.split, vi, vo, vc, .int .i64 t.role, .int .i64 t.apart, .int .i64 t.all, .int .i64 t.need]] w fun e w' =>
      ∃ ui uo uc, e = .returned (.agg #[.int .i64 t.join, .int .i64 t.split, ui, uo, uc, .int .i64 t.role, .int .i64 t.apart, .int .i64 t.all, .int .i64 t.need]) ∧ TaskV w' w.heap.size w'.heap.size t ui uo uc ∧ Below w.heap.size w w' := by
  obtain ⟨⟨Ai, bi, oi, ci, rfl, hmi, hRi⟩, ⟨Ao, bo, oo, co, rfl, hmo, hRo⟩, ⟨Ac, bc, oc, cc, rfl, hmc, hRc⟩⟩ := hV
  go_enter Try.func24, Try.ntmps24
  go_wp2_with fail
  refine (toIntS_c t.ins lo hi Ai bi oi ci _ (((hRi.alloc hhi _).alloc (by simp; omega) _).alloc (by simp; omega) _) (by simp; omega) hm1).mono ?_
  rintro e w1 ⟨b1, rfl, hr1, hb1⟩
  have R0 := (((Row.newAt w _ _ _ rfl).alloc (by simp) _).alloc (by simp) _).below hb1 (by simp)
  have R1 := ((Row.newAt (w.alloc _) _ _ (w.heap.size + 1) (by simp)).alloc (by simp) _).below hb1 (by simp)
  have R2 := (Row.newAt ((w.alloc _).alloc _) _ _ (w.heap.size + 1 + 1) (by simp)).below hb1 (by simp)
  have hB1 : Below w.heap.size w w1 := (((Below.refl w.heap.size w).alloc (Nat.le_refl _) _).alloc (by simp) _).alloc (by simp; omega) _ |>.trans (hb1.mono (by simp; omega))
  have hz1 : w.heap.size + 1 + 1 + 1 ≤ w1.heap.size := by simpa using hb1.size
  have S1 := hr1.more (lo' := w.heap.size + 1 + 1 + 1) (hi' := w1.heap.size) (by simp) (Nat.le_refl _)
  clear hb1 hr1
  obtain ⟨⟨c0, c1, c2, c3, c4, c5, c6, c7, c8⟩, _⟩ := Row.nine R0
  obtain ⟨⟨d0, d1, d2, d3, d4, d5, d6, d7, d8⟩, ⟨f0, f1, f2, f3, f4, f5, f6, f7, f8⟩⟩ := Row.nine R2
  have hR0 := Lib.hid R0
  have hR1 := Lib.hid R1
  have hR2 := Lib.hid R2
  have HB1 := Lib.hid hB1
  have HS1 := Lib.hid S1
  have HZ1 := Lib.hid hz1
  clear R0 R1 R2 hB1 S1
  go_wp2_with fail
  refine (toNetFlowS_c t.out lo hi Ao bo oo co _ ((hRo.below HB1.out hhi).setCell (by right; show hi ≤ w.heap.size + 1 + 1; omega) _) (by simp [World.setCell]; omega) hm2).mono ?_
  rintro e w2 ⟨b2, rfl, hl2, hg2, hr2, hb2⟩
  rw [World.size_setCell] at hb2 hl2
  have hu1 : Upd (w.heap.size + 1 + 1) (w.heap.size + 1 + 1 + 1) w1 (w1.setCell ⟨w.heap.size + 1 + 1, 2, none⟩ (.slice (some ⟨b1, 0, none⟩) t.ins.length t.ins.length)) := Upd.one _ _ _ _
  have hz2 : w.heap.size + 1 + 1 + 1 ≤ w2.heap.size := Nat.le_trans (by simpa [World.size_setCell] using HZ1.out) hb2.size
  have R0 := (hR0.out.upd hu1 (by omega)).below hb2 (by omega)
  have R1 := (hR1.out.upd hu1 (by omega)).below hb2 (by omega)
  have R2 := (hR2.out.set_ 2 (.slice (some ⟨b1, 0, none⟩) t.ins.length t.ins.length) (by simp))
  rw [Nat.zero_add] at R2
  replace R2 := R2.below hb2 (by omega)
  have S1 := (HS1.out.upd hu1 (by omega)).below hb2 (Nat.le_refl _)
  have hB2 := (HB1.out.setCell (p := ⟨w.heap.size + 1 + 1, 2, none⟩) (by show _ ≤ w.heap.size + 1 + 1; omega) (.slice (some ⟨b1, 0, none⟩) t.ins.length t.ins.length)).trans (hb2.mono (by omega))
  have S2 := hr2
  have hz12 : w1.heap.size ≤ w2.heap.size := by have := hb2.size; rwa [World.size_setCell] at this
  clear hb2 hR0 hR1 hR2 HS1 hr2 c0 c1 c2 c3 c4 c5 c6 c7 c8 d0 d1 d2 d3 d4 d5 d6 d7 d8 f0 f1 f2 f3 f4 f5 f6 f7 f8 hu1
  obtain ⟨⟨c0, c1, c2, c3, c4, c5, c6, c7, c8⟩, _⟩ := Row.nine R0
  obtain ⟨⟨d0, d1, d2, d3, d4, d5, d6, d7, d8⟩, ⟨f0, f1, f2, f3, f4, f5, f6, f7, f8⟩⟩ := Row.nine R2
  have hR0 := Lib.hid R0
  have hR1 := Lib.hid R1
  have hR2 := Lib.hid R2
  have HB2 := Lib.hid hB2
  have HS1 := Lib.hid S1
  have HS2 := Lib.hid S2
  have HZ2 := Lib.hid hz2
  have HL := Lib.hid (And.intro hl2 (And.intro hg2 hz12))
  clear R0 R1 R2 hB2 S1 S2 hl2 hg2 hz12
  go_wp2_with fail
  refine (toIntS_c t.clear lo hi Ac bc oc cc _ ((hRc.below HB2.out hhi).setCell (by right; show hi ≤ w.heap.size + 1 + 1; omega) _) (by simp [World.setCell]; omega) hm3).mono ?_
  rintro e w3 ⟨b3, rfl, hr3, hb3⟩
  rw [World.size_setCell] at hb3 hr3
  have hu2 : Upd (w.heap.size + 1 + 1) (w.heap.size + 1 + 1 + 1) w2 (w2.setCell ⟨w.heap.size + 1 + 1, 3, none⟩ (.slice (some ⟨b2, 0, none⟩) t.out.length t.out.length)) := Upd.one _ _ _ _
  have hz3 : w.heap.size + 1 + 1 + 1 ≤ w3.heap.size := Nat.le_trans (by simpa [World.size_setCell] using HZ2.out) hb3.size
  have hz23 : w2.heap.size ≤ w3.heap.size := by have := hb3.size; rwa [World.size_setCell] at this
  have R0 := (hR0.out.upd hu2 (by omega)).below hb3 (by omega)
  have R1 := (hR1.out.upd hu2 (by omega)).below hb3 (by omega)
  have R2 := (hR2.out.set_ 3 (.slice (some ⟨b2, 0, none⟩) t.out.length t.out.length) (by simp))
  rw [Nat.zero_add] at R2
  replace R2 := R2.below hb3 (by omega)
  have hl := HL.out
  have S1 := (HS1.out.upd hu2 (by omega)).below hb3 (by omega)
  have S2 := (HS2.out.upd hu2 (by omega)).below hb3 (by omega)
  have hB3 := (HB2.out.setCell (p := ⟨w.heap.size + 1 + 1, 3, none⟩) (by show _ ≤ w.heap.size + 1 + 1; omega) (.slice (some ⟨b2, 0, none⟩) t.out.length t.out.length)).trans (hb3.mono (by omega))
  clear hb3 hR0 hR1 hR2 HS1 HS2 c0 c1 c2 c3 c4 c5 c6 c7 c8 d0 d1 d2 d3 d4 d5 d6 d7 d8 f0 f1 f2 f3 f4 f5 f6 f7 f8 hu2
  obtain ⟨⟨c0, c1, c2, c3, c4, c5, c6, c7, c8⟩, _⟩ := Row.nine R0
  obtain ⟨⟨x0, x1, x2, x3, x4, x5, x6, x7, x8⟩, ⟨y0, y1, y2, y3, y4, y5, y6, y7, y8⟩⟩ := Row.nine R1
  obtain ⟨⟨d0, d1, d2, d3, d4, d5, d6, d7, d8⟩, ⟨f0, f1, f2, f3, f4, f5, f6, f7, f8⟩⟩ := Row.nine R2
  have HB3 := Lib.hid hB3
  have HS := Lib.hid (show TaskV w3 (w.heap.size + 1 + 1 + 1) w3.heap.size t (.slice (some ⟨b1, 0, none⟩) t.ins.length t.ins.length) (.slice (some ⟨b2, 0, none⟩) t.out.length t.out.length) (.slice (some ⟨b3, 0, none⟩) t.clear.length t.clear.length) from
    ⟨⟨_, _, _, _, rfl, hmi, S1.more (Nat.le_refl _) (by omega)⟩, ⟨_, _, _, _, rfl, hmo, S2.more (by omega) (by omega)⟩, ⟨_, _, _, _, rfl, hmc, hr3.more (by omega) (Nat.le_refl _)⟩⟩)
  have HZ3 := Lib.hid hz3
  clear R0 R1 R2 hB3 S1 S2 hr3 hl HL
  go_wp2
  have hU := upd_put (lo := w.heap.size + 1) (hi := w.heap.size + 1 + 1 + 1) (b := w.heap.size + 1) (Nat.le_refl _) (by omega) (t.cells (.slice (some ⟨b1, 0, none⟩) t.ins.length t.ins.length) (.slice (some ⟨b2, 0, none⟩) t.out.length t.out.length) (.slice (some ⟨b3, 0, none⟩) t.clear.length t.clear.length)) 0 (upd_put (b := w.heap.size + 1 + 1) (by omega) (by omega) [(.slice (some ⟨b3, 0, none⟩) t.clear.length t.clear.length), .int .i64 t.role, .int .i64 t.apart, .int .i64 t.all, .int .i64 t.need] 4 (Upd.refl (w.heap.size + 1) (w.heap.size + 1 + 1 + 1) w3))
  refine bodyPost_ret (v := .agg #[.int .i64 t.join, .int .i64 t.split, (.slice (some ⟨b1, 0, none⟩) t.ins.length t.ins.length), (.slice (some ⟨b2, 0, none⟩) t.out.length t.out.length), (.slice (some ⟨b3, 0, none⟩) t.clear.length t.clear.length), .int .i64 t.role, .int .i64 t.apart, .int .i64 t.all, .int .i64 t.need]) (by simp [results, Try.results24, go_sem, x0, x1, x2, x3, x4, x5, x6, x7, x8, y0, y1, y2, y3, y4, y5, y6, y7, y8, d0, d1, d2, d3, d4, d5, d6, d7, d8, f0, f1, f2, f3, f4, f5, f6, f7, f8]) rfl ⟨_, _, _, rfl, ?_, ?_⟩
  · have h := (HS.out.keep (fun g h _ => hU.block g (by omega))).more (lo' := w.heap.size) (by omega) (Nat.le_refl _)
    rw [← hU.size] at h
    exact h
  · exact HB3.out.trans (hU.below (by omega))

/-- The three slices of a task are not too long to be copied. -/
def taskSmall (t : NTask) : Prop := t.ins.length ≤ 1048576 ∧ t.out.length ≤ 1048576 ∧ t.clear.length ≤ 1048576

set_option maxHeartbeats 1000000 in
theorem toNetTaskS_c (ts : List NTask) (ms : List TaskM) (lo hi lo2 hi2 : Nat) (A : Option Addr) (b off c : Nat) (w : World) (hV : TasksV w lo hi lo2 hi2 A b off ts ms) (hhi : hi ≤ w.heap.size) (hhi2 : hi2 ≤ w.heap.size) (hm : ts.length ≤ 1048576) (hsm : ∀ t ∈ ts, taskSmall t) :
    Calls Try.prog 15 #[.slice A ts.length c] w fun e w' => ∃ b' ms', e = .returned (.slice (some ⟨b', 0, none⟩) ts.length ts.length) ∧ w.heap.size ≤ b' ∧ b' < w'.heap.size ∧ TasksV w' b' (b' + 1) (b' + 1) w'.heap.size (some ⟨b', 0, none⟩) b' 0 ts ms' ∧ Below w.heap.size w w' := by
  obtain ⟨i0, hi0, hz0, hz1, hz2⟩ := info_parts Try.infoTask
  go_enter Try.func15, Try.ntmps15
  go_wp2_with (at_make; refine wpList_make_full _ rfl (.tmp 6) (.tmp 6) 28 rfl w.heap.size 41 i0 _ 9 Try.underlying28 hi0 hz0 hz1 .i64 .i64 _ _ ts.length rfl rfl rfl rfl (by rw [hz2]; omega) (by unfold maxLen; omega) (Nat.le_refl _) ?_; intro w1 hown1 hg1)
  have hb1 : Below w.heap.size w w1 := (Below.refl _ _).grown hg1 (Nat.le_refl _) (fun k hk => by cases hk)
  have hsz : w.heap.size < w1.heap.size := (hown1.lt _ rfl).2
  obtain ⟨xs1, hxl1, hR1⟩ : ∃ xs, xs.length = ts.length * 9 ∧ Row w1 w.heap.size (w.heap.size + 1) (some ⟨w.heap.size, 0, none⟩) w.heap.size 0 xs := ⟨_, hown1.1, Row.made hown1⟩
  clear hg1 hown1
  go_loopw [4] (fun i wr => ∃ (ns : List TaskM) (xs : List Value), ns.length ≤ ts.length ∧ i = .int .i64 ns.length ∧ xs.length = ts.length * 9 ∧ Row wr w.heap.size (w.heap.size + 1) (some ⟨w.heap.size, 0, none⟩) w.heap.size 0 xs ∧
      (∀ j, j < ns.length * 9 → xs[j]? = (taskCells ns)[j]?) ∧ ns.map TaskM.t = ts.take ns.length ∧ (∀ m ∈ ns, TaskV wr (w.heap.size + 1) wr.heap.size m.t m.vi m.vo m.vc) ∧ Below w.heap.size w wr ∧ w.heap.size < wr.heap.size) (fun i _ => ts.length - (intOf i).toNat)
  case atStart => exact ⟨[], xs1, Nat.zero_le _, rfl, hxl1, hR1, fun j hj => absurd hj (by simp), by simp, by simp, hb1, hsz⟩
  case round =>
    obtain ⟨ns, xs, hk, rfl, hxl, hR, hxs, hmap, heach, hb, hsz'⟩ := hrel
    clear hR1 hxl1 hb1 hsz
    obtain ⟨k, hkd⟩ : ∃ k, k = ns.length := ⟨_, rfl⟩
    rw [← hkd] at hk hxs hmap ⊢
    by_cases hlt : k < ts.length
    · obtain ⟨rfl, _, h3, t, vi, vo, vc, hx, _, hT, ⟨c0, c1, c2, c3, c4, c5, c6, c7, c8⟩, _⟩ := hV.task hlt
      have d0 := (hb.cell (p := ⟨b, off + k * 9, none⟩) (by show b < _; omega)).trans c0
      have d1 := (hb.cell (p := ⟨b, off + k * 9 + 1, none⟩) (by show b < _; omega)).trans c1
      have d2 := (hb.cell (p := ⟨b, off + k * 9 + 2, none⟩) (by show b < _; omega)).trans c2
      have d3 := (hb.cell (p := ⟨b, off + k * 9 + 3, none⟩) (by show b < _; omega)).trans c3
      have d4 := (hb.cell (p := ⟨b, off + k * 9 + 4, none⟩) (by show b < _; omega)).trans c4
      have d5 := (hb.cell (p := ⟨b, off + k * 9 + 5, none⟩) (by show b < _; omega)).trans c5
      have d6 := (hb.cell (p := ⟨b, off + k * 9 + 6, none⟩) (by show b < _; omega)).trans c6
      have d7 := (hb.cell (p := ⟨b, off + k * 9 + 7, none⟩) (by show b < _; omega)).trans c7
      have d8 := (hb.cell (p := ⟨b, off + k * 9 + 8, none⟩) (by show b < _; omega)).trans c8
      clear c0 c1 c2 c3 c4 c5 c6 c7 c8
      have hts := hsm t (List.mem_of_getElem? hx)
      have HT := Lib.hid (hT.keep (w' := wr) fun g _ h => hb.block g (by omega))
      have HX := Lib.hid hx
      have HB := Lib.hid hb
      have HXS := Lib.hid hxs
      have HR := Lib.hid hR
      have HV := Lib.hid hV
      have HL := Lib.hid hxl
      have HS := Lib.hid hsz'
      have HM := Lib.hid hmap
      have HE := Lib.hid heach
      have HTS := Lib.hid hts
      have HSM := Lib.hid hsm
      have HKD := Lib.hid hkd
      clear hx hb hxs hR hV hxl hsz' hmap heach hT hts hsm hkd
      go_wp2_with fail
      refine (toNetTask_c t vi vo vc lo2 hi2 _ HT.out (Nat.le_trans hhi2 HB.out.size) HTS.out.1 HTS.out.2.1 HTS.out.2.2).mono ?_
      rintro e w2 ⟨ui, uo, uc, rfl, hT2, hb2⟩
      obtain ⟨A1, q1, A2, q2, A3, q3, rfl, rfl, rfl⟩ := hT2.forms
      have hR2 := HR.out.below hb2 HS.out
      obtain ⟨u0_, _, e0, g0⟩ := hR2.at_ (k := k * 9) (by have := HL.out; omega)
      obtain ⟨u1_, _, e1, g1⟩ := hR2.at_ (k := k * 9 + 1) (by have := HL.out; omega)
      obtain ⟨u2_, _, e2, g2⟩ := hR2.at_ (k := k * 9 + 2) (by have := HL.out; omega)
      obtain ⟨u3_, _, e3, g3⟩ := hR2.at_ (k := k * 9 + 3) (by have := HL.out; omega)
      obtain ⟨u4_, _, e4, g4⟩ := hR2.at_ (k := k * 9 + 4) (by have := HL.out; omega)
      obtain ⟨u5_, _, e5, g5⟩ := hR2.at_ (k := k * 9 + 5) (by have := HL.out; omega)
      obtain ⟨u6_, _, e6, g6⟩ := hR2.at_ (k := k * 9 + 6) (by have := HL.out; omega)
      obtain ⟨u7_, _, e7, g7⟩ := hR2.at_ (k := k * 9 + 7) (by have := HL.out; omega)
      obtain ⟨u8_, _, e8, g8⟩ := hR2.at_ (k := k * 9 + 8) (by have := HL.out; omega)
      simp only [Nat.zero_add] at e0 g0 e1 g1 e2 g2 e3 g3 e4 g4 e5 g5 e6 g6 e7 g7 e8 g8
      have hP := Row.put (t.cells (.slice A1 t.ins.length q1) (.slice A2 t.out.length q2) (.slice A3 t.clear.length q3)) xs (k * 9) hR2 (by have := HL.out; show _ + 9 ≤ _; omega)
      rw [Nat.zero_add] at hP
      have HP := Lib.hid hP
      have HF := Lib.hid (fill_more (f := TaskM.cells) (d := 9) (l := ns) (xs := xs) (x := (⟨t, (.slice A1 t.ins.length q1), (.slice A2 t.out.length q2), (.slice A3 t.clear.length q3)⟩ : TaskM)) (fun _ _ => rfl) (by have := HL.out; have := HKD.out; omega) (by have := HXS.out; rwa [HKD.out] at this))
      have HB2 := Lib.hid (below_put (Nat.le_refl w.heap.size) (t.cells (.slice A1 t.ins.length q1) (.slice A2 t.out.length q2) (.slice A3 t.clear.length q3)) (k * 9) (HB.out.trans (hb2.mono HB.out.size)))
      have HS2 := Lib.hid (Nat.lt_of_lt_of_le HS.out hb2.size)
      have hu := upd_put (lo := w.heap.size) (hi := w.heap.size + 1) (b := w.heap.size) (Nat.le_refl _) (Nat.lt_succ_self _) (t.cells (.slice A1 t.ins.length q1) (.slice A2 t.out.length q2) (.slice A3 t.clear.length q3)) (k * 9) (Upd.refl _ _ w2)
      have HE2 := Lib.hid (show ∀ m ∈ ns ++ [(⟨t, (.slice A1 t.ins.length q1), (.slice A2 t.out.length q2), (.slice A3 t.clear.length q3)⟩ : TaskM)], TaskV (putAt w2 w.heap.size (k * 9) (t.cells (.slice A1 t.ins.length q1) (.slice A2 t.out.length q2) (.slice A3 t.clear.length q3))) (w.heap.size + 1) (putAt w2 w.heap.size (k * 9) (t.cells (.slice A1 t.ins.length q1) (.slice A2 t.out.length q2) (.slice A3 t.clear.length q3))).heap.size m.t m.vi m.vo m.vc from by
        intro m hm
        rw [hu.size]
        refine TaskV.keep (w := w2) ?_ (fun g h _ => hu.block g (by omega))
        rcases List.mem_append.1 hm with h | h
        · exact ((HE.out m h).keep (fun g _ h => hb2.block g h)).more (Nat.le_refl _) hb2.size
        · simp only [List.mem_singleton] at h; subst h; exact hT2.more HS.out (Nat.le_refl _))
      have HM2 := Lib.hid (show (ns ++ [(⟨t, (.slice A1 t.ins.length q1), (.slice A2 t.out.length q2), (.slice A3 t.clear.length q3)⟩ : TaskM)]).map TaskM.t = ts.take (k + 1) from by rw [take_succ_of HX.out, List.map_append, HM.out]; rfl)
      have hkl : (ns ++ [(⟨t, (.slice A1 t.ins.length q1), (.slice A2 t.out.length q2), (.slice A3 t.clear.length q3)⟩ : TaskM)]).length = k + 1 := by have := HKD.out; simp; omega
      have HKL := Lib.hid hkl
      clear hR2 hP hb2 hT2 hu hkl
      go_wp2
      go_roundw
      case rel => exact ⟨ns ++ [(⟨t, (.slice A1 t.ins.length q1), (.slice A2 t.out.length q2), (.slice A3 t.clear.length q3)⟩ : TaskM)], putL xs (k * 9) (t.cells (.slice A1 t.ins.length q1) (.slice A2 t.out.length q2) (.slice A3 t.clear.length q3)), by have := HKL.out; omega, by rw [HKL.out]; go_num, by rw [putL_length]; exact HL.out, HP.out, by have h := HF.out.2; rw [← HKD.out] at h; exact h, by rw [HKL.out]; exact HM2.out, HE2.out, HB2.out, by simpa [World.size_setCell] using HS2.out⟩
      case measure => simp [intOf]; omega
    · have hkn : k = ts.length := by omega
      have hnl : ns.length = ts.length := by omega
      obtain rfl := fill_end (f := TaskM.cells) (d := 9) (l := ns) (xs := xs) (fun _ _ => rfl) (by omega) (by rw [← hkd]; exact hxs)
      have HV2 := Lib.hid (show TasksV wr w.heap.size (w.heap.size + 1) (w.heap.size + 1) wr.heap.size (some ⟨w.heap.size, 0, none⟩) w.heap.size 0 ts ns from ⟨hR, by rw [hmap]; exact List.take_of_length_le (by omega), heach⟩)
      have HB := Lib.hid hb
      have HS := Lib.hid hsz'
      clear hxs hb hR hsz' hmap heach hsm
      go_wp2
      go_ret
      exact ⟨_, _, rfl, Nat.le_refl _, HS.out, HV2.out, HB.out⟩

end Go.Proofs.Ytjbfkgckpbpdeaa

/- A net's size as the laws reckon it, and the conversion of a whole net. -/
namespace Go.Proofs.Ytjbfkgckpbpdeaa
open Go.RowKit
set_option linter.unusedVariables false
set_option linter.unusedSimpArgs false

/-- What is left behind a size is taken off; -1, if that is too much. -/
def cutI (left s : Int) : Int := if s ≤ left then left - s else -1
theorem cutI_pos {l s : Int} (h : s ≤ l) : cutI l s = l - s := if_pos h
theorem cutI_neg {l s : Int} (h : ¬ s ≤ l) : cutI l s = -1 := if_neg h
def taskSize (t : NTask) : Int := (t.ins.length : Int) + ((t.out.length : Int) + (t.clear.length : Int))
def tasksSize (ts : List NTask) : Int := (ts.map taskSize).sum
theorem taskSize_pos (t : NTask) : 0 ≤ taskSize t := by unfold taskSize; omega
theorem tasksSize_pos : ∀ (ts : List NTask), 0 ≤ tasksSize ts
  | [] => by simp [tasksSize]
  | t :: r => by
    have := tasksSize_pos r
    have := taskSize_pos t
    simp only [tasksSize, List.map_cons, List.sum_cons] at *; omega
theorem tasksSize_append (a b : List NTask) : tasksSize (a ++ b) = tasksSize a + tasksSize b := by simp [tasksSize]
theorem tasksSize_mem {ts : List NTask} {t : NTask} (h : t ∈ ts) : taskSize t ≤ tasksSize ts := by
  obtain ⟨a, b, rfl⟩ := List.append_of_mem h
  rw [tasksSize_append, show (t :: b) = [t] ++ b from rfl, tasksSize_append]
  have := tasksSize_pos a; have := tasksSize_pos b
  simp [tasksSize] at *; omega
theorem tasksSize_take (ts : List NTask) (k : Nat) : tasksSize (ts.take k) ≤ tasksSize ts := by
  have h := tasksSize_append (ts.take k) (ts.drop k)
  rw [List.take_append_drop] at h
  have := tasksSize_pos (ts.drop k); omega
def netSize (n : NNet) : Int := (n.tasks.length : Int) + tasksSize n.tasks

theorem szIntS_c (n : Nat) (A : Option Addr) (c : Nat) (left : Int) (w : World) (hn : n ≤ maxLen) (h0 : 0 ≤ left) (h1 : left ≤ 1048576) :
    Calls Try.prog 33 #[.slice A n c, .int .i64 left] w fun e w' => e = .returned (.int .i64 (cutI left n)) ∧ w = w' := by
  unfold maxLen at hn
  go_enter Try.func33, Try.ntmps33
  go_wp2
  · go_ret; exact ⟨ret_int (by unfold cutI; rw [if_neg (by omega)]), rfl⟩
  · go_ret; exact ⟨ret_int (by unfold cutI; rw [if_pos (by omega)]), rfl⟩
theorem szNetFlowS_c (n : Nat) (A : Option Addr) (c : Nat) (left : Int) (w : World) (hn : n ≤ maxLen) (h0 : 0 ≤ left) (h1 : left ≤ 1048576) :
    Calls Try.prog 34 #[.slice A n c, .int .i64 left] w fun e w' => e = .returned (.int .i64 (cutI left n)) ∧ w = w' := by
  unfold maxLen at hn
  go_enter Try.func34, Try.ntmps34
  go_wp2
  · go_ret; exact ⟨ret_int (by unfold cutI; rw [if_neg (by omega)]), rfl⟩
  · go_ret; exact ⟨ret_int (by unfold cutI; rw [if_pos (by omega)]), rfl⟩

theorem szNetTask_c (t : NTask) (A1 A2 A3 : Option Addr) (c1 c2 c3 : Nat) (left : Int) (w : World) (m1 : t.ins.length ≤ maxLen) (m2 : t.out.length ≤ maxLen) (m3 : t.clear.length ≤ maxLen) (h0 : 0 ≤ left) (h1 : left ≤ 1048576) :
    Calls Try.prog 21 #[.agg #[.int .i64 t.join, .int .i64 t.split, .slice A1 t.ins.length c1, .slice A2 t.out.length c2, .slice A3 t.clear.length c3, .int .i64 t.role, .int .i64 t.apart, .int .i64 t.all, .int .i64 t.need], .int .i64 left] w
      fun e w' => e = .returned (.int .i64 (cutI left (taskSize t))) ∧ Below w.heap.size w w' := by
  generalize ha : t.ins.length = a at *
  generalize hb : t.out.length = b at *
  generalize hc : t.clear.length = c at *
  have hts : taskSize t = a + (b + c) := by unfold taskSize; rw [ha, hb, hc]
  rw [hts]
  clear ha hb hc hts
  go_enter Try.func21, Try.ntmps21
  go_wp2_with fail
  refine (szIntS_c a A1 c1 left _ m1 h0 h1).mono ?_
  rintro e w1 ⟨rfl, rfl⟩
  by_cases x1 : (a : Int) ≤ left
  · rw [cutI_pos x1]
    go_wp2_with fail
    refine (szNetFlowS_c b A2 c2 (left - a) _ m2 (by omega) (by omega)).mono ?_
    rintro e w1 ⟨rfl, rfl⟩
    by_cases x2 : (b : Int) ≤ left - a
    · rw [cutI_pos x2]
      go_wp2_with fail
      refine (szIntS_c c A3 c3 (left - a - b) _ m3 (by omega) (by omega)).mono ?_
      rintro e w1 ⟨rfl, rfl⟩
      by_cases x3 : (c : Int) ≤ left - a - b
      · rw [cutI_pos x3]
        go_wp2
        go_ret
        exact ⟨ret_int (by rw [cutI_pos (by omega)]; omega), (Below.refl _ _).alloc (Nat.le_refl _) _⟩
      · rw [cutI_neg x3]
        go_wp2
        go_ret
        exact ⟨ret_int (by rw [cutI_neg (by omega)]), (Below.refl _ _).alloc (Nat.le_refl _) _⟩
    · rw [cutI_neg x2]
      go_wp2
      go_ret
      exact ⟨ret_int (by rw [cutI_neg (by omega)]), (Below.refl _ _).alloc (Nat.le_refl _) _⟩
  · rw [cutI_neg x1]
    go_wp2
    go_ret
    exact ⟨ret_int (by rw [cutI_neg (by omega)]), (Below.refl _ _).alloc (Nat.le_refl _) _⟩

theorem TaskV.lens {w : World} {lo hi : Nat} {t : NTask} {vi vo vc : Value} (h : TaskV w lo hi t vi vo vc) : t.ins.length ≤ maxLen ∧ t.out.length ≤ maxLen ∧ t.clear.length ≤ maxLen := by
  obtain ⟨⟨_, _, _, _, _, h1, _⟩, ⟨_, _, _, _, _, h2, _⟩, ⟨_, _, _, _, _, h3, _⟩⟩ := h
  exact ⟨h1, h2, h3⟩

theorem szNetTaskS_c (ts : List NTask) (ms : List TaskM) (lo hi lo2 hi2 : Nat) (A : Option Addr) (b off c : Nat) (left : Int) (w : World) (hV : TasksV w lo hi lo2 hi2 A b off ts ms) (hhi : hi ≤ w.heap.size) (hm : ts.length ≤ maxLen) (h0 : 0 ≤ left) (h1 : left ≤ 1048576) :
    Calls Try.prog 13 #[.slice A ts.length c, .int .i64 left] w fun e w' => e = .returned (.int .i64 (cutI left (ts.length + tasksSize ts))) ∧ Below w.heap.size w w' := by
  unfold maxLen at hm
  have hp := tasksSize_pos ts
  go_enter Try.func13, Try.ntmps13
  by_cases hbig : (ts.length : Int) ≤ left
  · go_wp2
    go_loopw [1, 5] (fun l i wr => ∃ (k : Nat), k ≤ ts.length ∧ i = .int .i64 k ∧ l = .int .i64 (left - ts.length - tasksSize (ts.take k)) ∧ tasksSize (ts.take k) ≤ left - ts.length ∧ Below w.heap.size w wr) (fun _ i _ => ts.length - (intOf i).toNat)
    case atStart => exact ⟨0, Nat.zero_le _, rfl, by simp [tasksSize], by simp [tasksSize]; omega, Below.refl _ _⟩
    case round =>
      obtain ⟨k, hk, rfl, rfl, hle, hb⟩ := hrel
      by_cases hlt : k < ts.length
      · obtain ⟨rfl, _, h3, t, vi, vo, vc, hx, _, hT, ⟨c0, c1, c2, c3, c4, c5, c6, c7, c8⟩, _⟩ := hV.task hlt
        obtain ⟨A1, q1, A2, q2, A3, q3, rfl, rfl, rfl⟩ := hT.forms
        have d0 := (hb.cell (p := ⟨b, off + k * 9, none⟩) (by show b < _; omega)).trans c0
        have d1 := (hb.cell (p := ⟨b, off + k * 9 + 1, none⟩) (by show b < _; omega)).trans c1
        have d2 := (hb.cell (p := ⟨b, off + k * 9 + 2, none⟩) (by show b < _; omega)).trans c2
        have d3 := (hb.cell (p := ⟨b, off + k * 9 + 3, none⟩) (by show b < _; omega)).trans c3
        have d4 := (hb.cell (p := ⟨b, off + k * 9 + 4, none⟩) (by show b < _; omega)).trans c4
        have d5 := (hb.cell (p := ⟨b, off + k * 9 + 5, none⟩) (by show b < _; omega)).trans c5
        have d6 := (hb.cell (p := ⟨b, off + k * 9 + 6, none⟩) (by show b < _; omega)).trans c6
        have d7 := (hb.cell (p := ⟨b, off + k * 9 + 7, none⟩) (by show b < _; omega)).trans c7
        have d8 := (hb.cell (p := ⟨b, off + k * 9 + 8, none⟩) (by show b < _; omega)).trans c8
        clear c0 c1 c2 c3 c4 c5 c6 c7 c8
        have hl := hT.lens
        have HB := Lib.hid hb
        have hk0 := tasksSize_pos (ts.take k)
        have hstep : tasksSize (ts.take (k + 1)) = tasksSize (ts.take k) + taskSize t := by rw [take_succ_of hx, tasksSize_append]; simp [tasksSize]
        have htk := tasksSize_take ts (k + 1)
        have HST := Lib.hid hstep
        have HTK := Lib.hid htk
        have HLE := Lib.hid hle
        have HK0 := Lib.hid hk0
        generalize tasksSize (ts.take k) = s at *
        clear hb hT hx htk hV
        go_wp2_with fail
        refine (szNetTask_c t A1 A2 A3 q1 q2 q3 (left - ts.length - s) wr hl.1 hl.2.1 hl.2.2 (by omega) (by omega)).mono ?_
        rintro e w2 ⟨rfl, hb2⟩
        have HB2 := Lib.hid (HB.out.trans (hb2.mono HB.out.size))
        clear hb2
        by_cases x1 : taskSize t ≤ left - ts.length - s
        · rw [cutI_pos x1]
          have HX1 := Lib.hid x1
          generalize hq : taskSize t = q at x1
          have HQ := Lib.hid hq
          have hq0 := taskSize_pos t
          rw [hq] at hq0 
          clear hq hstep hk0
          go_wp2
          go_roundw
          case rel => exact ⟨k + 1, by omega, by go_num, by rw [HST.out, HQ.out]; go_num, by rw [HST.out, HQ.out]; omega, HB2.out⟩
          case measure => simp [intOf]; omega
        · rw [cutI_neg x1]
          have HX1 := Lib.hid x1
          clear x1 hstep
          go_wp2
          go_ret
          exact ⟨ret_int (by have := HTK.out; have := HST.out; have := HX1.out; rw [cutI_neg (by omega)]), HB2.out⟩
      · have hkn : k = ts.length := by omega
        subst hkn
        rw [List.take_length] at hle ⊢
        have HB := Lib.hid hb
        clear hb hV
        go_wp2
        go_ret
        exact ⟨ret_int (by rw [cutI_pos (by omega)]; omega), HB.out⟩
  · go_wp2
    go_ret
    exact ⟨ret_int (by rw [cutI_neg (by omega)]), Below.refl _ _⟩
end Go.Proofs.Ytjbfkgckpbpdeaa

/- The conversion of a whole net, and its size. -/
namespace Go.Proofs.Ytjbfkgckpbpdeaa
open Go.RowKit
set_option linter.unusedVariables false
set_option linter.unusedSimpArgs false

theorem szNetNet_c (n : NNet) (v : Value) (lo hi : Nat) (left : Int) (w : World) (hV : NetV w lo hi v n) (hhi : hi ≤ w.heap.size) (h0 : 0 ≤ left) (h1 : left ≤ 1048576) :
    Calls Try.prog 4 #[v, .int .i64 left] w fun e w' => e = .returned (.int .i64 (cutI left (netSize n))) ∧ Below w.heap.size w w' := by
  obtain ⟨A, b, off, c, ms, rfl, hm, hT⟩ := hV
  go_enter Try.func4, Try.ntmps4
  go_wp2_with fail
  refine (szNetTaskS_c n.tasks ms lo hi lo hi A b off c left _ (hT.keep (fun g _ h => Below.heap_alloc w _ g (by omega)) (fun g _ h => Below.heap_alloc w _ g (by omega))) (by simp; omega) hm h0 h1).mono ?_
  rintro e w1 ⟨rfl, hb1⟩
  have HB1 := Lib.hid (((Below.refl w.heap.size w).alloc (Nat.le_refl _) _).trans (hb1.mono (by simp)))
  clear hb1
  rw [show (n.tasks.length : Int) + tasksSize n.tasks = netSize n from rfl]
  by_cases x1 : netSize n ≤ left
  · rw [cutI_pos x1]
    go_wp2
    go_ret
    exact ⟨ret_int (cutI_pos x1).symm, HB1.out⟩
  · rw [cutI_neg x1]
    go_wp2
    go_ret
    exact ⟨ret_int (cutI_neg (by omega)).symm, HB1.out⟩

/-- A net that the call itself has made: its tasks lie in a block b' of their own, what these hold behind it. -/
def FNet (w : World) (lo hi : Nat) (v : Value) (n : NNet) : Prop :=
  ∃ b' ms, v = .agg #[.int .i64 n.places, .slice (some ⟨b', 0, none⟩) n.tasks.length n.tasks.length] ∧ n.tasks.length ≤ maxLen ∧ lo ≤ b' ∧ b' < hi ∧ TasksV w b' (b' + 1) (b' + 1) hi (some ⟨b', 0, none⟩) b' 0 n.tasks ms
theorem FNet.net {w : World} {lo hi : Nat} {v : Value} {n : NNet} (h : FNet w lo hi v n) : NetV w lo hi v n := by
  obtain ⟨b', ms, rfl, hm, h1, h2, hT⟩ := h
  exact ⟨_, _, _, _, ms, rfl, hm, hT.more h1 h2 (by omega) (Nat.le_refl _)⟩
theorem FNet.form {w : World} {lo hi : Nat} {v : Value} {n : NNet} (h : FNet w lo hi v n) : ∃ b', v = .agg #[.int .i64 n.places, .slice (some ⟨b', 0, none⟩) n.tasks.length n.tasks.length] := by
  obtain ⟨b', ms, rfl, _⟩ := h
  exact ⟨b', rfl⟩
theorem FNet.keep {w w' : World} {lo hi : Nat} {v : Value} {n : NNet} (h : FNet w lo hi v n) (hk : ∀ g, lo ≤ g → g < hi → w'.heap[g]? = w.heap[g]?) : FNet w' lo hi v n := by
  obtain ⟨b', ms, rfl, hm, h1, h2, hT⟩ := h
  exact ⟨b', ms, rfl, hm, h1, h2, hT.keep (fun g h3 h4 => hk g (by omega) (by omega)) (fun g h3 h4 => hk g (by omega) (by omega))⟩
theorem FNet.below {w w' : World} {lo hi B : Nat} {v : Value} {n : NNet} (h : FNet w lo hi v n) (hb : Below B w w') (hB : hi ≤ B) : FNet w' lo hi v n := h.keep fun g _ h2 => hb.block g (by omega)

theorem netSize_small {n : NNet} (h : netSize n ≤ 1048576) : n.tasks.length ≤ 1048576 ∧ ∀ t ∈ n.tasks, taskSmall t := by
  have := tasksSize_pos n.tasks
  unfold netSize at h
  refine ⟨by omega, fun t ht => ?_⟩
  have := tasksSize_mem ht
  unfold taskSize at this
  exact ⟨by omega, by omega, by omega⟩

theorem toNetNet_c (n : NNet) (v : Value) (lo hi : Nat) (w : World) (hV : NetV w lo hi v n) (hhi : hi ≤ w.heap.size) (hs : netSize n ≤ 1048576) :
    Calls Try.prog 6 #[v] w fun e w' => ∃ u, e = .returned u ∧ FNet w' w.heap.size w'.heap.size u n ∧ Below w.heap.size w w' := by
  obtain ⟨hs1, hs2⟩ := netSize_small hs
  obtain ⟨A, b, off, c, ms, rfl, hm, hT⟩ := hV
  have HS1 := Lib.hid hs1
  go_enter Try.func6, Try.ntmps6
  go_wp2_with fail
  refine (toNetTaskS_c n.tasks ms lo hi lo hi A b off c _ (hT.keep (fun g _ h => ?_) (fun g _ h => ?_)) (by simp; omega) (by simp; omega) hs1 hs2).mono ?_
  · exact (Below.heap_alloc _ _ g (by simp; omega)).trans ((Below.heap_alloc _ _ g (by simp; omega)).trans (Below.heap_alloc _ _ g (by omega)))
  · exact (Below.heap_alloc _ _ g (by simp; omega)).trans ((Below.heap_alloc _ _ g (by simp; omega)).trans (Below.heap_alloc _ _ g (by omega)))
  rintro e w1 ⟨b', ms', rfl, hl, hg, hT1, hb1⟩
  have R1 := ((Row.newAt (w.alloc _) _ _ (w.heap.size + 1) (by simp)).alloc (by simp) _).below hb1 (by simp)
  have R2 := (Row.newAt ((w.alloc _).alloc _) _ _ (w.heap.size + 1 + 1) (by simp)).below hb1 (by simp)
  have x0 := R1.cell (j := 0) rfl
  have x1 := R1.cell (j := 1) rfl
  have y0 := R2.cell (j := 0) rfl
  have y1 := R2.cell (j := 1) rfl
  simp only [World.size_alloc] at hl
  have HB1 := Lib.hid ((((Below.refl w.heap.size w).alloc (Nat.le_refl _) _).alloc (by simp) _).alloc (by simp; omega) _ |>.trans (hb1.mono (by simp; omega)))
  have HT1 := Lib.hid hT1
  have HL := Lib.hid (And.intro hl hg)
  clear hb1 R1 R2 hT1 hl hg hT hs2 hs1
  obtain ⟨x0, fx0⟩ := x0
  obtain ⟨x1, fx1⟩ := x1
  obtain ⟨y0, fy0⟩ := y0
  obtain ⟨y1, fy1⟩ := y1
  go_wp2
  have hU := upd_put (lo := w.heap.size + 1) (hi := w.heap.size + 1 + 1 + 1) (b := w.heap.size + 1) (Nat.le_refl _) (by omega) [.int .i64 n.places, .slice (some ⟨b', 0, none⟩) n.tasks.length n.tasks.length] 0 (upd_put (b := w.heap.size + 1 + 1) (by omega) (by omega) [.slice (some ⟨b', 0, none⟩) n.tasks.length n.tasks.length] 1 (Upd.refl (w.heap.size + 1) (w.heap.size + 1 + 1 + 1) w1))
  refine bodyPost_ret (v := .agg #[.int .i64 n.places, .slice (some ⟨b', 0, none⟩) n.tasks.length n.tasks.length]) (by simp [results, Try.results6, go_sem, x0, x1, y0, y1, fx0, fx1, fy0, fy1]) rfl ⟨_, rfl, ?_, ?_⟩
  · have hl := HL.out
    have h : FNet w1 w.heap.size w1.heap.size _ n := ⟨b', ms', rfl, by have := HS1.out; unfold maxLen; omega, by omega, hl.2, HT1.out⟩
    rw [← hU.size] at h
    obtain ⟨c', ms2, e, h1, h2, h3, h4⟩ := h
    refine ⟨c', ms2, e, h1, h2, h3, h4.keep (fun g h5 h6 => hU.block g ?_) (fun g h5 h6 => hU.block g ?_)⟩
    all_goals (simp only [Value.agg.injEq, Array.mk.injEq, List.cons.injEq, Value.slice.injEq, Option.some.injEq, Addr.mk.injEq] at e; omega)
  · exact HB1.out.trans (hU.below (by omega))
end Go.Proofs.Ytjbfkgckpbpdeaa

/- The laws' comparisons of flows, tasks, nets and items: what reads alike is alike. -/
namespace Go.Proofs.Ytjbfkgckpbpdeaa
open Go.RowKit
set_option linter.unusedVariables false
set_option linter.unusedSimpArgs false

theorem eqExpAsk_t (o v k : Int) (w : World) :
    Calls Try.prog 73 #[.agg #[.int .i64 o, .int .i64 v, .int .i64 k], .agg #[.int .i64 o, .int .i64 v, .int .i64 k]] w fun e w' => e = .returned (.bool true) ∧ Below w.heap.size w w' := by
  go_enter Try.func73, Try.ntmps73
  go_wp2
  go_ret
  exact ⟨rfl, ((Below.refl w.heap.size w).alloc (Nat.le_refl _) _).alloc (by simp) _⟩
theorem eqNetFlow_t (a o v k : Int) (w : World) :
    Calls Try.prog 68 #[.agg #[.int .i64 a, .int .i64 o, .int .i64 v, .int .i64 k], .agg #[.int .i64 a, .int .i64 o, .int .i64 v, .int .i64 k]] w fun e w' => e = .returned (.bool true) ∧ Below w.heap.size w w' := by
  go_enter Try.func68, Try.ntmps68
  go_wp2_with (go_at_call 73; refine (eqExpAsk_t _ _ _ _).mono ?_; rintro e w1 ⟨rfl, hb1⟩)
  go_ret
  exact ⟨rfl, (((Below.refl w.heap.size w).alloc (Nat.le_refl _) _).alloc (by simp) _).trans (hb1.mono (by simp; omega))⟩

set_option maxRecDepth 10000 in
set_option maxHeartbeats 1000000 in
theorem eqNetFlowS_t (l : List NFlow) (lo hi lo' hi' : Nat) (A B : Option Addr) (b off c b' off' c' : Nat) (w : World) (hV : Row w lo hi A b off (flowCells l)) (hU : Row w lo' hi' B b' off' (flowCells l)) (hhi : hi ≤ w.heap.size) (hhi' : hi' ≤ w.heap.size) (hm : l.length ≤ maxLen) :
    Calls Try.prog 57 #[.slice A l.length c, .slice B l.length c'] w fun e w' => e = .returned (.bool true) ∧ Below w.heap.size w w' := by
  unfold maxLen at hm
  go_enter Try.func57, Try.ntmps57
  go_wp2
  go_loopw [5] (fun i wr => ∃ k : Nat, k ≤ l.length ∧ i = .int .i64 k ∧ Below w.heap.size w wr) (fun i _ => l.length - (intOf i).toNat)
  case atStart => exact ⟨0, Nat.zero_le _, rfl, Below.refl _ _⟩
  case round =>
    obtain ⟨k, hk, rfl, hb⟩ := hrel
    by_cases hlt : k < l.length
    · obtain ⟨rfl, _, h3, x, hx, ⟨c0, c1, c2, c3⟩, _⟩ := hV.flow hlt
      obtain ⟨rfl, _, h4, x', hx', ⟨d0, d1, d2, d3⟩, _⟩ := hU.flow hlt
      have e := hx.symm.trans hx'
      injection e with e
      subst e
      replace c0 := (hb.cell (p := ⟨b, off + k * 4, none⟩) (by show b < _; omega)).trans c0
      replace c1 := (hb.cell (p := ⟨b, off + k * 4 + 1, none⟩) (by show b < _; omega)).trans c1
      replace c2 := (hb.cell (p := ⟨b, off + k * 4 + 2, none⟩) (by show b < _; omega)).trans c2
      replace c3 := (hb.cell (p := ⟨b, off + k * 4 + 3, none⟩) (by show b < _; omega)).trans c3
      replace d0 := (hb.cell (p := ⟨b', off' + k * 4, none⟩) (by show b' < _; omega)).trans d0
      replace d1 := (hb.cell (p := ⟨b', off' + k * 4 + 1, none⟩) (by show b' < _; omega)).trans d1
      replace d2 := (hb.cell (p := ⟨b', off' + k * 4 + 2, none⟩) (by show b' < _; omega)).trans d2
      replace d3 := (hb.cell (p := ⟨b', off' + k * 4 + 3, none⟩) (by show b' < _; omega)).trans d3
      have hlt1 : (k : Int) < (l.length : Int) := by omega
      have HB := Lib.hid hb
      clear hb hx hx' hV hU
      go_wp2
      go_still_tail 8, (by kernel_rfl)
      change wpList _ _ _ _ _ wr.drew
      go_wp2_with fail
      refine (eqNetFlow_t _ _ _ _ _).mono ?_
      rintro e w2 ⟨rfl, hb2⟩
      have HB2 := Lib.hid (HB.out.drew.trans (hb2.mono HB.out.size))
      clear hb2
      go_wp2_with fail
      go_roundw
      case rel => exact ⟨k + 1, by omega, by go_num, HB2.out⟩
      case measure => simp [intOf]; omega
    · have HB := Lib.hid hb
      clear hb hV hU
      go_wp2
      go_ret
      exact ⟨rfl, HB.out⟩


set_option maxRecDepth 10000 in
set_option maxHeartbeats 1000000 in
theorem eqNetTask_t (t : NTask) (vi vo vc vi' vo' vc' : Value) (lo hi lo' hi' : Nat) (w : World) (hV : TaskV w lo hi t vi vo vc) (hU : TaskV w lo' hi' t vi' vo' vc') (hhi : hi ≤ w.heap.size) (hhi' : hi' ≤ w.heap.size) :
    Calls Try.prog 31 #[.agg #[.int .i64 t.join, .int .i64 t.split, vi, vo, vc, .int .i64 t.role, .int .i64 t.apart, .int .i64 t.all, .int .i64 t.need], .agg #[.int .i64 t.join, .int .i64 t.split, vi', vo', vc', .int .i64 t.role, .int .i64 t.apart, .int .i64 t.all, .int .i64 t.need]] w
      fun e w' => e = .returned (.bool true) ∧ Below w.heap.size w w' := by
  obtain ⟨⟨Ai, bi, oi, ci, rfl, hmi, hRi⟩, ⟨Ao, bo, oo, co, rfl, hmo, hRo⟩, ⟨Ac, bc, oc, cc, rfl, hmc, hRc⟩⟩ := hV
  obtain ⟨⟨Bi, di, pi, ei, rfl, _, hSi⟩, ⟨Bo, d_o, po, eo, rfl, _, hSo⟩, ⟨Bc, dc, pc, ec, rfl, _, hSc⟩⟩ := hU
  go_enter Try.func31, Try.ntmps31
  go_wp2_with fail
  refine (eqIntS_c t.ins t.ins lo hi lo' hi' Ai Bi bi oi ci di pi ei _ ((hRi.alloc hhi _).alloc (by simp; omega) _) ((hSi.alloc hhi' _).alloc (by simp; omega) _) hmi hmi).mono ?_
  rintro e w1 ⟨rfl, hb1⟩
  rw [decide_eq_true (rfl : t.ins = t.ins)]
  have R0 := ((Row.newAt w _ _ _ rfl).alloc (by simp) _).below hb1 (by simp)
  have R1 := (Row.newAt (w.alloc _) _ _ (w.heap.size + 1) (by simp)).below hb1 (by simp)
  have hB1 : Below w.heap.size w w1 := ((Below.refl w.heap.size w).alloc (Nat.le_refl _) _).alloc (by simp) _ |>.trans (hb1.mono (by simp; omega))
  have hz : w.heap.size + 1 + 1 ≤ w1.heap.size := by simpa using hb1.size
  obtain ⟨⟨c0, c1, c2, c3, c4, c5, c6, c7, c8⟩, _⟩ := Row.nine R0
  obtain ⟨⟨d0, d1, d2, d3, d4, d5, d6, d7, d8⟩, _⟩ := Row.nine R1
  have HR0 := Lib.hid R0
  have HR1 := Lib.hid R1
  have HB := Lib.hid hB1
  have HZ := Lib.hid hz
  clear R0 R1 hB1 hb1 hz
  go_wp2_with fail
  refine (eqNetFlowS_t t.out lo hi lo' hi' Ao Bo bo oo co d_o po eo _ (hRo.below HB.out hhi) (hSo.below HB.out hhi') (Nat.le_trans hhi HB.out.size) (Nat.le_trans hhi' HB.out.size) hmo).mono ?_
  rintro e w2 ⟨rfl, hb⟩
  have R0 := HR0.out.below hb (by have := HZ.out; omega)
  have R1 := HR1.out.below hb (by have := HZ.out; omega)
  have hB := HB.out.trans (hb.mono HB.out.size)
  have hz := Nat.le_trans HZ.out hb.size
  clear HR0 HR1 HB HZ c0 d0 c1 d1 c2 d2 c3 d3 c4 d4 c5 d5 c6 d6 c7 d7 c8 d8
  obtain ⟨⟨c0, c1, c2, c3, c4, c5, c6, c7, c8⟩, _⟩ := Row.nine R0
  obtain ⟨⟨d0, d1, d2, d3, d4, d5, d6, d7, d8⟩, _⟩ := Row.nine R1
  have HR0 := Lib.hid R0
  have HR1 := Lib.hid R1
  have HB := Lib.hid hB
  have HZ := Lib.hid hz
  clear R0 R1 hB hb hz
  go_wp2_with fail
  refine (eqIntS_c t.clear t.clear lo hi lo' hi' Ac Bc bc oc cc dc pc ec _ (hRc.below HB.out hhi) (hSc.below HB.out hhi') hmc hmc).mono ?_
  rintro e w3 ⟨rfl, hb⟩
  rw [decide_eq_true (rfl : t.clear = t.clear)]
  have R0 := HR0.out.below hb (by have := HZ.out; omega)
  have R1 := HR1.out.below hb (by have := HZ.out; omega)
  have hB := HB.out.trans (hb.mono HB.out.size)
  have hz := Nat.le_trans HZ.out hb.size
  clear HR0 HR1 HB HZ c0 d0 c1 d1 c2 d2 c3 d3 c4 d4 c5 d5 c6 d6 c7 d7 c8 d8
  obtain ⟨⟨c0, c1, c2, c3, c4, c5, c6, c7, c8⟩, _⟩ := Row.nine R0
  obtain ⟨⟨d0, d1, d2, d3, d4, d5, d6, d7, d8⟩, _⟩ := Row.nine R1
  have HR0 := Lib.hid R0
  have HR1 := Lib.hid R1
  have HB := Lib.hid hB
  have HZ := Lib.hid hz
  clear R0 R1 hB hb hz
  go_wp2
  go_ret
  exact ⟨rfl, HB.out⟩

set_option maxRecDepth 10000 in
set_option maxHeartbeats 1000000 in
theorem eqNetTaskS_t (l : List NTask) (ms ms' : List TaskM) (lo hi lo' hi' p0 p1 q0 q1 : Nat) (A B : Option Addr) (b off c b' off' c' : Nat) (w : World) (hV : TasksV w lo hi p0 p1 A b off l ms) (hU : TasksV w lo' hi' q0 q1 B b' off' l ms') (hhi : hi ≤ w.heap.size) (hhi' : hi' ≤ w.heap.size) (hp1 : p1 ≤ w.heap.size) (hq1 : q1 ≤ w.heap.size) (hm : l.length ≤ maxLen) :
    Calls Try.prog 19 #[.slice A l.length c, .slice B l.length c'] w fun e w' => e = .returned (.bool true) ∧ Below w.heap.size w w' := by
  unfold maxLen at hm
  go_enter Try.func19, Try.ntmps19
  go_wp2
  go_loopw [5] (fun i wr => ∃ k : Nat, k ≤ l.length ∧ i = .int .i64 k ∧ Below w.heap.size w wr) (fun i _ => l.length - (intOf i).toNat)
  case atStart => exact ⟨0, Nat.zero_le _, rfl, Below.refl _ _⟩
  case round =>
    obtain ⟨k, hk, rfl, hb⟩ := hrel
    by_cases hlt : k < l.length
    · obtain ⟨rfl, _, h3, t, vi, vo, vc, hx, _, hT, ⟨c0, c1, c2, c3, c4, c5, c6, c7, c8⟩, _⟩ := hV.task hlt
      obtain ⟨rfl, _, h4, t', vi', vo', vc', hx', _, hT', ⟨d0, d1, d2, d3, d4, d5, d6, d7, d8⟩, _⟩ := hU.task hlt
      have e := hx.symm.trans hx'
      injection e with e
      subst e
      replace c0 := (hb.cell (p := ⟨b, off + k * 9, none⟩) (by show b < _; omega)).trans c0
      replace c1 := (hb.cell (p := ⟨b, off + k * 9 + 1, none⟩) (by show b < _; omega)).trans c1
      replace c2 := (hb.cell (p := ⟨b, off + k * 9 + 2, none⟩) (by show b < _; omega)).trans c2
      replace c3 := (hb.cell (p := ⟨b, off + k * 9 + 3, none⟩) (by show b < _; omega)).trans c3
      replace c4 := (hb.cell (p := ⟨b, off + k * 9 + 4, none⟩) (by show b < _; omega)).trans c4
      replace c5 := (hb.cell (p := ⟨b, off + k * 9 + 5, none⟩) (by show b < _; omega)).trans c5
      replace c6 := (hb.cell (p := ⟨b, off + k * 9 + 6, none⟩) (by show b < _; omega)).trans c6
      replace c7 := (hb.cell (p := ⟨b, off + k * 9 + 7, none⟩) (by show b < _; omega)).trans c7
      replace c8 := (hb.cell (p := ⟨b, off + k * 9 + 8, none⟩) (by show b < _; omega)).trans c8
      replace d0 := (hb.cell (p := ⟨b', off' + k * 9, none⟩) (by show b' < _; omega)).trans d0
      replace d1 := (hb.cell (p := ⟨b', off' + k * 9 + 1, none⟩) (by show b' < _; omega)).trans d1
      replace d2 := (hb.cell (p := ⟨b', off' + k * 9 + 2, none⟩) (by show b' < _; omega)).trans d2
      replace d3 := (hb.cell (p := ⟨b', off' + k * 9 + 3, none⟩) (by show b' < _; omega)).trans d3
      replace d4 := (hb.cell (p := ⟨b', off' + k * 9 + 4, none⟩) (by show b' < _; omega)).trans d4
      replace d5 := (hb.cell (p := ⟨b', off' + k * 9 + 5, none⟩) (by show b' < _; omega)).trans d5
      replace d6 := (hb.cell (p := ⟨b', off' + k * 9 + 6, none⟩) (by show b' < _; omega)).trans d6
      replace d7 := (hb.cell (p := ⟨b', off' + k * 9 + 7, none⟩) (by show b' < _; omega)).trans d7
      replace d8 := (hb.cell (p := ⟨b', off' + k * 9 + 8, none⟩) (by show b' < _; omega)).trans d8
      have HT := Lib.hid (hT.keep (w' := wr.drew) fun g _ h => hb.block g (by omega))
      have HT2 := Lib.hid (hT'.keep (w' := wr.drew) fun g _ h => hb.block g (by omega))
      have hlt1 : (k : Int) < (l.length : Int) := by omega
      have HB := Lib.hid hb
      clear hb hx hx' hV hU hT hT'
      go_wp2
      go_still_tail 8, (by kernel_rfl)
      change wpList _ _ _ _ _ wr.drew
      go_wp2_with fail
      refine (eqNetTask_t t vi vo vc vi' vo' vc' p0 p1 q0 q1 _ HT.out HT2.out (Nat.le_trans hp1 HB.out.size) (Nat.le_trans hq1 HB.out.size)).mono ?_
      rintro e w2 ⟨rfl, hb2⟩
      have HB2 := Lib.hid (HB.out.drew.trans (hb2.mono HB.out.size))
      clear hb2
      go_wp2_with fail
      go_roundw
      case rel => exact ⟨k + 1, by omega, by go_num, HB2.out⟩
      case measure => simp [intOf]; omega
    · have HB := Lib.hid hb
      clear hb hV hU
      go_wp2
      go_ret
      exact ⟨rfl, HB.out⟩

theorem eqNetNet_t (n : NNet) (v u : Value) (lo hi lo' hi' : Nat) (w : World) (hV : NetV w lo hi v n) (hU : NetV w lo' hi' u n) (hhi : hi ≤ w.heap.size) (hhi' : hi' ≤ w.heap.size) :
    Calls Try.prog 9 #[v, u] w fun e w' => e = .returned (.bool true) ∧ Below w.heap.size w w' := by
  obtain ⟨A, b, off, c, ms, rfl, hm, hT⟩ := hV
  obtain ⟨B, b', off', c', ms', rfl, _, hS⟩ := hU
  go_enter Try.func9, Try.ntmps9
  go_wp2_with fail
  refine (eqNetTaskS_t n.tasks ms ms' lo hi lo' hi' lo hi lo' hi' A B b off c b' off' c' _ (hT.keep (fun g _ h => ?_) (fun g _ h => ?_)) (hS.keep (fun g _ h => ?_) (fun g _ h => ?_)) (by simp; omega) (by simp; omega) (by simp; omega) (by simp; omega) hm).mono ?_
  · exact (Below.heap_alloc _ _ g (by simp; omega)).trans (Below.heap_alloc _ _ g (by omega))
  · exact (Below.heap_alloc _ _ g (by simp; omega)).trans (Below.heap_alloc _ _ g (by omega))
  · exact (Below.heap_alloc _ _ g (by simp; omega)).trans (Below.heap_alloc _ _ g (by omega))
  · exact (Below.heap_alloc _ _ g (by simp; omega)).trans (Below.heap_alloc _ _ g (by omega))
  rintro e w1 ⟨rfl, hb1⟩
  have HB := Lib.hid (((Below.refl w.heap.size w).alloc (Nat.le_refl _) _).alloc (by simp) _ |>.trans (hb1.mono (by simp; omega)))
  clear hb1
  go_wp2
  go_ret
  exact ⟨rfl, HB.out⟩
end Go.Proofs.Ytjbfkgckpbpdeaa
