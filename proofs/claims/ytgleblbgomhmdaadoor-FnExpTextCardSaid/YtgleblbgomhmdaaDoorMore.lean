/- Words for memory: a slice that reads as a list of cells ('Row'), what keeps it, and small closers. No function of the program is spoken of. -/
import Derived.Test.YtgleblbgomhmdaaDoorChecked
import Derived.WalkKit
import Derived.WalkLawsBesides
import Derived.WalkSpells
import Derived.BigQuiet
import Derived.Deep.QuietTactic
import Derived.Lib.Hide
import Derived.Laws.AppendOwnNone
import Derived.Deep.RegionHeld3
namespace Go.Proofs.YtgleblbgomhmdaaDoor
open Go.RowKit
set_option linter.unusedVariables false
set_option linter.unusedSimpArgs false

theorem ret_bool {a b : Bool} (h : a = b) : Ending.returned (.bool a) = .returned (.bool b) := by rw [h]
theorem ret_int {k : IntKind} {a b : Int} (h : a = b) : Ending.returned (.int k a) = .returned (.int k b) := by rw [h]

theorem below_le {B B' : Nat} {w w' : World} (h : Below B w w') (hb : B' ≤ B) : Below B' w w' := h.mono hb
theorem below_drewN {B : Nat} {a w : World} (h : Below B a w) (n : Nat) : Below B a (w.drewN n) := ⟨h.os, h.tape, h.output, h.size, h.block⟩
theorem below_draws (B : Nat) (w : World) (n : Nat) : Below B w (w.drewN n) := ⟨rfl, rfl, rfl, Nat.le_refl _, fun _ _ => rfl⟩
theorem bcell {W w1 : World} (hb : Below W.heap.size W w1) : (∀ b o, b < W.heap.size → w1.cell? ⟨b, o, none⟩ = W.cell? ⟨b, o, none⟩) ∧ (∀ b o, b < W.heap.size → w1.frozen? ⟨b, o, none⟩ = W.frozen? ⟨b, o, none⟩) :=
  ⟨fun b o h => hb.cell (p := ⟨b, o, none⟩) h, fun b o h => hb.frozen (p := ⟨b, o, none⟩) h⟩

/-- The slice of address A reads as the cells xs: they lie in block b from place off on, b from lo on and ahead of hi, and may be written. -/
def Row (w : World) (lo hi : Nat) (A : Option Addr) (b off : Nat) (xs : List Value) : Prop :=
  (xs ≠ [] → A = some ⟨b, off, none⟩ ∧ lo ≤ b ∧ b < hi) ∧ ∀ j u, xs[j]? = some u → w.cell? ⟨b, off + j, none⟩ = some u ∧ w.frozen? ⟨b, off + j, none⟩ = false

section
variable {w w' : World} {lo hi lo' hi' b off : Nat} {A : Option Addr} {xs : List Value}
theorem Row.ref (h : Row w lo hi A b off xs) {k : Nat} (hk : k < xs.length) : A = some ⟨b, off, none⟩ ∧ lo ≤ b ∧ b < hi :=
  h.1 (by intro e; subst e; simp at hk)
theorem Row.nil_ : Row w lo hi A b off [] := ⟨fun h => absurd rfl h, fun j u h => by simp at h⟩
theorem Row.at_ (h : Row w lo hi A b off xs) {k : Nat} (hk : k < xs.length) : ∃ u, xs[k]? = some u ∧ w.cell? ⟨b, off + k, none⟩ = some u ∧ w.frozen? ⟨b, off + k, none⟩ = false :=
  ⟨xs[k], List.getElem?_eq_getElem hk, (h.2 k _ (List.getElem?_eq_getElem hk)).1, (h.2 k _ (List.getElem?_eq_getElem hk)).2⟩
theorem Row.keep (h : Row w lo hi A b off xs) (hk : ∀ g, lo ≤ g → g < hi → w'.heap[g]? = w.heap[g]?) : Row w' lo hi A b off xs :=
  ⟨h.1, fun j u hu => by
    have hj : j < xs.length := (List.getElem?_eq_some_iff.1 hu).1
    obtain ⟨_, h1, h2⟩ := h.ref hj
    have e := hk b h1 h2
    exact ⟨(World.cell?_of_block (a := ⟨b, off + j, none⟩) e).trans (h.2 j u hu).1, (World.frozen?_of_block (a := ⟨b, off + j, none⟩) e).trans (h.2 j u hu).2⟩⟩
theorem Row.more (h : Row w lo hi A b off xs) (h1 : lo' ≤ lo) (h2 : hi ≤ hi') : Row w lo' hi' A b off xs :=
  ⟨fun hn => ⟨(h.1 hn).1, by have := (h.1 hn).2.1; omega, by have := (h.1 hn).2.2; omega⟩, h.2⟩
theorem Row.below {B : Nat} (h : Row w lo hi A b off xs) (hb : Below B w w') (hB : hi ≤ B) : Row w' lo hi A b off xs := h.keep fun g _ h2 => hb.block g (by omega)
theorem Row.drewN (h : Row w lo hi A b off xs) (n : Nat) : Row (w.drewN n) lo hi A b off xs := h
theorem Row.drew (h : Row w lo hi A b off xs) : Row w.drew lo hi A b off xs := h
theorem Row.alloc (h : Row w lo hi A b off xs) (hB : hi ≤ w.heap.size) (o : Obj) : Row (w.alloc o) lo hi A b off xs := h.keep fun g _ h2 => Below.heap_alloc w o g (by omega)
theorem Row.setCell (h : Row w lo hi A b off xs) {p : Addr} (hp : p.block < lo ∨ hi ≤ p.block) (u : Value) : Row (w.setCell p u) lo hi A b off xs :=
  h.keep fun g h1 h2 => Below.heap_setCell w p u g (by omega)
end

theorem Tryd.info3 : (Tryd.prog.info? 3).map (fun i => (i.zero, i.size, i.bytes)) = some (some (.int .i64 0), 1, 8) := by kernel_rfl

/-- Numbers as cells. -/
abbrev ints (zs : List Int) : List Value := zs.map (Value.int .i64)
theorem ints_at {zs : List Int} {k : Nat} {x : Int} (h : zs[k]? = some x) : (ints zs)[k]? = some (.int .i64 x) := by simp [h]
theorem Row.int {w : World} {lo hi b off : Nat} {A : Option Addr} {zs : List Int} (h : Row w lo hi A b off (ints zs)) {k : Nat} (hk : k < zs.length) :
    A = some ⟨b, off, none⟩ ∧ lo ≤ b ∧ b < hi ∧ ∃ x, zs[k]? = some x ∧ w.cell? ⟨b, off + k, none⟩ = some (.int .i64 x) ∧ w.frozen? ⟨b, off + k, none⟩ = false := by
  obtain ⟨h1, h2, h3⟩ := h.ref (k := k) (by simpa using hk)
  exact ⟨h1, h2, h3, zs[k], List.getElem?_eq_getElem hk, h.2 k _ (ints_at (List.getElem?_eq_getElem hk))⟩
theorem addr_add0 (b off j : Nat) : (⟨b, off, none⟩ : Addr).add j = ⟨b, off + j, none⟩ := by
  unfold Addr.add; split <;> simp_all
/-- What the call owns reads as a row. -/
theorem Row.of_own {w : World} {base : Nat} {e : TypeId} {A : Option Addr} {n c : Nat} {size : Nat} {xs : List Value} (h : w.ownsRow base e size (.slice A n c) n xs) : ∃ b, Row w base w.heap.size A b 0 xs := by
  rcases h.2 with ⟨hv, rfl⟩ | ⟨g, cap, cur, hv, hg, hh, _⟩
  · have hx : xs = [] := List.eq_nil_of_length_eq_zero (by simpa using h.1)
    subst hx; exact ⟨0, Row.nil_⟩
  · have hA : A = some ⟨g, 0, none⟩ := by injection hv
    subst hA
    have hlt := (h.lt g (by simp [Value.ownBlock])).2
    exact ⟨g, fun _ => ⟨rfl, hg, hlt⟩, fun j u hu => ⟨by have := h.cells (g := g) rfl j u hu; rw [addr_add0] at this; simpa using this, by simp [World.frozen?, hh]⟩⟩

theorem take_succ_of {α : Type} {l : List α} {k : Nat} {x : α} (h : l[k]? = some x) : l.take (k + 1) = l.take k ++ [x] := by
  rw [List.take_add_one, h]; rfl
theorem lt_of_some {α : Type} {l : List α} {k : Nat} {x : α} (h : l[k]? = some x) : k < l.length := (List.getElem?_eq_some_iff.1 h).1
end Go.Proofs.YtgleblbgomhmdaaDoor

/- Marks: numbers written into a row, and read back. -/
namespace Go.Proofs.YtgleblbgomhmdaaDoor
open Go.RowKit
set_option linter.unusedVariables false
set_option linter.unusedSimpArgs false

/-- w' is w but for writes to blocks from lo on and ahead of hi. -/
structure Upd (lo hi : Nat) (w w' : World) : Prop where
  os : w'.os = w.os
  tape : w'.tape = w.tape
  output : w'.output = w.output
  size : w'.heap.size = w.heap.size
  block : ∀ g, ¬ (lo ≤ g ∧ g < hi) → w'.heap[g]? = w.heap[g]?
theorem Upd.refl (lo hi : Nat) (w : World) : Upd lo hi w w := ⟨rfl, rfl, rfl, rfl, fun _ _ => rfl⟩
theorem Upd.trans {lo hi : Nat} {a b c : World} (h : Upd lo hi a b) (k : Upd lo hi b c) : Upd lo hi a c :=
  ⟨k.os.trans h.os, k.tape.trans h.tape, k.output.trans h.output, k.size.trans h.size, fun g hg => (k.block g hg).trans (h.block g hg)⟩
theorem Upd.setCell {lo hi : Nat} {a w : World} (h : Upd lo hi a w) {p : Addr} (h1 : lo ≤ p.block) (h2 : p.block < hi) (u : Value) : Upd lo hi a (w.setCell p u) :=
  h.trans ⟨rfl, rfl, rfl, by simp [World.setCell], fun g hg => Below.heap_setCell w p u g (by rintro rfl; exact hg ⟨h1, h2⟩)⟩
theorem Upd.below {lo hi B : Nat} {w w' : World} (h : Upd lo hi w w') (hB : B ≤ lo) : Below B w w' := ⟨h.os, h.tape, h.output, by rw [h.size]; exact Nat.le_refl _, fun g hg => h.block g (by omega)⟩
theorem Upd.drewN {lo hi : Nat} {a w : World} (h : Upd lo hi a w) (n : Nat) : Upd lo hi a (w.drewN n) := ⟨h.os, h.tape, h.output, h.size, h.block⟩
theorem Upd.more {lo hi lo' hi' : Nat} {a w : World} (h : Upd lo hi a w) (h1 : lo' ≤ lo) (h2 : hi ≤ hi') : Upd lo' hi' a w := ⟨h.os, h.tape, h.output, h.size, fun g hg => h.block g (by omega)⟩
theorem Row.upd {w w' : World} {lo hi lo' hi' b off : Nat} {A : Option Addr} {xs : List Value} (h : Row w lo' hi' A b off xs) (hu : Upd lo hi w w') (hd : hi' ≤ lo ∨ hi ≤ lo') : Row w' lo' hi' A b off xs :=
  h.keep fun g h1 h2 => hu.block g (by omega)

theorem cell_setCell_same {w : World} {p : Addr} {u v : Value} (h : w.cell? p = some v) : (w.setCell p u).cell? p = some u := World.cell?_setCell_same _ _ _ h
/-- One cell of a row is stored. -/
theorem Row.set_ {w : World} {lo hi b off : Nat} {A : Option Addr} {xs : List Value} (h : Row w lo hi A b off xs) (k : Nat) (u : Value) (hk : k < xs.length) : Row (w.setCell ⟨b, off + k, none⟩ u) lo hi A b off (xs.set k u) := by
  refine ⟨fun _ => h.ref hk, fun j v hj => ?_⟩
  have hf : (w.setCell ⟨b, off + k, none⟩ u).frozen? ⟨b, off + j, none⟩ = w.frozen? ⟨b, off + j, none⟩ := World.frozen?_setCell _ _ _ _
  rw [List.getElem?_set] at hj
  by_cases hjk : k = j
  · subst hjk
    rw [if_pos rfl, if_pos hk] at hj
    injection hj with hj
    subst hj
    obtain ⟨u0, _, hc, hz⟩ := h.at_ hk
    exact ⟨cell_setCell_same hc, hf.trans hz⟩
  · rw [if_neg hjk] at hj
    obtain ⟨hc, hz⟩ := h.2 j v hj
    exact ⟨(World.cell?_setCell_other _ _ _ _ (by intro e; simp only [Addr.mk.injEq] at e; omega)).trans hc, hf.trans hz⟩

/-- k, k + 1, .. : n of them. -/
def marks (k : Int) (n : Nat) : List Int := (List.range n).map fun i : Nat => k + (i : Int)
theorem marks_length (k : Int) (n : Nat) : (marks k n).length = n := by simp [marks]
theorem marks_at (k : Int) (n j : Nat) (h : j < n) : (marks k n)[j]? = some (k + (j : Int)) := by simp [marks, h]


end Go.Proofs.YtgleblbgomhmdaaDoor

/- An append onto a slice that the call owns, from whatever slice that reads as a row: nil, empty or not. -/
namespace Go.Proofs.YtgleblbgomhmdaaDoor
open Go.RowKit
set_option linter.unusedVariables false
set_option linter.unusedSimpArgs false

theorem run_append_none_c {P : Program} {w : World} (base : Nat) (t ty e : TypeId) (i : TypeInfo) (size : Nat) (ht : P.underlying t = some (.slice e)) (hi : P.info? e = some i)
    (v : Value) (n : Nat) (xs : List Value) (hown : w.ownsRow base e size v n xs) (c : Nat) : (Builtin.append_ #[t, t] ty #[v, .slice none 0 c]).run P w = .ok v w := by
  rcases hown.2 with ⟨rfl, rfl⟩ | ⟨g, cap, cur, rfl, _, _, hnc, _⟩
  · simp [Builtin.append_, run_underlying ht, sizeOf, typeInfo, hi, Builtin.lenOf, Builtin.firstCells]
  · simp [Builtin.append_, run_underlying ht, sizeOf, typeInfo, hi, Builtin.lenOf, Builtin.firstCells, hnc, storeCells]

theorem wpList_append_row {P : Program} {w : World} {ops : Array Oper} {rest : List Oper} {o : Oper} {a : Act} {Q : Exit → Act → World → Prop} (hgd : o.guard = none) (s x : Operand) (t : TypeId)
    (ho : o.op = .call { callee := .builtin .append, args := #[s, x], argTypes := #[t, t] })
    (base : Nat) (e : TypeId) (i : TypeInfo) (z : Value) (size bytes : Nat) (ht : P.underlying t = some (.slice e)) (hi : P.info? e = some i) (hz : i.zero = some z)
    (hsize : i.size = size) (hby : i.bytes = bytes) (hzs : z.cells.size = size) (hsz : 0 < size)
    (v : Value) (n : Nat) (xs : List Value) (hs : a.eval s = v) (hown : w.ownsRow base e size v n xs)
    (lo hi' : Nat) (A : Option Addr) (b off m c : Nat) (news : List Value) (hx : a.eval x = .slice A m c) (hl : news.length = m * size) (hr : Row w lo hi' A b off news) (h1 : ∀ u ∈ news, u.oneCell' = true)
    (h63 : n + m ≤ maxLen) (hbytes : (n + m) * bytes ≤ 140737488355328) (hbase : base ≤ w.heap.size)
    (h : ∀ v' w', w'.ownsRow base e size v' (n + m) (xs ++ news) → w.grownBy w' v.ownBlock → wpList P ops Q rest (a.put o.dst v') w') : wpList P ops Q (o :: rest) a w := by
  by_cases hm : m = 0
  · subst hm
    have hn : news = [] := List.eq_nil_of_length_eq_zero (by simpa using hl)
    subst hn
    rcases A with _ | ad
    · refine wpList_plain hgd fun K hK => ?_
      have hrun := run_append_none_c (P := P) (w := w) base t o.type e i size ht hi v n xs hown c
      unfold Oper.wp
      simp [execOp, ho, resolve, invoke, builtin, hs, hx, hrun, Result.andThen]
      exact hK _ _ (h v w (by simpa using hown) (World.grownBy.refl w _))
    · exact wpList_append_own w hgd s x t ho base e i z size bytes ht hi hz hsize hby hzs hsz v n xs hs hown ad 0 c [] hx hl (fun j u hu => by simp at hu) h1 h63 hbytes hbase (fun v' w' h2 h3 _ => h v' w' h2 h3)
  · have hpos : 0 < news.length := by rw [hl]; exact Nat.mul_pos (by omega) hsz
    obtain ⟨rfl, _, _⟩ := hr.ref hpos
    exact wpList_append_own w hgd s x t ho base e i z size bytes ht hi hz hsize hby hzs hsz v n xs hs hown ⟨b, off, none⟩ m c news hx hl
      (fun j u hu => by rw [addr_add0]; exact (hr.2 j u hu).1) h1 h63 hbytes hbase (fun v' w' h2 h3 _ => h v' w' h2 h3)

theorem ints_one (zs : List Int) : ∀ u ∈ ints zs, u.oneCell' = true := ints_oneCell .i64 zs
end Go.Proofs.YtgleblbgomhmdaaDoor

/- The small functions on one datum and one question: each returns what a plain Lean function computes. -/
namespace Go.Proofs.YtgleblbgomhmdaaDoor
open Go.RowKit
set_option linter.unusedVariables false
set_option linter.unusedSimpArgs false

/-- A number lies within bounds. -/
def inB (n low high : Int) : Bool := decide (low ≤ n) && decide (n ≤ high)
theorem inB_iff {n low high : Int} : inB n low high = true ↔ low ≤ n ∧ n ≤ high := by simp [inB]
theorem inB_false {n low high : Int} : inB n low high = false ↔ ¬ (low ≤ n ∧ n ≤ high) := by rw [← inB_iff]; simp
def datumB (n : Int) : Bool := inB n (-99) 99

theorem implIn_c (n low high : Int) (w : World) :
    Calls Tryd.prog 23 #[.int .i64 n, .int .i64 low, .int .i64 high] w fun e w' => e = .returned (.bool (inB n low high)) ∧ w = w' := by
  go_enter Tryd.func23, Tryd.ntmps23
  go_wp2
  all_goals (go_ret; exact ⟨ret_bool (by unfold inB; simp; omega), rfl⟩)

theorem l1In_c (n low high : Int) (w : World) :
    Calls Tryd.prog 25 #[.int .i64 n, .int .i64 low, .int .i64 high] w fun e w' => e = .returned (.bool (inB n low high)) ∧ w = w' := by
  go_enter Tryd.func25, Tryd.ntmps25
  go_wp2
  all_goals (go_ret; exact ⟨ret_bool (by unfold inB; simp; omega), rfl⟩)

theorem isDatum_c (n : Int) (w : World) :
    Calls Tryd.prog 24 #[.int .i64 n] w fun e w' => e = .returned (.bool (datumB n)) ∧ w = w' := by
  go_enter Tryd.func24, Tryd.ntmps24
  go_wp2_with (go_at_call 23; refine (implIn_c _ _ _ _).mono ?_; rintro e w' ⟨rfl, rfl⟩)
  go_ret; exact ⟨rfl, rfl⟩

/-- A question. -/
structure Ask where
  op : Int
  var : Int
  k : Int
  deriving DecidableEq
abbrev Ask.val (e : Ask) : Value := .agg #[.int .i64 e.op, .int .i64 e.var, .int .i64 e.k]
def askOk (e : Ask) : Bool := if e.op = 0 then decide (e.var = 0) && decide (e.k = 0) else inB e.op 1 3 && inB e.var 0 2 && datumB e.k

theorem implExpOk_c (o v k : Int) (w : World) :
    Calls Tryd.prog 13 #[.agg #[.int .i64 o, .int .i64 v, .int .i64 k]] w fun e w' => e = .returned (.bool (askOk ⟨o, v, k⟩)) ∧ Below w.heap.size w w' := by
  go_enter Tryd.func13, Tryd.ntmps13
  go_wp2_with (first
    | (go_at_call 23; refine (implIn_c _ _ _ _).mono ?_; rintro e w' ⟨rfl, rfl⟩)
    | (go_at_call 24; refine (isDatum_c _ _).mono ?_; rintro e w' ⟨rfl, rfl⟩))
  all_goals (go_ret; exact ⟨ret_bool (by first | (simp_all [askOk]; done) | (simp_all [askOk]; rfl)), (Below.refl _ _).alloc (Nat.le_refl _) _⟩)

theorem specExpOk_c (o v k : Int) (w : World) :
    Calls Tryd.prog 15 #[.agg #[.int .i64 o, .int .i64 v, .int .i64 k]] w fun e w' => e = .returned (.bool (askOk ⟨o, v, k⟩)) ∧ Below w.heap.size w w' := by
  go_enter Tryd.func15, Tryd.ntmps15
  go_wp2_with (go_at_call 25; refine (l1In_c _ _ _ _).mono ?_; rintro e w' ⟨rfl, rfl⟩)
  all_goals (go_ret; exact ⟨ret_bool (by simp_all [askOk, datumB]), (Below.refl _ _).alloc (Nat.le_refl _) _⟩)

theorem toExpAsk_c (o v k : Int) (w : World) :
    Calls Tryd.prog 7 #[.agg #[.int .i64 o, .int .i64 v, .int .i64 k]] w fun e w' => e = .returned (.agg #[.int .i64 o, .int .i64 v, .int .i64 k]) ∧ Below w.heap.size w w' := by
  go_enter Tryd.func7, Tryd.ntmps7
  go_wp2
  refine bodyPost_ret (v := .agg #[.int .i64 o, .int .i64 v, .int .i64 k]) (by simp [results, Tryd.results7, go_sem]) rfl ⟨rfl, ?_⟩
  (repeat (first | exact Below.refl _ _ | assumption | refine Below.alloc ?_ (by simp <;> omega) _ | refine below_drewN ?_ _ | refine Below.drew ?_ | refine Below.setCell ?_ (by simp <;> omega) _))
end Go.Proofs.YtgleblbgomhmdaaDoor

/- slices.IndexFunc and slices.ContainsFunc at numbers, for whatever function value answers by a plain predicate and makes no more than new memory. -/
namespace Go.Proofs.YtgleblbgomhmdaaDoor
open Go.RowKit
set_option linter.unusedVariables false
set_option linter.unusedSimpArgs false

/-- The first place at which p holds, from k on; -1 where there is none. -/
def idxFrom {α : Type} (p : α → Bool) : Nat → List α → Int
  | _, [] => -1
  | k, x :: r => if p x then (k : Int) else idxFrom p (k + 1) r
theorem idxFrom_none {α : Type} (p : α → Bool) : ∀ (l : List α) (k : Nat), (∀ x ∈ l, p x = false) → idxFrom p k l = -1
  | [], _, _ => rfl
  | x :: r, k, h => by simp [idxFrom, h x (List.mem_cons_self ..)]; exact idxFrom_none p r (k + 1) (fun y hy => h y (List.mem_cons_of_mem _ hy))
theorem idxFrom_at {α : Type} (p : α → Bool) : ∀ (l : List α) (k j : Nat) (x : α), l[j]? = some x → p x = true → (∀ i y, i < j → l[i]? = some y → p y = false) → idxFrom p k l = ((k + j : Nat) : Int)
  | [], _, _, _, h, _, _ => by simp at h
  | y :: r, k, 0, x, h, hp, _ => by simp at h; subst h; simp [idxFrom, hp]
  | y :: r, k, j + 1, x, h, hp, hn => by
    have hy := hn 0 y (by omega) rfl
    simp only [idxFrom, hy]
    have := idxFrom_at p r (k + 1) j x (by simpa using h) hp (fun i z hi hz => hn (i + 1) z (by omega) (by simpa using hz))
    simp only [Bool.false_eq_true, if_false, this]
    congr 1; omega
theorem idx_any {α : Type} (p : α → Bool) : ∀ (l : List α) (k : Nat), decide (0 ≤ idxFrom p k l) = l.any p
  | [], _ => by simp [idxFrom]
  | x :: r, k => by
    by_cases h : p x = true
    · simp [idxFrom, h]
    · simp [idxFrom, h]; simpa using idx_any p r (k + 1)

/-- A call of a function value of a function with a body enters it. -/
def EntersF (P : Program) (f : FuncId) : Prop := ∀ (args : Array Value) (w : World), (callFunc f args).run P w = .ok (.enter f args) w
theorem entersF {P : Program} {f : FuncId} {fn : Func} {c : Code} (hf : P.funcs[f]? = some fn) (hname : (fn.name == "runtime.NumGoroutine") = false) (hb : fn.body = some c) : EntersF P f := by
  intro args w
  have h1 : fn.name ≠ "runtime.NumGoroutine" := by simpa using hname
  simp [callFunc, hf, h1, hb, mark]

/-- A function value that answers p of each number, whatever new memory lies beside. -/
def PredInt (P : Program) (g : FuncId) (lb : Array Value) (p : Int → Bool) (w : World) : Prop :=
  ∀ (x : Int) (W : World), Below w.heap.size w W → Calls P g (#[.int .i64 x] ++ lb) W fun e W' => e = .returned (.bool (p x)) ∧ Below W.heap.size W W'


end Go.Proofs.YtgleblbgomhmdaaDoor

/- Data: whether they are ok, a number turned, whether a question holds of them. -/
namespace Go.Proofs.YtgleblbgomhmdaaDoor
open Go.RowKit
set_option linter.unusedVariables false
set_option linter.unusedSimpArgs false

theorem all_of {α : Type} {p : α → Bool} {l : List α} (h : ∀ j y, j < l.length → l[j]? = some y → p y = true) : l.all p = true := by
  rw [List.all_eq_true]
  intro x hx
  obtain ⟨j, hj⟩ := List.getElem?_of_mem hx
  exact h j x (lt_of_some hj) hj
theorem not_all_of {α : Type} {p : α → Bool} {l : List α} {k : Nat} {x : α} (h : l[k]? = some x) (hp : p x = false) : l.all p = false := by
  rw [List.all_eq_false]
  exact ⟨x, List.mem_of_getElem? h, by simp [hp]⟩

def datOk (zs : List Int) : Bool := decide (zs.length = 3) && zs.all datumB




/-- Data with one number turned. -/
def datSet (zs : List Int) (k n : Int) : List Int := if datOk zs && inB k 0 2 && datumB n then zs.set k.toNat n else zs

/-- What a call has made: a row of numbers of its own, known by its slice value. -/
def Made (w' : World) (base : Nat) (e : TypeId) (zs : List Int) (v : Value) : Prop := w'.ownsRow base e 1 v zs.length (ints zs)
theorem Made.row {w' : World} {base : Nat} {e : TypeId} {zs : List Int} {v : Value} (h : Made w' base e zs v) : ∃ A b c, v = .slice A zs.length c ∧ Row w' base w'.heap.size A b 0 (ints zs) := by
  have h' := h
  unfold Made at h'
  rcases h'.2 with ⟨rfl, hn⟩ | ⟨g, cap, cur, rfl, _⟩
  · have hz : zs = [] := List.eq_nil_of_length_eq_zero hn
    subst hz
    exact ⟨none, 0, 0, rfl, Row.nil_⟩
  · obtain ⟨b, hR⟩ := Row.of_own h'
    exact ⟨_, b, _, rfl, hR⟩


theorem Made.len {w' : World} {base : Nat} {e : TypeId} {zs : List Int} {v : Value} (h : Made w' base e zs v) (hz : 0 < zs.length) : ∃ g c, v = .slice (some ⟨g, 0, none⟩) zs.length c ∧ base ≤ g ∧ g < w'.heap.size := by
  unfold Made at h
  rcases h.2 with ⟨_, hn⟩ | ⟨g, cap, cur, rfl, hg, hh, _⟩
  · omega
  · exact ⟨g, cap, rfl, hg, (h.lt g rfl).2⟩
theorem Made.below {w w' : World} {base B : Nat} {e : TypeId} {zs : List Int} {v : Value} (h : Made w base e zs v) (hb : Below B w w') (hB : w.heap.size ≤ B) : Made w' base e zs v :=
  h.kept (row := none) ⟨hb.os, hb.tape, hb.output, hb.size, fun k hk _ => hb.block k (by omega)⟩ (by rcases v.ownBlock with _ | g <;> simp)


theorem own_lit0 (w : World) (e : TypeId) : (w.alloc (.cells #[] e)).ownsRow w.heap.size e 1 (.slice (some ⟨w.heap.size, 0, none⟩) 0 0) 0 [] :=
  World.ownsRow_made w #[] 0 (Nat.le_refl _) (Nat.zero_le _) rfl

end Go.Proofs.YtgleblbgomhmdaaDoor

/- The functions on slices of numbers: their copies, sums and comparisons. -/
namespace Go.Proofs.YtgleblbgomhmdaaDoor
open Go.RowKit
set_option linter.unusedVariables false
set_option linter.unusedSimpArgs false

/-- The sum as the program reckons it, wrapping. -/
def sumW (zs : List Int) : Int := zs.foldl (fun s x => wrap64 (s + x)) 0
theorem sumW_snoc {zs : List Int} {k : Nat} {x : Int} (h : zs[k]? = some x) : sumW (zs.take (k + 1)) = wrap64 (sumW (zs.take k) + x) := by
  rw [take_succ_of h]; simp [sumW]







end Go.Proofs.YtgleblbgomhmdaaDoor

/- Steps of a drawn region, taken by hand where guards are false: laws about any program. -/
namespace Go.Proofs.YtgleblbgomhmdaaDoor
open Go.RowKit
set_option linter.unusedVariables false
set_option linter.unusedSimpArgs false

section
variable {P : Program} {md : Region.Mode} {ops : Array Oper} {Q : Exit → Act → World → Prop} {S : World → Prop} {i fuel : Nat} {listed : Array Bool} {a : Act} {w : World} {oi : Oper} {rest : List Oper} {v : Value}
theorem of_drop (hd : ops.toList.drop i = oi :: rest) : ops[i]? = some oi := by
  have : ops.toList[i]? = some oi := by rw [← List.head?_drop, hd]; rfl
  simpa using this
theorem take_yes (hd : ops.toList.drop i = oi :: rest) (hs : Region.noSelect ops = true) (hf : Region.free md ops listed i = true) (hr : (Region.ready md ops listed).contains i = true)
    (hQ : ∀ c a w, Q (.panic c) (a.put oi.dst v) w → Q (.panic c) a w) (hw : Region.wanted oi (yielded ops a.tmps) = true) (hy : ∀ w, S w → (execOp a.eval oi).run P w = .ok (.value v) w) (hS : S w)
    (h : wpAnyH P md ops Q S fuel (listed.setIfInBounds i true) (a.put oi.dst v) w) : wpAnyH P md ops Q S (fuel + 1) listed a w :=
  wpAnyH_take (of_drop hd) hs hf hr hQ (Or.inl ⟨hw, hy⟩) hS h
theorem take_no (hd : ops.toList.drop i = oi :: rest) (hs : Region.noSelect ops = true) (hf : Region.free md ops listed i = true) (hr : (Region.ready md ops listed).contains i = true)
    (hQ : ∀ c a w, Q (.panic c) (a.put oi.dst undef) w → Q (.panic c) a w) (hw : Region.wanted oi (yielded ops a.tmps) = false) (hS : S w)
    (h : wpAnyH P md ops Q S fuel (listed.setIfInBounds i true) (a.put oi.dst undef) w) : wpAnyH P md ops Q S (fuel + 1) listed a w :=
  wpAnyH_take (of_drop hd) hs hf hr hQ (Or.inr ⟨hw, rfl⟩) hS h
end
end Go.Proofs.YtgleblbgomhmdaaDoor

/- Whether at each place there are no fewer marks. -/
namespace Go.Proofs.YtgleblbgomhmdaaDoor
open Go.RowKit
set_option linter.unusedVariables false
set_option linter.unusedSimpArgs false

def moreB : List Int → List Int → Bool
  | [], [] => true
  | x :: xs, y :: ys => decide (y ≤ x) && moreB xs ys
  | _, _ => false
theorem moreB_iff : ∀ (xs ys : List Int), moreB xs ys = true ↔ xs.length = ys.length ∧ ∀ (j : Nat) (x y : Int), xs[j]? = some x → ys[j]? = some y → y ≤ x
  | [], [] => by simp [moreB]
  | [], y :: ys => by simp [moreB]
  | x :: xs, [] => by simp [moreB]
  | x :: xs, y :: ys => by
    simp only [moreB, Bool.and_eq_true, decide_eq_true_eq, moreB_iff xs ys, List.length_cons]
    constructor
    · rintro ⟨h1, h2, h3⟩
      refine ⟨by omega, fun j a b ha hb => ?_⟩
      cases j with
      | zero => simp at ha hb; omega
      | succ j => exact h3 j a b (by simpa using ha) (by simpa using hb)
    · rintro ⟨h1, h2⟩
      exact ⟨h2 0 x y rfl rfl, by omega, fun j a b ha hb => h2 (j + 1) a b (by simpa using ha) (by simpa using hb)⟩
theorem moreB_true {xs ys : List Int} (h : xs.length = ys.length) (hj : ∀ (j : Nat) (x y : Int), xs[j]? = some x → ys[j]? = some y → y ≤ x) : moreB xs ys = true := (moreB_iff _ _).2 ⟨h, hj⟩
theorem moreB_false {xs ys : List Int} {k : Nat} {x y : Int} (hx : xs[k]? = some x) (hy : ys[k]? = some y) (h : x < y) : moreB xs ys = false := by
  rw [Bool.eq_false_iff]; intro e
  have := ((moreB_iff _ _).1 e).2 k x y hx hy
  omega
theorem moreB_len {xs ys : List Int} (h : xs.length ≠ ys.length) : moreB xs ys = false := by
  rw [Bool.eq_false_iff]; intro e; exact h ((moreB_iff _ _).1 e).1





end Go.Proofs.YtgleblbgomhmdaaDoor
