/- A region that draws its order, by an invariant: each operation keeps it, whatever came up before. About any program. -/
import Derived.Test.YtkcbghaadjhceaaMore
import Derived.Test.YtkcbghaadjhceaaAnyP
import Derived.Test.YtkcbghaadjhceaaDrawN
import Derived.Test.YtkcbghaadjhceaaShpL
import Derived.Deep.DeepCutAuto
namespace Go.Proofs.Ytkcbghaadjhceaa
open Go.RowKit
set_option linter.unusedVariables false
set_option linter.unusedSimpArgs false

/-- What is listed waits for nothing that is not. -/
def Cl (ops : Array Oper) (L : Array Bool) : Prop := ∀ (j : Nat) (o : Oper), ops[j]? = some o → L.getD j false = true → ∀ e ∈ o.after, Region.binds .any e = true → L.getD e.on false = true
def unl (L : Array Bool) : Nat → Nat
  | 0 => 0
  | k + 1 => unl L k + (if L.getD k false = true then 0 else 1)
theorem unl_zero {L : Array Bool} : ∀ {k : Nat}, unl L k = 0 → ∀ i, i < k → L.getD i false = true
  | 0, _, i, hi => by omega
  | k + 1, h, i, hi => by
    unfold unl at h
    by_cases hk : L.getD k false = true
    · by_cases e : i = k
      · rw [e]; exact hk
      · exact unl_zero (k := k) (by omega) i (by omega)
    · rw [if_neg hk] at h; omega
theorem getD_set_self {L : Array Bool} {i : Nat} (h : i < L.size) (d : Bool) : (L.setIfInBounds i true).getD i d = true := by
  simp [h]
theorem unl_set_ge {L : Array Bool} {i : Nat} : ∀ {k : Nat}, k ≤ i → unl (L.setIfInBounds i true) k = unl L k
  | 0, _ => rfl
  | k + 1, h => by rw [unl, unl, unl_set_ge (k := k) (by omega), getD_set_ne false (by omega : i ≠ k)]
theorem unl_set {L : Array Bool} {i : Nat} (hs : i < L.size) (hu : L.getD i false = false) : ∀ {k : Nat}, i < k → unl (L.setIfInBounds i true) k + 1 = unl L k
  | 0, h => by omega
  | k + 1, h => by
    rw [unl, unl]
    by_cases e : i = k
    · subst e
      rw [unl_set_ge (Nat.le_refl _), getD_set_self hs, hu]; simp
    · have := unl_set hs hu (k := k) (by omega)
      rw [getD_set_ne false e]; omega
theorem getD_un {L : Array Bool} {i : Nat} (h : L.getD i true = false) : L.getD i false = false ∧ i < L.size := by
  rcases Nat.lt_or_ge i L.size with h' | h'
  · simp [h'] at h ⊢; exact h
  · simp [Array.getElem?_eq_none h'] at h
theorem un_of {L : Array Bool} {i : Nat} (h : L.getD i false = false) (hs : i < L.size) : L.getD i true = false := by
  simp [hs] at h ⊢; exact h

section
variable {P : Program} {ops : Array Oper} {Q : Exit → Act → World → Prop}
theorem all_listed {L : Array Bool} (hsz : L.size = ops.size) (hac : ∀ (i : Nat) (o : Oper), ops[i]? = some o → ∀ e ∈ o.after, e.on < i) (hr : Region.ready .any ops L = []) : ∀ k i, i < k → i < ops.size → L.getD i false = true
  | 0, i, hi, _ => by omega
  | k + 1, i, hi, hio => by
    by_cases hik : i < k
    · exact all_listed hsz hac hr k i hik hio
    · by_cases h : L.getD i false = true
      · exact h
      · exfalso
        have hmem : i ∈ Region.ready .any ops L := mem_ready.2 ⟨un_of (by simpa using h) (by omega), ops[i], Array.getElem?_eq_getElem hio, fun e he _ => by
          have hlt := hac i _ (Array.getElem?_eq_getElem hio) e he
          exact all_listed hsz hac hr k e.on (by omega) (by omega)⟩
        rw [hr] at hmem
        cases hmem
theorem region_inv {id : Nat} {a : Act} {w : World} (hm : P.follows .mixedOrders = true) (I : Array Bool → Act → World → Prop)
    (hac : ∀ (i : Nat) (o : Oper), ops[i]? = some o → ∀ e ∈ o.after, e.on < i)
    (h0 : I (Array.replicate ops.size false) a w.drew)
    (hs : ∀ (i : Nat) (L : Array Bool) (a : Act) (w : World), L.size = ops.size → Cl ops L → I L a w → L.getD i true = false → (∀ (o : Oper), ops[i]? = some o → ∀ e ∈ o.after, Region.binds .any e = true → L.getD e.on false = true) → i < ops.size →
      wpOp P ops Q i (fun a' w' => I (L.setIfInBounds i true) a' w') a w)
    (hd : ∀ (L : Array Bool) (a : Act) (w : World), (∀ i, i < ops.size → L.getD i false = true) → I L a w → Q .normal a w) : (Code.region id ops true).wp P Q a w := by
  have key : ∀ (fuel : Nat) (L : Array Bool) (a : Act) (w : World), L.size = ops.size → Cl ops L → I L a w → unl L ops.size ≤ fuel → wpAny P .any ops Q fuel L a w := by
    intro fuel
    induction fuel with
    | zero =>
      intro L a w hsz hcl hI hu
      have hall := unl_zero (show unl L ops.size = 0 by omega)
      refine ⟨?_, hd L a w hall hI⟩
      rw [List.eq_nil_iff_forall_not_mem]
      intro i hi
      obtain ⟨h1, o, ho, _⟩ := mem_ready.1 hi
      have := hall i (Array.getElem?_eq_some_iff.1 ho).1
      rw [(getD_un h1).1] at this
      cases this
    | succ fuel ih =>
      intro L a w hsz hcl hI hu
      refine ⟨fun hr => hd L a w (fun i hi => all_listed hsz hac hr (i + 1) i (by omega) hi) hI, fun i hi => ?_⟩
      obtain ⟨h1, o, ho, hall⟩ := mem_ready.1 hi
      have hio := (Array.getElem?_eq_some_iff.1 ho).1
      refine wpOp_mono (fun a' w' h' => ih _ a' w' (by simpa using hsz) ?_ h' ?_) (hs i L a w hsz hcl hI h1 (fun o' ho' => by rw [ho] at ho'; injection ho' with ho'; rw [← ho']; exact hall) hio)
      · intro j oj hj hlj e he hb
        by_cases hij : i = j
        · subst hij
          rw [ho] at hj; injection hj with hj; subst hj
          exact getD_set_true (hall e he hb)
        · rw [getD_set_ne false hij] at hlj
          exact getD_set_true (hcl j oj hj hlj e he hb)
      · have := unl_set (getD_un h1).2 (getD_un h1).1 hio
        omega
  refine wp_region_any hm (key ops.size _ _ _ (by simp) ?_ h0 ?_)
  · intro j o hj hl
    exfalso
    have : (Array.replicate ops.size false).getD j false = false := by simp [Array.getElem?_replicate]; split <;> rfl
    rw [this] at hl; cases hl
  · have : ∀ (L : Array Bool) (k : Nat), unl L k ≤ k := by
      intro L k
      induction k with
      | zero => exact Nat.le_refl _
      | succ k ih => rw [unl]; split <;> omega
    exact this _ _
end
end Go.Proofs.Ytkcbghaadjhceaa

/- What holds while an item is drawn in whatever order: two phases, behind and ahead of the append. -/
namespace Go.Proofs.Ytkcbghaadjhceaa
open Go.RowKit
set_option linter.unusedVariables false
set_option linter.unusedSimpArgs false

def LitK (R : Nat) (w : World) (v : Value) : Prop := ∃ g, v = .slice (some ⟨g, 0, none⟩) 3 3 ∧ g ≠ R ∧ g < w.heap.size ∧ ∀ k, k < 3 → ∃ x : Int, w.cell? ⟨g, k, none⟩ = some (.int .i64 x)
def PtrK (R : Nat) (w : World) (v : Value) : Prop := ∃ (g k : Nat) (x : Int), v = .pointer (some ⟨g, k, none⟩) ∧ g ≠ R ∧ g < w.heap.size ∧ w.cell? ⟨g, k, none⟩ = some (.int .i64 x)
def OneK (R : Nat) (w : World) (v : Value) : Prop := ∃ (g : Nat) (x y z : Int), v = .slice (some ⟨g, 0, none⟩) 1 1 ∧ g ≠ R ∧ g < w.heap.size ∧ w.cell? ⟨g, 0, none⟩ = some (.int .i64 x) ∧ w.cell? ⟨g, 1, none⟩ = some (.int .i64 y) ∧ w.cell? ⟨g, 2, none⟩ = some (.int .i64 z)
def RndK (v : Value) : Prop := ∃ r : Nat, r < 3 ∧ v = .int .i64 (r : Int)
def IntK (v : Value) : Prop := ∃ x : Int, v = .int .i64 x
def AggK (v : Value) : Prop := ∃ x y z : Int, v = .agg #[.int .i64 x, .int .i64 y, .int .i64 z]
def BK (R : Nat) (v0 : Value) (j : Nat) (v : Value) (w : World) : Prop :=
  match j with
  | 0 => v = v0
  | 1 => LitK R w v
  | 2 => v = .pointer (some ⟨R, 0, none⟩)
  | 3 => RndK v
  | 4 => PtrK R w v
  | 5 => IntK v
  | 6 => LitK R w v
  | 7 => v = .pointer (some ⟨R, 0, none⟩)
  | 8 => RndK v
  | 9 => PtrK R w v
  | 10 => IntK v
  | 11 => LitK R w v
  | 12 => v = .pointer (some ⟨R, 0, none⟩)
  | 13 => RndK v
  | 14 => PtrK R w v
  | 15 => IntK v
  | 16 => AggK v
  | 17 => OneK R w v
  | _ => True
section
variable {R : Nat} {w w' : World} {v v0 : Value}
theorem grown_cell {g k : Nat} {u : Value} (hg : w.grownBy w' (some R)) (hn : g ≠ R) (hs : g < w.heap.size) (h : w.cell? ⟨g, k, none⟩ = some u) : w'.cell? ⟨g, k, none⟩ = some u :=
  (World.cell?_of_block (a := ⟨g, k, none⟩) (hg.block g hs (fun e => by injection e with e; exact hn e))).trans h
theorem LitK.grown (h : LitK R w v) (hg : w.grownBy w' (some R)) : LitK R w' v := by
  obtain ⟨g, h1, h2, h3, h4⟩ := h
  exact ⟨g, h1, h2, Nat.lt_of_lt_of_le h3 hg.size, fun k hk => by obtain ⟨x, hx⟩ := h4 k hk; exact ⟨x, grown_cell hg h2 h3 hx⟩⟩
theorem PtrK.grown (h : PtrK R w v) (hg : w.grownBy w' (some R)) : PtrK R w' v := by
  obtain ⟨g, k, x, h1, h2, h3, h4⟩ := h
  exact ⟨g, k, x, h1, h2, Nat.lt_of_lt_of_le h3 hg.size, grown_cell hg h2 h3 h4⟩
theorem OneK.grown (h : OneK R w v) (hg : w.grownBy w' (some R)) : OneK R w' v := by
  obtain ⟨g, x, y, z, h1, h2, h3, h4, h5, h6⟩ := h
  exact ⟨g, x, y, z, h1, h2, Nat.lt_of_lt_of_le h3 hg.size, grown_cell hg h2 h3 h4, grown_cell hg h2 h3 h5, grown_cell hg h2 h3 h6⟩
theorem BK.grown (hg : w.grownBy w' (some R)) : ∀ (j : Nat), BK R v0 j v w → BK R v0 j v w' := by
  intro j h
  match j, h with
  | 0, h => exact h
  | 1, h => exact LitK.grown h hg
  | 2, h => exact h
  | 3, h => exact h
  | 4, h => exact PtrK.grown h hg
  | 5, h => exact h
  | 6, h => exact LitK.grown h hg
  | 7, h => exact h
  | 8, h => exact h
  | 9, h => exact PtrK.grown h hg
  | 10, h => exact h
  | 11, h => exact LitK.grown h hg
  | 12, h => exact h
  | 13, h => exact h
  | 14, h => exact PtrK.grown h hg
  | 15, h => exact h
  | 16, h => exact h
  | 17, h => exact OneK.grown h hg
  | _ + 18, h => exact trivial
end
def cnt3 (L : Array Bool) : Nat := (if L.getD 3 false = true then 1 else 0) + (if L.getD 8 false = true then 1 else 0) + (if L.getD 13 false = true then 1 else 0)
theorem cnt3_set (L : Array Bool) (i : Nat) : cnt3 L ≤ cnt3 (L.setIfInBounds i true) := by
  have h : ∀ j, (if L.getD j false = true then 1 else 0) ≤ (if (L.setIfInBounds i true).getD j false = true then 1 else 0) := by
    intro j
    by_cases hj : L.getD j false = true
    · rw [if_pos hj, if_pos (getD_set_true hj)]; exact Nat.le_refl _
    · rw [if_neg hj]; exact Nat.zero_le _
  have h3 := h 3
  have h8 := h 8
  have h13 := h 13
  unfold cnt3
  omega
theorem cnt3_pick {L : Array Bool} {i : Nat} (hu : L.getD i true = false) (hi : i = 3 ∨ i = 8 ∨ i = 13) : cnt3 L + 1 ≤ cnt3 (L.setIfInBounds i true) := by
  obtain ⟨h1, h2⟩ := getD_un hu
  have h : ∀ j, j ≠ i → (if (L.setIfInBounds i true).getD j false = true then 1 else 0) = (if L.getD j false = true then 1 else 0) := fun j hj => by rw [getD_set_ne false (Ne.symm hj)]
  have hs := getD_set_self h2 false
  unfold cnt3
  rcases hi with rfl | rfl | rfl
  · rw [hs, h 8 (by omega), h 13 (by omega), h1]; simp; omega
  · rw [hs, h 3 (by omega), h 13 (by omega), h1]; simp; omega
  · rw [hs, h 3 (by omega), h 8 (by omega), h1]; simp
theorem cnt3_le (L : Array Bool) : cnt3 L ≤ 3 := by unfold cnt3; split <;> split <;> split <;> omega
end Go.Proofs.Ytkcbghaadjhceaa

/- Temporaries of a region as a function, over an abstract act. -/
namespace Go.Proofs.Ytkcbghaadjhceaa
open Go.RowKit
set_option linter.unusedVariables false
set_option linter.unusedSimpArgs false

/-- The act a0 with slots 52 to 70 as f says, and slot 7 as g says. -/
def putF (a0 : Act) (f : Nat → Value) (g : Value) : Act := { a0 with tmps := a0.tmps.mapIdx fun s v => if s = 7 then g else if 52 ≤ s ∧ s ≤ 70 then f (s - 52) else v }
def updF (f : Nat → Value) (i : Nat) (x : Value) : Nat → Value := fun j => if j = i then x else f j
theorem putF_at (a0 : Act) (f : Nat → Value) (g : Value) (s : Nat) : (putF a0 f g).tmps[s]? = (a0.tmps[s]?).map fun v => if s = 7 then g else if 52 ≤ s ∧ s ≤ 70 then f (s - 52) else v := by
  unfold putF; simp [Array.getElem?_mapIdx]
theorem put_putF (a0 : Act) (f : Nat → Value) (g x : Value) (i : Nat) (hi : i < 19) : (putF a0 f g).put (some (52 + i)) x = putF a0 (updF f i x) g := by
  have h : ((putF a0 f g).tmps.setIfInBounds (52 + i) x) = (putF a0 (updF f i x) g).tmps := by
    apply Array.ext_getElem?
    intro s
    rw [Array.getElem?_setIfInBounds, putF_at, putF_at]
    have hsz : (putF a0 f g).tmps.size = a0.tmps.size := by unfold putF; simp
    by_cases hs : 52 + i = s
    · subst hs
      rw [if_pos rfl, hsz]
      by_cases hb : 52 + i < a0.tmps.size
      · rw [if_pos hb, Array.getElem?_eq_getElem hb]
        simp only [Option.map_some, updF]
        rw [if_neg (by omega), if_pos (by omega), if_pos (by omega)]
      · rw [if_neg hb, Array.getElem?_eq_none (by omega)]; rfl
    · rw [if_neg hs]
      congr 1
      funext v
      by_cases h7 : s = 7
      · rw [if_pos h7, if_pos h7]
      · rw [if_neg h7, if_neg h7]
        by_cases hr : 52 ≤ s ∧ s ≤ 70
        · rw [if_pos hr, if_pos hr, updF, if_neg (by omega)]
        · rw [if_neg hr, if_neg hr]
  show { putF a0 f g with tmps := (putF a0 f g).tmps.setIfInBounds (52 + i) x } = _
  rw [h]; rfl
end Go.Proofs.Ytkcbghaadjhceaa

/- Region 11 of l20Busy: an item of three drawn numbers, in whatever order its parts come up. -/
namespace Go.Proofs.Ytkcbghaadjhceaa
open Go.RowKit
set_option linter.unusedVariables false
set_option linter.unusedSimpArgs false

theorem NetV.need {w : World} {lo hi b1 k c1 : Nat} {P : Int} {n : NNet} (h : NetV w lo hi (.agg #[.int .i64 P, .slice (some ⟨b1, 0, none⟩) k c1]) n) {i : Nat} (hi' : i < n.tasks.length) :
    ∃ t : NTask, n.tasks[i]? = some t ∧ w.cell? ⟨b1, i * 9 + 8, none⟩ = some (.int .i64 t.need) := by
  obtain ⟨A, b, off, c, ms, e, hm, hT⟩ := h
  injection e with e
  have e2 := congrArg (fun a => a[1]?) e
  simp at e2
  obtain ⟨hA, _, _⟩ := e2
  obtain ⟨t1, _, _, t, vi, vo, vc, h1, _, hV, ⟨_, _, _, _, _, _, _, _, c8⟩, _⟩ := hT.task hi'
  rw [t1] at hA
  injection hA with hA
  injection hA with hb hoff _
  subst hb hoff
  rw [Nat.zero_add] at c8
  exact ⟨t, h1, c8⟩
def ItemsV (w : World) (lo : Nat) (v : Value) (bs : List NItem) : Prop := ∃ A b o c, v = .slice A bs.length c ∧ Row w lo w.heap.size A b o (itemCells bs)
theorem items_row {w : World} {base : Nat} {v : Value} {bs : List NItem} (h : w.ownsRow base 52 3 v bs.length (itemCells bs)) : ItemsV w base v bs := by
  obtain ⟨A, c, rfl⟩ := own_any h
  obtain ⟨b, hr⟩ := Row.of_own h
  exact ⟨A, b, 0, c, rfl, hr⟩
theorem ItemsV.lo {w : World} {lo lo' : Nat} {v : Value} {bs : List NItem} (h : ItemsV w lo v bs) (hl : lo' ≤ lo) : ItemsV w lo' v bs := by
  obtain ⟨A, b, o, c, rfl, hr⟩ := h; exact ⟨A, b, o, c, rfl, hr.more hl (Nat.le_refl _)⟩
def BusyOut (w : World) (R q : Nat) (e : Ending) (w' : World) : Prop := ∃ (v : Value) (bs : List NItem) (p' : Nat), e = .returned v ∧ bs.length ≤ 4 ∧ p' ≤ q ∧ ItemsV w' w.heap.size v bs ∧ RdV w' R p' ∧ w.grownBy w' (some R)

/-- The items so far: a row of their own; the net's box ahead of it; the reader. -/
structure BsD (w0 : World) (R p : Nat) (P : Int) (b1 k c1 : Nat) (bs : List NItem) (v : Value) (w : World) : Prop where
  rd : RdV w R p
  gr : w0.grownBy w (some R)
  box : Blk w w0.heap.size 25 #[.int .i64 P, .slice (some ⟨b1, 0, none⟩) k c1]
  own : w.ownsRow (w0.heap.size + 1) 52 3 v bs.length (itemCells bs)
  lt : w0.heap.size < w.heap.size
  hR : R < w0.heap.size
section
variable {w0 w w' : World} {R p p' b1 k c1 : Nat} {P : Int} {bs : List NItem} {v : Value}
theorem BsD.grown (h : BsD w0 R p P b1 k c1 bs v w) (hg : w.grownBy w' (some R)) (hr : RdV w' R p') : BsD w0 R p' P b1 k c1 bs v w' := by
  have hR := h.hR
  exact ⟨hr, grown_tr h.gr hg, h.box.grown hg (by omega), own_gr h.own hg (by omega), Nat.lt_of_lt_of_le h.lt hg.size, hR⟩
theorem BsD.upd (h : BsD w0 R p P b1 k c1 bs v w) (hu : Upd R (R + 1) w w') (hr : RdV w' R p') : BsD w0 R p' P b1 k c1 bs v w' := h.grown (grown_upd hu) hr
theorem BsD.alloc (h : BsD w0 R p P b1 k c1 bs v w) (o : Obj) : BsD w0 R p P b1 k c1 bs v (w.alloc o) := h.grown (World.grownBy_alloc _ _ _) (h.rd.alloc o)
theorem BsD.far (h : BsD w0 R p P b1 k c1 bs v w) {b : Nat} (hb : w0.heap.size < b) (hv : ∀ g, v.ownBlock = some g → g ≠ b) (j : Nat) (u : Value) : BsD w0 R p P b1 k c1 bs v (w.setCell ⟨b, j, none⟩ u) := by
  have hR := h.hR
  have hsz : (w.setCell ⟨b, j, none⟩ u).heap.size = w.heap.size := by simp [World.setCell]
  refine ⟨h.rd.setCell (by dsimp only; omega) _, grown_setCell h.gr (by dsimp only; omega) _, h.box.far (by dsimp only; omega) _, ?_, by rw [hsz]; exact h.lt, hR⟩
  refine h.own.kept (row := some b) ⟨rfl, rfl, rfl, Nat.le_of_eq hsz.symm, fun g hg hne => Below.heap_setCell w _ u g (by intro e; exact hne (by rw [e]))⟩ ?_
  rcases hv' : v.ownBlock with _ | g
  · exact .inl rfl
  · right; intro e; injection e with e; exact hv g hv' e
theorem BsD.more {it : NItem} {v' : Value} (h : BsD w0 R p P b1 k c1 bs v w) (hg : w.grownBy w' v.ownBlock) (ho : w'.ownsRow (w0.heap.size + 1) 52 3 v' (bs.length + 1) (itemCells bs ++ it.cells)) : BsD w0 R p P b1 k c1 (bs ++ [it]) v' w' := by
  have hR := h.hR; have hlt := h.lt
  have hb : ∀ g, g ≤ w0.heap.size → w'.heap[g]? = w.heap[g]? := fun g hg' => hg.block g (by omega) (fun e => by have := (h.own.lt g e.symm).1; omega)
  exact ⟨h.rd.keep (fun g hg' => hb g (by omega)) hg.size, ⟨hg.os.trans h.gr.os, hg.tape.trans h.gr.tape, hg.output.trans h.gr.output, Nat.le_trans h.gr.size hg.size, fun i hi hne => (hb i (by omega)).trans (h.gr.block i hi hne)⟩,
    h.box.keep (hb _ (Nat.le_refl _)), by simpa [List.flatMap_append] using ho, Nat.lt_of_lt_of_le hlt hg.size, hR⟩
theorem BsD.facts (h : BsD w0 R p P b1 k c1 bs v w) : w.cell? ⟨w0.heap.size, 0, none⟩ = some (.int .i64 P) ∧ w.cell? ⟨w0.heap.size, 1, none⟩ = some (.slice (some ⟨b1, 0, none⟩) k c1) := ⟨h.box.cell 0, h.box.cell 1⟩
end

theorem putF_get {a0 : Act} (f : Nat → Value) (g : Value) (hsz : 70 < a0.tmps.size) (j : Nat) (hj : j < 19) : (putF a0 f g).tmps.getD (52 + j) undef = f j := by
  have := putF_at a0 f g (52 + j)
  rw [Array.getElem?_eq_getElem (by omega : 52 + j < a0.tmps.size)] at this
  rw [Array.getD_eq_getD_getElem?, this]
  simp only [Option.map_some, Option.getD_some]
  rw [if_neg (by omega), if_pos (by omega), Nat.add_sub_cancel_left]
theorem putF_get7 {a0 : Act} (f : Nat → Value) (g : Value) (hsz : 70 < a0.tmps.size) : (putF a0 f g).tmps.getD 7 undef = g := by
  have := putF_at a0 f g 7
  rw [Array.getElem?_eq_getElem (by omega : 7 < a0.tmps.size)] at this
  rw [Array.getD_eq_getD_getElem?, this]; rfl
theorem putF_get0 {a0 : Act} (f : Nat → Value) (g : Value) (hsz : 70 < a0.tmps.size) : (putF a0 f g).tmps.getD 0 undef = a0.tmps.getD 0 undef := by
  have := putF_at a0 f g 0
  rw [Array.getElem?_eq_getElem (by omega : 0 < a0.tmps.size)] at this
  rw [Array.getD_eq_getD_getElem?, this, Array.getD_eq_getD_getElem?, Array.getElem?_eq_getElem (by omega : 0 < a0.tmps.size)]; rfl
theorem putF_start (a0 : Act) : a0 = putF a0 (fun j => a0.tmps.getD (52 + j) undef) (a0.tmps.getD 7 undef) := by
  have h : a0.tmps = (putF a0 (fun j => a0.tmps.getD (52 + j) undef) (a0.tmps.getD 7 undef)).tmps := by
    apply Array.ext_getElem?
    intro s
    rw [putF_at]
    rcases hs : a0.tmps[s]? with _ | v
    · rfl
    · simp only [Option.map_some]
      by_cases h7 : s = 7
      · subst h7; rw [if_pos rfl, Array.getD_eq_getD_getElem?, hs]; rfl
      · rw [if_neg h7]
        by_cases hr : 52 ≤ s ∧ s ≤ 70
        · rw [if_pos hr, show 52 + (s - 52) = s by omega, Array.getD_eq_getD_getElem?, hs]; rfl
        · rw [if_neg hr]
  show a0 = { a0 with tmps := (putF a0 (fun j => a0.tmps.getD (52 + j) undef) (a0.tmps.getD 7 undef)).tmps }
  rw [← h]
theorem putF_put7 (a0 : Act) (f : Nat → Value) (g x : Value) : (putF a0 f g).put (some 7) x = putF a0 f x := by
  have h : ((putF a0 f g).tmps.setIfInBounds 7 x) = (putF a0 f x).tmps := by
    apply Array.ext_getElem?
    intro s
    rw [Array.getElem?_setIfInBounds, putF_at, putF_at]
    have hsz : (putF a0 f g).tmps.size = a0.tmps.size := by unfold putF; simp
    by_cases hs : 7 = s
    · subst hs
      rw [if_pos rfl, hsz]
      by_cases hb : 7 < a0.tmps.size
      · rw [if_pos hb, Array.getElem?_eq_getElem hb]; rfl
      · rw [if_neg hb, Array.getElem?_eq_none (by omega)]; rfl
    · rw [if_neg hs]
      have h7 : ¬ s = 7 := fun e => hs e.symm
      simp only [if_neg h7]
  show { putF a0 f g with tmps := (putF a0 f g).tmps.setIfInBounds 7 x } = _
  rw [h]; rfl
theorem putF_congr {a0 : Act} {f f' : Nat → Value} {g : Value} (h : ∀ j, j < 19 → f j = f' j) : putF a0 f g = putF a0 f' g := by
  unfold putF
  have : (fun (s : Nat) (v : Value) => if s = 7 then g else if 52 ≤ s ∧ s ≤ 70 then f (s - 52) else v) = (fun (s : Nat) (v : Value) => if s = 7 then g else if 52 ≤ s ∧ s ≤ 70 then f' (s - 52) else v) := by
    funext s v
    by_cases h7 : s = 7
    · rw [if_pos h7, if_pos h7]
    · rw [if_neg h7, if_neg h7]
      by_cases hr : 52 ≤ s ∧ s ≤ 70
      · rw [if_pos hr, if_pos hr, h _ (by omega)]
      · rw [if_neg hr, if_neg hr]
  rw [this]
def putA (a : Act) (f : Nat → Value) (g : Value) : Act := ((((((((((((((((((((a.put (some 52) (f 0)).put (some 53) (f 1)).put (some 54) (f 2)).put (some 55) (f 3)).put (some 56) (f 4)).put (some 57) (f 5)).put (some 58) (f 6)).put (some 59) (f 7)).put (some 60) (f 8)).put (some 61) (f 9)).put (some 62) (f 10)).put (some 63) (f 11)).put (some 64) (f 12)).put (some 65) (f 13)).put (some 66) (f 14)).put (some 67) (f 15)).put (some 68) (f 16)).put (some 69) (f 17)).put (some 70) (f 18)).put (some 7) g)
theorem put_next {a0 a : Act} {f : Nat → Value} {g0 : Value} {n : Nat} (hn : n < 19) (h : ∃ f1, a = putF a0 f1 g0 ∧ ∀ i, i < n → f1 i = f i) : ∃ f1, a.put (some (52 + n)) (f n) = putF a0 f1 g0 ∧ ∀ i, i < n + 1 → f1 i = f i := by
  obtain ⟨f1, rfl, hf⟩ := h
  refine ⟨_, put_putF _ _ _ _ _ hn, fun i hi => ?_⟩
  unfold updF
  by_cases hc : i = n
  · subst hc; rw [if_pos rfl]
  · rw [if_neg hc]; exact hf i (by omega)
theorem putF_putA (a : Act) (f : Nat → Value) (g : Value) : putF a f g = putA a f g := by
  have h : ∃ f1, a = putF a f1 (a.tmps.getD 7 undef) ∧ ∀ i, i < 0 → f1 i = f i := ⟨_, putF_start a, fun i hi => absurd hi (Nat.not_lt_zero i)⟩
  obtain ⟨f1, h1, h2⟩ := (put_next (n := 18) (by omega) (put_next (n := 17) (by omega) (put_next (n := 16) (by omega) (put_next (n := 15) (by omega) (put_next (n := 14) (by omega) (put_next (n := 13) (by omega) (put_next (n := 12) (by omega) (put_next (n := 11) (by omega) (put_next (n := 10) (by omega) (put_next (n := 9) (by omega) (put_next (n := 8) (by omega) (put_next (n := 7) (by omega) (put_next (n := 6) (by omega) (put_next (n := 5) (by omega) (put_next (n := 4) (by omega) (put_next (n := 3) (by omega) (put_next (n := 2) (by omega) (put_next (n := 1) (by omega) (put_next (n := 0) (by omega) h)))))))))))))))))))
  show _ = Act.put _ (some 7) g
  refine Eq.trans ?_ (congrArg (fun x => Act.put x (some 7) g) h1).symm
  rw [putF_put7]
  exact putF_congr fun j hj => (h2 j hj).symm
def BInv (R pz : Nat) (w0 : World) (P : Int) (b1 k1 c1 : Nat) (bs : List NItem) (v0 : Value) (a0 : Act) (L : Array Bool) (a : Act) (w : World) : Prop :=
  ∃ (f : Nat → Value) (g : Value), a = putF a0 f g ∧
   ((L.getD 18 false = false ∧ g = v0 ∧ (∃ p', BsD w0 R p' P b1 k1 c1 bs v0 w ∧ p' ≤ pz + cnt3 L) ∧ ∀ j, j < 18 → L.getD j false = true → BK R v0 j (f j) w) ∨
    (L.getD 18 false = true ∧ (∀ j, j < 18 → L.getD j false = true) ∧ ∃ p' bs', BsD w0 R p' P b1 k1 c1 bs' (f 18) w ∧ p' ≤ pz + 3 ∧ bs'.length = bs.length + 1 ∧ (L.getD 19 false = true → g = f 18)))
theorem grown_refl (w : World) (R : Nat) : w.grownBy w (some R) := ⟨rfl, rfl, rfl, Nat.le_refl _, fun _ _ _ => rfl⟩
section
variable {R pz b1 k1 c1 : Nat} {w0 w w' : World} {P : Int} {bs : List NItem} {v0 : Value} {a0 a' : Act} {L : Array Bool}
theorem BInv.stepA {f : Nat → Value} {i : Nat} {x : Value} (hi : i < 18) (h18 : L.getD 18 false = false) (hB : ∃ p', BsD w0 R p' P b1 k1 c1 bs v0 w' ∧ p' ≤ pz + cnt3 (L.setIfInBounds i true))
    (hks : ∀ j, j < 18 → L.getD j false = true → BK R v0 j (f j) w) (hg : w.grownBy w' (some R)) (hx : BK R v0 i x w') : BInv R pz w0 P b1 k1 c1 bs v0 a0 (L.setIfInBounds i true) ((putF a0 f v0).put (some (52 + i)) x) w' := by
  refine ⟨updF f i x, v0, put_putF _ _ _ _ _ (by omega), .inl ⟨by rw [getD_set_ne false (by omega : i ≠ 18)]; exact h18, rfl, hB, fun j hj hl => ?_⟩⟩
  unfold updF
  by_cases hji : j = i
  · subst hji; rw [if_pos rfl]; exact hx
  · rw [if_neg hji]; rw [getD_set_ne false (Ne.symm hji)] at hl; exact BK.grown hg j (hks j hj hl)
end
/-- The operations of the region, each where it stands, and who waits for whom. -/
structure BusyOps (ops : Array Oper) : Prop where
  sz : ops.size = 20
  o0 : ∃ (ty : TypeId) (pos : String) (aft : Array Edge), ops[0]? = some ⟨some 52, .move (.tmp 7), ty, pos, aft, none⟩
  o1 : ∃ (ty : TypeId) (pos : String) (aft : Array Edge), ops[1]? = some ⟨some 53, .buildSlice 26 3 #[(0, .const (.int .i64 (-1))), (1, .const (.int .i64 (6))), (2, .const (.int .i64 (0)))], ty, pos, aft, none⟩
  o2 : ∃ (ty : TypeId) (pos : String) (aft : Array Edge), ops[2]? = some ⟨some 54, .move (.tmp 0), ty, pos, aft, none⟩
  o3 : ∃ (ty : TypeId) (pos : String) (aft : Array Edge) (ats : Array TypeId), ops[3]? = some ⟨some 55, .call { callee := .value (.func 43), args := #[.tmp 54, .const (.int .i64 3)], argTypes := ats }, ty, pos, aft, none⟩
  o4 : ∃ (ty : TypeId) (pos : String) (aft : Array Edge), ops[4]? = some ⟨some 56, .indexAddr 26 (.tmp 53) (.tmp 55), ty, pos, aft, none⟩
  o5 : ∃ (ty : TypeId) (pos : String) (aft : Array Edge), ops[5]? = some ⟨some 57, .load 3 (.tmp 56), ty, pos, aft, none⟩
  o6 : ∃ (ty : TypeId) (pos : String) (aft : Array Edge), ops[6]? = some ⟨some 58, .buildSlice 26 3 #[(0, .const (.int .i64 (0))), (1, .const (.int .i64 (5))), (2, .const (.int .i64 (1)))], ty, pos, aft, none⟩
  o7 : ∃ (ty : TypeId) (pos : String) (aft : Array Edge), ops[7]? = some ⟨some 59, .move (.tmp 0), ty, pos, aft, none⟩
  o8 : ∃ (ty : TypeId) (pos : String) (aft : Array Edge) (ats : Array TypeId), ops[8]? = some ⟨some 60, .call { callee := .value (.func 43), args := #[.tmp 59, .const (.int .i64 3)], argTypes := ats }, ty, pos, aft, none⟩
  o9 : ∃ (ty : TypeId) (pos : String) (aft : Array Edge), ops[9]? = some ⟨some 61, .indexAddr 26 (.tmp 58) (.tmp 60), ty, pos, aft, none⟩
  o10 : ∃ (ty : TypeId) (pos : String) (aft : Array Edge), ops[10]? = some ⟨some 62, .load 3 (.tmp 61), ty, pos, aft, none⟩
  o11 : ∃ (ty : TypeId) (pos : String) (aft : Array Edge), ops[11]? = some ⟨some 63, .buildSlice 26 3 #[(0, .const (.int .i64 (-1))), (1, .const (.int .i64 (3))), (2, .const (.int .i64 (0)))], ty, pos, aft, none⟩
  o12 : ∃ (ty : TypeId) (pos : String) (aft : Array Edge), ops[12]? = some ⟨some 64, .move (.tmp 0), ty, pos, aft, none⟩
  o13 : ∃ (ty : TypeId) (pos : String) (aft : Array Edge) (ats : Array TypeId), ops[13]? = some ⟨some 65, .call { callee := .value (.func 43), args := #[.tmp 64, .const (.int .i64 3)], argTypes := ats }, ty, pos, aft, none⟩
  o14 : ∃ (ty : TypeId) (pos : String) (aft : Array Edge), ops[14]? = some ⟨some 66, .indexAddr 26 (.tmp 63) (.tmp 65), ty, pos, aft, none⟩
  o15 : ∃ (ty : TypeId) (pos : String) (aft : Array Edge), ops[15]? = some ⟨some 67, .load 3 (.tmp 66), ty, pos, aft, none⟩
  o16 : ∃ (ty : TypeId) (pos : String) (aft : Array Edge), ops[16]? = some ⟨some 68, .build 52 #[(0, .tmp 57), (1, .tmp 62), (2, .tmp 67)], ty, pos, aft, none⟩
  o17 : ∃ (ty : TypeId) (pos : String) (aft : Array Edge), ops[17]? = some ⟨some 69, .buildSlice 44 1 #[(0, .tmp 68)], ty, pos, aft, none⟩
  o18 : ∃ (ty : TypeId) (pos : String) (aft : Array Edge), ops[18]? = some ⟨some 70, .call { callee := .builtin .append, args := #[.tmp 52, .tmp 69], argTypes := #[44, 44] }, ty, pos, aft, none⟩
  o19 : ∃ (ty : TypeId) (pos : String) (aft : Array Edge), ops[19]? = some ⟨some 7, .assign (.tmp 70), ty, pos, aft, none⟩
  dep : ([(3, 2), (4, 1), (4, 3), (5, 4), (8, 7), (9, 6), (9, 8), (10, 9), (13, 12), (14, 11), (14, 13), (15, 14), (16, 5), (16, 10), (16, 15), (17, 16), (18, 0), (18, 17), (19, 18)].all fun d => match ops[d.1]? with | some o => o.after.any fun e => e.on == d.2 && Region.binds .any e | none => false) = true
  hac : ((List.range ops.size).all fun i => match ops[i]? with | some o => o.after.all fun e => decide (e.on < i) | none => true) = true
theorem BusyOps.dep_ {ops : Array Oper} (h : BusyOps ops) {L : Array Bool} {i k : Nat} (hd : (i, k) ∈ [(3, 2), (4, 1), (4, 3), (5, 4), (8, 7), (9, 6), (9, 8), (10, 9), (13, 12), (14, 11), (14, 13), (15, 14), (16, 5), (16, 10), (16, 15), (17, 16), (18, 0), (18, 17), (19, 18)]) (hw : ∀ (o : Oper), ops[i]? = some o → ∀ e ∈ o.after, Region.binds .any e = true → L.getD e.on false = true) : L.getD k false = true := by
  have := List.all_eq_true.1 h.dep _ hd
  dsimp only at this
  split at this
  · rename_i o ho
    obtain ⟨e, he, hb⟩ := Array.any_eq_true'.1 this
    simp only [Bool.and_eq_true, beq_iff_eq] at hb
    rw [← hb.1]
    exact hw o ho e he hb.2
  · cases this
theorem BusyOps.all18 {ops : Array Oper} (h : BusyOps ops) {L : Array Bool} (hc : Cl ops L) (h0 : L.getD 0 false = true) (h17 : L.getD 17 false = true) : ∀ j, j < 18 → L.getD j false = true := by
  have st : ∀ {i k : Nat}, (i, k) ∈ [(3, 2), (4, 1), (4, 3), (5, 4), (8, 7), (9, 6), (9, 8), (10, 9), (13, 12), (14, 11), (14, 13), (15, 14), (16, 5), (16, 10), (16, 15), (17, 16), (18, 0), (18, 17), (19, 18)] → L.getD i false = true → L.getD k false = true := fun {i k} hm hl => h.dep_ hm (fun o ho e he hb => hc i o ho hl e he hb)
  have h16 := st (i := 17) (k := 16) (by simp) h17
  have h5 := st (i := 16) (k := 5) (by simp) h16
  have h10 := st (i := 16) (k := 10) (by simp) h16
  have h15 := st (i := 16) (k := 15) (by simp) h16
  have h4 := st (i := 5) (k := 4) (by simp) h5
  have h9 := st (i := 10) (k := 9) (by simp) h10
  have h14 := st (i := 15) (k := 14) (by simp) h15
  have h1 := st (i := 4) (k := 1) (by simp) h4
  have h3 := st (i := 4) (k := 3) (by simp) h4
  have h6 := st (i := 9) (k := 6) (by simp) h9
  have h8 := st (i := 9) (k := 8) (by simp) h9
  have h11 := st (i := 14) (k := 11) (by simp) h14
  have h13 := st (i := 14) (k := 13) (by simp) h14
  have h2 := st (i := 3) (k := 2) (by simp) h3
  have h7 := st (i := 8) (k := 7) (by simp) h8
  have h12 := st (i := 13) (k := 12) (by simp) h13
  intro j hj
  have hx : j = 0 ∨ j = 1 ∨ j = 2 ∨ j = 3 ∨ j = 4 ∨ j = 5 ∨ j = 6 ∨ j = 7 ∨ j = 8 ∨ j = 9 ∨ j = 10 ∨ j = 11 ∨ j = 12 ∨ j = 13 ∨ j = 14 ∨ j = 15 ∨ j = 16 ∨ j = 17 := by omega
  rcases hx with rfl | rfl | rfl | rfl | rfl | rfl | rfl | rfl | rfl | rfl | rfl | rfl | rfl | rfl | rfl | rfl | rfl | rfl <;> assumption
theorem wpOp_go {P : Program} {ops : Array Oper} {Q : Exit → Act → World → Prop} {i : Nat} {o : Oper} {K : Act → World → Prop} {a : Act} {w : World} (ho : ops[i]? = some o) (hg : o.guard = none) (h : Oper.wp P o a w K Q) : wpOp P ops Q i K a w := by
  unfold wpOp
  rw [ho]
  show if Region.wanted o (yielded ops a.tmps) = true then _ else _
  have : Region.wanted o (yielded ops a.tmps) = true := by unfold Region.wanted; rw [hg]
  rw [if_pos this]; exact .inl h
section
variable {a : Act} {w : World} {K : Act → World → Prop} {Q : Exit → Act → World → Prop} {ty : TypeId} {pos : String} {aft : Array Edge}
theorem ow_move {d s : Nat} {v : Value} (h : a.tmps.getD s undef = v) (hk : K (a.put (some d) v) w) : Oper.wp Try.prog ⟨some d, .move (.tmp s), ty, pos, aft, none⟩ a w K Q := by
  go_simp
  subst h; simpa [Act.put] using hk
theorem ow_assign {d s : Nat} {v : Value} (h : a.tmps.getD s undef = v) (hk : K (a.put (some d) v) w) : Oper.wp Try.prog ⟨some d, .assign (.tmp s), ty, pos, aft, none⟩ a w K Q := by
  go_simp
  subst h; simpa [Act.put] using hk
theorem ow_lit {d : Nat} {x y z : Int} (hk : K (a.put (some d) (.slice (some ⟨w.heap.size, 0, none⟩) 3 3)) (w.alloc (.cells #[.int .i64 x, .int .i64 y, .int .i64 z] 3))) : Oper.wp Try.prog ⟨some d, .buildSlice 26 3 #[(0, .const (.int .i64 x)), (1, .const (.int .i64 y)), (2, .const (.int .i64 z))], ty, pos, aft, none⟩ a w K Q := by
  go_simp
  exact hk
theorem ow_at {d s t g r : Nat} (hr : r < 3) (h1 : a.tmps.getD s undef = .slice (some ⟨g, 0, none⟩) 3 3) (h2 : a.tmps.getD t undef = .int .i64 (r : Int)) (hk : K (a.put (some d) (.pointer (some ⟨g, r, none⟩))) w) : Oper.wp Try.prog ⟨some d, .indexAddr 26 (.tmp s) (.tmp t), ty, pos, aft, none⟩ a w K Q := by
  have hr1 : (r : Int) < 3 := by omega
  go_simp
  exact hk
theorem ow_load {d s g r : Nat} {x : Int} (h : w.cell? ⟨g, r, none⟩ = some (.int .i64 x)) (h1 : a.tmps.getD s undef = .pointer (some ⟨g, r, none⟩)) (hk : K (a.put (some d) (.int .i64 x)) w) : Oper.wp Try.prog ⟨some d, .load 3 (.tmp s), ty, pos, aft, none⟩ a w K Q := by
  go_simp
  exact hk
theorem ow_item {d s1 s2 s3 : Nat} {x y z : Int} (h1 : a.tmps.getD s1 undef = .int .i64 x) (h2 : a.tmps.getD s2 undef = .int .i64 y) (h3 : a.tmps.getD s3 undef = .int .i64 z) (hk : K (a.put (some d) (.agg #[.int .i64 x, .int .i64 y, .int .i64 z])) w) : Oper.wp Try.prog ⟨some d, .build 52 #[(0, .tmp s1), (1, .tmp s2), (2, .tmp s3)], ty, pos, aft, none⟩ a w K Q := by
  rw [Array.getD_eq_getD_getElem?] at h1 h2 h3
  go_simp
  exact hk
theorem ow_one {d s : Nat} {x y z : Int} (h1 : a.tmps.getD s undef = .agg #[.int .i64 x, .int .i64 y, .int .i64 z]) (hk : K (a.put (some d) (.slice (some ⟨w.heap.size, 0, none⟩) 1 1)) (w.alloc (.cells #[.int .i64 x, .int .i64 y, .int .i64 z] 52))) : Oper.wp Try.prog ⟨some d, .buildSlice 44 1 #[(0, .tmp s)], ty, pos, aft, none⟩ a w K Q := by
  rw [Array.getD_eq_getD_getElem?] at h1
  go_simp
  exact hk
theorem ow_pick {d s R px : Nat} {ats : Array TypeId} (hR : RdV w R px) (hp : px + 4 ≤ 1000000) (h1 : a.tmps.getD s undef = .pointer (some ⟨R, 0, none⟩)) (hk : ∀ (r : Nat) w1, r < 3 → RdV w1 R (px + 1) → Upd R (R + 1) w w1 → K (a.put (some d) (.int .i64 (r : Int))) w1) : Oper.wp Try.prog ⟨some d, .call { callee := .value (.func 43), args := #[.tmp s, .const (.int .i64 3)], argTypes := ats }, ty, pos, aft, none⟩ a w K Q := by
  go_simp
  (go_at_call 43; refine (pick_c R px 3 _ hR (by omega) (by omega) (by omega)).mono ?_)
  rintro e x1 ⟨rr, rfl, hrr, hrd, hu⟩
  exact hk rr x1 (by have := pick_lt hrr (by omega); omega) hrd hu
end
theorem busy_st0 {ops : Array Oper} {Q : Exit → Act → World → Prop} {R pz px b1 k1 c1 : Nat} {w0 w : World} {P : Int} {bs : List NItem} {v0 : Value} {a0 : Act} {L : Array Bool} {f : Nat → Value} (hO : BusyOps ops) (hsz : 70 < a0.tmps.size) (h0 : a0.tmps.getD 0 undef = .pointer (some ⟨R, 0, none⟩)) (hpz : pz + 10 ≤ 1000000) (hbl : bs.length ≤ 2) (hLs : L.size = ops.size) (hcl : Cl ops L) (h18 : L.getD 18 false = false) (hbs : BsD w0 R px P b1 k1 c1 bs v0 w) (hpx : px ≤ pz + cnt3 L) (hks : ∀ j, j < 18 → L.getD j false = true → BK R v0 j (f j) w) (hun : L.getD 0 true = false) (hdep : ∀ (o : Oper), ops[0]? = some o → ∀ e ∈ o.after, Region.binds .any e = true → L.getD e.on false = true) :
    wpOp Try.prog ops Q 0 (fun a w => BInv R pz w0 P b1 k1 c1 bs v0 a0 (L.setIfInBounds 0 true) a w) (putF a0 f v0) w := by
  obtain ⟨ty, pos, aft, ho⟩ := hO.o0
  refine wpOp_go ho rfl ?_
  refine ow_move (putF_get7 f v0 hsz) ?_
  exact BInv.stepA (i := 0) (x := v0) (by omega) h18 ⟨px, hbs, by have := cnt3_set L 0; omega⟩ hks (grown_refl _ _) rfl
theorem busy_st1 {ops : Array Oper} {Q : Exit → Act → World → Prop} {R pz px b1 k1 c1 : Nat} {w0 w : World} {P : Int} {bs : List NItem} {v0 : Value} {a0 : Act} {L : Array Bool} {f : Nat → Value} (hO : BusyOps ops) (hsz : 70 < a0.tmps.size) (h0 : a0.tmps.getD 0 undef = .pointer (some ⟨R, 0, none⟩)) (hpz : pz + 10 ≤ 1000000) (hbl : bs.length ≤ 2) (hLs : L.size = ops.size) (hcl : Cl ops L) (h18 : L.getD 18 false = false) (hbs : BsD w0 R px P b1 k1 c1 bs v0 w) (hpx : px ≤ pz + cnt3 L) (hks : ∀ j, j < 18 → L.getD j false = true → BK R v0 j (f j) w) (hun : L.getD 1 true = false) (hdep : ∀ (o : Oper), ops[1]? = some o → ∀ e ∈ o.after, Region.binds .any e = true → L.getD e.on false = true) :
    wpOp Try.prog ops Q 1 (fun a w => BInv R pz w0 P b1 k1 c1 bs v0 a0 (L.setIfInBounds 1 true) a w) (putF a0 f v0) w := by
  obtain ⟨ty, pos, aft, ho⟩ := hO.o1
  refine wpOp_go ho rfl ?_
  have hlt := hbs.lt
  have hRw := hbs.hR
  refine ow_lit ?_
  exact BInv.stepA (i := 1) (x := .slice (some ⟨w.heap.size, 0, none⟩) 3 3) (by omega) h18 ⟨px, hbs.alloc (.cells #[.int .i64 (-1), .int .i64 (6), .int .i64 (0)] 3), by have := cnt3_set L 1; omega⟩ hks (World.grownBy_alloc w (.cells #[.int .i64 (-1), .int .i64 (6), .int .i64 (0)] 3) _) ⟨w.heap.size, rfl, by omega, by simp, fun k hk => by obtain ⟨x, _, hx⟩ := lit_at w [-1, 6, 0] 3 k (by simpa using hk); exact ⟨x, hx⟩⟩
theorem busy_st2 {ops : Array Oper} {Q : Exit → Act → World → Prop} {R pz px b1 k1 c1 : Nat} {w0 w : World} {P : Int} {bs : List NItem} {v0 : Value} {a0 : Act} {L : Array Bool} {f : Nat → Value} (hO : BusyOps ops) (hsz : 70 < a0.tmps.size) (h0 : a0.tmps.getD 0 undef = .pointer (some ⟨R, 0, none⟩)) (hpz : pz + 10 ≤ 1000000) (hbl : bs.length ≤ 2) (hLs : L.size = ops.size) (hcl : Cl ops L) (h18 : L.getD 18 false = false) (hbs : BsD w0 R px P b1 k1 c1 bs v0 w) (hpx : px ≤ pz + cnt3 L) (hks : ∀ j, j < 18 → L.getD j false = true → BK R v0 j (f j) w) (hun : L.getD 2 true = false) (hdep : ∀ (o : Oper), ops[2]? = some o → ∀ e ∈ o.after, Region.binds .any e = true → L.getD e.on false = true) :
    wpOp Try.prog ops Q 2 (fun a w => BInv R pz w0 P b1 k1 c1 bs v0 a0 (L.setIfInBounds 2 true) a w) (putF a0 f v0) w := by
  obtain ⟨ty, pos, aft, ho⟩ := hO.o2
  refine wpOp_go ho rfl ?_
  refine ow_move ((putF_get0 f v0 hsz).trans h0) ?_
  exact BInv.stepA (i := 2) (x := .pointer (some ⟨R, 0, none⟩)) (by omega) h18 ⟨px, hbs, by have := cnt3_set L 2; omega⟩ hks (grown_refl _ _) rfl
theorem busy_st3 {ops : Array Oper} {Q : Exit → Act → World → Prop} {R pz px b1 k1 c1 : Nat} {w0 w : World} {P : Int} {bs : List NItem} {v0 : Value} {a0 : Act} {L : Array Bool} {f : Nat → Value} (hO : BusyOps ops) (hsz : 70 < a0.tmps.size) (h0 : a0.tmps.getD 0 undef = .pointer (some ⟨R, 0, none⟩)) (hpz : pz + 10 ≤ 1000000) (hbl : bs.length ≤ 2) (hLs : L.size = ops.size) (hcl : Cl ops L) (h18 : L.getD 18 false = false) (hbs : BsD w0 R px P b1 k1 c1 bs v0 w) (hpx : px ≤ pz + cnt3 L) (hks : ∀ j, j < 18 → L.getD j false = true → BK R v0 j (f j) w) (hun : L.getD 3 true = false) (hdep : ∀ (o : Oper), ops[3]? = some o → ∀ e ∈ o.after, Region.binds .any e = true → L.getD e.on false = true) :
    wpOp Try.prog ops Q 3 (fun a w => BInv R pz w0 P b1 k1 c1 bs v0 a0 (L.setIfInBounds 3 true) a w) (putF a0 f v0) w := by
  obtain ⟨ty, pos, aft, ats, ho⟩ := hO.o3
  refine wpOp_go ho rfl ?_
  have e1 : f 2 = .pointer (some ⟨R, 0, none⟩) := hks 2 (by omega) (hO.dep_ (i := 3) (k := 2) (by simp) hdep)
  have hc3 := cnt3_le L
  refine ow_pick hbs.rd (by omega) ((putF_get f v0 hsz 2 (by omega)).trans e1) fun r w1 hr hrd hu => ?_
  exact BInv.stepA (i := 3) (x := .int .i64 (r : Int)) (by omega) h18 ⟨px + 1, hbs.upd hu hrd, by have := cnt3_pick hun (show 3 = 3 ∨ 3 = 8 ∨ 3 = 13 by omega); omega⟩ hks (grown_upd hu) ⟨r, hr, rfl⟩
theorem busy_st4 {ops : Array Oper} {Q : Exit → Act → World → Prop} {R pz px b1 k1 c1 : Nat} {w0 w : World} {P : Int} {bs : List NItem} {v0 : Value} {a0 : Act} {L : Array Bool} {f : Nat → Value} (hO : BusyOps ops) (hsz : 70 < a0.tmps.size) (h0 : a0.tmps.getD 0 undef = .pointer (some ⟨R, 0, none⟩)) (hpz : pz + 10 ≤ 1000000) (hbl : bs.length ≤ 2) (hLs : L.size = ops.size) (hcl : Cl ops L) (h18 : L.getD 18 false = false) (hbs : BsD w0 R px P b1 k1 c1 bs v0 w) (hpx : px ≤ pz + cnt3 L) (hks : ∀ j, j < 18 → L.getD j false = true → BK R v0 j (f j) w) (hun : L.getD 4 true = false) (hdep : ∀ (o : Oper), ops[4]? = some o → ∀ e ∈ o.after, Region.binds .any e = true → L.getD e.on false = true) :
    wpOp Try.prog ops Q 4 (fun a w => BInv R pz w0 P b1 k1 c1 bs v0 a0 (L.setIfInBounds 4 true) a w) (putF a0 f v0) w := by
  obtain ⟨ty, pos, aft, ho⟩ := hO.o4
  refine wpOp_go ho rfl ?_
  obtain ⟨g1, e1, hgR, hgs, hcl1⟩ : LitK R w (f 1) := hks 1 (by omega) (hO.dep_ (i := 4) (k := 1) (by simp) hdep)
  obtain ⟨rr, hrr, e3⟩ : RndK (f 3) := hks 3 (by omega) (hO.dep_ (i := 4) (k := 3) (by simp) hdep)
  obtain ⟨xx, hxx⟩ := hcl1 rr hrr
  refine ow_at hrr ((putF_get f v0 hsz 1 (by omega)).trans e1) ((putF_get f v0 hsz 3 (by omega)).trans e3) ?_
  exact BInv.stepA (i := 4) (x := .pointer (some ⟨g1, rr, none⟩)) (by omega) h18 ⟨px, hbs, by have := cnt3_set L 4; omega⟩ hks (grown_refl _ _) ⟨g1, rr, xx, rfl, hgR, hgs, hxx⟩
theorem busy_st5 {ops : Array Oper} {Q : Exit → Act → World → Prop} {R pz px b1 k1 c1 : Nat} {w0 w : World} {P : Int} {bs : List NItem} {v0 : Value} {a0 : Act} {L : Array Bool} {f : Nat → Value} (hO : BusyOps ops) (hsz : 70 < a0.tmps.size) (h0 : a0.tmps.getD 0 undef = .pointer (some ⟨R, 0, none⟩)) (hpz : pz + 10 ≤ 1000000) (hbl : bs.length ≤ 2) (hLs : L.size = ops.size) (hcl : Cl ops L) (h18 : L.getD 18 false = false) (hbs : BsD w0 R px P b1 k1 c1 bs v0 w) (hpx : px ≤ pz + cnt3 L) (hks : ∀ j, j < 18 → L.getD j false = true → BK R v0 j (f j) w) (hun : L.getD 5 true = false) (hdep : ∀ (o : Oper), ops[5]? = some o → ∀ e ∈ o.after, Region.binds .any e = true → L.getD e.on false = true) :
    wpOp Try.prog ops Q 5 (fun a w => BInv R pz w0 P b1 k1 c1 bs v0 a0 (L.setIfInBounds 5 true) a w) (putF a0 f v0) w := by
  obtain ⟨ty, pos, aft, ho⟩ := hO.o5
  refine wpOp_go ho rfl ?_
  obtain ⟨g1, k2, xx, e1, hgR, hgs, hxx⟩ : PtrK R w (f 4) := hks 4 (by omega) (hO.dep_ (i := 5) (k := 4) (by simp) hdep)
  refine ow_load hxx ((putF_get f v0 hsz 4 (by omega)).trans e1) ?_
  exact BInv.stepA (i := 5) (x := .int .i64 xx) (by omega) h18 ⟨px, hbs, by have := cnt3_set L 5; omega⟩ hks (grown_refl _ _) ⟨xx, rfl⟩
theorem busy_st6 {ops : Array Oper} {Q : Exit → Act → World → Prop} {R pz px b1 k1 c1 : Nat} {w0 w : World} {P : Int} {bs : List NItem} {v0 : Value} {a0 : Act} {L : Array Bool} {f : Nat → Value} (hO : BusyOps ops) (hsz : 70 < a0.tmps.size) (h0 : a0.tmps.getD 0 undef = .pointer (some ⟨R, 0, none⟩)) (hpz : pz + 10 ≤ 1000000) (hbl : bs.length ≤ 2) (hLs : L.size = ops.size) (hcl : Cl ops L) (h18 : L.getD 18 false = false) (hbs : BsD w0 R px P b1 k1 c1 bs v0 w) (hpx : px ≤ pz + cnt3 L) (hks : ∀ j, j < 18 → L.getD j false = true → BK R v0 j (f j) w) (hun : L.getD 6 true = false) (hdep : ∀ (o : Oper), ops[6]? = some o → ∀ e ∈ o.after, Region.binds .any e = true → L.getD e.on false = true) :
    wpOp Try.prog ops Q 6 (fun a w => BInv R pz w0 P b1 k1 c1 bs v0 a0 (L.setIfInBounds 6 true) a w) (putF a0 f v0) w := by
  obtain ⟨ty, pos, aft, ho⟩ := hO.o6
  refine wpOp_go ho rfl ?_
  have hlt := hbs.lt
  have hRw := hbs.hR
  refine ow_lit ?_
  exact BInv.stepA (i := 6) (x := .slice (some ⟨w.heap.size, 0, none⟩) 3 3) (by omega) h18 ⟨px, hbs.alloc (.cells #[.int .i64 (0), .int .i64 (5), .int .i64 (1)] 3), by have := cnt3_set L 6; omega⟩ hks (World.grownBy_alloc w (.cells #[.int .i64 (0), .int .i64 (5), .int .i64 (1)] 3) _) ⟨w.heap.size, rfl, by omega, by simp, fun k hk => by obtain ⟨x, _, hx⟩ := lit_at w [0, 5, 1] 3 k (by simpa using hk); exact ⟨x, hx⟩⟩
theorem busy_st7 {ops : Array Oper} {Q : Exit → Act → World → Prop} {R pz px b1 k1 c1 : Nat} {w0 w : World} {P : Int} {bs : List NItem} {v0 : Value} {a0 : Act} {L : Array Bool} {f : Nat → Value} (hO : BusyOps ops) (hsz : 70 < a0.tmps.size) (h0 : a0.tmps.getD 0 undef = .pointer (some ⟨R, 0, none⟩)) (hpz : pz + 10 ≤ 1000000) (hbl : bs.length ≤ 2) (hLs : L.size = ops.size) (hcl : Cl ops L) (h18 : L.getD 18 false = false) (hbs : BsD w0 R px P b1 k1 c1 bs v0 w) (hpx : px ≤ pz + cnt3 L) (hks : ∀ j, j < 18 → L.getD j false = true → BK R v0 j (f j) w) (hun : L.getD 7 true = false) (hdep : ∀ (o : Oper), ops[7]? = some o → ∀ e ∈ o.after, Region.binds .any e = true → L.getD e.on false = true) :
    wpOp Try.prog ops Q 7 (fun a w => BInv R pz w0 P b1 k1 c1 bs v0 a0 (L.setIfInBounds 7 true) a w) (putF a0 f v0) w := by
  obtain ⟨ty, pos, aft, ho⟩ := hO.o7
  refine wpOp_go ho rfl ?_
  refine ow_move ((putF_get0 f v0 hsz).trans h0) ?_
  exact BInv.stepA (i := 7) (x := .pointer (some ⟨R, 0, none⟩)) (by omega) h18 ⟨px, hbs, by have := cnt3_set L 7; omega⟩ hks (grown_refl _ _) rfl
theorem busy_st8 {ops : Array Oper} {Q : Exit → Act → World → Prop} {R pz px b1 k1 c1 : Nat} {w0 w : World} {P : Int} {bs : List NItem} {v0 : Value} {a0 : Act} {L : Array Bool} {f : Nat → Value} (hO : BusyOps ops) (hsz : 70 < a0.tmps.size) (h0 : a0.tmps.getD 0 undef = .pointer (some ⟨R, 0, none⟩)) (hpz : pz + 10 ≤ 1000000) (hbl : bs.length ≤ 2) (hLs : L.size = ops.size) (hcl : Cl ops L) (h18 : L.getD 18 false = false) (hbs : BsD w0 R px P b1 k1 c1 bs v0 w) (hpx : px ≤ pz + cnt3 L) (hks : ∀ j, j < 18 → L.getD j false = true → BK R v0 j (f j) w) (hun : L.getD 8 true = false) (hdep : ∀ (o : Oper), ops[8]? = some o → ∀ e ∈ o.after, Region.binds .any e = true → L.getD e.on false = true) :
    wpOp Try.prog ops Q 8 (fun a w => BInv R pz w0 P b1 k1 c1 bs v0 a0 (L.setIfInBounds 8 true) a w) (putF a0 f v0) w := by
  obtain ⟨ty, pos, aft, ats, ho⟩ := hO.o8
  refine wpOp_go ho rfl ?_
  have e1 : f 7 = .pointer (some ⟨R, 0, none⟩) := hks 7 (by omega) (hO.dep_ (i := 8) (k := 7) (by simp) hdep)
  have hc3 := cnt3_le L
  refine ow_pick hbs.rd (by omega) ((putF_get f v0 hsz 7 (by omega)).trans e1) fun r w1 hr hrd hu => ?_
  exact BInv.stepA (i := 8) (x := .int .i64 (r : Int)) (by omega) h18 ⟨px + 1, hbs.upd hu hrd, by have := cnt3_pick hun (show 8 = 3 ∨ 8 = 8 ∨ 8 = 13 by omega); omega⟩ hks (grown_upd hu) ⟨r, hr, rfl⟩
theorem busy_st9 {ops : Array Oper} {Q : Exit → Act → World → Prop} {R pz px b1 k1 c1 : Nat} {w0 w : World} {P : Int} {bs : List NItem} {v0 : Value} {a0 : Act} {L : Array Bool} {f : Nat → Value} (hO : BusyOps ops) (hsz : 70 < a0.tmps.size) (h0 : a0.tmps.getD 0 undef = .pointer (some ⟨R, 0, none⟩)) (hpz : pz + 10 ≤ 1000000) (hbl : bs.length ≤ 2) (hLs : L.size = ops.size) (hcl : Cl ops L) (h18 : L.getD 18 false = false) (hbs : BsD w0 R px P b1 k1 c1 bs v0 w) (hpx : px ≤ pz + cnt3 L) (hks : ∀ j, j < 18 → L.getD j false = true → BK R v0 j (f j) w) (hun : L.getD 9 true = false) (hdep : ∀ (o : Oper), ops[9]? = some o → ∀ e ∈ o.after, Region.binds .any e = true → L.getD e.on false = true) :
    wpOp Try.prog ops Q 9 (fun a w => BInv R pz w0 P b1 k1 c1 bs v0 a0 (L.setIfInBounds 9 true) a w) (putF a0 f v0) w := by
  obtain ⟨ty, pos, aft, ho⟩ := hO.o9
  refine wpOp_go ho rfl ?_
  obtain ⟨g1, e1, hgR, hgs, hcl1⟩ : LitK R w (f 6) := hks 6 (by omega) (hO.dep_ (i := 9) (k := 6) (by simp) hdep)
  obtain ⟨rr, hrr, e3⟩ : RndK (f 8) := hks 8 (by omega) (hO.dep_ (i := 9) (k := 8) (by simp) hdep)
  obtain ⟨xx, hxx⟩ := hcl1 rr hrr
  refine ow_at hrr ((putF_get f v0 hsz 6 (by omega)).trans e1) ((putF_get f v0 hsz 8 (by omega)).trans e3) ?_
  exact BInv.stepA (i := 9) (x := .pointer (some ⟨g1, rr, none⟩)) (by omega) h18 ⟨px, hbs, by have := cnt3_set L 9; omega⟩ hks (grown_refl _ _) ⟨g1, rr, xx, rfl, hgR, hgs, hxx⟩
theorem busy_st10 {ops : Array Oper} {Q : Exit → Act → World → Prop} {R pz px b1 k1 c1 : Nat} {w0 w : World} {P : Int} {bs : List NItem} {v0 : Value} {a0 : Act} {L : Array Bool} {f : Nat → Value} (hO : BusyOps ops) (hsz : 70 < a0.tmps.size) (h0 : a0.tmps.getD 0 undef = .pointer (some ⟨R, 0, none⟩)) (hpz : pz + 10 ≤ 1000000) (hbl : bs.length ≤ 2) (hLs : L.size = ops.size) (hcl : Cl ops L) (h18 : L.getD 18 false = false) (hbs : BsD w0 R px P b1 k1 c1 bs v0 w) (hpx : px ≤ pz + cnt3 L) (hks : ∀ j, j < 18 → L.getD j false = true → BK R v0 j (f j) w) (hun : L.getD 10 true = false) (hdep : ∀ (o : Oper), ops[10]? = some o → ∀ e ∈ o.after, Region.binds .any e = true → L.getD e.on false = true) :
    wpOp Try.prog ops Q 10 (fun a w => BInv R pz w0 P b1 k1 c1 bs v0 a0 (L.setIfInBounds 10 true) a w) (putF a0 f v0) w := by
  obtain ⟨ty, pos, aft, ho⟩ := hO.o10
  refine wpOp_go ho rfl ?_
  obtain ⟨g1, k2, xx, e1, hgR, hgs, hxx⟩ : PtrK R w (f 9) := hks 9 (by omega) (hO.dep_ (i := 10) (k := 9) (by simp) hdep)
  refine ow_load hxx ((putF_get f v0 hsz 9 (by omega)).trans e1) ?_
  exact BInv.stepA (i := 10) (x := .int .i64 xx) (by omega) h18 ⟨px, hbs, by have := cnt3_set L 10; omega⟩ hks (grown_refl _ _) ⟨xx, rfl⟩
theorem busy_st11 {ops : Array Oper} {Q : Exit → Act → World → Prop} {R pz px b1 k1 c1 : Nat} {w0 w : World} {P : Int} {bs : List NItem} {v0 : Value} {a0 : Act} {L : Array Bool} {f : Nat → Value} (hO : BusyOps ops) (hsz : 70 < a0.tmps.size) (h0 : a0.tmps.getD 0 undef = .pointer (some ⟨R, 0, none⟩)) (hpz : pz + 10 ≤ 1000000) (hbl : bs.length ≤ 2) (hLs : L.size = ops.size) (hcl : Cl ops L) (h18 : L.getD 18 false = false) (hbs : BsD w0 R px P b1 k1 c1 bs v0 w) (hpx : px ≤ pz + cnt3 L) (hks : ∀ j, j < 18 → L.getD j false = true → BK R v0 j (f j) w) (hun : L.getD 11 true = false) (hdep : ∀ (o : Oper), ops[11]? = some o → ∀ e ∈ o.after, Region.binds .any e = true → L.getD e.on false = true) :
    wpOp Try.prog ops Q 11 (fun a w => BInv R pz w0 P b1 k1 c1 bs v0 a0 (L.setIfInBounds 11 true) a w) (putF a0 f v0) w := by
  obtain ⟨ty, pos, aft, ho⟩ := hO.o11
  refine wpOp_go ho rfl ?_
  have hlt := hbs.lt
  have hRw := hbs.hR
  refine ow_lit ?_
  exact BInv.stepA (i := 11) (x := .slice (some ⟨w.heap.size, 0, none⟩) 3 3) (by omega) h18 ⟨px, hbs.alloc (.cells #[.int .i64 (-1), .int .i64 (3), .int .i64 (0)] 3), by have := cnt3_set L 11; omega⟩ hks (World.grownBy_alloc w (.cells #[.int .i64 (-1), .int .i64 (3), .int .i64 (0)] 3) _) ⟨w.heap.size, rfl, by omega, by simp, fun k hk => by obtain ⟨x, _, hx⟩ := lit_at w [-1, 3, 0] 3 k (by simpa using hk); exact ⟨x, hx⟩⟩
theorem busy_st12 {ops : Array Oper} {Q : Exit → Act → World → Prop} {R pz px b1 k1 c1 : Nat} {w0 w : World} {P : Int} {bs : List NItem} {v0 : Value} {a0 : Act} {L : Array Bool} {f : Nat → Value} (hO : BusyOps ops) (hsz : 70 < a0.tmps.size) (h0 : a0.tmps.getD 0 undef = .pointer (some ⟨R, 0, none⟩)) (hpz : pz + 10 ≤ 1000000) (hbl : bs.length ≤ 2) (hLs : L.size = ops.size) (hcl : Cl ops L) (h18 : L.getD 18 false = false) (hbs : BsD w0 R px P b1 k1 c1 bs v0 w) (hpx : px ≤ pz + cnt3 L) (hks : ∀ j, j < 18 → L.getD j false = true → BK R v0 j (f j) w) (hun : L.getD 12 true = false) (hdep : ∀ (o : Oper), ops[12]? = some o → ∀ e ∈ o.after, Region.binds .any e = true → L.getD e.on false = true) :
    wpOp Try.prog ops Q 12 (fun a w => BInv R pz w0 P b1 k1 c1 bs v0 a0 (L.setIfInBounds 12 true) a w) (putF a0 f v0) w := by
  obtain ⟨ty, pos, aft, ho⟩ := hO.o12
  refine wpOp_go ho rfl ?_
  refine ow_move ((putF_get0 f v0 hsz).trans h0) ?_
  exact BInv.stepA (i := 12) (x := .pointer (some ⟨R, 0, none⟩)) (by omega) h18 ⟨px, hbs, by have := cnt3_set L 12; omega⟩ hks (grown_refl _ _) rfl
theorem busy_st13 {ops : Array Oper} {Q : Exit → Act → World → Prop} {R pz px b1 k1 c1 : Nat} {w0 w : World} {P : Int} {bs : List NItem} {v0 : Value} {a0 : Act} {L : Array Bool} {f : Nat → Value} (hO : BusyOps ops) (hsz : 70 < a0.tmps.size) (h0 : a0.tmps.getD 0 undef = .pointer (some ⟨R, 0, none⟩)) (hpz : pz + 10 ≤ 1000000) (hbl : bs.length ≤ 2) (hLs : L.size = ops.size) (hcl : Cl ops L) (h18 : L.getD 18 false = false) (hbs : BsD w0 R px P b1 k1 c1 bs v0 w) (hpx : px ≤ pz + cnt3 L) (hks : ∀ j, j < 18 → L.getD j false = true → BK R v0 j (f j) w) (hun : L.getD 13 true = false) (hdep : ∀ (o : Oper), ops[13]? = some o → ∀ e ∈ o.after, Region.binds .any e = true → L.getD e.on false = true) :
    wpOp Try.prog ops Q 13 (fun a w => BInv R pz w0 P b1 k1 c1 bs v0 a0 (L.setIfInBounds 13 true) a w) (putF a0 f v0) w := by
  obtain ⟨ty, pos, aft, ats, ho⟩ := hO.o13
  refine wpOp_go ho rfl ?_
  have e1 : f 12 = .pointer (some ⟨R, 0, none⟩) := hks 12 (by omega) (hO.dep_ (i := 13) (k := 12) (by simp) hdep)
  have hc3 := cnt3_le L
  refine ow_pick hbs.rd (by omega) ((putF_get f v0 hsz 12 (by omega)).trans e1) fun r w1 hr hrd hu => ?_
  exact BInv.stepA (i := 13) (x := .int .i64 (r : Int)) (by omega) h18 ⟨px + 1, hbs.upd hu hrd, by have := cnt3_pick hun (show 13 = 3 ∨ 13 = 8 ∨ 13 = 13 by omega); omega⟩ hks (grown_upd hu) ⟨r, hr, rfl⟩
theorem busy_st14 {ops : Array Oper} {Q : Exit → Act → World → Prop} {R pz px b1 k1 c1 : Nat} {w0 w : World} {P : Int} {bs : List NItem} {v0 : Value} {a0 : Act} {L : Array Bool} {f : Nat → Value} (hO : BusyOps ops) (hsz : 70 < a0.tmps.size) (h0 : a0.tmps.getD 0 undef = .pointer (some ⟨R, 0, none⟩)) (hpz : pz + 10 ≤ 1000000) (hbl : bs.length ≤ 2) (hLs : L.size = ops.size) (hcl : Cl ops L) (h18 : L.getD 18 false = false) (hbs : BsD w0 R px P b1 k1 c1 bs v0 w) (hpx : px ≤ pz + cnt3 L) (hks : ∀ j, j < 18 → L.getD j false = true → BK R v0 j (f j) w) (hun : L.getD 14 true = false) (hdep : ∀ (o : Oper), ops[14]? = some o → ∀ e ∈ o.after, Region.binds .any e = true → L.getD e.on false = true) :
    wpOp Try.prog ops Q 14 (fun a w => BInv R pz w0 P b1 k1 c1 bs v0 a0 (L.setIfInBounds 14 true) a w) (putF a0 f v0) w := by
  obtain ⟨ty, pos, aft, ho⟩ := hO.o14
  refine wpOp_go ho rfl ?_
  obtain ⟨g1, e1, hgR, hgs, hcl1⟩ : LitK R w (f 11) := hks 11 (by omega) (hO.dep_ (i := 14) (k := 11) (by simp) hdep)
  obtain ⟨rr, hrr, e3⟩ : RndK (f 13) := hks 13 (by omega) (hO.dep_ (i := 14) (k := 13) (by simp) hdep)
  obtain ⟨xx, hxx⟩ := hcl1 rr hrr
  refine ow_at hrr ((putF_get f v0 hsz 11 (by omega)).trans e1) ((putF_get f v0 hsz 13 (by omega)).trans e3) ?_
  exact BInv.stepA (i := 14) (x := .pointer (some ⟨g1, rr, none⟩)) (by omega) h18 ⟨px, hbs, by have := cnt3_set L 14; omega⟩ hks (grown_refl _ _) ⟨g1, rr, xx, rfl, hgR, hgs, hxx⟩
theorem busy_st15 {ops : Array Oper} {Q : Exit → Act → World → Prop} {R pz px b1 k1 c1 : Nat} {w0 w : World} {P : Int} {bs : List NItem} {v0 : Value} {a0 : Act} {L : Array Bool} {f : Nat → Value} (hO : BusyOps ops) (hsz : 70 < a0.tmps.size) (h0 : a0.tmps.getD 0 undef = .pointer (some ⟨R, 0, none⟩)) (hpz : pz + 10 ≤ 1000000) (hbl : bs.length ≤ 2) (hLs : L.size = ops.size) (hcl : Cl ops L) (h18 : L.getD 18 false = false) (hbs : BsD w0 R px P b1 k1 c1 bs v0 w) (hpx : px ≤ pz + cnt3 L) (hks : ∀ j, j < 18 → L.getD j false = true → BK R v0 j (f j) w) (hun : L.getD 15 true = false) (hdep : ∀ (o : Oper), ops[15]? = some o → ∀ e ∈ o.after, Region.binds .any e = true → L.getD e.on false = true) :
    wpOp Try.prog ops Q 15 (fun a w => BInv R pz w0 P b1 k1 c1 bs v0 a0 (L.setIfInBounds 15 true) a w) (putF a0 f v0) w := by
  obtain ⟨ty, pos, aft, ho⟩ := hO.o15
  refine wpOp_go ho rfl ?_
  obtain ⟨g1, k2, xx, e1, hgR, hgs, hxx⟩ : PtrK R w (f 14) := hks 14 (by omega) (hO.dep_ (i := 15) (k := 14) (by simp) hdep)
  refine ow_load hxx ((putF_get f v0 hsz 14 (by omega)).trans e1) ?_
  exact BInv.stepA (i := 15) (x := .int .i64 xx) (by omega) h18 ⟨px, hbs, by have := cnt3_set L 15; omega⟩ hks (grown_refl _ _) ⟨xx, rfl⟩
theorem busy_st16 {ops : Array Oper} {Q : Exit → Act → World → Prop} {R pz px b1 k1 c1 : Nat} {w0 w : World} {P : Int} {bs : List NItem} {v0 : Value} {a0 : Act} {L : Array Bool} {f : Nat → Value} (hO : BusyOps ops) (hsz : 70 < a0.tmps.size) (h0 : a0.tmps.getD 0 undef = .pointer (some ⟨R, 0, none⟩)) (hpz : pz + 10 ≤ 1000000) (hbl : bs.length ≤ 2) (hLs : L.size = ops.size) (hcl : Cl ops L) (h18 : L.getD 18 false = false) (hbs : BsD w0 R px P b1 k1 c1 bs v0 w) (hpx : px ≤ pz + cnt3 L) (hks : ∀ j, j < 18 → L.getD j false = true → BK R v0 j (f j) w) (hun : L.getD 16 true = false) (hdep : ∀ (o : Oper), ops[16]? = some o → ∀ e ∈ o.after, Region.binds .any e = true → L.getD e.on false = true) :
    wpOp Try.prog ops Q 16 (fun a w => BInv R pz w0 P b1 k1 c1 bs v0 a0 (L.setIfInBounds 16 true) a w) (putF a0 f v0) w := by
  obtain ⟨ty, pos, aft, ho⟩ := hO.o16
  refine wpOp_go ho rfl ?_
  obtain ⟨x1, e1⟩ : IntK (f 5) := hks 5 (by omega) (hO.dep_ (i := 16) (k := 5) (by simp) hdep)
  obtain ⟨x2, e2⟩ : IntK (f 10) := hks 10 (by omega) (hO.dep_ (i := 16) (k := 10) (by simp) hdep)
  obtain ⟨x3, e3⟩ : IntK (f 15) := hks 15 (by omega) (hO.dep_ (i := 16) (k := 15) (by simp) hdep)
  refine ow_item ((putF_get f v0 hsz 5 (by omega)).trans e1) ((putF_get f v0 hsz 10 (by omega)).trans e2) ((putF_get f v0 hsz 15 (by omega)).trans e3) ?_
  exact BInv.stepA (i := 16) (x := .agg #[.int .i64 x1, .int .i64 x2, .int .i64 x3]) (by omega) h18 ⟨px, hbs, by have := cnt3_set L 16; omega⟩ hks (grown_refl _ _) ⟨x1, x2, x3, rfl⟩
theorem busy_st17 {ops : Array Oper} {Q : Exit → Act → World → Prop} {R pz px b1 k1 c1 : Nat} {w0 w : World} {P : Int} {bs : List NItem} {v0 : Value} {a0 : Act} {L : Array Bool} {f : Nat → Value} (hO : BusyOps ops) (hsz : 70 < a0.tmps.size) (h0 : a0.tmps.getD 0 undef = .pointer (some ⟨R, 0, none⟩)) (hpz : pz + 10 ≤ 1000000) (hbl : bs.length ≤ 2) (hLs : L.size = ops.size) (hcl : Cl ops L) (h18 : L.getD 18 false = false) (hbs : BsD w0 R px P b1 k1 c1 bs v0 w) (hpx : px ≤ pz + cnt3 L) (hks : ∀ j, j < 18 → L.getD j false = true → BK R v0 j (f j) w) (hun : L.getD 17 true = false) (hdep : ∀ (o : Oper), ops[17]? = some o → ∀ e ∈ o.after, Region.binds .any e = true → L.getD e.on false = true) :
    wpOp Try.prog ops Q 17 (fun a w => BInv R pz w0 P b1 k1 c1 bs v0 a0 (L.setIfInBounds 17 true) a w) (putF a0 f v0) w := by
  obtain ⟨ty, pos, aft, ho⟩ := hO.o17
  refine wpOp_go ho rfl ?_
  obtain ⟨x1, x2, x3, e1⟩ : AggK (f 16) := hks 16 (by omega) (hO.dep_ (i := 17) (k := 16) (by simp) hdep)
  have hlt := hbs.lt
  have hRw := hbs.hR
  have hbk := Blk.new_ w 52 #[.int .i64 x1, .int .i64 x2, .int .i64 x3]
  refine ow_one ((putF_get f v0 hsz 16 (by omega)).trans e1) ?_
  exact BInv.stepA (i := 17) (x := .slice (some ⟨w.heap.size, 0, none⟩) 1 1) (by omega) h18 ⟨px, hbs.alloc (.cells #[.int .i64 x1, .int .i64 x2, .int .i64 x3] 52), by have := cnt3_set L 17; omega⟩ hks (World.grownBy_alloc w (.cells #[.int .i64 x1, .int .i64 x2, .int .i64 x3] 52) _) ⟨w.heap.size, x1, x2, x3, rfl, by omega, by simp, hbk.cell 0, hbk.cell 1, hbk.cell 2⟩
theorem busy_st18 {ops : Array Oper} {Q : Exit → Act → World → Prop} {R pz px b1 k1 c1 : Nat} {w0 w : World} {P : Int} {bs : List NItem} {v0 : Value} {a0 : Act} {L : Array Bool} {f : Nat → Value} (hO : BusyOps ops) (hsz : 70 < a0.tmps.size) (h0 : a0.tmps.getD 0 undef = .pointer (some ⟨R, 0, none⟩)) (hpz : pz + 10 ≤ 1000000) (hbl : bs.length ≤ 2) (hLs : L.size = ops.size) (hcl : Cl ops L) (h18 : L.getD 18 false = false) (hbs : BsD w0 R px P b1 k1 c1 bs v0 w) (hpx : px ≤ pz + cnt3 L) (hks : ∀ j, j < 18 → L.getD j false = true → BK R v0 j (f j) w) (hun : L.getD 18 true = false) (hdep : ∀ (o : Oper), ops[18]? = some o → ∀ e ∈ o.after, Region.binds .any e = true → L.getD e.on false = true) :
    wpOp Try.prog ops Q 18 (fun a w => BInv R pz w0 P b1 k1 c1 bs v0 a0 (L.setIfInBounds 18 true) a w) (putF a0 f v0) w := by
  obtain ⟨ty, pos, aft, ho⟩ := hO.o18
  refine wpOp_go ho rfl ?_
  have d0 := hO.dep_ (i := 18) (k := 0) (by simp) hdep
  have d17 := hO.dep_ (i := 18) (k := 17) (by simp) hdep
  have hall := hO.all18 hcl d0 d17
  have e0 : f 0 = v0 := hks 0 (by omega) d0
  obtain ⟨g1, x1, x2, x3, e1, hgR, hgs, c0, c1, c2⟩ : OneK R w (f 17) := hks 17 (by omega) d17
  have hlt := hbs.lt
  have hc3 := cnt3_le L
  obtain ⟨i0, hi0, hz0, hz1, hz2⟩ := info_parts Try.infoItem
  refine wp_append_at w _ _ 44 rfl (w0.heap.size + 1) 52 i0 _ 3 24 Try.underlying44 hi0 hz0 hz1 hz2 rfl (by omega) v0 bs.length (itemCells bs) ((putF_get f v0 hsz 0 (by omega)).trans e0) hbs.own ⟨g1, 0, none⟩ 1 1 [.int .i64 x1, .int .i64 x2, .int .i64 x3] ((putF_get f v0 hsz 17 (by omega)).trans e1) rfl ?_ (by intro u hu; simp at hu; rcases hu with rfl | rfl | rfl <;> rfl) (by unfold maxLen; omega) (by omega) (by omega) ?_
  · intro j u hj; rw [addr_add0, Nat.zero_add]; match j, hj with | 0, hj => (cases hj; exact c0) | 1, hj => (cases hj; exact c1) | 2, hj => (cases hj; exact c2)
  · intro v2 w2 hown2 hg2 _
    have hM := hbs.more (it := ⟨x1, x2, x3⟩) hg2 hown2
    refine ⟨updF f 18 v2, v0, put_putF a0 f v0 v2 18 (by omega), .inr ⟨getD_set_self (by rw [hLs, hO.sz]; omega) _, fun j hj => getD_set_true (hall j hj), px, bs ++ [⟨x1, x2, x3⟩], hM, by omega, by simp, fun h19 => ?_⟩⟩
    exfalso
    rw [getD_set_ne false (by omega : (18 : Nat) ≠ 19)] at h19
    have := hO.dep_ (i := 19) (k := 18) (by simp) (fun o ho e he hb => hcl 19 o ho h19 e he hb)
    rw [h18] at this; cases this
theorem busy_st19 {ops : Array Oper} {Q : Exit → Act → World → Prop} {R pz px b1 k1 c1 : Nat} {w0 w : World} {P : Int} {bs : List NItem} {v0 : Value} {a0 : Act} {L : Array Bool} {f : Nat → Value} (hO : BusyOps ops) (hsz : 70 < a0.tmps.size) (h0 : a0.tmps.getD 0 undef = .pointer (some ⟨R, 0, none⟩)) (hpz : pz + 10 ≤ 1000000) (hbl : bs.length ≤ 2) (hLs : L.size = ops.size) (hcl : Cl ops L) (h18 : L.getD 18 false = false) (hbs : BsD w0 R px P b1 k1 c1 bs v0 w) (hpx : px ≤ pz + cnt3 L) (hks : ∀ j, j < 18 → L.getD j false = true → BK R v0 j (f j) w) (hun : L.getD 19 true = false) (hdep : ∀ (o : Oper), ops[19]? = some o → ∀ e ∈ o.after, Region.binds .any e = true → L.getD e.on false = true) :
    wpOp Try.prog ops Q 19 (fun a w => BInv R pz w0 P b1 k1 c1 bs v0 a0 (L.setIfInBounds 19 true) a w) (putF a0 f v0) w := by
  exfalso
  have := hO.dep_ (i := 19) (k := 18) (by simp) hdep
  rw [h18] at this; cases this
theorem busy_st19' {ops : Array Oper} {Q : Exit → Act → World → Prop} {R pz px b1 k1 c1 : Nat} {w0 w : World} {P : Int} {bs bs' : List NItem} {v0 g : Value} {a0 : Act} {L : Array Bool} {f : Nat → Value} (hO : BusyOps ops) (hsz : 70 < a0.tmps.size) (h18 : L.getD 18 false = true) (hall : ∀ j, j < 18 → L.getD j false = true) (hbs : BsD w0 R px P b1 k1 c1 bs' (f 18) w) (hpx : px ≤ pz + 3) (hlen : bs'.length = bs.length + 1) :
    wpOp Try.prog ops Q 19 (fun a w => BInv R pz w0 P b1 k1 c1 bs v0 a0 (L.setIfInBounds 19 true) a w) (putF a0 f g) w := by
  obtain ⟨ty, pos, aft, ho⟩ := hO.o19
  refine wpOp_go ho rfl ?_
  refine ow_assign (putF_get f g hsz 18 (by omega)) ?_
  exact ⟨f, f 18, putF_put7 _ _ _ _, .inr ⟨getD_set_true h18, fun j hj => getD_set_true (hall j hj), px, bs', hbs, hpx, hlen, fun _ => rfl⟩⟩
theorem busy_region {ops : Array Oper} {Q : Exit → Act → World → Prop} {id : Nat} {R pz b1 k1 c1 : Nat} {w0 w : World} {P : Int} {bs : List NItem} {v0 : Value} {a0 : Act} (hO : BusyOps ops) (hm : Try.prog.follows .mixedOrders = true) (hsz : 70 < a0.tmps.size) (h0 : a0.tmps.getD 0 undef = .pointer (some ⟨R, 0, none⟩)) (h7 : a0.tmps.getD 7 undef = v0) (hpz : pz + 10 ≤ 1000000) (hbl : bs.length ≤ 2) (hB : BsD w0 R pz P b1 k1 c1 bs v0 w)
    (hk : ∀ (f : Nat → Value) (v : Value) (p' : Nat) (bs' : List NItem) (w' : World), p' ≤ pz + 3 → bs'.length = bs.length + 1 → BsD w0 R p' P b1 k1 c1 bs' v w' → Q .normal (putA a0 f v) w') : (Code.region id ops true).wp Try.prog Q a0 w := by
  refine region_inv hm (BInv R pz w0 P b1 k1 c1 bs v0 a0) ?_ ?_ ?_ ?_
  · intro i o ho e he
    have h1 := List.all_eq_true.1 hO.hac i (List.mem_range.2 (Array.getElem?_eq_some_iff.1 ho).1)
    rw [ho] at h1
    simp only [Array.all_eq_true_iff_forall_mem] at h1
    exact of_decide_eq_true (h1 e he)
  · subst h7
    refine ⟨_, _, putF_start a0, .inl ⟨by simp [Array.getElem?_replicate]; split <;> rfl, rfl, ⟨pz, hB.grown (grown_drew _ _) hB.rd, by omega⟩, fun j hj hl => ?_⟩⟩
    simp [Array.getElem?_replicate] at hl
    split at hl <;> simp at hl
  · intro i L a w hLs hcl hI hun hdep hio
    have hi : i < 20 := by rw [hO.sz] at hio; exact hio
    obtain ⟨f, g, rfl, hI⟩ := hI
    rcases hI with ⟨h18, rfl, ⟨px, hbs, hpx⟩, hks⟩ | ⟨h18, hall, px, bs', hbs, hpx, hlen, h19⟩
    · have hc : i = 0 ∨ i = 1 ∨ i = 2 ∨ i = 3 ∨ i = 4 ∨ i = 5 ∨ i = 6 ∨ i = 7 ∨ i = 8 ∨ i = 9 ∨ i = 10 ∨ i = 11 ∨ i = 12 ∨ i = 13 ∨ i = 14 ∨ i = 15 ∨ i = 16 ∨ i = 17 ∨ i = 18 ∨ i = 19 := by omega
      rcases hc with rfl | rfl | rfl | rfl | rfl | rfl | rfl | rfl | rfl | rfl | rfl | rfl | rfl | rfl | rfl | rfl | rfl | rfl | rfl | rfl
      · exact busy_st0 hO hsz h0 hpz hbl hLs hcl h18 hbs hpx hks hun hdep
      · exact busy_st1 hO hsz h0 hpz hbl hLs hcl h18 hbs hpx hks hun hdep
      · exact busy_st2 hO hsz h0 hpz hbl hLs hcl h18 hbs hpx hks hun hdep
      · exact busy_st3 hO hsz h0 hpz hbl hLs hcl h18 hbs hpx hks hun hdep
      · exact busy_st4 hO hsz h0 hpz hbl hLs hcl h18 hbs hpx hks hun hdep
      · exact busy_st5 hO hsz h0 hpz hbl hLs hcl h18 hbs hpx hks hun hdep
      · exact busy_st6 hO hsz h0 hpz hbl hLs hcl h18 hbs hpx hks hun hdep
      · exact busy_st7 hO hsz h0 hpz hbl hLs hcl h18 hbs hpx hks hun hdep
      · exact busy_st8 hO hsz h0 hpz hbl hLs hcl h18 hbs hpx hks hun hdep
      · exact busy_st9 hO hsz h0 hpz hbl hLs hcl h18 hbs hpx hks hun hdep
      · exact busy_st10 hO hsz h0 hpz hbl hLs hcl h18 hbs hpx hks hun hdep
      · exact busy_st11 hO hsz h0 hpz hbl hLs hcl h18 hbs hpx hks hun hdep
      · exact busy_st12 hO hsz h0 hpz hbl hLs hcl h18 hbs hpx hks hun hdep
      · exact busy_st13 hO hsz h0 hpz hbl hLs hcl h18 hbs hpx hks hun hdep
      · exact busy_st14 hO hsz h0 hpz hbl hLs hcl h18 hbs hpx hks hun hdep
      · exact busy_st15 hO hsz h0 hpz hbl hLs hcl h18 hbs hpx hks hun hdep
      · exact busy_st16 hO hsz h0 hpz hbl hLs hcl h18 hbs hpx hks hun hdep
      · exact busy_st17 hO hsz h0 hpz hbl hLs hcl h18 hbs hpx hks hun hdep
      · exact busy_st18 hO hsz h0 hpz hbl hLs hcl h18 hbs hpx hks hun hdep
      · exact busy_st19 hO hsz h0 hpz hbl hLs hcl h18 hbs hpx hks hun hdep
    · have hun2 := (getD_un hun).1
      by_cases hi18 : i < 18
      · rw [hall i hi18] at hun2; cases hun2
      · by_cases hi2 : i = 18
        · rw [hi2, h18] at hun2; cases hun2
        · obtain rfl : i = 19 := by omega
          exact busy_st19' hO hsz h18 hall hbs hpx hlen
  · intro L a w hall hI
    obtain ⟨f, g, rfl, hI⟩ := hI
    rcases hI with ⟨h18, _⟩ | ⟨h18, _, px, bs', hbs, hpx, hlen, h19⟩
    · rw [hall 18 (by rw [hO.sz]; omega)] at h18; cases h18
    · have hg := h19 (hall 19 (by rw [hO.sz]; omega))
      subst hg
      rw [putF_putA]
      exact hk f _ px bs' w hpx hlen hbs
end Go.Proofs.Ytkcbghaadjhceaa

/- The draw of tasks under way (l20Busy). -/
namespace Go.Proofs.Ytkcbghaadjhceaa
open Go.RowKit
set_option linter.unusedVariables false
set_option linter.unusedSimpArgs false

set_option maxHeartbeats 4000000 in
set_option maxRecDepth 100000 in
theorem l20Busy_c (R p : Nat) (q : Int) (P : Int) (b1 k c1 lo hi : Nat) (n : NNet) (w : World) (hR : RdV w R p) (hp : p ≤ 600000) (hq : q ≤ 1000000) (hq0 : -1000000 ≤ q) (hS : Small n) (hk : n.tasks.length = k) (hN : NetV w lo hi (.agg #[.int .i64 P, .slice (some ⟨b1, 0, none⟩) k c1]) n) (hhi : hi ≤ w.heap.size) (hlo : R < lo) :
    Calls Try.prog 49 #[.pointer (some ⟨R, 0, none⟩), .agg #[.int .i64 P, .slice (some ⟨b1, 0, none⟩) k c1], .int .i64 q] w fun e w' => BusyOut w R (p + 40) e w' := by
  obtain ⟨i0, hi0, hz0, hz1, hz2⟩ := info_parts Try.infoItem
  have hRlt := hR.lt
  have hk1 : 1 ≤ k := by have := hS.2.2.1; omega
  have hk6 : k ≤ 6 := by have := hS.2.2.2.1; omega
  have HK := Lib.hid hk
  have HN := Lib.hid hN
  clear hN
  have hsz1 : (w.alloc (.cells #[.int .i64 P, .slice (some ⟨b1, 0, none⟩) k c1] 25)).heap.size = w.heap.size + 1 := by simp
  have HB0 : Hid (BsD w R p P b1 k c1 [] (.slice (some ⟨w.heap.size + 1, 0, none⟩) 0 0) ((w.alloc (.cells #[.int .i64 P, .slice (some ⟨b1, 0, none⟩) k c1] 25)).alloc (.cells #[] 52))) :=
    Lib.hid ⟨(hR.alloc _).alloc _, grown_alloc (World.grownBy_alloc _ _ _) _, (Blk.new_ _ _ _).alloc _, (by
      have := World.ownsRow_made (w.alloc (.cells #[.int .i64 P, .slice (some ⟨b1, 0, none⟩) k c1] 25)) #[] 0 (base := w.heap.size + 1) (e := 52) (size := 3) (by rw [hsz1]; exact Nat.le_refl _) (Nat.zero_le _) rfl
      rwa [hsz1] at this), by simp; omega, hRlt⟩
  clear hk
  go_enter Try.func49, Try.ntmps49
  go_wp2_with fail
  refine (pick_c R p 3 _ HB0.out.rd (by omega) (by omega) (by omega)).mono ?_
  rintro e w1 ⟨r0, rfl, hr0, hrd, hu⟩
  have hr0' : (r0 : Int) < 3 := pick_lt hr0 (by omega)
  have HB1 := Lib.hid (HB0.out.upd hu hrd)
  clear hrd hu hr0 HB0 hsz1
  go_wp2
  go_loopw [7, 8] (fun v i wr => ∃ (j p' : Nat) (bs : List NItem), i = .int .i64 j ∧ j ≤ 2 ∧ bs.length + j ≤ 2 ∧ p' ≤ p + 1 + 3 * bs.length ∧ BsD w R p' P b1 k c1 bs v wr) (fun _ i _ => (intOf i).toNat)
  case atStart => exact ⟨r0, p + 1, [], rfl, by omega, by simp; omega, by simp, HB1.out⟩
  case round =>
    clear HB1
    obtain ⟨j, p', bs, rfl, hj, hbl, hp', hb⟩ := hrel
    have HB := Lib.hid hb
    clear hb
    by_cases hj0 : 0 < j
    · have hj1 : (0 : Int) < (j : Int) := by omega
      obtain ⟨hc0, hc1⟩ := HB.out.facts
      go_wp2_with fail
      refine (pick_c R p' k _ HB.out.rd (by omega) (by omega) (by omega)).mono ?_
      rintro e w2 ⟨r1, rfl, hr1, hrd, hu⟩
      have hr1' : (r1 : Int) < (k : Int) := pick_lt hr1 (by omega)
      have HB2 := Lib.hid (HB.out.upd hu hrd)
      clear hrd hu hr1 hc0 hc1
      go_wp2_with fail
      refine (pick_c R (p' + 1) 4 _ HB2.out.rd (by omega) (by omega) (by omega)).mono ?_
      rintro e w3 ⟨r2, rfl, hr2, hrd, hu⟩
      have hr2' : (r2 : Int) < 4 := pick_lt hr2 (by omega)
      have HB3 := Lib.hid (HB2.out.upd hu hrd)
      have hl3 := HB3.out.lt
      have HBX := Lib.hid (HB3.out.alloc (.cells #[.int .i64 (r1 : Int), .int .i64 (1 + (r2 : Int)), .int .i64 0] 52))
      have HX := Lib.hid (Blk.new_ w3 52 #[.int .i64 (r1 : Int), .int .i64 (1 + (r2 : Int)), .int .i64 0])
      obtain ⟨hc0, hc1⟩ := HB3.out.facts
      obtain ⟨t, hnt, hcn⟩ := (HN.out.keep (w' := w3) fun g h1 h2 => HB3.out.gr.block g (by omega) (fun e => by injection e with e; omega)).need (i := r1) (by rw [HK.out]; omega)
      have hst := (hS.2.2.2.2 t (List.mem_of_getElem? hnt)).2
      have hne1 := hst.1
      have hne2 := hst.2.1
      have hne0 : w.heap.size ≠ w3.heap.size := by omega
      have hb1w : b1 < w3.heap.size := World.block_lt_of_cell? w3 ⟨b1, r1 * 9 + 8, none⟩ hcn
      have hb1n : b1 ≠ w3.heap.size := by omega
      have hownb : ∀ g, u7.ownBlock = some g → g ≠ w3.heap.size := fun g hg => by have := (HB3.out.own.lt g hg).2; omega
      clear hrd hu hr2 hnt hst HB2
      go_upto_if 34 with fail
      go_cut [] (fun wc => ∃ (y : Int) (p2 : Nat), p2 ≤ p' + 3 ∧ BsD w R p2 P b1 k c1 bs u7 wc ∧ Blk wc w3.heap.size 52 #[.int .i64 (r1 : Int), .int .i64 (1 + (r2 : Int)), .int .i64 y])
      case first =>
        by_cases hn1 : 1 < t.need
        · go_wp2_with fail
          refine (pick_c R (p' + 1 + 1) t.need _ HBX.out.rd (by omega) (by omega) (by omega)).mono ?_
          rintro e w4 ⟨r3, rfl, hr3, hrd, hu⟩
          have HB4 := Lib.hid (HBX.out.upd hu hrd)
          have HX4 := Lib.hid (HX.out.upd hu (by have := HB3.out.hR; omega))
          have hx2 : w4.cell? ⟨w3.heap.size, 2, none⟩ = some (.int .i64 0) := HX4.out.cell 2
          have hf2 := HX4.out.free 2
          clear hrd hu hr3
          go_wp2
          go_meet
          exact ⟨(r3 : Int), _, by omega, HB4.out.far hl3 hownb 2 _, HX4.out.set_ 2 _⟩
        · go_wp2
          go_meet
          exact ⟨0, p' + 1 + 1, by omega, HBX.out, HX.out⟩
      case rest =>
        clear HBX HX HB3 HB hcn
        obtain ⟨y, p2, hp2, hb, hx⟩ := hcut
        have HB := Lib.hid hb
        have HX := Lib.hid hx
        clear hb hx
        have hx0 : wc.cell? ⟨w3.heap.size, 0, none⟩ = some (.int .i64 (r1 : Int)) := HX.out.cell 0
        have hx1 : wc.cell? ⟨w3.heap.size, 1, none⟩ = some (.int .i64 (1 + (r2 : Int))) := HX.out.cell 1
        have hx2 : wc.cell? ⟨w3.heap.size, 2, none⟩ = some (.int .i64 y) := HX.out.cell 2
        have hltc := HB.out.lt
        obtain ⟨m, rfl⟩ : ∃ m, j = m + 1 := ⟨j - 1, by omega⟩
        obtain ⟨Av, cv, rfl⟩ := own_any HB.out.own
        go_wp2_with (at_builtin; refine wpList_append_own _ rfl _ _ 44 rfl (w.heap.size + 1) 52 i0 _ 3 24 Try.underlying44 hi0 hz0 hz1 hz2 rfl (by omega) _ bs.length (itemCells bs) rfl (HB.out.alloc _).own ⟨wc.heap.size, 0, none⟩ 1 1 [.int .i64 (r1 : Int), .int .i64 (1 + (r2 : Int)), .int .i64 y] rfl rfl (lit_cells wc #[.int .i64 (r1 : Int), .int .i64 (1 + (r2 : Int)), .int .i64 y] 52) (by intro u hu; simp at hu; rcases hu with rfl | rfl | rfl <;> rfl) (by unfold maxLen; omega) (by omega) (by simp; omega) ?_; intro v' w6 hown6 hg6 _; have HM := Lib.hid ((HB.out.alloc (.cells #[.int .i64 (r1 : Int), .int .i64 (1 + (r2 : Int)), .int .i64 y] 52)).more (it := ⟨(r1 : Int), 1 + (r2 : Int), y⟩) hg6 hown6); clear hown6 hg6)
        go_roundw
        case rel => exact ⟨m, p2, bs ++ [⟨(r1 : Int), 1 + (r2 : Int), y⟩], by congr 1 <;> omega, by omega, by simp; omega, by simp; omega, HM.out⟩
        case measure => simp [intOf] <;> omega
    · have hj1 : ¬ ((0 : Int) < (j : Int)) := by omega
      go_wp2_with fail
      refine (pick_c R p' q _ HB.out.rd (by omega) (by omega) (by omega)).mono ?_
      rintro e w2 ⟨r1, rfl, hr1, hrd, hu⟩
      have HB2 := Lib.hid (HB.out.upd hu hrd)
      clear hrd hu hr1
      by_cases h1 : r1 = 0
      · have h1' : ((r1 : Int) == 0) = true := by simp [h1]
        clear h1
        obtain ⟨Av, cv, rfl⟩ := own_any HB2.out.own
        go_wp2
        have hbl2 : bs.length ≤ 2 := by omega
        have HQ := Lib.hid (And.intro hp' hbl)
        clear hp'
        refine busy_region (R := R) (pz := p' + 1) (w0 := w) (P := P) (b1 := b1) (k1 := k) (c1 := c1) (bs := bs) (v0 := .slice Av bs.length cv) ?hO ?hm ?hs ?h0 ?h7 ?hp ?hl ?hB ?hk
        case hO => exact ⟨rfl, ⟨_, _, _, rfl⟩, ⟨_, _, _, rfl⟩, ⟨_, _, _, rfl⟩, ⟨_, _, _, _, rfl⟩, ⟨_, _, _, rfl⟩, ⟨_, _, _, rfl⟩, ⟨_, _, _, rfl⟩, ⟨_, _, _, rfl⟩, ⟨_, _, _, _, rfl⟩, ⟨_, _, _, rfl⟩, ⟨_, _, _, rfl⟩, ⟨_, _, _, rfl⟩, ⟨_, _, _, rfl⟩, ⟨_, _, _, _, rfl⟩, ⟨_, _, _, rfl⟩, ⟨_, _, _, rfl⟩, ⟨_, _, _, rfl⟩, ⟨_, _, _, rfl⟩, ⟨_, _, _, rfl⟩, ⟨_, _, _, rfl⟩, by kernel_rfl, by kernel_rfl⟩
        case hm => kernel_rfl
        case hs => simp
        case h0 => rfl
        case h7 => rfl
        case hp => have := HQ.out.1; omega
        case hl => exact hbl2
        case hB => exact HB2.out
        case hk =>
          intro f v p9 bs9 w9 hp9 hl9 hb9
          have HB9 := Lib.hid hb9
          clear hb9
          simp only [putA, Act.put, List.setIfInBounds_toArray, List.set_cons_zero, List.set_cons_succ]
          go_wp2
          go_ret
          exact ⟨_, bs9, p9, rfl, by omega, by have := HQ.out.1; omega, (items_row HB9.out.own).lo (by omega), HB9.out.rd, HB9.out.gr⟩
      · have h1' : ((r1 : Int) == 0) = false := by simp [h1]
        clear h1
        go_wp2
        go_ret
        exact ⟨_, bs, p' + 1, rfl, by omega, by omega, (items_row HB2.out.own).lo (by omega), HB2.out.rd, HB2.out.gr⟩
end Go.Proofs.Ytkcbghaadjhceaa
