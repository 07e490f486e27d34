/- What the draw of any net keeps while one of its tasks is turned. -/
import Derived.Test.YtkcbghaadjhceaaShpL
import Derived.Test.YtkcbghaadjhceaaMrkOk
namespace Go.Proofs.Ytkcbghaadjhceaa
open Go.RowKit
set_option linter.unusedVariables false
set_option linter.unusedSimpArgs false

/-- Lengths and numbers of a task that the draws bound. -/
def SmallT (t : NTask) : Prop := (t.ins.length ≤ 16 ∧ t.out.length ≤ 16 ∧ t.clear.length ≤ 20) ∧ -10 ≤ t.need ∧ t.need ≤ 10 ∧ -10 ≤ t.all ∧ t.all ≤ 10
def Small (n : NNet) : Prop := 0 ≤ n.places ∧ n.places ≤ 9 ∧ 1 ≤ n.tasks.length ∧ n.tasks.length ≤ 6 ∧ ∀ t ∈ n.tasks, SmallT t
theorem small_task {t : NTask} {places tasks : Int} (hp : places ≤ 8) (h : taskOk t places tasks = true) : SmallT t ∧ 1 ≤ t.all ∧ t.all ≤ 3 ∧ t.ins.length ≤ 8 ∧ t.out.length ≤ 8 ∧ t.clear.length ≤ 8 := by
  unfold taskOk at h
  simp only [Bool.and_eq_true] at h
  obtain ⟨_, _, h3, _, h5, h6, _, _, h9, h10⟩ := h
  rw [inB_iff] at h9 h10
  unfold risesB at h3 h6
  rw [Bool.and_eq_true, inB_iff] at h3 h6
  unfold outB at h5
  rw [Bool.and_eq_true, inB_iff] at h5
  refine ⟨⟨⟨by omega, by omega, by omega⟩, by omega, by omega, by omega, by omega⟩, by omega, by omega, by omega, by omega, by omega⟩
theorem small_ok {n : NNet} (h : netOk n = true) : Small n := by
  obtain ⟨h1, h2, h3, h4, h5⟩ := netOk_parts h
  exact ⟨by omega, by omega, h3, h4, fun t ht => (small_task h2 (h5 t ht)).1⟩

structure AnD (w0 : World) (R p N : Nat) (P : Int) (b k c : Nat) (n : NNet) (w : World) : Prop where
  rd : RdV w R p
  gr : w0.grownBy w (some R)
  res : Blk w w0.heap.size 25 #[.int .i64 0, .slice none 0 0]
  net : Blk w N 25 #[.int .i64 P, .slice (some ⟨b, 0, none⟩) k c]
  fn : FN w (w0.heap.size + 1) N (.agg #[.int .i64 P, .slice (some ⟨b, 0, none⟩) k c]) n
  hN : w0.heap.size < N
  lt : N < w.heap.size
  hR : R < w0.heap.size
section
variable {w0 w w' : World} {R p p' N b k c : Nat} {P : Int} {n : NNet}
theorem AnD.bnd (h : AnD w0 R p N P b k c n w) : n.places = P ∧ n.tasks.length = k ∧ k ≤ maxLen ∧ w0.heap.size < b ∧ b < N := by
  obtain ⟨h1, h2, h3, h4, h5, _⟩ := h.fn.parts; exact ⟨h1, h2, h3, h4, h5⟩
theorem AnD.nt (h : AnD w0 R p N P b k c n w) : NtD w0 R p N P b k c n w := ⟨h.rd, h.gr, h.res, h.net, h.fn.more (Nat.le_refl _) (Nat.le_of_lt h.lt), h.hN, h.lt, Nat.ne_of_lt h.bnd.2.2.2.2, h.hR⟩
theorem AnD.grown (h : AnD w0 R p N P b k c n w) (hg : w.grownBy w' (some R)) (hr : RdV w' R p') : AnD w0 R p' N P b k c n w' := by
  have hR := h.hR; have hN := h.hN
  exact ⟨hr, grown_tr h.gr hg, h.res.grown hg (by omega), h.net.grown hg (by omega), h.fn.grown hg (by omega) (Nat.le_of_lt h.lt), hN, Nat.lt_of_lt_of_le h.lt hg.size, hR⟩
theorem AnD.upd (h : AnD w0 R p N P b k c n w) (hu : Upd R (R + 1) w w') (hr : RdV w' R p') : AnD w0 R p' N P b k c n w' := h.grown (grown_upd hu) hr
theorem AnD.alloc (h : AnD w0 R p N P b k c n w) (o : Obj) : AnD w0 R p N P b k c n (w.alloc o) := h.grown (World.grownBy_alloc _ _ _) (h.rd.alloc o)
/-- The number of places is written. -/
theorem AnD.places (h : AnD w0 R p N P b k c n w) (x : Int) : AnD w0 R p N x b k c ⟨x, n.tasks⟩ (w.setCell ⟨N, 0, none⟩ (.int .i64 x)) := by
  have hR := h.hR; have hN := h.hN
  obtain ⟨_, hk, hm, h1, h2, ms, hr, hmap, hT⟩ := h.fn.parts
  have hs : (w.setCell ⟨N, 0, none⟩ (.int .i64 x)).heap.size = w.heap.size := by simp [World.setCell]
  refine ⟨h.rd.setCell (by dsimp only; omega) _, grown_setCell h.gr (by dsimp only; omega) _, h.res.far (by dsimp only; omega) _, h.net.set_ 0 _, ?_, hN, by rw [hs]; exact h.lt, hR⟩
  have := FN.of_parts (w := w) (P := x) (k := k) (c := c) (ms := ms) (by rw [← List.length_map (f := TaskM.t), hmap, hk]; exact hm) (by rw [← hk, ← hmap]; simp) h1 h2 hr hT
  rw [hmap] at this
  exact this.keep fun g _ hg => Below.heap_setCell w _ _ g (by dsimp only; omega)
end

/-- A slice that lies neither in block b nor between N and T. -/
def SlT (w : World) (lo N T b : Nat) (v : Value) (n : Nat) (xs : List Value) : Prop := ∃ l h, lo ≤ l ∧ h ≤ w.heap.size ∧ (h ≤ b ∨ b < l) ∧ (h ≤ N ∨ T < l) ∧ Sl w l h v n xs
structure TaskT (w : World) (lo N T b : Nat) (m : TaskM) : Prop where
  ins : SlT w lo N T b m.vi m.t.ins.length (ints m.t.ins)
  out : SlT w lo N T b m.vo m.t.out.length (flowCells m.t.out)
  clear : SlT w lo N T b m.vc m.t.clear.length (ints m.t.clear)
section
variable {w w' : World} {lo N T b n : Nat} {v : Value} {xs : List Value} {m : TaskM}
theorem SlT.keep (h : SlT w lo N T b v n xs) (hs : w.heap.size ≤ w'.heap.size) (hk : ∀ g, lo ≤ g → g < w.heap.size → g ≠ b → (g < N ∨ T < g) → w'.heap[g]? = w.heap[g]?) : SlT w' lo N T b v n xs := by
  obtain ⟨l, h', h1, h2, h3, h4, h5⟩ := h
  exact ⟨l, h', h1, by omega, h3, h4, h5.keep fun g g1 g2 => hk g (by omega) (by omega) (by omega) (by omega)⟩
theorem SlT.away (h : SlT w lo N T b v n xs) : SlA w lo w.heap.size b v n xs := by
  obtain ⟨l, h', h1, h2, h3, h4, h5⟩ := h; exact ⟨l, h', h1, h2, h3, h5⟩
theorem TaskT.keep (h : TaskT w lo N T b m) (hs : w.heap.size ≤ w'.heap.size) (hk : ∀ g, lo ≤ g → g < w.heap.size → g ≠ b → (g < N ∨ T < g) → w'.heap[g]? = w.heap[g]?) : TaskT w' lo N T b m := ⟨h.ins.keep hs hk, h.out.keep hs hk, h.clear.keep hs hk⟩
theorem TaskT.away (h : TaskT w lo N T b m) : TaskA w lo w.heap.size b m := ⟨h.ins.away, h.out.away, h.clear.away⟩
theorem SlA.tt (h : SlA w lo N b v n xs) (hN : N ≤ w.heap.size) : SlT w lo N T b v n xs := by
  obtain ⟨l, h', h1, h2, h3, h4⟩ := h; exact ⟨l, h', h1, by omega, h3, .inl h2, h4⟩
theorem TaskA.tt (h : TaskA w lo N b m) (hN : N ≤ w.heap.size) : TaskT w lo N T b m := ⟨h.ins.tt hN, h.out.tt hN, h.clear.tt hN⟩
theorem SlT.form (h : SlT w lo N T b v n xs) : ∃ A c, v = .slice A n c := by obtain ⟨_, _, _, _, _, _, A, _, _, c, h, _⟩ := h; exact ⟨A, c, h⟩
end
theorem SlT.row {w : World} {lo N T b n c : Nat} {A : Option Addr} {xs : List Value} (h : SlT w lo N T b (.slice A n c) n xs) : ∃ l h b' o', h ≤ w.heap.size ∧ Row w l h A b' o' xs := by
  obtain ⟨l, h', _, h2, _, _, A', b', o', c', e, _, hr⟩ := h
  injection e with e1 e2 e3
  subst e1
  exact ⟨l, h', b', o', h2, hr⟩
theorem flows_one (l : List NFlow) : ∀ u ∈ flowCells l, u.oneCell' = true := by
  intro u hu
  obtain ⟨f, _, hf⟩ := List.mem_flatMap.1 hu
  simp at hf
  rcases hf with rfl | rfl | rfl | rfl <;> rfl
theorem own_gr {w w' : World} {R base size n : Nat} {e : TypeId} {v : Value} {xs : List Value} (ho : w.ownsRow base e size v n xs) (hg : w.grownBy w' (some R)) (hR : R < base) : w'.ownsRow base e size v n xs :=
  ho.kept hg (by
    rcases hv : v.ownBlock with _ | g
    · exact .inl rfl
    · right; intro e; injection e with e; have := (ho.lt g hv).1; omega)
theorem own_st {w : World} {lo N T b base size n : Nat} {e : TypeId} {v : Value} {xs : List Value} (ho : w.ownsRow base e size v n xs) (h1 : lo ≤ base) (h2 : b < base) (h3 : T < base) : SlT w lo N T b v n xs := by
  rcases ho.2 with ⟨rfl, hn⟩ | ⟨g, cap, cur, rfl, hg, hh, hc, hm, _⟩
  · have := ho.1
    subst hn
    rw [Nat.zero_mul] at this
    obtain rfl := List.length_eq_zero_iff.1 this
    exact ⟨base, w.heap.size, h1, Nat.le_refl _, .inr h2, .inr h3, none, 0, 0, 0, rfl, Nat.zero_le _, Row.nil_⟩
  · obtain ⟨b', hr⟩ := Row.of_own ho
    exact ⟨base, w.heap.size, h1, Nat.le_refl _, .inr h2, .inr h3, _, b', 0, cap, rfl, Nat.le_trans hc hm, hr⟩

/-- The task that is turned: its nine cells in block T. -/
structure AnT (w0 : World) (R p N T : Nat) (P : Int) (b k c : Nat) (n : NNet) (m : TaskM) (w : World) : Prop where
  d : AnD w0 R p N P b k c n w
  tsk : Row w T (T + 1) (some ⟨T, 0, none⟩) T 0 m.cells
  ta : TaskT w (w0.heap.size + 1) N T b m
  hT : N < T
  lT : T < w.heap.size
  sm : SmallT m.t
section
variable {w0 w w' : World} {R p p' N T b k c : Nat} {P : Int} {n : NNet} {m m' : TaskM}
theorem AnT.grown (h : AnT w0 R p N T P b k c n m w) (hg : w.grownBy w' (some R)) (hr : RdV w' R p') : AnT w0 R p' N T P b k c n m w' := by
  have hR := h.d.hR; have hN := h.d.hN; have hT := h.hT; have hlT := h.lT
  exact ⟨h.d.grown hg hr, h.tsk.grown hg (.inr (by omega)) (by omega), h.ta.keep hg.size fun g g1 g2 _ _ => hg.block g g2 (fun e => by injection e with e; omega), hT, Nat.lt_of_lt_of_le hlT hg.size, h.sm⟩
theorem AnT.upd (h : AnT w0 R p N T P b k c n m w) (hu : Upd R (R + 1) w w') (hr : RdV w' R p') : AnT w0 R p' N T P b k c n m w' := h.grown (grown_upd hu) hr
theorem AnT.alloc (h : AnT w0 R p N T P b k c n m w) (o : Obj) : AnT w0 R p N T P b k c n m (w.alloc o) := h.grown (World.grownBy_alloc _ _ _) (h.d.rd.alloc o)
theorem AnT.put (h : AnT w0 R p N T P b k c n m w) (j : Nat) (u : Value) (hj : j < 9) (hc : m.cells.set j u = m'.cells) (hta : TaskT w (w0.heap.size + 1) N T b m') (hs : SmallT m'.t) : AnT w0 R p N T P b k c n m' (w.setCell ⟨T, j, none⟩ u) := by
  have hR := h.d.hR; have hN := h.d.hN; have hT := h.hT; have hlT := h.lT
  have hsz : (w.setCell ⟨T, j, none⟩ u).heap.size = w.heap.size := by simp [World.setCell]
  have hb := h.d.bnd
  refine ⟨⟨h.d.rd.setCell (by dsimp only; omega) _, grown_setCell h.d.gr (by dsimp only; omega) _, h.d.res.far (by dsimp only; omega) _, h.d.net.far (by dsimp only; omega) _, h.d.fn.keep fun g _ hg => Below.heap_setCell w _ _ g (by dsimp only; omega), hN, by rw [hsz]; exact h.d.lt, hR⟩, ?_, hta.keep (by rw [hsz]; exact Nat.le_refl _) fun g _ _ _ hg => Below.heap_setCell w _ _ g (by dsimp only; omega), hT, by rw [hsz]; exact hlT, hs⟩
  have := h.tsk.set_ j u (by simpa using hj)
  rwa [Nat.zero_add, hc] at this
theorem AnT.fin {i : Nat} (h : AnT w0 R p N T P b k c n m w) (hi : i < k) (hn : Small n) : ∃ n', Small n' ∧ NtD w0 R p N P b k c n' (putAt w b (i * 9) m.cells) := by
  have hR := h.d.hR; have hN := h.d.hN; have hT := h.hT; have hlT := h.lT
  obtain ⟨hp, hk, _, hb1, hb2⟩ := h.d.bnd
  have hU := upd_put (lo := b) (hi := b + 1) (b := b) (Nat.le_refl _) (by omega) m.cells (i * 9) (Upd.refl b (b + 1) w)
  have hs := hU.size
  have hf := (h.d.fn.more (Nat.le_refl _) (Nat.le_of_lt h.d.lt)).putTask hi h.ta.away
  refine ⟨_, ?_, h.d.rd.keep (fun g hg => hU.block g (by omega)) (Nat.le_of_eq hs.symm), ?_, h.d.res.keep (hU.block _ (by omega)), h.d.net.keep (hU.block _ (by omega)), by rw [hs]; exact hf, hN, by rw [hs]; exact h.d.lt, Nat.ne_of_lt hb2, hR⟩
  · obtain ⟨s1, s2, s3, s4, s5⟩ := hn
    refine ⟨by rw [hp] at s1; exact s1, by rw [hp] at s2; exact s2, by simpa using s3, by simpa using s4, fun t ht => ?_⟩
    rcases List.mem_or_eq_of_mem_set ht with ht | rfl
    · exact s5 t ht
    · exact h.sm
  · exact ⟨hU.os.trans h.d.gr.os, hU.tape.trans h.d.gr.tape, hU.output.trans h.d.gr.output, Nat.le_trans h.d.gr.size (Nat.le_of_eq hs.symm), fun g h1 h2 => (hU.block g (by omega)).trans (h.d.gr.block g h1 h2)⟩
end
end Go.Proofs.Ytkcbghaadjhceaa
