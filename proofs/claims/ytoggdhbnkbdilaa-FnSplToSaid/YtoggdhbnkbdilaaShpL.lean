/- What the draw of a net keeps while it appends tasks in a loop. -/
import Derived.Test.YtoggdhbnkbdilaaShpP
import Derived.Test.YtoggdhbnkbdilaaSteps
import Derived.Maps.AppendAt
namespace Go.Proofs.Ytoggdhbnkbdilaa
open Go.RowKit
set_option linter.unusedVariables false
set_option linter.unusedSimpArgs false

/-- The reader, the result's cells, the net's own cells in block N, its tasks in a row of their own behind N. -/
structure ShL (w0 : World) (R p N : Nat) (pl : Int) (ms : List TaskM) (vt : Value) (w : World) : Prop where
  rd : RdV w R p
  gr : w0.grownBy w (some R)
  res : Blk w w0.heap.size 25 #[.int .i64 0, .slice none 0 0]
  net : Blk w N 25 #[.int .i64 pl, vt]
  own : w.ownsRow (N + 1) 38 9 vt ms.length (taskCells ms)
  each : ∀ m ∈ ms, ∀ g, vt.ownBlock = some g → TaskA w (N + 1) w.heap.size g m
  lt : N < w.heap.size
  hN : w0.heap.size < N
  hR : R < w0.heap.size
section
variable {w0 w w' : World} {R p p' N : Nat} {pl : Int} {ms : List TaskM} {vt : Value}
theorem ShL.grown (h : ShL w0 R p N pl ms vt w) (hg : w.grownBy w' (some R)) (hr : RdV w' R p') : ShL w0 R p' N pl ms vt w' := by
  have hR := h.hR; have hN := h.hN
  refine ⟨hr, grown_tr h.gr hg, h.res.grown hg (by omega), h.net.grown hg (by omega), h.own.kept hg ?_, fun m hm g hgo => ((h.each m hm g hgo).grown hg (by omega) (Nat.le_refl _)).more (Nat.le_refl _) hg.size, Nat.lt_of_lt_of_le h.lt hg.size, hN, hR⟩
  rcases hv : vt.ownBlock with _ | g
  · exact .inl rfl
  · right; intro e; injection e with e; have := (h.own.lt g hv).1; omega
theorem ShL.upd (h : ShL w0 R p N pl ms vt w) (hu : Upd R (R + 1) w w') (hr : RdV w' R p') : ShL w0 R p' N pl ms vt w' := h.grown (grown_upd hu) hr
theorem ShL.alloc (h : ShL w0 R p N pl ms vt w) (o : Obj) : ShL w0 R p N pl ms vt (w.alloc o) := h.grown (World.grownBy_alloc _ _ _) (h.rd.alloc o)
theorem ShL.below (h : ShL w0 R p N pl ms vt w) (hb : Below w.heap.size w w') : ShL w0 R p N pl ms vt w' := h.grown (grown_below _ hb) (h.rd.below hb)
theorem ShL.start (h : ShD w0 R p [] w) (pl : Int) : ShL w0 R p w.heap.size pl [] (.slice none 0 0) (w.alloc (.cells #[.int .i64 pl, .slice none 0 0] 25)) :=
  ⟨h.rd.alloc _, grown_alloc h.gr _, h.res.alloc _, Blk.new_ _ _ _, World.ownsRow_nil _ _ _ _, fun m hm => by simp at hm, by simp, h.lt, h.hR⟩
theorem ShL.drew (h : ShL w0 R p N pl ms vt w) : ShL w0 R p N pl ms vt w.drew := h.grown ⟨rfl, rfl, rfl, Nat.le_refl _, fun _ _ _ => rfl⟩ h.rd
theorem ShL.away (h : ShL w0 R p N pl ms vt w) {g : Nat} (hg : vt.ownBlock = some g) : g < w.heap.size := (h.own.lt g hg).2
theorem ShL.facts (h : ShL w0 R p N pl ms vt w) : (w.cell? ⟨w0.heap.size, 0, none⟩ = some (.int .i64 0) ∧ w.cell? ⟨w0.heap.size, 1, none⟩ = some (.slice none 0 0) ∧ w.frozen? ⟨w0.heap.size, 0, none⟩ = false ∧ w.frozen? ⟨w0.heap.size, 1, none⟩ = false) ∧
    w.cell? ⟨N, 0, none⟩ = some (.int .i64 pl) ∧ w.cell? ⟨N, 1, none⟩ = some vt ∧ w.frozen? ⟨N, 0, none⟩ = false ∧ w.frozen? ⟨N, 1, none⟩ = false :=
  ⟨⟨h.res.cell 0, h.res.cell 1, h.res.free 0, h.res.free 1⟩, h.net.cell 0, h.net.cell 1, h.net.free 0, h.net.free 1⟩
theorem ShL.more {L : Nat} {m : TaskM} {vt' : Value} (h : ShL w0 R p N pl ms vt w) (hm : TaskV w L w.heap.size m.t m.vi m.vo m.vc) (hL : ∀ g, vt.ownBlock = some g → g < L) (hL2 : N + 1 ≤ L) (hg : w.grownBy w' vt.ownBlock)
    (ho : w'.ownsRow (N + 1) 38 9 vt' (ms.length + 1) (taskCells ms ++ m.cells)) (hat : vt'.ownBlock = vt.ownBlock ∨ vt'.ownBlock = some w.heap.size) : ShL w0 R p N pl (ms ++ [m]) vt' (w'.setCell ⟨N, 1, none⟩ vt') := by
  have hR := h.hR; have hN := h.hN; have hlt := h.lt
  have hb : ∀ g, g ≤ N → w'.heap[g]? = w.heap[g]? := fun g hg' => hg.block g (by omega) (fun e => by have := (h.own.lt g e.symm).1; omega)
  have hsz : (w'.setCell ⟨N, 1, none⟩ vt').heap.size = w'.heap.size := by simp [World.setCell]
  have hbs : ∀ g, g ≠ N → (w'.setCell ⟨N, 1, none⟩ vt').heap[g]? = w'.heap[g]? := fun g hne => Below.heap_setCell w' _ _ g hne
  refine ⟨(h.rd.keep (fun g hg' => hb g (by omega)) hg.size).setCell (by dsimp only; omega) _,
    grown_setCell ⟨hg.os.trans h.gr.os, hg.tape.trans h.gr.tape, hg.output.trans h.gr.output, Nat.le_trans h.gr.size hg.size, fun i hi hne => (hb i (by omega)).trans (h.gr.block i hi hne)⟩ (by dsimp only; omega) _,
    (h.res.keep (hb _ (by omega))).far (by dsimp only; omega) _, (h.net.keep (hb _ (Nat.le_refl _))).set_ 1 vt', ?_, ?_, by rw [hsz]; have := hg.size; omega, hN, hR⟩
  · have ho' : w'.ownsRow (N + 1) 38 9 vt' (ms ++ [m]).length (taskCells (ms ++ [m])) := by simpa [List.flatMap_append] using ho
    refine ho'.kept (row := some N) ⟨rfl, rfl, rfl, Nat.le_of_eq hsz.symm, fun g hg hne => hbs g (by intro e; exact hne (by rw [e]))⟩ ?_
    rcases hv : vt'.ownBlock with _ | g
    · exact .inl rfl
    · right; intro e; injection e with e; have := (ho.lt g hv).1; omega
  · intro x hx g hgo
    rw [hsz]
    have hgN := (ho.lt g hgo).1
    rcases List.mem_append.1 hx with hx | hx
    · rcases hat with hat | hat
      · -- in its place
        have hgo' : vt.ownBlock = some g := by rw [← hat]; exact hgo
        refine (TaskA.keep (h.each x hx g hgo') fun i h1 h2 h3 => ?_).more (Nat.le_refl _) hg.size
        exact (hbs i (by omega)).trans (hg.block i h2 (fun e => h3 (by rw [hgo'] at e; injection e)))
      · -- in the new block
        have hgw : g = w.heap.size := by rw [hat] at hgo; injection hgo with e; exact e.symm
        subst hgw
        rcases hv : vt.ownBlock with _ | g0
        · exfalso
          rcases h.own.2 with ⟨_, h0⟩ | ⟨g1, _, _, e, _⟩
          · rw [List.length_eq_zero_iff] at h0; subst h0; simp at hx
          · rw [e] at hv; simp [Value.ownBlock] at hv
        · have ht := h.each x hx g0 hv
          have ht' : TaskA w' (N + 1) w.heap.size g0 x := ht.keep fun i h1 h2 h3 => hg.block i h2 (fun e => h3 (by rw [hv] at e; injection e))
          have ht2 : TaskA w' (N + 1) w.heap.size w.heap.size x := TaskV.away ht'.task (.inl (Nat.le_refl _))
          exact (ht2.keep fun i h1 h2 h3 => hbs i (by omega)).more (Nat.le_refl _) hg.size
    · simp at hx; subst hx
      have hgb : w.heap.size ≤ g ∨ g < L := by
        rcases hat with hat | hat
        · exact .inr (hL g (by rw [← hat]; exact hgo))
        · exact .inl (by rw [hat] at hgo; injection hgo with e; omega)
      have hx' : TaskV (w'.setCell ⟨N, 1, none⟩ vt') L w.heap.size x.t x.vi x.vo x.vc := hm.keep fun i h1 h2 => by
        refine (hbs i (by omega)).trans (hg.block i h2 (fun e => ?_))
        have := hL i e.symm; omega
      exact (TaskV.away hx' hgb).more (by omega) hg.size
theorem ShL.fin {g k c : Nat} (h : ShL w0 R p N pl ms (.slice (some ⟨g, 0, none⟩) k c) w) (hk : ms.length = k) (hkm : k ≤ maxLen) :
    FN ((w.setCell ⟨w0.heap.size, 0, none⟩ (.int .i64 pl)).setCell ⟨w0.heap.size, 1, none⟩ (.slice (some ⟨g, 0, none⟩) k c)) w0.heap.size ((w.setCell ⟨w0.heap.size, 0, none⟩ (.int .i64 pl)).setCell ⟨w0.heap.size, 1, none⟩ (.slice (some ⟨g, 0, none⟩) k c)).heap.size (.agg #[.int .i64 pl, .slice (some ⟨g, 0, none⟩) k c]) ⟨pl, ms.map TaskM.t⟩ ∧
    RdV ((w.setCell ⟨w0.heap.size, 0, none⟩ (.int .i64 pl)).setCell ⟨w0.heap.size, 1, none⟩ (.slice (some ⟨g, 0, none⟩) k c)) R p ∧
    w0.grownBy ((w.setCell ⟨w0.heap.size, 0, none⟩ (.int .i64 pl)).setCell ⟨w0.heap.size, 1, none⟩ (.slice (some ⟨g, 0, none⟩) k c)) (some R) := by
  have hlt := h.lt; have hR := h.hR; have hN := h.hN
  subst hk
  refine ⟨?_, (h.rd.setCell (by dsimp only; omega) _).setCell (by dsimp only; omega) _, grown_setCell (grown_setCell h.gr (by dsimp only; omega) _) (by dsimp only; omega) _⟩
  have hb : ∀ i, i ≠ w0.heap.size → ((w.setCell ⟨w0.heap.size, 0, none⟩ (.int .i64 pl)).setCell ⟨w0.heap.size, 1, none⟩ (.slice (some ⟨g, 0, none⟩) ms.length c)).heap[i]? = w.heap[i]? := fun i hi => by
    rw [Below.heap_setCell _ _ _ _ (by dsimp only; omega), Below.heap_setCell _ _ _ _ (by dsimp only; omega)]
  have hsz : ((w.setCell ⟨w0.heap.size, 0, none⟩ (.int .i64 pl)).setCell ⟨w0.heap.size, 1, none⟩ (.slice (some ⟨g, 0, none⟩) ms.length c)).heap.size = w.heap.size := by simp [World.setCell]
  rw [hsz]
  have hg := h.own.lt g rfl
  refine ⟨g, c, ms, by simp, by simpa using hkm, by omega, hg.2, (Row.made h.own).keep fun i h1 h2 => hb i (by omega), rfl, fun m hm => ?_⟩
  exact ((h.each m hm g rfl).keep fun i h1 h2 _ => hb i (by omega)).more (by omega) (Nat.le_refl _)
end
theorem own_formN {w : World} {base n sz : Nat} {e : TypeId} {v : Value} {xs : List Value} (h : w.ownsRow base e sz v n xs) (hn : 0 < n) : ∃ g c, v = .slice (some ⟨g, 0, none⟩) n c ∧ n ≤ maxLen := by
  rcases h.2 with ⟨_, h0⟩ | ⟨g, cap, cur, rfl, hg, hh, hc, hm, _⟩
  · omega
  · exact ⟨g, cap, rfl, by omega⟩
theorem own_lit1 (w : World) (e : TypeId) (x : Value) (base : Nat) (hb : base ≤ w.heap.size) : (w.alloc (.cells #[x] e)).ownsRow base e 1 (.slice (some ⟨w.heap.size, 0, none⟩) 1 1) 1 [x] :=
  ⟨rfl, .inr ⟨w.heap.size, 1, #[x], rfl, hb, heap_alloc_new w _, Nat.le_refl _, by unfold maxLen; omega, rfl, rfl⟩⟩
theorem lit_cells (w : World) (cs : Array Value) (T : TypeId) : ∀ (j : Nat) (v : Value), cs.toList[j]? = some v → (w.alloc (.cells cs T)).cell? ((⟨w.heap.size, 0, none⟩ : Addr).add j) = some v := by
  intro j v hj
  rw [addr_add0, Nat.zero_add, World.cell?_alloc_at _ _ _ _ rfl]
  simpa using hj
/-- What a round of the loop holds: the reader, all old blocks, the row of places from which the task takes. -/
def ShR (wr : World) (R q bi : Nat) (x : Int) (wc : World) : Prop :=
  ∃ p' : Nat, p' ≤ q ∧ RdV wc R p' ∧ wr.grownBy wc (some R) ∧ Row wc bi (bi + 1) (some ⟨bi, 0, none⟩) bi 0 (ints [x]) ∧ bi < wc.heap.size
theorem ShR.grown {wr w w' : World} {R q p' bi : Nat} {x : Int} (h : ShR wr R q bi x w) (hg : w.grownBy w' (some R)) (hR : R < bi) (hr : RdV w' R p') (hq : p' ≤ q) : ShR wr R q bi x w' := by
  obtain ⟨p0, _, _, h3, h4, h5⟩ := h
  exact ⟨p', hq, hr, grown_tr h3 hg, h4.grown hg (.inr hR) (by omega), Nat.lt_of_lt_of_le h5 hg.size⟩
section
variable {P : Program}
theorem wp_append_at (w : World) {o : Oper} {a : Act} {K : Act → World → Prop} {Q : Exit → Act → World → Prop} (s x : Operand) (t : TypeId)
    (ho : o.op = .call { callee := .builtin .append, args := #[s, x], argTypes := #[t, t] })
    (base : Nat) (e : TypeId) (i : TypeInfo) (z : Value) (size bytes : Nat) (ht : P.underlying t = some (.slice e)) (hi : P.info? e = some i) (hz : i.zero = some z)
    (hsize : i.size = size) (hby : i.bytes = bytes) (hzs : z.cells.size = size) (hsz : 0 < size)
    (v : Value) (n : Nat) (xs : List Value) (hs : a.eval s = v) (hown : w.ownsRow base e size v n xs)
    (ad : Addr) (m c : Nat) (news : List Value) (hx : a.eval x = .slice (some ad) m c) (hl : news.length = m * size) (hnews : ∀ j u, news[j]? = some u → w.cell? (ad.add j) = some u) (h1 : ∀ u ∈ news, u.oneCell' = true)
    (h63 : n + m ≤ maxLen) (hbytes : (n + m) * bytes ≤ 140737488355328) (hbase : base ≤ w.heap.size)
    (h : ∀ v' w', w'.ownsRow base e size v' (n + m) (xs ++ news) → w.grownBy w' v.ownBlock → (v'.ownBlock = v.ownBlock ∨ v'.ownBlock = some w.heap.size) → K (a.put o.dst v') w') : o.wp P a w K Q := by
  obtain ⟨v', w', hr, h2, h3, h4, h5⟩ := run_append_own_at (P := P) w base t o.type e i z size bytes ht hi hz hsize hby hzs hsz v n xs hown ad m c news hl hnews h1 h63 hbytes hbase
  unfold Oper.wp execOp
  simp only [ho, resolve, invoke, builtin, Sem.run_bind, Sem.run_pure, Result.andThen_ok, List.map_toArray, List.map_cons, List.map_nil, hs, hx, hr]
  exact h v' w' h2 h3 h5
end
end Go.Proofs.Ytoggdhbnkbdilaa
