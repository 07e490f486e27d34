/- What a net, a task and items that came in are in memory. -/
import Derived.Test.YtjbfkgckpbpdeaaOpen
import Derived.Test.YtjbfkgckpbpdeaaNetEq
namespace Go.Proofs.Ytjbfkgckpbpdeaa
open Go.ChangeShapes Go.WideShapes Go.ChangeAt Go.RowKit Go.Deep
set_option linter.unusedVariables false
set_option linter.unusedSimpArgs false

theorem Try.c_int : Try.prog.cellsOf 3 = 1 := by kernel_rfl
theorem Try.c_ints : Try.prog.cellsOf 26 = 1 := by kernel_rfl
theorem Try.c_ask : Try.prog.cellsOf 89 = 3 := by kernel_rfl
theorem Try.c_flow : Try.prog.cellsOf 91 = 4 := by kernel_rfl
theorem Try.c_flows : Try.prog.cellsOf 48 = 1 := by kernel_rfl
theorem Try.c_task : Try.prog.cellsOf 50 = 9 := by kernel_rfl
theorem Try.c_tasks : Try.prog.cellsOf 22 = 1 := by kernel_rfl
theorem Try.c_net : Try.prog.cellsOf 24 = 2 := by kernel_rfl

theorem list2 {α : Type} {l : List α} (h : l.length = 2) : ∃ a b, l = [a, b] := by
  match l, h with | [a, b], _ => exact ⟨a, b, rfl⟩
theorem list3 {α : Type} {l : List α} (h : l.length = 3) : ∃ a b c, l = [a, b, c] := by
  match l, h with | [a, b, c], _ => exact ⟨a, b, c, rfl⟩
theorem list4 {α : Type} {l : List α} (h : l.length = 4) : ∃ a b c d, l = [a, b, c, d] := by
  match l, h with | [a, b, c, d], _ => exact ⟨a, b, c, d, rfl⟩
theorem list9 {α : Type} {l : List α} (h : l.length = 9) : ∃ a b c d e f g i j, l = [a, b, c, d, e, f, g, i, j] := by
  match l, h with | [a, b, c, d, e, f, g, i, j], _ => exact ⟨a, b, c, d, e, f, g, i, j, rfl⟩

section
variable {H : Type} {enc : TypeId × Value → H} {P : Program} {W : World}

theorem struct_fields {t : TypeId} {fs : Array Field} {fuel : Nat} {cs : List Value} {x : DataW H × List MemPlace} (ht : P.underlying t = some (.struct fs))
    (h : DataW.trod enc P W 0 (fun _ => true) true fuel t cs = some x) :
    cs.length = P.cellsOf t ∧ ∃ n, ∀ (j : Nat) (s : TypeId) (o : Nat), (fs[j]?).map (fun f => (f.type, f.offset)) = some (s, o) → ∃ y : DataW H × List MemPlace, DataW.trod enc P W 0 (fun _ => true) true n s ((cs.drop o).take (P.cellsOf s)) = some y ∧ ∀ q ∈ y.2, q ∈ x.2 := by
  obtain ⟨ys, n, _, hx, hlen, hyl, hf⟩ := DataW.trod_struct ht h
  refine ⟨hlen, n, fun j s o hj0 => ?_⟩
  obtain ⟨f, hj, hso⟩ := Option.map_eq_some_iff.1 hj0
  simp only [Prod.mk.injEq] at hso
  obtain ⟨rfl, rfl⟩ := hso
  have hjl : j < fs.size := (Array.getElem?_eq_some_iff.1 hj).1
  have hys : ys[j]? = some (ys[j]'(by omega)) := List.getElem?_eq_getElem (by omega)
  refine ⟨_, (hf j f hj).trans hys, fun q hq => ?_⟩
  rw [hx]
  exact List.mem_flatMap.2 ⟨_, List.getElem_mem (by omega), hq⟩

/-- A slice that came in, each of whose elements reads as d cells of a known form. -/
theorem open_row {t e : TypeId} {α : Type} {f : α → List Value} {d : Nat} {Q : α → Prop} {fuel : Nat} {cs : List Value} {x : DataW H × List MemPlace} (ht : P.underlying t = some (.slice e)) (hC : P.cellsOf e = d) (hd0 : 0 < d) (hd : ∀ a, (f a).length = d)
    (hel : ∀ (n : Nat) (cs' : List Value) (y : DataW H × List MemPlace), DataW.trod enc P W 0 (fun _ => true) true n e cs' = some y → Free W y.2 → ∃ a, cs' = f a ∧ Q a)
    (h : DataW.trod enc P W 0 (fun _ => true) true fuel t cs = some x) (hz : Free W x.2) :
    ∃ (l : List α) (A : Option Addr) (b off c : Nat), cs = [.slice A l.length c] ∧ l.length ≤ maxLen ∧ Row W 0 W.heap.size A b off (l.flatMap f) ∧ ∀ a ∈ l, Q a := by
  rcases open_slice ht h with ⟨hcs, _⟩ | ⟨a, len, cap, m, n, D, Pl, hcs, _, hl, hcap, hm, hx, hi⟩
  · exact ⟨[], none, 0, 0, 0, hcs, Nat.zero_le _, Row.nil_, by simp⟩
  · simp only [if_true] at hm
    subst hm
    rw [hC] at hi hx
    have hg : ∀ i, i < m → ∃ z : α, (∀ j, j < d → W.cell? ((a.add (i * d)).add j) = (f z)[j]?) ∧ Q z := by
      intro i him
      obtain ⟨cs', hc', ht'⟩ := hi i him
      obtain ⟨z, rfl, hq⟩ := hel n cs' _ ht' (hz.mono fun q hq => by rw [hx]; exact List.mem_append_right _ (List.mem_flatMap.2 ⟨i, List.mem_range.2 him, hq⟩))
      exact ⟨z, (World.cells?_some hc').2.2, hq⟩
    by_cases h0 : len = 0
    · subst h0
      exact ⟨[], some a, 0, 0, m, hcs, Nat.zero_le _, Row.nil_, by simp⟩
    · obtain ⟨z0, hz0, _⟩ := hg 0 (by omega)
      obtain ⟨b, off, spot⟩ := a
      have hc0 := hz0 0 hd0
      rw [List.getElem?_eq_getElem (show 0 < (f z0).length by rw [hd]; exact hd0)] at hc0
      have hspot : spot = none := by simpa [Addr.add] using World.cell?_spot hc0
      subst hspot
      have hb : b < W.heap.size := by simpa [Addr.add] using World.block_lt_of_cell? _ _ hc0
      obtain ⟨g, hgg⟩ : ∃ g : Nat → α, ∀ i, i < m → (∀ j, j < d → W.cell? ((Addr.add ⟨b, off, none⟩ (i * d)).add j) = (f (g i))[j]?) ∧ Q (g i) :=
        ⟨fun i => if h : i < m then Classical.choose (hg i h) else z0, fun i hi' => by
          dsimp only
          rw [dif_pos hi']; exact Classical.choose_spec (hg i hi')⟩
      refine ⟨(List.range len).map g, _, b, off, m, by simpa using hcs, by simp; omega, ⟨fun _ => ⟨rfl, Nat.zero_le _, hb⟩, fun j u hu => ?_⟩, fun y hy => ?_⟩
      · have hlen : (((List.range len).map g).flatMap f).length = len * d := by rw [flat_len (fun x _ => hd x)]; simp
        have hj : j < len * d := by have := lt_of_some hu; omega
        have hdiv : j / d < len := Nat.div_lt_of_lt_mul (by rw [Nat.mul_comm]; exact hj)
        have hmod : j % d < d := Nat.mod_lt _ hd0
        have hjd : j / d * d + j % d = j := by rw [Nat.mul_comm]; exact Nat.div_add_mod j d
        have hx1 : ((List.range len).map g)[j / d]? = some (g (j / d)) := by simp [hdiv]
        have hcell := (hgg (j / d) (by omega)).1 (j % d) hmod
        have hfl := flat_at (f := f) (d := d) (fun x _ => hd x) hx1 hmod
        rw [hjd, hu] at hfl
        rw [addr_add0, addr_add0, Nat.add_assoc, hjd, ← hfl] at hcell
        refine ⟨hcell, hz b (off + j) ?_⟩
        rw [hx]
        refine List.mem_append_left _ (MemPlace.mem_row.2 ⟨j, Nat.lt_of_lt_of_le hj (Nat.mul_le_mul_right d hl), rfl⟩)
      · obtain ⟨i, hi', rfl⟩ := List.mem_map.1 hy
        exact (hgg i (by have := List.mem_range.1 hi'; omega)).2
end

section
variable {H : Type} {enc : TypeId × Value → H} {W : World}
theorem open_flow {n : Nat} {cs : List Value} {y : DataW H × List MemPlace} (h : DataW.trod enc Try.prog W 0 (fun _ => true) true n 91 cs = some y) : ∃ f : NFlow, cs = f.cells := by
  obtain ⟨hl, m, hf⟩ := struct_fields Try.underlying91 h
  obtain ⟨a, b, c, d, rfl⟩ := list4 (hl.trans Try.c_flow)
  obtain ⟨y0, h0, _⟩ := hf 0 3 0 rfl
  obtain ⟨y1, h1, _⟩ := hf 1 89 1 rfl
  rw [Try.c_int] at h0
  rw [Try.c_ask] at h1
  obtain ⟨n0, e0, _⟩ := DataW.trod_int Try.underlying3 h0
  obtain ⟨_, m', hg⟩ := struct_fields Try.underlying89 h1
  obtain ⟨u0, k0, _⟩ := hg 0 3 0 rfl
  obtain ⟨u1, k1, _⟩ := hg 1 3 1 rfl
  obtain ⟨u2, k2, _⟩ := hg 2 3 2 rfl
  rw [Try.c_int] at k0 k1 k2
  obtain ⟨n1, e1, _⟩ := DataW.trod_int Try.underlying3 k0
  obtain ⟨n2, e2, _⟩ := DataW.trod_int Try.underlying3 k1
  obtain ⟨n3, e3, _⟩ := DataW.trod_int Try.underlying3 k2
  simp at e0 e1 e2 e3
  exact ⟨⟨n0, n1, n2, n3⟩, by simp [e0, e1, e2, e3]⟩
theorem open_ints_sl {n : Nat} {v : Value} {y : DataW H × List MemPlace} (h : DataW.trod enc Try.prog W 0 (fun _ => true) true n 26 [v] = some y) (hz : Free W y.2) : ∃ zs : List Int, Sl W 0 W.heap.size v zs.length (ints zs) := by
  obtain ⟨zs, A, b, off, c, e, hm, hR⟩ := open_ints_row Try.underlying26 Try.underlying3 Try.c_int h hz
  simp at e
  exact ⟨zs, A, b, off, c, e, hm, hR⟩
theorem open_flows_sl {n : Nat} {v : Value} {y : DataW H × List MemPlace} (h : DataW.trod enc Try.prog W 0 (fun _ => true) true n 48 [v] = some y) (hz : Free W y.2) : ∃ l : List NFlow, Sl W 0 W.heap.size v l.length (flowCells l) := by
  obtain ⟨l, A, b, off, c, e, hm, hR, _⟩ := open_row (f := NFlow.cells) (d := 4) (Q := fun _ => True) Try.underlying48 Try.c_flow (by omega) (fun _ => rfl) (fun n cs' y hy _ => by obtain ⟨f, hf⟩ := open_flow hy; exact ⟨f, hf, trivial⟩) h hz
  simp at e
  exact ⟨l, A, b, off, c, e, hm, hR⟩
theorem open_task_cells {n : Nat} {cs : List Value} {y : DataW H × List MemPlace} (h : DataW.trod enc Try.prog W 0 (fun _ => true) true n 50 cs = some y) (hz : Free W y.2) :
    ∃ m : TaskM, cs = m.cells ∧ TaskV W 0 W.heap.size m.t m.vi m.vo m.vc := by
  obtain ⟨hl, m, hf⟩ := struct_fields Try.underlying50 h
  obtain ⟨a0, a1, a2, a3, a4, a5, a6, a7, a8, rfl⟩ := list9 (hl.trans Try.c_task)
  obtain ⟨y0, h0, _⟩ := hf 0 3 0 rfl
  obtain ⟨y1, h1, _⟩ := hf 1 3 1 rfl
  obtain ⟨y2, h2, p2⟩ := hf 2 26 2 rfl
  obtain ⟨y3, h3, p3⟩ := hf 3 48 3 rfl
  obtain ⟨y4, h4, p4⟩ := hf 4 26 4 rfl
  obtain ⟨y5, h5, _⟩ := hf 5 3 5 rfl
  obtain ⟨y6, h6, _⟩ := hf 6 3 6 rfl
  obtain ⟨y7, h7, _⟩ := hf 7 3 7 rfl
  obtain ⟨y8, h8, _⟩ := hf 8 3 8 rfl
  rw [Try.c_int] at h0 h1 h5 h6 h7 h8
  rw [Try.c_ints] at h2 h4
  rw [Try.c_flows] at h3
  obtain ⟨n0, e0, _⟩ := DataW.trod_int Try.underlying3 h0
  obtain ⟨n1, e1, _⟩ := DataW.trod_int Try.underlying3 h1
  obtain ⟨n5, e5, _⟩ := DataW.trod_int Try.underlying3 h5
  obtain ⟨n6, e6, _⟩ := DataW.trod_int Try.underlying3 h6
  obtain ⟨n7, e7, _⟩ := DataW.trod_int Try.underlying3 h7
  obtain ⟨n8, e8, _⟩ := DataW.trod_int Try.underlying3 h8
  obtain ⟨z2, s2⟩ := open_ints_sl (v := a2) h2 (hz.mono p2)
  obtain ⟨z3, s3⟩ := open_flows_sl (v := a3) h3 (hz.mono p3)
  obtain ⟨z4, s4⟩ := open_ints_sl (v := a4) h4 (hz.mono p4)
  simp at e0 e1 e5 e6 e7 e8
  exact ⟨⟨⟨n0, n1, z2, z3, z4, n5, n6, n7, n8⟩, a2, a3, a4⟩, by simp [e0, e1, e5, e6, e7, e8], s2, s3, s4⟩
set_option maxRecDepth 100000 in
theorem open_task {r : Reach} {b0 : Nat} {v : Value} {d : DataW H} {p : List MemPlace} (hv : Value.okWide Try.prog W r b0 50 v) (h : DataW.Trod enc Try.prog W 0 (fun _ => true) true 50 v d p) (hz : Free W p) :
    ∃ (t : NTask) (vi vo vc : Value), v = .agg #[.int .i64 t.join, .int .i64 t.split, vi, vo, vc, .int .i64 t.role, .int .i64 t.apart, .int .i64 t.all, .int .i64 t.need] ∧ TaskV W 0 W.heap.size t vi vo vc := by
  obtain ⟨cs, rfl, hsz⟩ := okWide_struct Try.underlying50 hv
  obtain ⟨fuel, hf⟩ := h
  obtain ⟨m, hm, hT⟩ := open_task_cells hf hz
  obtain ⟨t, vi, vo, vc⟩ := m
  refine ⟨t, vi, vo, vc, ?_, hT⟩
  have e : cs.toList = _ := hm
  rw [Value.agg.injEq, ← Array.toList_inj, e]
set_option maxRecDepth 100000 in
theorem open_net {r : Reach} {b0 : Nat} {v : Value} {d : DataW H} {p : List MemPlace} (hv : Value.okWide Try.prog W r b0 24 v) (h : DataW.Trod enc Try.prog W 0 (fun _ => true) true 24 v d p) (hz : Free W p) :
    ∃ n : NNet, NetV W 0 W.heap.size v n := by
  obtain ⟨cs, rfl, hsz⟩ := okWide_struct Try.underlying24 hv
  obtain ⟨fuel, hf⟩ := h
  obtain ⟨hl, m, hg⟩ := struct_fields Try.underlying24 hf
  obtain ⟨a, b, e⟩ := list2 (hl.trans Try.c_net)
  rw [e] at hg
  obtain ⟨y0, h0, _⟩ := hg 0 3 0 rfl
  obtain ⟨y1, h1, p1⟩ := hg 1 22 1 rfl
  rw [Try.c_int] at h0
  rw [Try.c_tasks] at h1
  obtain ⟨n0, e0, _⟩ := DataW.trod_int Try.underlying3 h0
  obtain ⟨ms, A, b', off, c, e1, hm, hR, hQ⟩ := open_row (f := TaskM.cells) (d := 9) (Q := fun m => TaskV W 0 W.heap.size m.t m.vi m.vo m.vc) Try.underlying22 Try.c_task (by omega) (fun _ => rfl) (fun n cs' y hy hfr => open_task_cells hy hfr) h1 (hz.mono p1)
  simp at e0 e1
  refine ⟨⟨n0, ms.map TaskM.t⟩, A, b', off, c, ms, ?_, by simpa using hm, hR, rfl, hQ⟩
  have e' : cs.toList = _ := e
  rw [Value.agg.injEq, ← Array.toList_inj, e', e0, e1]
  simp
end
end Go.Proofs.Ytjbfkgckpbpdeaa
