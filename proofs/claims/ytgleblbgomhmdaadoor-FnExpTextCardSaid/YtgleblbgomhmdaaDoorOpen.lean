/- What an argument that is read as data is in memory: a slice of numbers is a row; a question is three numbers. -/
import Derived.Test.YtgleblbgomhmdaaDoorRows
import Derived.Test.YtgleblbgomhmdaaDoorMore
import Derived.ProofKit
import Derived.OpenShut
import Derived.ShutString
import Derived.ChangeOld
import Derived.Deep.Slices
import Derived.Deep.Fields
import Derived.ChangeSame
namespace Go.Proofs.YtgleblbgomhmdaaDoor
open Go.ChangeShapes Go.WideShapes Go.ChangeAt Go.RowKit Go.Deep
open Go.ChangeMaps (open_string shut_string)
set_option linter.unusedVariables false
set_option linter.unusedSimpArgs false

theorem Tryd.own : ownKnob Tryd.prog.godebug = none := by kernel_rfl
theorem Tryd.laidOut : laidOutB Tryd.prog = true := by kernel_rfl

section
variable {H : Type} {enc : TypeId × Value → H} {P : Program} {W : World}
/-- None of the places is frozen. -/
def Free (W : World) (ps : List MemPlace) : Prop := ∀ b off, MemPlace.cell b off ∈ ps → W.frozen? ⟨b, off, none⟩ = false
theorem Free.mono {ps qs : List MemPlace} (h : Free W ps) (hs : ∀ x ∈ qs, x ∈ ps) : Free W qs := fun b off hm => h b off (hs _ hm)

theorem open_ints_row {t e : TypeId} {fuel : Nat} {cs : List Value} {x : DataW H × List MemPlace} (ht : P.underlying t = some (.slice e)) (he : P.underlying e = some (.int .i64)) (hc : P.cellsOf e = 1)
    (h : DataW.trod enc P W 0 (fun _ => true) true fuel t cs = some x) (hz : Free W x.2) :
    ∃ (zs : List Int) (A : Option Addr) (b off c : Nat), cs = [.slice A zs.length c] ∧ zs.length ≤ maxLen ∧ Row W 0 W.heap.size A b off (ints zs) := by
  rcases open_ints ht he hc h with ⟨hcs, _⟩ | ⟨a, l, c, zs, hcs, _, hl, hm, hzl, hx, hcell, hwz⟩
  · exact ⟨[], none, 0, 0, 0, hcs, Nat.zero_le _, Row.nil_⟩
  · simp only [if_true] at hzl
    have htl : (zs.take l).length = l := by rw [List.length_take]; omega
    by_cases h0 : l = 0
    · subst h0
      exact ⟨[], some a, 0, 0, c, hcs, Nat.zero_le _, Row.nil_⟩
    · obtain ⟨b, off, spot⟩ := a
      have hspot : spot = none := by simpa [Addr.add] using World.cell?_spot (hcell 0 (by omega))
      subst hspot
      refine ⟨zs.take l, _, b, off, c, by rw [htl]; exact hcs, by rw [htl]; omega, fun _ => ⟨rfl, Nat.zero_le _, ?_⟩, fun j u hu => ?_⟩
      · have := World.block_lt_of_cell? _ _ (hcell 0 (by omega))
        simpa [Addr.add] using this
      · have hj : j < l := by have := lt_of_some hu; simp at this; omega
        have hcj := hcell j (by omega)
        rw [addr_add0] at hcj
        refine ⟨?_, hz b (off + j) ?_⟩
        · rw [hcj, ← hu]
          simp [List.getElem?_take, hj, List.getD, List.getElem?_eq_getElem (show j < zs.length by omega)]
        · rw [hx]; exact MemPlace.mem_row.2 ⟨j, by omega, rfl⟩

theorem open_bytes_row {t e : TypeId} {fuel : Nat} {cs : List Value} {x : DataW H × List MemPlace} (ht : P.underlying t = some (.slice e)) (he : P.underlying e = some (.int .u8)) (hc : P.cellsOf e = 1)
    (h : DataW.trod enc P W 0 (fun _ => true) true fuel t cs = some x) (hz : Free W x.2) :
    ∃ (zs : List Int) (A : Option Addr) (b off c : Nat), cs = [.slice A zs.length c] ∧ zs.length ≤ maxLen ∧ zs.length ≤ c ∧ (∀ n ∈ zs, 0 ≤ n ∧ n ≤ 255) ∧ Row W 0 W.heap.size A b off (zs.map (Value.int .u8)) := by
  rcases open_ints ht he hc h with ⟨hcs, _⟩ | ⟨a, l, c, zs, hcs, _, hl, hm, hzl, hx, hcell, hwz⟩
  · exact ⟨[], none, 0, 0, 0, hcs, Nat.zero_le _, Nat.zero_le _, by simp, Row.nil_⟩
  · simp only [if_true] at hzl
    have htl : (zs.take l).length = l := by rw [List.length_take]; omega
    have hb8 : ∀ n ∈ zs.take l, 0 ≤ n ∧ n ≤ 255 := fun n hn => by
      have := hwz n (List.mem_of_mem_take hn)
      have h1 : IntKind.u8.min = 0 := rfl
      have h2 : IntKind.u8.max = 255 := rfl
      simp only [Lit.wf, Bool.and_eq_true, decide_eq_true_eq] at this
      omega
    by_cases h0 : l = 0
    · subst h0
      exact ⟨[], some a, 0, 0, c, hcs, Nat.zero_le _, Nat.zero_le _, by simp, Row.nil_⟩
    · obtain ⟨b, off, spot⟩ := a
      have hspot : spot = none := by simpa [Addr.add] using World.cell?_spot (hcell 0 (by omega))
      subst hspot
      refine ⟨zs.take l, _, b, off, c, by rw [htl]; exact hcs, by rw [htl]; omega, by rw [htl]; exact hl, hb8, fun _ => ⟨rfl, Nat.zero_le _, ?_⟩, fun j u hu => ?_⟩
      · have := World.block_lt_of_cell? _ _ (hcell 0 (by omega))
        simpa [Addr.add] using this
      · have hj : j < l := by have := lt_of_some hu; simp at this; omega
        have hcj := hcell j (by omega)
        rw [addr_add0] at hcj
        refine ⟨?_, hz b (off + j) ?_⟩
        · rw [hcj, ← hu]
          simp [List.getElem?_take, hj, List.getD, List.getElem?_eq_getElem (show j < zs.length by omega)]
        · rw [hx]; exact MemPlace.mem_row.2 ⟨j, by omega, rfl⟩

theorem open_int_cell {t : TypeId} {fuel : Nat} {v : Value} {x : DataW H × List MemPlace} (ht : P.underlying t = some (.int .i64)) (h : DataW.trod enc P W 0 (fun _ => true) true fuel t [v] = some x) : ∃ n : Int, v = .int .i64 n ∧ (Lit.int .i64 n).wf = true := by
  obtain ⟨n, h1, _, h2⟩ := DataW.trod_int ht h
  exact ⟨n, by simpa using h1, h2⟩

theorem struct_field {t : TypeId} {fs : Array Field} {fuel : Nat} {cs : List Value} {x : DataW H × List MemPlace} (ht : P.underlying t = some (.struct fs)) (hone : oneCellFields P fs = true) (hC : P.cellsOf t = fs.size)
    (h : DataW.trod enc P W 0 (fun _ => true) true fuel t cs = some x) :
    cs.length = fs.size ∧ ∃ n, ∀ (j : Nat) (f : Field), fs[j]? = some f → ∃ (v : Value) (y : DataW H × List MemPlace), cs[j]? = some v ∧ DataW.trod enc P W 0 (fun _ => true) true n f.type [v] = some y ∧ ∀ q ∈ y.2, q ∈ x.2 := by
  obtain ⟨ys, n, _, hx, hlen, hyl, hf⟩ := DataW.trod_struct ht h
  refine ⟨by omega, n, fun j f hj => ?_⟩
  obtain ⟨ho, hk⟩ := hone_of hone j f hj
  have hjl : j < fs.size := (Array.getElem?_eq_some_iff.1 hj).1
  have h1 := hf j f hj
  rw [ho, hk] at h1
  have hone' : (cs.drop j).take 1 = [cs[j]'(by omega)] := by
    rw [List.drop_eq_getElem_cons (by omega)]
    rfl
  rw [hone'] at h1
  have hys : ys[j]? = some (ys[j]'(by omega)) := List.getElem?_eq_getElem (by omega)
  refine ⟨_, _, List.getElem?_eq_getElem (by omega), h1.trans hys, fun q hq => ?_⟩
  rw [hx]
  exact List.mem_flatMap.2 ⟨_, List.getElem_mem (by omega), hq⟩

/-- A question that came in: three numbers. -/
theorem open_ask {r : Reach} {b0 : Nat} {t ti : TypeId} {f0 f1 f2 : Field} {v : Value} {d : DataW H} {p : List MemPlace} (hs : P.underlying t = some (.struct #[f0, f1, f2])) (hone : oneCellFields P #[f0, f1, f2] = true) (hC : P.cellsOf t = 3)
    (h0 : f0.type = ti) (h1 : f1.type = ti) (h2 : f2.type = ti) (hti : P.underlying ti = some (.int .i64))
    (hv : Value.okWide P W r b0 t v) (h : DataW.Trod enc P W 0 (fun _ => true) true t v d p) : ∃ o k n : Int, v = .agg #[.int .i64 o, .int .i64 k, .int .i64 n] := by
  obtain ⟨cs, rfl, hsz⟩ := okWide_struct hs hv
  obtain ⟨l⟩ := cs
  match l, hsz.trans hC with
  | [c0, c1, c2], _ =>
    obtain ⟨fuel, hf⟩ := h
    obtain ⟨_, n, hg⟩ := struct_field hs hone hC hf
    obtain ⟨u0, y0, e0, t0, _⟩ := hg 0 f0 rfl
    obtain ⟨u1, y1, e1, t1, _⟩ := hg 1 f1 rfl
    obtain ⟨u2, y2, e2, t2, _⟩ := hg 2 f2 rfl
    rw [h0] at t0; rw [h1] at t1; rw [h2] at t2
    obtain ⟨n0, rfl, _⟩ := open_int_cell hti t0
    obtain ⟨n1, rfl, _⟩ := open_int_cell hti t1
    obtain ⟨n2, rfl, _⟩ := open_int_cell hti t2
    simp [Value.cells] at e0 e1 e2
    subst e0 e1 e2
    exact ⟨_, _, _, rfl⟩
end
end Go.Proofs.YtgleblbgomhmdaaDoor
