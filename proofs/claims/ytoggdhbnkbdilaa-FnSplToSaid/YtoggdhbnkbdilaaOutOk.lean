/- Whether what leads out of a task is ok: the program, with its map of places seen. -/
import Derived.Test.YtoggdhbnkbdilaaSpecNetOk
import Derived.Maps.Own
import Derived.Maps.OwnOps
import Derived.Maps.OwnSet
import Derived.Maps.Views
namespace Go.Proofs.Ytoggdhbnkbdilaa
open Go.RowKit Go.Maps
set_option linter.unusedVariables false
set_option linter.unusedSimpArgs false

theorem plainElem_bool_inv {H : Type} {P : Program} {e : TypeId} (he : P.underlying e = some .bool) {v : Value} {z : DataW H × List MemPlace} (h : plainElem P e v = some z) : ∃ x, v = .bool x ∧ z = (.lit (.bool x), []) := by
  unfold plainElem at h
  rw [he] at h
  split at h <;> simp_all

/-- A place has been seen: it is 0, or one of the first k flows leads to it. -/
def seenB (l : List NFlow) (k : Nat) (x : Int) : Bool := decide (x = 0) || (List.range k).any fun i => decide ((l.getD i default).to = x)
theorem seenB_succ {l : List NFlow} {k : Nat} {f : NFlow} (h : l[k]? = some f) (x : Int) : seenB l (k + 1) x = (seenB l k x || decide (f.to = x)) := by
  have e := getD_of (d := (default : NFlow)) h
  unfold seenB; rw [List.range_succ, List.any_append, List.any_cons, List.any_nil, e, Bool.or_false, Bool.or_assoc]
/-- The map of the places seen, in block b. -/
def SeenV (w : World) (b k : Nat) (l : List NFlow) : Prop :=
  ∃ (n : Nat) (D : DataW Unit), w.ownsMap Try.prog 3 (plainElem Try.prog 4) b n D ∧ n ≤ k + 1 ∧ ∀ x : Int, D.atKey (.int .i64 x) (.lit (.bool false)) = .lit (.bool (seenB l k x))
theorem wf_i64 {x : Int} (h1 : -9223372036854775808 ≤ x) (h2 : x ≤ 9223372036854775807) : (Lit.int .i64 x).wf = true := by
  have e1 : IntKind.i64.min = -9223372036854775808 := rfl
  have e2 : IntKind.i64.max = 9223372036854775807 := rfl
  simp only [Lit.wf, Bool.and_eq_true, decide_eq_true_eq]; omega
set_option maxRecDepth 10000 in
theorem SeenV.lookup {w : World} {b k : Nat} {l : List NFlow} (h : SeenV w b k l) {x : Int} (h1 : -9223372036854775808 ≤ x) (h2 : x ≤ 9223372036854775807) (hz : Sem.run Try.prog (zeroValue 4) w = .ok (.bool false) w) :
    Sem.run Try.prog (Instr.lookup 89 (.map (some b)) (.int .i64 x) false) w = .ok (.bool (seenB l k x)) w := by
  obtain ⟨n, D, hown, _, hD⟩ := h
  obtain ⟨v, ps, hrun, hv⟩ := hown.lookup (int_keyed Try.underlying3) Try.underlying89 hz (plainElem_bool Try.underlying4 false) (keyOf_int_mk Try.underlying3 (wf_i64 h1 h2))
  obtain ⟨y, rfl, hy⟩ := plainElem_bool_inv Try.underlying4 hv
  rw [hrun]
  rw [hD x] at hy
  injection hy with hy _
  injection hy with hy
  injection hy with hy
  rw [hy]
set_option maxRecDepth 10000 in
theorem SeenV.update {w : World} {b k : Nat} {l : List NFlow} (h : SeenV w b k l) (hk : k < 2000000) {f : NFlow} (hf : l[k]? = some f) (h1 : -9223372036854775808 ≤ f.to) (h2 : f.to ≤ 9223372036854775807) :
    ∃ w', Sem.run Try.prog (Instr.mapUpdate 89 (.map (some b)) (.int .i64 f.to) (.bool true)) w = .ok () w' ∧ SeenV w' b (k + 1) l ∧ w.grownBy w' (some b) := by
  obtain ⟨n, D, hown, hn, hD⟩ := h
  obtain ⟨w', hrun, hown', hg⟩ := hown.update (int_keyed Try.underlying3) Try.underlying89 (by unfold maxLen; omega) (keyOf_int_mk Try.underlying3 (wf_i64 h1 h2)) (plainElem_bool Try.underlying4 true)
  refine ⟨w', hrun, ⟨n + 1, _, hown', by omega, fun x => ?_⟩, hg⟩
  rw [seenB_succ hf]
  by_cases hx : x = f.to
  · subst hx
    rw [atKey_put_same hown.isMap (by trivial)]; simp
  · rw [atKey_put_other (by intro e; injection e with _ e; exact hx e), hD x]
    have : decide (f.to = x) = false := by simpa using fun e => hx e.symm
    rw [this, Bool.or_false]
theorem SeenV.keep {w w' : World} {b k B : Nat} {l : List NFlow} (h : SeenV w b k l) (hb : Below B w w') (hB : b < B) (hw : w.heap.size ≤ B) : SeenV w' b k l := by
  obtain ⟨n, D, hown, hn, hD⟩ := h
  exact ⟨n, D, hown.kept (row := none) ⟨hb.os, hb.tape, hb.output, hb.size, fun k hk _ => hb.block k (by omega)⟩ (by simp), hn, hD⟩
theorem SeenV.alloc {w : World} {b k : Nat} {l : List NFlow} (h : SeenV w b k l) (o : Obj) : SeenV (w.alloc o) b k l := by
  obtain ⟨n, D, hown, hn, hD⟩ := h
  exact ⟨n, D, hown.alloc o, hn, hD⟩
set_option maxRecDepth 10000 in
theorem SeenV.start (w : World) (l : List NFlow) :
    ∃ w', Sem.run Try.prog (Instr.mapUpdate 89 (.map (some w.heap.size)) (.int .i64 0) (.bool true)) (w.alloc (.map #[] 0)) = .ok () w' ∧ SeenV w' w.heap.size 0 l ∧ (w.alloc (.map #[] 0)).grownBy w' (some w.heap.size) := by
  have hown : (w.alloc (.map #[] 0)).ownsMap (H := Unit) Try.prog 3 (plainElem Try.prog 4) w.heap.size 0 (.map []) := World.ownsMap_made _ _ _ _
  obtain ⟨w', hrun, hown', hg⟩ := hown.update (int_keyed Try.underlying3) Try.underlying89 (by unfold maxLen; omega) (keyOf_int_mk Try.underlying3 (wf_i64 (x := 0) (by omega) (by omega))) (plainElem_bool Try.underlying4 true)
  refine ⟨w', hrun, ⟨1, _, hown', by omega, fun x => ?_⟩, hg⟩
  by_cases hx : x = 0
  · subst hx
    rw [atKey_put_same hown.isMap (by trivial)]; simp [seenB]
  · rw [atKey_put_other (by intro e; injection e with _ e; exact hx e)]
    simp [seenB, hx, DataW.atKey]
end Go.Proofs.Ytoggdhbnkbdilaa
