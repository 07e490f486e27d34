/- A drawn net in a variable's block, and what keeps it; lists compared. -/
import Derived.Test.YtkcbghaadjhceaaDrawN
import Derived.Test.YtkcbghaadjhceaaMore
import Derived.Test.YtkcbghaadjhceaaTakeL
import Derived.Test.YtkcbghaadjhceaaSpecNetOk
namespace Go.Proofs.Ytkcbghaadjhceaa
open Go.RowKit
set_option linter.unusedVariables false
set_option linter.unusedSimpArgs false

structure NB (w0 : World) (B : Nat) (P : Int) (b1 k c1 : Nat) (n : NNet) (w : World) : Prop where
  net : Blk w B 25 #[.int .i64 P, .slice (some ⟨b1, 0, none⟩) k c1]
  nv : NetV w w0.heap.size B (.agg #[.int .i64 P, .slice (some ⟨b1, 0, none⟩) k c1]) n
  bl : Below w0.heap.size w0 w
  hB : w0.heap.size ≤ B
  lt : B < w.heap.size
section
variable {w0 w w' : World} {B b1 k c1 : Nat} {P : Int} {n : NNet}
theorem NB.start (hg : NetG w0 w P b1 k c1 n) (hb : Below w0.heap.size w0 w) : NB w0 w.heap.size P b1 k c1 n (w.alloc (.cells #[.int .i64 P, .slice (some ⟨b1, 0, none⟩) k c1] 25)) :=
  ⟨Blk.new_ _ _ _, hg.2.2.2.keep fun g _ h => Below.heap_alloc w _ g h, hb.alloc hb.size _, hb.size, by simp⟩
theorem NB.below (h : NB w0 B P b1 k c1 n w) (hb : Below w.heap.size w w') : NB w0 B P b1 k c1 n w' :=
  ⟨h.net.below hb h.lt, h.nv.below hb (Nat.le_of_lt h.lt), h.bl.trans (hb.mono h.bl.size), h.hB, Nat.lt_of_lt_of_le h.lt hb.size⟩
theorem NB.alloc (h : NB w0 B P b1 k c1 n w) (o : Obj) : NB w0 B P b1 k c1 n (w.alloc o) := h.below ((Below.refl _ _).alloc (Nat.le_refl _) o)
theorem NB.drewN (h : NB w0 B P b1 k c1 n w) (d : Nat) : NB w0 B P b1 k c1 n (w.drewN d) := h.below (below_draws _ _ _)
theorem NB.drew (h : NB w0 B P b1 k c1 n w) : NB w0 B P b1 k c1 n w.drew := h.below ⟨rfl, rfl, rfl, Nat.le_refl _, fun _ _ => rfl⟩
theorem NB.cell0 (h : NB w0 B P b1 k c1 n w) : w.cell? ⟨B, 0, none⟩ = some (.int .i64 P) := h.net.cell 0
theorem NB.cell1 (h : NB w0 B P b1 k c1 n w) : w.cell? ⟨B, 1, none⟩ = some (.slice (some ⟨b1, 0, none⟩) k c1) := h.net.cell 1
end
theorem small_out {n : NNet} (h : Small n) : ∀ t ∈ n.tasks, t.out.length ≤ 1048576 := fun t ht => by
  have := (h.2.2.2.2 t ht).1.2.1; omega


theorem guHas_c (zs : List Int) (lo hi : Nat) (A : Option Addr) (b off c : Nat) (z : Int) (w : World) (hV : Row w lo hi A b off (ints zs)) (hm : zs.length ≤ maxLen) :
    Calls Try.prog 16 #[.slice A zs.length c, .int .i64 z] w fun e w' => e = .returned (.bool (decide (z ∈ zs))) ∧ w = w' := by
  unfold maxLen at hm
  go_enter Try.func16, Try.ntmps16
  go_wp2
  go_loop [5] (fun i => ∃ k : Nat, k ≤ zs.length ∧ i = .int .i64 k ∧ (∀ j y, j < k → zs[j]? = some y → y ≠ z)) (fun i => zs.length - (intOf i).toNat)
  case atStart => exact ⟨0, Nat.zero_le _, rfl, fun j y hj => absurd hj (Nat.not_lt_zero _)⟩
  case round =>
    obtain ⟨k, hk, rfl, hn⟩ := hrel
    have HN := Lib.hid hn
    clear hn
    by_cases hlt : k < zs.length
    · obtain ⟨rfl, _, _, x, hx, hc, _⟩ := hV.int hlt
      have HX := Lib.hid hx
      clear hx
      by_cases hxz : x = z
      · have HZ := Lib.hid hxz
        have e : (x == z) = true := by simpa using hxz
        clear hxz
        go_wp2
        go_ret
        exact ⟨ret_bool (by rw [eq_comm, decide_eq_true_eq, ← HZ.out]; exact List.mem_of_getElem? HX.out), rfl⟩
      · have HZ := Lib.hid hxz
        have e : (x == z) = false := by simpa using hxz
        clear hxz
        go_wp2
        go_round
        case rel =>
          refine ⟨k + 1, by omega, by go_num, fun j y hj hy => ?_⟩
          by_cases hjk : j = k
          · subst hjk
            have e := HX.out.symm.trans hy
            injection e with e; rw [← e]; exact HZ.out
          · exact HN.out j y (by omega) hy
        case measure => simp [intOf]; omega
    · go_wp2
      go_ret
      refine ⟨ret_bool ?_, rfl⟩
      rw [eq_comm, decide_eq_false_iff_not]
      intro hz
      obtain ⟨j, hj⟩ := List.getElem?_of_mem hz
      exact HN.out j z (by have := lt_of_some hj; omega) hj rfl
end Go.Proofs.Ytkcbghaadjhceaa

/- A task of a drawn net in a variable's block. -/
namespace Go.Proofs.Ytkcbghaadjhceaa
open Go.RowKit
set_option linter.unusedVariables false
set_option linter.unusedSimpArgs false

theorem NB.task {w0 w : World} {B b1 k c1 : Nat} {P : Int} {n : NNet} (h : NB w0 B P b1 k c1 n w) {i : Nat} (hi : i < n.tasks.length) :
    ∃ (t : NTask) (Ai : Option Addr) (bi oi ci : Nat) (Ao : Option Addr) (bo oo co : Nat) (Ac : Option Addr) (bc oc cc : Nat), n.tasks[i]? = some t ∧ Row w w0.heap.size B Ai bi oi (ints t.ins) ∧ Row w w0.heap.size B Ao bo oo (flowCells t.out) ∧ Row w w0.heap.size B Ac bc oc (ints t.clear) ∧
      TaskV w w0.heap.size B t (.slice Ai t.ins.length ci) (.slice Ao t.out.length co) (.slice Ac t.clear.length cc) ∧
      w.cell? ⟨b1, i * 9, none⟩ = some (.int .i64 t.join) ∧ w.cell? ⟨b1, i * 9 + 1, none⟩ = some (.int .i64 t.split) ∧ w.cell? ⟨b1, i * 9 + 2, none⟩ = some (.slice Ai t.ins.length ci) ∧ w.cell? ⟨b1, i * 9 + 3, none⟩ = some (.slice Ao t.out.length co) ∧ w.cell? ⟨b1, i * 9 + 4, none⟩ = some (.slice Ac t.clear.length cc) ∧
      w.cell? ⟨b1, i * 9 + 5, none⟩ = some (.int .i64 t.role) ∧ w.cell? ⟨b1, i * 9 + 6, none⟩ = some (.int .i64 t.apart) ∧ w.cell? ⟨b1, i * 9 + 7, none⟩ = some (.int .i64 t.all) ∧ w.cell? ⟨b1, i * 9 + 8, none⟩ = some (.int .i64 t.need) := by
  obtain ⟨A, b, off, c, ms, e, hm, hT⟩ := h.nv
  injection e with e
  have e2 := congrArg (fun a => a[1]?) e
  simp at e2
  obtain ⟨hA, _, _⟩ := e2
  obtain ⟨t1, _, _, t, vi, vo, vc, h1, _, hV, ⟨c0, c1', c2, c3, c4, c5, c6, c7, c8⟩, _⟩ := hT.task hi
  rw [t1] at hA
  injection hA with hA
  injection hA with hb hoff _
  subst hb hoff
  have hV' := hV
  obtain ⟨⟨Ai, bi, oi, ci, rfl, _, hri⟩, ⟨Ao, bo, oo, co, rfl, _, hro⟩, ⟨Ac, bc, oc, cc, rfl, _, hrc⟩⟩ := hV
  simp only [Nat.zero_add] at c0 c1' c2 c3 c4 c5 c6 c7 c8
  exact ⟨t, Ai, bi, oi, ci, Ao, bo, oo, co, Ac, bc, oc, cc, h1, hri, hro, hrc, hV', c0, c1', c2, c3, c4, c5, c6, c7, c8⟩
end Go.Proofs.Ytkcbghaadjhceaa
