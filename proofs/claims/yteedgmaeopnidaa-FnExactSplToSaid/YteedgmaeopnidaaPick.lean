/- The tasks of a net for which something holds: the program's pick, and the plain list it makes. -/
import Derived.Test.YteedgmaeopnidaaNetFlows
import Derived.Test.YteedgmaeopnidaaAppend
import Derived.Laws.AppendOwnNone
namespace Go.Proofs.Yteedgmaeopnidaa
open Go.RowKit
set_option linter.unusedVariables false
set_option linter.unusedSimpArgs false

/-- The numbers below k at which p holds. -/
def atsN (p : Nat → Bool) : Nat → List Int
  | 0 => []
  | k + 1 => atsN p k ++ (if p k then [(k : Int)] else [])
theorem atsN_yes {p : Nat → Bool} {k : Nat} (h : p k = true) : atsN p (k + 1) = atsN p k ++ [(k : Int)] := by rw [atsN, if_pos h]
theorem atsN_no {p : Nat → Bool} {k : Nat} (h : p k = false) : atsN p (k + 1) = atsN p k := by rw [atsN, h]; simp
theorem atsN_len (p : Nat → Bool) : ∀ k, (atsN p k).length ≤ k
  | 0 => Nat.le_refl _
  | k + 1 => by
    have := atsN_len p k
    rw [atsN, List.length_append]
    split <;> simp <;> omega
theorem atsN_congr {p q : Nat → Bool} : ∀ (k : Nat), (∀ j, j < k → p j = q j) → atsN p k = atsN q k
  | 0, _ => rfl
  | k + 1, h => by rw [atsN, atsN, atsN_congr k (fun j hj => h j (by omega)), h k (by omega)]
def taskAt (p : NTask → Bool) (n : NNet) (k : Nat) : Bool := match n.tasks[k]? with | some t => p t | none => false
theorem taskAt_of {p : NTask → Bool} {n : NNet} {k : Nat} {t : NTask} (h : n.tasks[k]? = some t) : taskAt p n k = p t := by simp [taskAt, h]
/-- The tasks of a net that is ok for which p holds. -/
def pickN (p : NTask → Bool) (n : NNet) : List Int := if netOk n then atsN (taskAt p n) n.tasks.length else []
theorem pickN_ok {p : NTask → Bool} {n : NNet} (h : netOk n = true) : pickN p n = atsN (taskAt p n) n.tasks.length := by rw [pickN, if_pos h]
theorem pickN_no {p : NTask → Bool} {n : NNet} (h : netOk n = false) : pickN p n = [] := by rw [pickN, h]; rfl
theorem pickN_len (p : NTask → Bool) (n : NNet) : (pickN p n).length ≤ 1048576 := by
  by_cases h : netOk n = true
  · have := atsN_len (taskAt p n) n.tasks.length
    have := netOk_parts h
    rw [pickN_ok h]; omega
  · rw [pickN_no (by simpa using h)]; simp

/-- One new cell, as an appended element. -/
theorem one_new (w : World) (u : Value) (T : TypeId) : ∀ (j : Nat) (v : Value), [u][j]? = some v → (w.alloc (.cells #[u] T)).cell? ((⟨w.heap.size, 0, none⟩ : Addr).add j) = some v := by
  intro j v hj
  match j, hj with
  | 0, hj => simp at hj; subst hj; rw [addr_add0, World.cell?_alloc_at _ _ _ _ rfl]; rfl
theorem Made.nil_ (w : World) (base : Nat) (e : TypeId) : Made w base e [] (.slice none 0 0) := World.ownsRow_nil _ _ _ _
theorem Made.alloc {w : World} {base : Nat} {e : TypeId} {zs : List Int} {v : Value} (h : Made w base e zs v) (o : Obj) : Made (w.alloc o) base e zs v :=
  h.below ((Below.refl w.heap.size w).alloc (Nat.le_refl _) o) (Nat.le_refl _)
theorem Made.drewN {w : World} {base : Nat} {e : TypeId} {zs : List Int} {v : Value} (h : Made w base e zs v) (n : Nat) : Made (w.drewN n) base e zs v :=
  h.below (below_draws w.heap.size w n) (Nat.le_refl _)
theorem Made.own {w : World} {base : Nat} {e : TypeId} {zs : List Int} {v : Value} (h : Made w base e zs v) {k : Nat} (hk : v.ownBlock = some k) : base ≤ k := (World.ownsRow.lt h k hk).1
theorem Made.base {w : World} {base base' : Nat} {e : TypeId} {zs : List Int} {v : Value} (h : Made w base e zs v) (hb : base' ≤ base) : Made w base' e zs v := by
  unfold Made World.ownsRow at h ⊢
  refine ⟨h.1, ?_⟩
  rcases h.2 with h2 | ⟨g, cap, cur, h3, h4, h5⟩
  · exact .inl h2
  · exact .inr ⟨g, cap, cur, h3, Nat.le_trans hb h4, h5⟩

end Go.Proofs.Yteedgmaeopnidaa
