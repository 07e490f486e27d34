/- How many ways a net has: the program and the reference. -/
import Derived.Test.YteedgmaeopnidaaImplNet
import Derived.Test.YteedgmaeopnidaaSpecNetOk
namespace Go.Proofs.Yteedgmaeopnidaa
open Go.RowKit
set_option linter.unusedVariables false
set_option linter.unusedSimpArgs false

theorem netOk_parts {n : NNet} (h : netOk n = true) : 2 ≤ n.places ∧ n.places ≤ 8 ∧ 1 ≤ n.tasks.length ∧ n.tasks.length ≤ 6 ∧ ∀ t ∈ n.tasks, taskOk t n.places n.tasks.length = true := by
  rw [netOk, Bool.and_eq_true, Bool.and_eq_true, inB_iff, inB_iff, List.all_eq_true] at h
  exact ⟨h.1.1, h.1.2, by omega, by omega, h.2.2⟩
theorem taskOk_parts {t : NTask} {p m : Int} (h : taskOk t p m = true) : inB t.join 1 3 = true ∧ inB t.split 1 3 = true ∧ risesB t.ins 1 3 0 (p - 1) = true ∧ 1 ∉ t.ins ∧ outB p t.split t.out = true ∧ risesB t.clear 0 p 2 (p - 1) = true ∧ inB t.role 1 3 = true ∧ inB t.apart (-1) (m - 1) = true ∧ inB t.all 1 3 = true ∧ inB t.need 1 t.all = true := by
  simp only [taskOk, Bool.and_eq_true, Bool.not_eq_true', decide_eq_false_iff_not] at h
  obtain ⟨h1, h2, h3, h4, h5, h6, h7, h8, h9, h10⟩ := h
  exact ⟨h1, h2, h3, h4, h5, h6, h7, h8, h9, h10⟩
theorem taskOk_lens {t : NTask} {p m : Int} (h : taskOk t p m = true) : 1 ≤ t.ins.length ∧ t.ins.length ≤ 3 ∧ 1 ≤ t.out.length ∧ t.out.length ≤ 3 := by
  obtain ⟨_, _, h3, _, h5, _⟩ := taskOk_parts h
  rw [risesB, Bool.and_eq_true, inB_iff] at h3
  rw [outB, Bool.and_eq_true, inB_iff] at h5
  omega

def waysOf (t : NTask) : Int := (t.ins.length : Int) + (t.out.length : Int)
def waysSum (ts : List NTask) : Int := (ts.map waysOf).sum
def flowsN (n : NNet) : Int := if netOk n then waysSum n.tasks else 0
theorem waysSum_snoc {ts : List NTask} {k : Nat} {t : NTask} (h : ts[k]? = some t) : waysSum (ts.take (k + 1)) = waysSum (ts.take k) + waysOf t := by
  rw [take_succ_of h]; simp [waysSum]
theorem waysSum_bound {n : NNet} (h : netOk n = true) : ∀ k, 0 ≤ waysSum (n.tasks.take k) ∧ waysSum (n.tasks.take k) ≤ 6 * (k : Int)
  | 0 => by simp [waysSum]
  | k + 1 => by
    have ih := waysSum_bound h k
    by_cases hk : k < n.tasks.length
    · have hx := List.getElem?_eq_getElem hk
      have hl := taskOk_lens ((netOk_parts h).2.2.2.2 _ (List.mem_of_getElem? hx))
      rw [waysSum_snoc hx]
      unfold waysOf
      omega
    · rw [List.take_of_length_le (show n.tasks.length ≤ k + 1 by omega), ← List.take_of_length_le (l := n.tasks) (show n.tasks.length ≤ k by omega)]
      omega


end Go.Proofs.Yteedgmaeopnidaa
