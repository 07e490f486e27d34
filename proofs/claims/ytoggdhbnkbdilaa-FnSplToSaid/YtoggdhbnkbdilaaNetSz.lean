/- A net's size as the laws reckon it, and the conversion of a whole net. -/
import Derived.Test.YtoggdhbnkbdilaaNetTo
namespace Go.Proofs.Ytoggdhbnkbdilaa
open Go.RowKit
set_option linter.unusedVariables false
set_option linter.unusedSimpArgs false

/-- What is left behind a size is taken off; -1, if that is too much. -/
def cutI (left s : Int) : Int := if s ≤ left then left - s else -1
theorem cutI_pos {l s : Int} (h : s ≤ l) : cutI l s = l - s := if_pos h
theorem cutI_neg {l s : Int} (h : ¬ s ≤ l) : cutI l s = -1 := if_neg h
def taskSize (t : NTask) : Int := (t.ins.length : Int) + ((t.out.length : Int) + (t.clear.length : Int))
def tasksSize (ts : List NTask) : Int := (ts.map taskSize).sum
theorem taskSize_pos (t : NTask) : 0 ≤ taskSize t := by unfold taskSize; omega
theorem tasksSize_pos : ∀ (ts : List NTask), 0 ≤ tasksSize ts
  | [] => by simp [tasksSize]
  | t :: r => by
    have := tasksSize_pos r
    have := taskSize_pos t
    simp only [tasksSize, List.map_cons, List.sum_cons] at *; omega
theorem tasksSize_append (a b : List NTask) : tasksSize (a ++ b) = tasksSize a + tasksSize b := by simp [tasksSize]
theorem tasksSize_mem {ts : List NTask} {t : NTask} (h : t ∈ ts) : taskSize t ≤ tasksSize ts := by
  obtain ⟨a, b, rfl⟩ := List.append_of_mem h
  rw [tasksSize_append, show (t :: b) = [t] ++ b from rfl, tasksSize_append]
  have := tasksSize_pos a; have := tasksSize_pos b
  simp [tasksSize] at *; omega
theorem tasksSize_take (ts : List NTask) (k : Nat) : tasksSize (ts.take k) ≤ tasksSize ts := by
  have h := tasksSize_append (ts.take k) (ts.drop k)
  rw [List.take_append_drop] at h
  have := tasksSize_pos (ts.drop k); omega
def netSize (n : NNet) : Int := (n.tasks.length : Int) + tasksSize n.tasks



theorem TaskV.lens {w : World} {lo hi : Nat} {t : NTask} {vi vo vc : Value} (h : TaskV w lo hi t vi vo vc) : t.ins.length ≤ maxLen ∧ t.out.length ≤ maxLen ∧ t.clear.length ≤ maxLen := by
  obtain ⟨⟨_, _, _, _, _, h1, _⟩, ⟨_, _, _, _, _, h2, _⟩, ⟨_, _, _, _, _, h3, _⟩⟩ := h
  exact ⟨h1, h2, h3⟩

end Go.Proofs.Ytoggdhbnkbdilaa
