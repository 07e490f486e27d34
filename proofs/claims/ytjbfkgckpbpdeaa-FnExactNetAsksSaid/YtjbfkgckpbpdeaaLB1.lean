/- Laws of the seat: the program's function returns what the reference's does. Nets: truth values and numbers. -/
import Derived.Test.YtjbfkgckpbpdeaaNetEq
import Derived.Test.YtjbfkgckpbpdeaaSpecNetOk
import Derived.Test.YtjbfkgckpbpdeaaMrkOk
import Derived.StillTailTactics
import Derived.Deep.RegionHeld3
namespace Go.Proofs.Ytjbfkgckpbpdeaa
open Go.RowKit
set_option linter.unusedVariables false
set_option linter.unusedSimpArgs false

theorem NetV.drew {w : World} {lo hi : Nat} {v : Value} {n : NNet} (h : NetV w lo hi v n) : NetV w.drew lo hi v n := h.keep fun _ _ _ => rfl
theorem netSize_pos (n : NNet) : 0 ≤ netSize n := by unfold netSize; have := tasksSize_pos n.tasks; omega
theorem netSize_out {n : NNet} (h : netSize n ≤ 1048576) : ∀ t ∈ n.tasks, t.out.length ≤ 1048576 := fun t ht => ((netSize_small h).2 t ht).2.1




end Go.Proofs.Ytjbfkgckpbpdeaa
