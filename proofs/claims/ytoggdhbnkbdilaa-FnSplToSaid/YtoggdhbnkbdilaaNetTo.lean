/- The laws' conversions of flows, tasks, nets and items: fresh memory that reads as what was given. -/
import Derived.Test.YtoggdhbnkbdilaaNet
import Derived.Test.YtoggdhbnkbdilaaInts
import Derived.Test.YtoggdhbnkbdilaaData
namespace Go.Proofs.Ytoggdhbnkbdilaa
open Go.RowKit
set_option linter.unusedVariables false
set_option linter.unusedSimpArgs false

theorem Try.infoFlow : (Try.prog.info? 47).map (fun i => (i.zero, i.size, i.bytes)) = some (some (.agg #[.int .i64 0, .int .i64 0, .int .i64 0, .int .i64 0]), 4, 32) := by kernel_rfl
theorem Try.infoTask : (Try.prog.info? 38).map (fun i => (i.zero, i.size, i.bytes)) = some (some (.agg #[.int .i64 0, .int .i64 0, .slice none 0 0, .slice none 0 0, .slice none 0 0, .int .i64 0, .int .i64 0, .int .i64 0, .int .i64 0]), 9, 120) := by kernel_rfl






/-- The three slices of a task are not too long to be copied. -/
def taskSmall (t : NTask) : Prop := t.ins.length ≤ 1048576 ∧ t.out.length ≤ 1048576 ∧ t.clear.length ≤ 1048576


end Go.Proofs.Ytoggdhbnkbdilaa
