/- The laws' comparisons of flows, tasks, nets and items: what reads alike is alike. -/
import Derived.Test.YtoggdhbnkbdilaaNetNet
import Derived.StillTailTactics
namespace Go.Proofs.Ytoggdhbnkbdilaa
open Go.RowKit
set_option linter.unusedVariables false
set_option linter.unusedSimpArgs false






end Go.Proofs.Ytoggdhbnkbdilaa
