/-
  No cell of these rows narrows 'for every input' (looked for: loops, veiled, ifaces, maps, wideKeys, modest, calm, conditions, laid).
  DERIVED. THE GIVEN ROWS OF THIS SEAT. 8 by the template 'for every input the law returns true; each argument reads behind the call as it read before'; 0 by the template 'total and deterministic' (their statements: YtoggdhbnkbdilaaTotals.lean).
  GIVEN WITH THE SEED: the statements are not yours to turn. If you find one false, say at which input.
  Laid BY PROGRAM, IN A SANDBOX (cutbox-rows.mjs): the forced cells as the released guide's own fill.sh prints them over the translation 71d0828c94bb2d98… (all of the seat's roots in one cut). By AI agents, Wed Nov 11 2026. No macro, syntax, notation, axiom, sorry.
-/
import Derived.Test.YtoggdhbnkbdilaaChecked
import GoSem.Claim
import GoSem.ClaimJoined
import GoSem.ClaimMapViews
import Derived.JoinedTies
import Derived.KernelRfl
namespace Go.Proofs.Ytoggdhbnkbdilaa
/- THE CELL 'sum', in the pinned program and in every row, IS THE sha256 OF THE DUMP (.gsa) THAT YtoggdhbnkbdilaaProg.lean LOADS. Nothing in Lean hashes anything: it is a label: what it is worth is what the hold of that sum in a sandbox is worth. -/
noncomputable def Try.pinned : Pinned := { name := "ytoggdhbnkbdilaa", sum := "71d0828c94bb2d98ac53eee4c77369a45e24372f556df060d346d94cd6970491", checked := Try.checked }
namespace Rows
def none {H : Type} : Left H := { results := [], args := [] }

/-- 'laws.FnMrkOk': WHATEVER THE INPUT: true; the input reads as it did. -/
def fnMrkOkSpec : ChangeSpec := { name := "fnMrkOk", fn := fun _ => fun
  | [d] => { results := [.lit (.bool true)], args := [d] }
  | _ => none }
def fnMrkOkRow : OpenClaim := { program := "ytoggdhbnkbdilaa", sum := "71d0828c94bb2d98ac53eee4c77369a45e24372f556df060d346d94cd6970491", func := "loop.example/guildway/laws.FnMrkOk", spec := "fnMrkOk", unfollowed := true, recurses := true, apart := false }
def FnMrkOkSaid : Prop := fnMrkOkRow.holds Try.pinned (OpenSpec.ofChange fnMrkOkSpec)

/-- ITS FALSE NEIGHBOUR: 'it returns false'. Refute it at one input. -/
def fnMrkOkWrong : ChangeSpec := { name := "fnMrkOk", fn := fun _ => fun
  | [d] => { results := [.lit (.bool false)], args := [d] }
  | _ => none }
def FnMrkOkWrongFalsely : Prop := fnMrkOkRow.holds Try.pinned (OpenSpec.ofChange fnMrkOkWrong)

/-- 'laws.FnNetFlows': WHATEVER THE INPUT: true; the input reads as it did. -/
def fnNetFlowsSpec : ChangeSpec := { name := "fnNetFlows", fn := fun _ => fun
  | [d] => { results := [.lit (.bool true)], args := [d] }
  | _ => none }
def fnNetFlowsRow : OpenClaim := { program := "ytoggdhbnkbdilaa", sum := "71d0828c94bb2d98ac53eee4c77369a45e24372f556df060d346d94cd6970491", func := "loop.example/guildway/laws.FnNetFlows", spec := "fnNetFlows", unfollowed := true, recurses := true, apart := false }
def FnNetFlowsSaid : Prop := fnNetFlowsRow.holds Try.pinned (OpenSpec.ofChange fnNetFlowsSpec)

/-- ITS FALSE NEIGHBOUR: 'it returns false'. Refute it at one input. -/
def fnNetFlowsWrong : ChangeSpec := { name := "fnNetFlows", fn := fun _ => fun
  | [d] => { results := [.lit (.bool false)], args := [d] }
  | _ => none }
def FnNetFlowsWrongFalsely : Prop := fnNetFlowsRow.holds Try.pinned (OpenSpec.ofChange fnNetFlowsWrong)

/-- 'laws.FnSplTo': WHATEVER THE INPUT: true; the input reads as it did. -/
def fnSplToSpec : ChangeSpec := { name := "fnSplTo", fn := fun _ => fun
  | [d] => { results := [.lit (.bool true)], args := [d] }
  | _ => none }
def fnSplToRow : OpenClaim := { program := "ytoggdhbnkbdilaa", sum := "71d0828c94bb2d98ac53eee4c77369a45e24372f556df060d346d94cd6970491", func := "loop.example/guildway/laws.FnSplTo", spec := "fnSplTo", unfollowed := true, recurses := true, apart := false }
def FnSplToSaid : Prop := fnSplToRow.holds Try.pinned (OpenSpec.ofChange fnSplToSpec)

/-- ITS FALSE NEIGHBOUR: 'it returns false'. Refute it at one input. -/
def fnSplToWrong : ChangeSpec := { name := "fnSplTo", fn := fun _ => fun
  | [d] => { results := [.lit (.bool false)], args := [d] }
  | _ => none }
def FnSplToWrongFalsely : Prop := fnSplToRow.holds Try.pinned (OpenSpec.ofChange fnSplToWrong)

/-- 'laws.FnNetReach': WHATEVER THE INPUT: true; the input reads as it did. -/
def fnNetReachSpec : ChangeSpec := { name := "fnNetReach", fn := fun _ => fun
  | [d] => { results := [.lit (.bool true)], args := [d] }
  | _ => none }
def fnNetReachRow : OpenClaim := { program := "ytoggdhbnkbdilaa", sum := "71d0828c94bb2d98ac53eee4c77369a45e24372f556df060d346d94cd6970491", func := "loop.example/guildway/laws.FnNetReach", spec := "fnNetReach", unfollowed := true, recurses := true, apart := false }
def FnNetReachSaid : Prop := fnNetReachRow.holds Try.pinned (OpenSpec.ofChange fnNetReachSpec)

/-- ITS FALSE NEIGHBOUR: 'it returns false'. Refute it at one input. -/
def fnNetReachWrong : ChangeSpec := { name := "fnNetReach", fn := fun _ => fun
  | [d] => { results := [.lit (.bool false)], args := [d] }
  | _ => none }
def FnNetReachWrongFalsely : Prop := fnNetReachRow.holds Try.pinned (OpenSpec.ofChange fnNetReachWrong)

/-- 'laws.FnNetThere': WHATEVER THE INPUT: true; the input reads as it did. -/
def fnNetThereSpec : ChangeSpec := { name := "fnNetThere", fn := fun _ => fun
  | [d] => { results := [.lit (.bool true)], args := [d] }
  | _ => none }
def fnNetThereRow : OpenClaim := { program := "ytoggdhbnkbdilaa", sum := "71d0828c94bb2d98ac53eee4c77369a45e24372f556df060d346d94cd6970491", func := "loop.example/guildway/laws.FnNetThere", spec := "fnNetThere", unfollowed := true, recurses := true, apart := false }
def FnNetThereSaid : Prop := fnNetThereRow.holds Try.pinned (OpenSpec.ofChange fnNetThereSpec)

/-- ITS FALSE NEIGHBOUR: 'it returns false'. Refute it at one input. -/
def fnNetThereWrong : ChangeSpec := { name := "fnNetThere", fn := fun _ => fun
  | [d] => { results := [.lit (.bool false)], args := [d] }
  | _ => none }
def FnNetThereWrongFalsely : Prop := fnNetThereRow.holds Try.pinned (OpenSpec.ofChange fnNetThereWrong)

/-- 'laws.FnNetWhole': WHATEVER THE INPUT: true; the input reads as it did. -/
def fnNetWholeSpec : ChangeSpec := { name := "fnNetWhole", fn := fun _ => fun
  | [d] => { results := [.lit (.bool true)], args := [d] }
  | _ => none }
def fnNetWholeRow : OpenClaim := { program := "ytoggdhbnkbdilaa", sum := "71d0828c94bb2d98ac53eee4c77369a45e24372f556df060d346d94cd6970491", func := "loop.example/guildway/laws.FnNetWhole", spec := "fnNetWhole", unfollowed := true, recurses := true, apart := false }
def FnNetWholeSaid : Prop := fnNetWholeRow.holds Try.pinned (OpenSpec.ofChange fnNetWholeSpec)

/-- ITS FALSE NEIGHBOUR: 'it returns false'. Refute it at one input. -/
def fnNetWholeWrong : ChangeSpec := { name := "fnNetWhole", fn := fun _ => fun
  | [d] => { results := [.lit (.bool false)], args := [d] }
  | _ => none }
def FnNetWholeWrongFalsely : Prop := fnNetWholeRow.holds Try.pinned (OpenSpec.ofChange fnNetWholeWrong)

/-- 'laws.FnNetFlow': WHATEVER THE INPUT: true; the input reads as it did. -/
def fnNetFlowSpec : ChangeSpec := { name := "fnNetFlow", fn := fun _ => fun
  | [d1, d2] => { results := [.lit (.bool true)], args := [d1, d2] }
  | _ => none }
def fnNetFlowRow : OpenClaim := { program := "ytoggdhbnkbdilaa", sum := "71d0828c94bb2d98ac53eee4c77369a45e24372f556df060d346d94cd6970491", func := "loop.example/guildway/laws.FnNetFlow", spec := "fnNetFlow", unfollowed := true, recurses := true, apart := false }
def FnNetFlowSaid : Prop := fnNetFlowRow.holds Try.pinned (OpenSpec.ofChange fnNetFlowSpec)

/-- ITS FALSE NEIGHBOUR: 'it returns false'. Refute it at one input. -/
def fnNetFlowWrong : ChangeSpec := { name := "fnNetFlow", fn := fun _ => fun
  | [d1, d2] => { results := [.lit (.bool false)], args := [d1, d2] }
  | _ => none }
def FnNetFlowWrongFalsely : Prop := fnNetFlowRow.holds Try.pinned (OpenSpec.ofChange fnNetFlowWrong)

/-- 'laws.FnNetStraight': WHATEVER THE INPUT: true; the input reads as it did. -/
def fnNetStraightSpec : ChangeSpec := { name := "fnNetStraight", fn := fun _ => fun
  | [d] => { results := [.lit (.bool true)], args := [d] }
  | _ => none }
def fnNetStraightRow : OpenClaim := { program := "ytoggdhbnkbdilaa", sum := "71d0828c94bb2d98ac53eee4c77369a45e24372f556df060d346d94cd6970491", func := "loop.example/guildway/laws.FnNetStraight", spec := "fnNetStraight", unfollowed := true, recurses := true, apart := false }
def FnNetStraightSaid : Prop := fnNetStraightRow.holds Try.pinned (OpenSpec.ofChange fnNetStraightSpec)

/-- ITS FALSE NEIGHBOUR: 'it returns false'. Refute it at one input. -/
def fnNetStraightWrong : ChangeSpec := { name := "fnNetStraight", fn := fun _ => fun
  | [d] => { results := [.lit (.bool false)], args := [d] }
  | _ => none }
def FnNetStraightWrongFalsely : Prop := fnNetStraightRow.holds Try.pinned (OpenSpec.ofChange fnNetStraightWrong)

/- THE SECOND FORM. 'bulk': how many values and letters a reading holds, each counted each time it is reached (what is shared counts as often as it is met; a slice's spare places count too). A statement '..UptoSaid' is the law's where the arguments, and the package variables that the reading takes, are together of bulk at most 1048576: NARROWER than '..Said'. Prove '..Said' where nothing that the law and all that it calls make is longer than what came in: it says more and counts as full. Else prove '..UptoSaid'. A law counts once. -/
mutual
def uptoBulk {H : Type} : DataW H → Nat
  | .lit (.string bytes) => bytes.length + 1
  | .lit _ => 1
  | .nil => 1
  | .ptr d => uptoBulk d + 1
  | .slice elems spare => uptoBulkAll elems + uptoBulkAll spare + 1
  | .agg parts => uptoBulkAll parts + 1
  | .iface _ d => uptoBulk d + 1
  | .map entries => uptoBulkEntries entries + 1
  | .held _ => 1
def uptoBulkAll {H : Type} : List (DataW H) → Nat
  | [] => 0
  | d :: r => uptoBulk d + uptoBulkAll r
def uptoBulkEntries {H : Type} : List (Lit × DataW H) → Nat
  | [] => 0
  | x :: r => uptoBulkEntry x + uptoBulkEntries r
def uptoBulkEntry {H : Type} : Lit × DataW H → Nat
  | (.string bytes, d) => bytes.length + uptoBulk d + 1
  | (_, d) => uptoBulk d + 1
 end
def uptoSmall : (H : Type) → List (DataW H) → Bool := fun _ ds => decide (uptoBulkAll ds ≤ 1048576)
def OpenSpec.upto (s : _root_.Go.ChangeSpec) : _root_.Go.OpenSpec := { _root_.Go.OpenSpec.ofChange s with cond := some uptoSmall }

/-- 'laws.FnMrkOk', WHERE WHAT IT READS IS OF BULK AT MOST 1048576: true; the input reads as it did. -/
def fnMrkOkUptoRow : OpenClaim := { program := "ytoggdhbnkbdilaa", sum := "71d0828c94bb2d98ac53eee4c77369a45e24372f556df060d346d94cd6970491", func := "loop.example/guildway/laws.FnMrkOk", spec := "fnMrkOk", unfollowed := true, recurses := true, apart := false, narrowed := true }
def FnMrkOkUptoSaid : Prop := fnMrkOkUptoRow.holds Try.pinned (OpenSpec.upto fnMrkOkSpec)

/-- 'laws.FnNetFlows', WHERE WHAT IT READS IS OF BULK AT MOST 1048576: true; the input reads as it did. -/
def fnNetFlowsUptoRow : OpenClaim := { program := "ytoggdhbnkbdilaa", sum := "71d0828c94bb2d98ac53eee4c77369a45e24372f556df060d346d94cd6970491", func := "loop.example/guildway/laws.FnNetFlows", spec := "fnNetFlows", unfollowed := true, recurses := true, apart := false, narrowed := true }
def FnNetFlowsUptoSaid : Prop := fnNetFlowsUptoRow.holds Try.pinned (OpenSpec.upto fnNetFlowsSpec)

/-- 'laws.FnSplTo', WHERE WHAT IT READS IS OF BULK AT MOST 1048576: true; the input reads as it did. -/
def fnSplToUptoRow : OpenClaim := { program := "ytoggdhbnkbdilaa", sum := "71d0828c94bb2d98ac53eee4c77369a45e24372f556df060d346d94cd6970491", func := "loop.example/guildway/laws.FnSplTo", spec := "fnSplTo", unfollowed := true, recurses := true, apart := false, narrowed := true }
def FnSplToUptoSaid : Prop := fnSplToUptoRow.holds Try.pinned (OpenSpec.upto fnSplToSpec)

/-- 'laws.FnNetReach', WHERE WHAT IT READS IS OF BULK AT MOST 1048576: true; the input reads as it did. -/
def fnNetReachUptoRow : OpenClaim := { program := "ytoggdhbnkbdilaa", sum := "71d0828c94bb2d98ac53eee4c77369a45e24372f556df060d346d94cd6970491", func := "loop.example/guildway/laws.FnNetReach", spec := "fnNetReach", unfollowed := true, recurses := true, apart := false, narrowed := true }
def FnNetReachUptoSaid : Prop := fnNetReachUptoRow.holds Try.pinned (OpenSpec.upto fnNetReachSpec)

/-- 'laws.FnNetThere', WHERE WHAT IT READS IS OF BULK AT MOST 1048576: true; the input reads as it did. -/
def fnNetThereUptoRow : OpenClaim := { program := "ytoggdhbnkbdilaa", sum := "71d0828c94bb2d98ac53eee4c77369a45e24372f556df060d346d94cd6970491", func := "loop.example/guildway/laws.FnNetThere", spec := "fnNetThere", unfollowed := true, recurses := true, apart := false, narrowed := true }
def FnNetThereUptoSaid : Prop := fnNetThereUptoRow.holds Try.pinned (OpenSpec.upto fnNetThereSpec)

/-- 'laws.FnNetWhole', WHERE WHAT IT READS IS OF BULK AT MOST 1048576: true; the input reads as it did. -/
def fnNetWholeUptoRow : OpenClaim := { program := "ytoggdhbnkbdilaa", sum := "71d0828c94bb2d98ac53eee4c77369a45e24372f556df060d346d94cd6970491", func := "loop.example/guildway/laws.FnNetWhole", spec := "fnNetWhole", unfollowed := true, recurses := true, apart := false, narrowed := true }
def FnNetWholeUptoSaid : Prop := fnNetWholeUptoRow.holds Try.pinned (OpenSpec.upto fnNetWholeSpec)

/-- 'laws.FnNetFlow', WHERE WHAT IT READS IS OF BULK AT MOST 1048576: true; the input reads as it did. -/
def fnNetFlowUptoRow : OpenClaim := { program := "ytoggdhbnkbdilaa", sum := "71d0828c94bb2d98ac53eee4c77369a45e24372f556df060d346d94cd6970491", func := "loop.example/guildway/laws.FnNetFlow", spec := "fnNetFlow", unfollowed := true, recurses := true, apart := false, narrowed := true }
def FnNetFlowUptoSaid : Prop := fnNetFlowUptoRow.holds Try.pinned (OpenSpec.upto fnNetFlowSpec)

/-- 'laws.FnNetStraight', WHERE WHAT IT READS IS OF BULK AT MOST 1048576: true; the input reads as it did. -/
def fnNetStraightUptoRow : OpenClaim := { program := "ytoggdhbnkbdilaa", sum := "71d0828c94bb2d98ac53eee4c77369a45e24372f556df060d346d94cd6970491", func := "loop.example/guildway/laws.FnNetStraight", spec := "fnNetStraight", unfollowed := true, recurses := true, apart := false, narrowed := true }
def FnNetStraightUptoSaid : Prop := fnNetStraightUptoRow.holds Try.pinned (OpenSpec.upto fnNetStraightSpec)

end Rows
end Go.Proofs.Ytoggdhbnkbdilaa
