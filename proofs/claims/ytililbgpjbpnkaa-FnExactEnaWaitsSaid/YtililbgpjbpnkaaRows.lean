/-
  No cell of these rows narrows 'for every input' (looked for: loops, veiled, ifaces, maps, wideKeys, modest, calm, conditions, laid).
  DERIVED. THE GIVEN ROWS OF THIS SEAT. 12 by the template 'for every input the law returns true; each argument reads behind the call as it read before'; 0 by the template 'total and deterministic' (their statements: YtililbgpjbpnkaaTotals.lean).
  GIVEN WITH THE SEED: the statements are not yours to turn. If you find one false, say at which input.
  Laid BY PROGRAM, IN A SANDBOX (cutbox-rows.mjs): the forced cells as the released guide's own fill.sh prints them over the translation 2f0bea62fdf65317… (all of the seat's roots in one cut). By AI agents, Wed Nov 11 2026. No macro, syntax, notation, axiom, sorry.
-/
import Derived.Test.YtililbgpjbpnkaaChecked
import GoSem.Claim
import GoSem.ClaimJoined
import GoSem.ClaimMapViews
import Derived.JoinedTies
import Derived.KernelRfl
namespace Go.Proofs.Ytililbgpjbpnkaa
/- THE CELL 'sum', in the pinned program and in every row, IS THE sha256 OF THE DUMP (.gsa) THAT YtililbgpjbpnkaaProg.lean LOADS. Nothing in Lean hashes anything: it is a label: what it is worth is what the hold of that sum in a sandbox is worth. -/
noncomputable def Try.pinned : Pinned := { name := "ytililbgpjbpnkaa", sum := "2f0bea62fdf65317d4f132e99dbc73eb121193bc7ca56bd36b9f73116d5ca640", checked := Try.checked }
namespace Rows
def none {H : Type} : Left H := { results := [], args := [] }

/-- 'laws.FnExactNetOk': WHATEVER THE INPUT: true; the input reads as it did. -/
def fnExactNetOkSpec : ChangeSpec := { name := "fnExactNetOk", fn := fun _ => fun
  | [d] => { results := [.lit (.bool true)], args := [d] }
  | _ => none }
def fnExactNetOkRow : OpenClaim := { program := "ytililbgpjbpnkaa", sum := "2f0bea62fdf65317d4f132e99dbc73eb121193bc7ca56bd36b9f73116d5ca640", func := "loop.example/guildway/laws.FnExactNetOk", spec := "fnExactNetOk", unfollowed := true, recurses := true, apart := false }
def FnExactNetOkSaid : Prop := fnExactNetOkRow.holds Try.pinned (OpenSpec.ofChange fnExactNetOkSpec)

/-- ITS FALSE NEIGHBOUR: 'it returns false'. Refute it at one input. -/
def fnExactNetOkWrong : ChangeSpec := { name := "fnExactNetOk", fn := fun _ => fun
  | [d] => { results := [.lit (.bool false)], args := [d] }
  | _ => none }
def FnExactNetOkWrongFalsely : Prop := fnExactNetOkRow.holds Try.pinned (OpenSpec.ofChange fnExactNetOkWrong)

/-- 'laws.FnExactMrkOk': WHATEVER THE INPUT: true; the input reads as it did. -/
def fnExactMrkOkSpec : ChangeSpec := { name := "fnExactMrkOk", fn := fun _ => fun
  | [d1, d2] => { results := [.lit (.bool true)], args := [d1, d2] }
  | _ => none }
def fnExactMrkOkRow : OpenClaim := { program := "ytililbgpjbpnkaa", sum := "2f0bea62fdf65317d4f132e99dbc73eb121193bc7ca56bd36b9f73116d5ca640", func := "loop.example/guildway/laws.FnExactMrkOk", spec := "fnExactMrkOk", unfollowed := true, recurses := true, apart := false }
def FnExactMrkOkSaid : Prop := fnExactMrkOkRow.holds Try.pinned (OpenSpec.ofChange fnExactMrkOkSpec)

/-- ITS FALSE NEIGHBOUR: 'it returns false'. Refute it at one input. -/
def fnExactMrkOkWrong : ChangeSpec := { name := "fnExactMrkOk", fn := fun _ => fun
  | [d1, d2] => { results := [.lit (.bool false)], args := [d1, d2] }
  | _ => none }
def FnExactMrkOkWrongFalsely : Prop := fnExactMrkOkRow.holds Try.pinned (OpenSpec.ofChange fnExactMrkOkWrong)

/-- 'laws.FnExactNetFlows': WHATEVER THE INPUT: true; the input reads as it did. -/
def fnExactNetFlowsSpec : ChangeSpec := { name := "fnExactNetFlows", fn := fun _ => fun
  | [d] => { results := [.lit (.bool true)], args := [d] }
  | _ => none }
def fnExactNetFlowsRow : OpenClaim := { program := "ytililbgpjbpnkaa", sum := "2f0bea62fdf65317d4f132e99dbc73eb121193bc7ca56bd36b9f73116d5ca640", func := "loop.example/guildway/laws.FnExactNetFlows", spec := "fnExactNetFlows", unfollowed := true, recurses := true, apart := false }
def FnExactNetFlowsSaid : Prop := fnExactNetFlowsRow.holds Try.pinned (OpenSpec.ofChange fnExactNetFlowsSpec)

/-- ITS FALSE NEIGHBOUR: 'it returns false'. Refute it at one input. -/
def fnExactNetFlowsWrong : ChangeSpec := { name := "fnExactNetFlows", fn := fun _ => fun
  | [d] => { results := [.lit (.bool false)], args := [d] }
  | _ => none }
def FnExactNetFlowsWrongFalsely : Prop := fnExactNetFlowsRow.holds Try.pinned (OpenSpec.ofChange fnExactNetFlowsWrong)

/-- 'laws.FnExactNetFrom': WHATEVER THE INPUT: true; the input reads as it did. -/
def fnExactNetFromSpec : ChangeSpec := { name := "fnExactNetFrom", fn := fun _ => fun
  | [d1, d2] => { results := [.lit (.bool true)], args := [d1, d2] }
  | _ => none }
def fnExactNetFromRow : OpenClaim := { program := "ytililbgpjbpnkaa", sum := "2f0bea62fdf65317d4f132e99dbc73eb121193bc7ca56bd36b9f73116d5ca640", func := "loop.example/guildway/laws.FnExactNetFrom", spec := "fnExactNetFrom", unfollowed := true, recurses := true, apart := false }
def FnExactNetFromSaid : Prop := fnExactNetFromRow.holds Try.pinned (OpenSpec.ofChange fnExactNetFromSpec)

/-- ITS FALSE NEIGHBOUR: 'it returns false'. Refute it at one input. -/
def fnExactNetFromWrong : ChangeSpec := { name := "fnExactNetFrom", fn := fun _ => fun
  | [d1, d2] => { results := [.lit (.bool false)], args := [d1, d2] }
  | _ => none }
def FnExactNetFromWrongFalsely : Prop := fnExactNetFromRow.holds Try.pinned (OpenSpec.ofChange fnExactNetFromWrong)

/-- 'laws.FnExactNetInto': WHATEVER THE INPUT: true; the input reads as it did. -/
def fnExactNetIntoSpec : ChangeSpec := { name := "fnExactNetInto", fn := fun _ => fun
  | [d1, d2] => { results := [.lit (.bool true)], args := [d1, d2] }
  | _ => none }
def fnExactNetIntoRow : OpenClaim := { program := "ytililbgpjbpnkaa", sum := "2f0bea62fdf65317d4f132e99dbc73eb121193bc7ca56bd36b9f73116d5ca640", func := "loop.example/guildway/laws.FnExactNetInto", spec := "fnExactNetInto", unfollowed := true, recurses := true, apart := false }
def FnExactNetIntoSaid : Prop := fnExactNetIntoRow.holds Try.pinned (OpenSpec.ofChange fnExactNetIntoSpec)

/-- ITS FALSE NEIGHBOUR: 'it returns false'. Refute it at one input. -/
def fnExactNetIntoWrong : ChangeSpec := { name := "fnExactNetInto", fn := fun _ => fun
  | [d1, d2] => { results := [.lit (.bool false)], args := [d1, d2] }
  | _ => none }
def FnExactNetIntoWrongFalsely : Prop := fnExactNetIntoRow.holds Try.pinned (OpenSpec.ofChange fnExactNetIntoWrong)

/-- 'laws.FnExactNetReach': WHATEVER THE INPUT: true; the input reads as it did. -/
def fnExactNetReachSpec : ChangeSpec := { name := "fnExactNetReach", fn := fun _ => fun
  | [d1, d2, d3] => { results := [.lit (.bool true)], args := [d1, d2, d3] }
  | _ => none }
def fnExactNetReachRow : OpenClaim := { program := "ytililbgpjbpnkaa", sum := "2f0bea62fdf65317d4f132e99dbc73eb121193bc7ca56bd36b9f73116d5ca640", func := "loop.example/guildway/laws.FnExactNetReach", spec := "fnExactNetReach", unfollowed := true, recurses := true, apart := false }
def FnExactNetReachSaid : Prop := fnExactNetReachRow.holds Try.pinned (OpenSpec.ofChange fnExactNetReachSpec)

/-- ITS FALSE NEIGHBOUR: 'it returns false'. Refute it at one input. -/
def fnExactNetReachWrong : ChangeSpec := { name := "fnExactNetReach", fn := fun _ => fun
  | [d1, d2, d3] => { results := [.lit (.bool false)], args := [d1, d2, d3] }
  | _ => none }
def FnExactNetReachWrongFalsely : Prop := fnExactNetReachRow.holds Try.pinned (OpenSpec.ofChange fnExactNetReachWrong)

/-- 'laws.FnExactNetWhole': WHATEVER THE INPUT: true; the input reads as it did. -/
def fnExactNetWholeSpec : ChangeSpec := { name := "fnExactNetWhole", fn := fun _ => fun
  | [d] => { results := [.lit (.bool true)], args := [d] }
  | _ => none }
def fnExactNetWholeRow : OpenClaim := { program := "ytililbgpjbpnkaa", sum := "2f0bea62fdf65317d4f132e99dbc73eb121193bc7ca56bd36b9f73116d5ca640", func := "loop.example/guildway/laws.FnExactNetWhole", spec := "fnExactNetWhole", unfollowed := true, recurses := true, apart := false }
def FnExactNetWholeSaid : Prop := fnExactNetWholeRow.holds Try.pinned (OpenSpec.ofChange fnExactNetWholeSpec)

/-- ITS FALSE NEIGHBOUR: 'it returns false'. Refute it at one input. -/
def fnExactNetWholeWrong : ChangeSpec := { name := "fnExactNetWhole", fn := fun _ => fun
  | [d] => { results := [.lit (.bool false)], args := [d] }
  | _ => none }
def FnExactNetWholeWrongFalsely : Prop := fnExactNetWholeRow.holds Try.pinned (OpenSpec.ofChange fnExactNetWholeWrong)

/-- 'laws.FnExactNetStraight': WHATEVER THE INPUT: true; the input reads as it did. -/
def fnExactNetStraightSpec : ChangeSpec := { name := "fnExactNetStraight", fn := fun _ => fun
  | [d] => { results := [.lit (.bool true)], args := [d] }
  | _ => none }
def fnExactNetStraightRow : OpenClaim := { program := "ytililbgpjbpnkaa", sum := "2f0bea62fdf65317d4f132e99dbc73eb121193bc7ca56bd36b9f73116d5ca640", func := "loop.example/guildway/laws.FnExactNetStraight", spec := "fnExactNetStraight", unfollowed := true, recurses := true, apart := false }
def FnExactNetStraightSaid : Prop := fnExactNetStraightRow.holds Try.pinned (OpenSpec.ofChange fnExactNetStraightSpec)

/-- ITS FALSE NEIGHBOUR: 'it returns false'. Refute it at one input. -/
def fnExactNetStraightWrong : ChangeSpec := { name := "fnExactNetStraight", fn := fun _ => fun
  | [d] => { results := [.lit (.bool false)], args := [d] }
  | _ => none }
def FnExactNetStraightWrongFalsely : Prop := fnExactNetStraightRow.holds Try.pinned (OpenSpec.ofChange fnExactNetStraightWrong)

/-- 'laws.FnExactEnaTake': WHATEVER THE INPUT: true; the input reads as it did. -/
def fnExactEnaTakeSpec : ChangeSpec := { name := "fnExactEnaTake", fn := fun _ => fun
  | [d1, d2, d3] => { results := [.lit (.bool true)], args := [d1, d2, d3] }
  | _ => none }
def fnExactEnaTakeRow : OpenClaim := { program := "ytililbgpjbpnkaa", sum := "2f0bea62fdf65317d4f132e99dbc73eb121193bc7ca56bd36b9f73116d5ca640", func := "loop.example/guildway/laws.FnExactEnaTake", spec := "fnExactEnaTake", unfollowed := true, recurses := true, apart := false }
def FnExactEnaTakeSaid : Prop := fnExactEnaTakeRow.holds Try.pinned (OpenSpec.ofChange fnExactEnaTakeSpec)

/-- ITS FALSE NEIGHBOUR: 'it returns false'. Refute it at one input. -/
def fnExactEnaTakeWrong : ChangeSpec := { name := "fnExactEnaTake", fn := fun _ => fun
  | [d1, d2, d3] => { results := [.lit (.bool false)], args := [d1, d2, d3] }
  | _ => none }
def FnExactEnaTakeWrongFalsely : Prop := fnExactEnaTakeRow.holds Try.pinned (OpenSpec.ofChange fnExactEnaTakeWrong)

/-- 'laws.FnExactEnaCan': WHATEVER THE INPUT: true; the input reads as it did. -/
def fnExactEnaCanSpec : ChangeSpec := { name := "fnExactEnaCan", fn := fun _ => fun
  | [d1, d2, d3, d4] => { results := [.lit (.bool true)], args := [d1, d2, d3, d4] }
  | _ => none }
def fnExactEnaCanRow : OpenClaim := { program := "ytililbgpjbpnkaa", sum := "2f0bea62fdf65317d4f132e99dbc73eb121193bc7ca56bd36b9f73116d5ca640", func := "loop.example/guildway/laws.FnExactEnaCan", spec := "fnExactEnaCan", unfollowed := true, recurses := true, apart := false }
def FnExactEnaCanSaid : Prop := fnExactEnaCanRow.holds Try.pinned (OpenSpec.ofChange fnExactEnaCanSpec)

/-- ITS FALSE NEIGHBOUR: 'it returns false'. Refute it at one input. -/
def fnExactEnaCanWrong : ChangeSpec := { name := "fnExactEnaCan", fn := fun _ => fun
  | [d1, d2, d3, d4] => { results := [.lit (.bool false)], args := [d1, d2, d3, d4] }
  | _ => none }
def FnExactEnaCanWrongFalsely : Prop := fnExactEnaCanRow.holds Try.pinned (OpenSpec.ofChange fnExactEnaCanWrong)

/-- 'laws.FnExactEnaTasks': WHATEVER THE INPUT: true; the input reads as it did. -/
def fnExactEnaTasksSpec : ChangeSpec := { name := "fnExactEnaTasks", fn := fun _ => fun
  | [d1, d2, d3] => { results := [.lit (.bool true)], args := [d1, d2, d3] }
  | _ => none }
def fnExactEnaTasksRow : OpenClaim := { program := "ytililbgpjbpnkaa", sum := "2f0bea62fdf65317d4f132e99dbc73eb121193bc7ca56bd36b9f73116d5ca640", func := "loop.example/guildway/laws.FnExactEnaTasks", spec := "fnExactEnaTasks", unfollowed := true, recurses := true, apart := false }
def FnExactEnaTasksSaid : Prop := fnExactEnaTasksRow.holds Try.pinned (OpenSpec.ofChange fnExactEnaTasksSpec)

/-- ITS FALSE NEIGHBOUR: 'it returns false'. Refute it at one input. -/
def fnExactEnaTasksWrong : ChangeSpec := { name := "fnExactEnaTasks", fn := fun _ => fun
  | [d1, d2, d3] => { results := [.lit (.bool false)], args := [d1, d2, d3] }
  | _ => none }
def FnExactEnaTasksWrongFalsely : Prop := fnExactEnaTasksRow.holds Try.pinned (OpenSpec.ofChange fnExactEnaTasksWrong)

/-- 'laws.FnExactEnaWaits': WHATEVER THE INPUT: true; the input reads as it did. -/
def fnExactEnaWaitsSpec : ChangeSpec := { name := "fnExactEnaWaits", fn := fun _ => fun
  | [d1, d2, d3] => { results := [.lit (.bool true)], args := [d1, d2, d3] }
  | _ => none }
def fnExactEnaWaitsRow : OpenClaim := { program := "ytililbgpjbpnkaa", sum := "2f0bea62fdf65317d4f132e99dbc73eb121193bc7ca56bd36b9f73116d5ca640", func := "loop.example/guildway/laws.FnExactEnaWaits", spec := "fnExactEnaWaits", unfollowed := true, recurses := true, apart := false }
def FnExactEnaWaitsSaid : Prop := fnExactEnaWaitsRow.holds Try.pinned (OpenSpec.ofChange fnExactEnaWaitsSpec)

/-- ITS FALSE NEIGHBOUR: 'it returns false'. Refute it at one input. -/
def fnExactEnaWaitsWrong : ChangeSpec := { name := "fnExactEnaWaits", fn := fun _ => fun
  | [d1, d2, d3] => { results := [.lit (.bool false)], args := [d1, d2, d3] }
  | _ => none }
def FnExactEnaWaitsWrongFalsely : Prop := fnExactEnaWaitsRow.holds Try.pinned (OpenSpec.ofChange fnExactEnaWaitsWrong)

/- THE SECOND FORM. 'bulk': how many values and letters a reading holds, each counted each time it is reached (what is shared counts as often as it is met; a slice's spare places count too). A statement '..UptoSaid' is the law's where the arguments, and the package variables that the reading takes, are together of bulk at most 1048576: NARROWER than '..Said'. Prove '..Said' where nothing that the law and all that it calls make is longer than what came in: it says more and counts as full. Else prove '..UptoSaid'. A law counts once. -/
mutual
def uptoBulk {H : Type} : DataW H → Nat
  | .lit (.string bytes) => bytes.length + 1
  | .lit _ => 1
  | .nil => 1
  | .ptr d => uptoBulk d + 1
  | .slice elems spare => uptoBulkAll elems + uptoBulkAll spare + 1
  | .agg parts => uptoBulkAll parts + 1
  | .iface _ d => uptoBulk d + 1
  | .map entries => uptoBulkEntries entries + 1
  | .held _ => 1
def uptoBulkAll {H : Type} : List (DataW H) → Nat
  | [] => 0
  | d :: r => uptoBulk d + uptoBulkAll r
def uptoBulkEntries {H : Type} : List (Lit × DataW H) → Nat
  | [] => 0
  | x :: r => uptoBulkEntry x + uptoBulkEntries r
def uptoBulkEntry {H : Type} : Lit × DataW H → Nat
  | (.string bytes, d) => bytes.length + uptoBulk d + 1
  | (_, d) => uptoBulk d + 1
 end
def uptoSmall : (H : Type) → List (DataW H) → Bool := fun _ ds => decide (uptoBulkAll ds ≤ 1048576)
def OpenSpec.upto (s : _root_.Go.ChangeSpec) : _root_.Go.OpenSpec := { _root_.Go.OpenSpec.ofChange s with cond := some uptoSmall }

/-- 'laws.FnExactNetOk', WHERE WHAT IT READS IS OF BULK AT MOST 1048576: true; the input reads as it did. -/
def fnExactNetOkUptoRow : OpenClaim := { program := "ytililbgpjbpnkaa", sum := "2f0bea62fdf65317d4f132e99dbc73eb121193bc7ca56bd36b9f73116d5ca640", func := "loop.example/guildway/laws.FnExactNetOk", spec := "fnExactNetOk", unfollowed := true, recurses := true, apart := false, narrowed := true }
def FnExactNetOkUptoSaid : Prop := fnExactNetOkUptoRow.holds Try.pinned (OpenSpec.upto fnExactNetOkSpec)

/-- 'laws.FnExactMrkOk', WHERE WHAT IT READS IS OF BULK AT MOST 1048576: true; the input reads as it did. -/
def fnExactMrkOkUptoRow : OpenClaim := { program := "ytililbgpjbpnkaa", sum := "2f0bea62fdf65317d4f132e99dbc73eb121193bc7ca56bd36b9f73116d5ca640", func := "loop.example/guildway/laws.FnExactMrkOk", spec := "fnExactMrkOk", unfollowed := true, recurses := true, apart := false, narrowed := true }
def FnExactMrkOkUptoSaid : Prop := fnExactMrkOkUptoRow.holds Try.pinned (OpenSpec.upto fnExactMrkOkSpec)

/-- 'laws.FnExactNetFlows', WHERE WHAT IT READS IS OF BULK AT MOST 1048576: true; the input reads as it did. -/
def fnExactNetFlowsUptoRow : OpenClaim := { program := "ytililbgpjbpnkaa", sum := "2f0bea62fdf65317d4f132e99dbc73eb121193bc7ca56bd36b9f73116d5ca640", func := "loop.example/guildway/laws.FnExactNetFlows", spec := "fnExactNetFlows", unfollowed := true, recurses := true, apart := false, narrowed := true }
def FnExactNetFlowsUptoSaid : Prop := fnExactNetFlowsUptoRow.holds Try.pinned (OpenSpec.upto fnExactNetFlowsSpec)

/-- 'laws.FnExactNetFrom', WHERE WHAT IT READS IS OF BULK AT MOST 1048576: true; the input reads as it did. -/
def fnExactNetFromUptoRow : OpenClaim := { program := "ytililbgpjbpnkaa", sum := "2f0bea62fdf65317d4f132e99dbc73eb121193bc7ca56bd36b9f73116d5ca640", func := "loop.example/guildway/laws.FnExactNetFrom", spec := "fnExactNetFrom", unfollowed := true, recurses := true, apart := false, narrowed := true }
def FnExactNetFromUptoSaid : Prop := fnExactNetFromUptoRow.holds Try.pinned (OpenSpec.upto fnExactNetFromSpec)

/-- 'laws.FnExactNetInto', WHERE WHAT IT READS IS OF BULK AT MOST 1048576: true; the input reads as it did. -/
def fnExactNetIntoUptoRow : OpenClaim := { program := "ytililbgpjbpnkaa", sum := "2f0bea62fdf65317d4f132e99dbc73eb121193bc7ca56bd36b9f73116d5ca640", func := "loop.example/guildway/laws.FnExactNetInto", spec := "fnExactNetInto", unfollowed := true, recurses := true, apart := false, narrowed := true }
def FnExactNetIntoUptoSaid : Prop := fnExactNetIntoUptoRow.holds Try.pinned (OpenSpec.upto fnExactNetIntoSpec)

/-- 'laws.FnExactNetReach', WHERE WHAT IT READS IS OF BULK AT MOST 1048576: true; the input reads as it did. -/
def fnExactNetReachUptoRow : OpenClaim := { program := "ytililbgpjbpnkaa", sum := "2f0bea62fdf65317d4f132e99dbc73eb121193bc7ca56bd36b9f73116d5ca640", func := "loop.example/guildway/laws.FnExactNetReach", spec := "fnExactNetReach", unfollowed := true, recurses := true, apart := false, narrowed := true }
def FnExactNetReachUptoSaid : Prop := fnExactNetReachUptoRow.holds Try.pinned (OpenSpec.upto fnExactNetReachSpec)

/-- 'laws.FnExactNetWhole', WHERE WHAT IT READS IS OF BULK AT MOST 1048576: true; the input reads as it did. -/
def fnExactNetWholeUptoRow : OpenClaim := { program := "ytililbgpjbpnkaa", sum := "2f0bea62fdf65317d4f132e99dbc73eb121193bc7ca56bd36b9f73116d5ca640", func := "loop.example/guildway/laws.FnExactNetWhole", spec := "fnExactNetWhole", unfollowed := true, recurses := true, apart := false, narrowed := true }
def FnExactNetWholeUptoSaid : Prop := fnExactNetWholeUptoRow.holds Try.pinned (OpenSpec.upto fnExactNetWholeSpec)

/-- 'laws.FnExactNetStraight', WHERE WHAT IT READS IS OF BULK AT MOST 1048576: true; the input reads as it did. -/
def fnExactNetStraightUptoRow : OpenClaim := { program := "ytililbgpjbpnkaa", sum := "2f0bea62fdf65317d4f132e99dbc73eb121193bc7ca56bd36b9f73116d5ca640", func := "loop.example/guildway/laws.FnExactNetStraight", spec := "fnExactNetStraight", unfollowed := true, recurses := true, apart := false, narrowed := true }
def FnExactNetStraightUptoSaid : Prop := fnExactNetStraightUptoRow.holds Try.pinned (OpenSpec.upto fnExactNetStraightSpec)

/-- 'laws.FnExactEnaTake', WHERE WHAT IT READS IS OF BULK AT MOST 1048576: true; the input reads as it did. -/
def fnExactEnaTakeUptoRow : OpenClaim := { program := "ytililbgpjbpnkaa", sum := "2f0bea62fdf65317d4f132e99dbc73eb121193bc7ca56bd36b9f73116d5ca640", func := "loop.example/guildway/laws.FnExactEnaTake", spec := "fnExactEnaTake", unfollowed := true, recurses := true, apart := false, narrowed := true }
def FnExactEnaTakeUptoSaid : Prop := fnExactEnaTakeUptoRow.holds Try.pinned (OpenSpec.upto fnExactEnaTakeSpec)

/-- 'laws.FnExactEnaCan', WHERE WHAT IT READS IS OF BULK AT MOST 1048576: true; the input reads as it did. -/
def fnExactEnaCanUptoRow : OpenClaim := { program := "ytililbgpjbpnkaa", sum := "2f0bea62fdf65317d4f132e99dbc73eb121193bc7ca56bd36b9f73116d5ca640", func := "loop.example/guildway/laws.FnExactEnaCan", spec := "fnExactEnaCan", unfollowed := true, recurses := true, apart := false, narrowed := true }
def FnExactEnaCanUptoSaid : Prop := fnExactEnaCanUptoRow.holds Try.pinned (OpenSpec.upto fnExactEnaCanSpec)

/-- 'laws.FnExactEnaTasks', WHERE WHAT IT READS IS OF BULK AT MOST 1048576: true; the input reads as it did. -/
def fnExactEnaTasksUptoRow : OpenClaim := { program := "ytililbgpjbpnkaa", sum := "2f0bea62fdf65317d4f132e99dbc73eb121193bc7ca56bd36b9f73116d5ca640", func := "loop.example/guildway/laws.FnExactEnaTasks", spec := "fnExactEnaTasks", unfollowed := true, recurses := true, apart := false, narrowed := true }
def FnExactEnaTasksUptoSaid : Prop := fnExactEnaTasksUptoRow.holds Try.pinned (OpenSpec.upto fnExactEnaTasksSpec)

/-- 'laws.FnExactEnaWaits', WHERE WHAT IT READS IS OF BULK AT MOST 1048576: true; the input reads as it did. -/
def fnExactEnaWaitsUptoRow : OpenClaim := { program := "ytililbgpjbpnkaa", sum := "2f0bea62fdf65317d4f132e99dbc73eb121193bc7ca56bd36b9f73116d5ca640", func := "loop.example/guildway/laws.FnExactEnaWaits", spec := "fnExactEnaWaits", unfollowed := true, recurses := true, apart := false, narrowed := true }
def FnExactEnaWaitsUptoSaid : Prop := fnExactEnaWaitsUptoRow.holds Try.pinned (OpenSpec.upto fnExactEnaWaitsSpec)

end Rows
end Go.Proofs.Ytililbgpjbpnkaa
