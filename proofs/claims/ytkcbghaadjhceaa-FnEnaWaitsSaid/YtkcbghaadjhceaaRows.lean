/-
  No cell of these rows narrows 'for every input' (looked for: loops, veiled, ifaces, maps, wideKeys, modest, calm, conditions, laid).
  DERIVED. THE GIVEN ROWS OF THIS SEAT. 7 by the template 'for every input the law returns true; each argument reads behind the call as it read before'; 0 by the template 'total and deterministic' (their statements: YtkcbghaadjhceaaTotals.lean).
  GIVEN WITH THE SEED: the statements are not yours to turn. If you find one false, say at which input.
  Laid BY PROGRAM, IN A SANDBOX (cutbox-rows.mjs): the forced cells as the released guide's own fill.sh prints them over the translation 35c85523742703ee… (all of the seat's roots in one cut). By AI agents, Wed Nov 11 2026. No macro, syntax, notation, axiom, sorry.
-/
import Derived.Test.YtkcbghaadjhceaaChecked
import GoSem.Claim
import GoSem.ClaimJoined
import GoSem.ClaimMapViews
import Derived.JoinedTies
import Derived.KernelRfl
namespace Go.Proofs.Ytkcbghaadjhceaa
/- THE CELL 'sum', in the pinned program and in every row, IS THE sha256 OF THE DUMP (.gsa) THAT YtkcbghaadjhceaaProg.lean LOADS. Nothing in Lean hashes anything: it is a label: what it is worth is what the hold of that sum in a sandbox is worth. -/
noncomputable def Try.pinned : Pinned := { name := "ytkcbghaadjhceaa", sum := "35c85523742703ee2ca1bd92b49207b4d5a7a992a2c56cc40c744a36b8b0c199", checked := Try.checked }
namespace Rows
def none {H : Type} : Left H := { results := [], args := [] }

/-- 'laws.FnEnaTake': WHATEVER THE INPUT: true; the input reads as it did. -/
def fnEnaTakeSpec : ChangeSpec := { name := "fnEnaTake", fn := fun _ => fun
  | [d] => { results := [.lit (.bool true)], args := [d] }
  | _ => none }
def fnEnaTakeRow : OpenClaim := { program := "ytkcbghaadjhceaa", sum := "35c85523742703ee2ca1bd92b49207b4d5a7a992a2c56cc40c744a36b8b0c199", func := "loop.example/guildway/laws.FnEnaTake", spec := "fnEnaTake", unfollowed := true, recurses := true, apart := false }
def FnEnaTakeSaid : Prop := fnEnaTakeRow.holds Try.pinned (OpenSpec.ofChange fnEnaTakeSpec)

/-- ITS FALSE NEIGHBOUR: 'it returns false'. Refute it at one input. -/
def fnEnaTakeWrong : ChangeSpec := { name := "fnEnaTake", fn := fun _ => fun
  | [d] => { results := [.lit (.bool false)], args := [d] }
  | _ => none }
def FnEnaTakeWrongFalsely : Prop := fnEnaTakeRow.holds Try.pinned (OpenSpec.ofChange fnEnaTakeWrong)

/-- 'laws.FnFirGive': WHATEVER THE INPUT: true; the input reads as it did. -/
def fnFirGiveSpec : ChangeSpec := { name := "fnFirGive", fn := fun _ => fun
  | [d] => { results := [.lit (.bool true)], args := [d] }
  | _ => none }
def fnFirGiveRow : OpenClaim := { program := "ytkcbghaadjhceaa", sum := "35c85523742703ee2ca1bd92b49207b4d5a7a992a2c56cc40c744a36b8b0c199", func := "loop.example/guildway/laws.FnFirGive", spec := "fnFirGive", unfollowed := true, recurses := true, apart := false }
def FnFirGiveSaid : Prop := fnFirGiveRow.holds Try.pinned (OpenSpec.ofChange fnFirGiveSpec)

/-- ITS FALSE NEIGHBOUR: 'it returns false'. Refute it at one input. -/
def fnFirGiveWrong : ChangeSpec := { name := "fnFirGive", fn := fun _ => fun
  | [d] => { results := [.lit (.bool false)], args := [d] }
  | _ => none }
def FnFirGiveWrongFalsely : Prop := fnFirGiveRow.holds Try.pinned (OpenSpec.ofChange fnFirGiveWrong)

/-- 'laws.FnEnaCan': WHATEVER THE INPUT: true; the input reads as it did. -/
def fnEnaCanSpec : ChangeSpec := { name := "fnEnaCan", fn := fun _ => fun
  | [d] => { results := [.lit (.bool true)], args := [d] }
  | _ => none }
def fnEnaCanRow : OpenClaim := { program := "ytkcbghaadjhceaa", sum := "35c85523742703ee2ca1bd92b49207b4d5a7a992a2c56cc40c744a36b8b0c199", func := "loop.example/guildway/laws.FnEnaCan", spec := "fnEnaCan", unfollowed := true, recurses := true, apart := false }
def FnEnaCanSaid : Prop := fnEnaCanRow.holds Try.pinned (OpenSpec.ofChange fnEnaCanSpec)

/-- ITS FALSE NEIGHBOUR: 'it returns false'. Refute it at one input. -/
def fnEnaCanWrong : ChangeSpec := { name := "fnEnaCan", fn := fun _ => fun
  | [d] => { results := [.lit (.bool false)], args := [d] }
  | _ => none }
def FnEnaCanWrongFalsely : Prop := fnEnaCanRow.holds Try.pinned (OpenSpec.ofChange fnEnaCanWrong)

/-- 'laws.FnEnaMore': WHATEVER THE INPUT: true; the input reads as it did. -/
def fnEnaMoreSpec : ChangeSpec := { name := "fnEnaMore", fn := fun _ => fun
  | [d] => { results := [.lit (.bool true)], args := [d] }
  | _ => none }
def fnEnaMoreRow : OpenClaim := { program := "ytkcbghaadjhceaa", sum := "35c85523742703ee2ca1bd92b49207b4d5a7a992a2c56cc40c744a36b8b0c199", func := "loop.example/guildway/laws.FnEnaMore", spec := "fnEnaMore", unfollowed := true, recurses := true, apart := false }
def FnEnaMoreSaid : Prop := fnEnaMoreRow.holds Try.pinned (OpenSpec.ofChange fnEnaMoreSpec)

/-- ITS FALSE NEIGHBOUR: 'it returns false'. Refute it at one input. -/
def fnEnaMoreWrong : ChangeSpec := { name := "fnEnaMore", fn := fun _ => fun
  | [d] => { results := [.lit (.bool false)], args := [d] }
  | _ => none }
def FnEnaMoreWrongFalsely : Prop := fnEnaMoreRow.holds Try.pinned (OpenSpec.ofChange fnEnaMoreWrong)

/-- 'laws.FnEnaWaits': WHATEVER THE INPUT: true; the input reads as it did. -/
def fnEnaWaitsSpec : ChangeSpec := { name := "fnEnaWaits", fn := fun _ => fun
  | [d] => { results := [.lit (.bool true)], args := [d] }
  | _ => none }
def fnEnaWaitsRow : OpenClaim := { program := "ytkcbghaadjhceaa", sum := "35c85523742703ee2ca1bd92b49207b4d5a7a992a2c56cc40c744a36b8b0c199", func := "loop.example/guildway/laws.FnEnaWaits", spec := "fnEnaWaits", unfollowed := true, recurses := true, apart := false }
def FnEnaWaitsSaid : Prop := fnEnaWaitsRow.holds Try.pinned (OpenSpec.ofChange fnEnaWaitsSpec)

/-- ITS FALSE NEIGHBOUR: 'it returns false'. Refute it at one input. -/
def fnEnaWaitsWrong : ChangeSpec := { name := "fnEnaWaits", fn := fun _ => fun
  | [d] => { results := [.lit (.bool false)], args := [d] }
  | _ => none }
def FnEnaWaitsWrongFalsely : Prop := fnEnaWaitsRow.holds Try.pinned (OpenSpec.ofChange fnEnaWaitsWrong)

/-- 'laws.FnEnaTasks': WHATEVER THE INPUT: true; the input reads as it did. -/
def fnEnaTasksSpec : ChangeSpec := { name := "fnEnaTasks", fn := fun _ => fun
  | [d] => { results := [.lit (.bool true)], args := [d] }
  | _ => none }
def fnEnaTasksRow : OpenClaim := { program := "ytkcbghaadjhceaa", sum := "35c85523742703ee2ca1bd92b49207b4d5a7a992a2c56cc40c744a36b8b0c199", func := "loop.example/guildway/laws.FnEnaTasks", spec := "fnEnaTasks", unfollowed := true, recurses := true, apart := false }
def FnEnaTasksSaid : Prop := fnEnaTasksRow.holds Try.pinned (OpenSpec.ofChange fnEnaTasksSpec)

/-- ITS FALSE NEIGHBOUR: 'it returns false'. Refute it at one input. -/
def fnEnaTasksWrong : ChangeSpec := { name := "fnEnaTasks", fn := fun _ => fun
  | [d] => { results := [.lit (.bool false)], args := [d] }
  | _ => none }
def FnEnaTasksWrongFalsely : Prop := fnEnaTasksRow.holds Try.pinned (OpenSpec.ofChange fnEnaTasksWrong)

/-- 'laws.FnEnaWaitsAll': WHATEVER THE INPUT: true; the input reads as it did. -/
def fnEnaWaitsAllSpec : ChangeSpec := { name := "fnEnaWaitsAll", fn := fun _ => fun
  | [d] => { results := [.lit (.bool true)], args := [d] }
  | _ => none }
def fnEnaWaitsAllRow : OpenClaim := { program := "ytkcbghaadjhceaa", sum := "35c85523742703ee2ca1bd92b49207b4d5a7a992a2c56cc40c744a36b8b0c199", func := "loop.example/guildway/laws.FnEnaWaitsAll", spec := "fnEnaWaitsAll", unfollowed := true, recurses := true, apart := false }
def FnEnaWaitsAllSaid : Prop := fnEnaWaitsAllRow.holds Try.pinned (OpenSpec.ofChange fnEnaWaitsAllSpec)

/-- ITS FALSE NEIGHBOUR: 'it returns false'. Refute it at one input. -/
def fnEnaWaitsAllWrong : ChangeSpec := { name := "fnEnaWaitsAll", fn := fun _ => fun
  | [d] => { results := [.lit (.bool false)], args := [d] }
  | _ => none }
def FnEnaWaitsAllWrongFalsely : Prop := fnEnaWaitsAllRow.holds Try.pinned (OpenSpec.ofChange fnEnaWaitsAllWrong)

/- THE SECOND FORM. 'bulk': how many values and letters a reading holds, each counted each time it is reached (what is shared counts as often as it is met; a slice's spare places count too). A statement '..UptoSaid' is the law's where the arguments, and the package variables that the reading takes, are together of bulk at most 1048576: NARROWER than '..Said'. Prove '..Said' where nothing that the law and all that it calls make is longer than what came in: it says more and counts as full. Else prove '..UptoSaid'. A law counts once. -/
mutual
def uptoBulk {H : Type} : DataW H → Nat
  | .lit (.string bytes) => bytes.length + 1
  | .lit _ => 1
  | .nil => 1
  | .ptr d => uptoBulk d + 1
  | .slice elems spare => uptoBulkAll elems + uptoBulkAll spare + 1
  | .agg parts => uptoBulkAll parts + 1
  | .iface _ d => uptoBulk d + 1
  | .map entries => uptoBulkEntries entries + 1
  | .held _ => 1
def uptoBulkAll {H : Type} : List (DataW H) → Nat
  | [] => 0
  | d :: r => uptoBulk d + uptoBulkAll r
def uptoBulkEntries {H : Type} : List (Lit × DataW H) → Nat
  | [] => 0
  | x :: r => uptoBulkEntry x + uptoBulkEntries r
def uptoBulkEntry {H : Type} : Lit × DataW H → Nat
  | (.string bytes, d) => bytes.length + uptoBulk d + 1
  | (_, d) => uptoBulk d + 1
 end
def uptoSmall : (H : Type) → List (DataW H) → Bool := fun _ ds => decide (uptoBulkAll ds ≤ 1048576)
def OpenSpec.upto (s : _root_.Go.ChangeSpec) : _root_.Go.OpenSpec := { _root_.Go.OpenSpec.ofChange s with cond := some uptoSmall }

/-- 'laws.FnEnaTake', WHERE WHAT IT READS IS OF BULK AT MOST 1048576: true; the input reads as it did. -/
def fnEnaTakeUptoRow : OpenClaim := { program := "ytkcbghaadjhceaa", sum := "35c85523742703ee2ca1bd92b49207b4d5a7a992a2c56cc40c744a36b8b0c199", func := "loop.example/guildway/laws.FnEnaTake", spec := "fnEnaTake", unfollowed := true, recurses := true, apart := false, narrowed := true }
def FnEnaTakeUptoSaid : Prop := fnEnaTakeUptoRow.holds Try.pinned (OpenSpec.upto fnEnaTakeSpec)

/-- 'laws.FnFirGive', WHERE WHAT IT READS IS OF BULK AT MOST 1048576: true; the input reads as it did. -/
def fnFirGiveUptoRow : OpenClaim := { program := "ytkcbghaadjhceaa", sum := "35c85523742703ee2ca1bd92b49207b4d5a7a992a2c56cc40c744a36b8b0c199", func := "loop.example/guildway/laws.FnFirGive", spec := "fnFirGive", unfollowed := true, recurses := true, apart := false, narrowed := true }
def FnFirGiveUptoSaid : Prop := fnFirGiveUptoRow.holds Try.pinned (OpenSpec.upto fnFirGiveSpec)

/-- 'laws.FnEnaCan', WHERE WHAT IT READS IS OF BULK AT MOST 1048576: true; the input reads as it did. -/
def fnEnaCanUptoRow : OpenClaim := { program := "ytkcbghaadjhceaa", sum := "35c85523742703ee2ca1bd92b49207b4d5a7a992a2c56cc40c744a36b8b0c199", func := "loop.example/guildway/laws.FnEnaCan", spec := "fnEnaCan", unfollowed := true, recurses := true, apart := false, narrowed := true }
def FnEnaCanUptoSaid : Prop := fnEnaCanUptoRow.holds Try.pinned (OpenSpec.upto fnEnaCanSpec)

/-- 'laws.FnEnaMore', WHERE WHAT IT READS IS OF BULK AT MOST 1048576: true; the input reads as it did. -/
def fnEnaMoreUptoRow : OpenClaim := { program := "ytkcbghaadjhceaa", sum := "35c85523742703ee2ca1bd92b49207b4d5a7a992a2c56cc40c744a36b8b0c199", func := "loop.example/guildway/laws.FnEnaMore", spec := "fnEnaMore", unfollowed := true, recurses := true, apart := false, narrowed := true }
def FnEnaMoreUptoSaid : Prop := fnEnaMoreUptoRow.holds Try.pinned (OpenSpec.upto fnEnaMoreSpec)

/-- 'laws.FnEnaWaits', WHERE WHAT IT READS IS OF BULK AT MOST 1048576: true; the input reads as it did. -/
def fnEnaWaitsUptoRow : OpenClaim := { program := "ytkcbghaadjhceaa", sum := "35c85523742703ee2ca1bd92b49207b4d5a7a992a2c56cc40c744a36b8b0c199", func := "loop.example/guildway/laws.FnEnaWaits", spec := "fnEnaWaits", unfollowed := true, recurses := true, apart := false, narrowed := true }
def FnEnaWaitsUptoSaid : Prop := fnEnaWaitsUptoRow.holds Try.pinned (OpenSpec.upto fnEnaWaitsSpec)

/-- 'laws.FnEnaTasks', WHERE WHAT IT READS IS OF BULK AT MOST 1048576: true; the input reads as it did. -/
def fnEnaTasksUptoRow : OpenClaim := { program := "ytkcbghaadjhceaa", sum := "35c85523742703ee2ca1bd92b49207b4d5a7a992a2c56cc40c744a36b8b0c199", func := "loop.example/guildway/laws.FnEnaTasks", spec := "fnEnaTasks", unfollowed := true, recurses := true, apart := false, narrowed := true }
def FnEnaTasksUptoSaid : Prop := fnEnaTasksUptoRow.holds Try.pinned (OpenSpec.upto fnEnaTasksSpec)

/-- 'laws.FnEnaWaitsAll', WHERE WHAT IT READS IS OF BULK AT MOST 1048576: true; the input reads as it did. -/
def fnEnaWaitsAllUptoRow : OpenClaim := { program := "ytkcbghaadjhceaa", sum := "35c85523742703ee2ca1bd92b49207b4d5a7a992a2c56cc40c744a36b8b0c199", func := "loop.example/guildway/laws.FnEnaWaitsAll", spec := "fnEnaWaitsAll", unfollowed := true, recurses := true, apart := false, narrowed := true }
def FnEnaWaitsAllUptoSaid : Prop := fnEnaWaitsAllUptoRow.holds Try.pinned (OpenSpec.upto fnEnaWaitsAllSpec)

end Rows
end Go.Proofs.Ytkcbghaadjhceaa
