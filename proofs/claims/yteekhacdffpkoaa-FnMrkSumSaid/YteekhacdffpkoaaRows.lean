/-
  No cell of these rows narrows 'for every input' (looked for: loops, veiled, ifaces, maps, wideKeys, modest, calm, conditions, laid).
  DERIVED. THE GIVEN ROWS OF THIS SEAT. 11 by the template 'for every input the law returns true; each argument reads behind the call as it read before'; 0 by the template 'total and deterministic' (their statements: YteekhacdffpkoaaTotals.lean).
  GIVEN WITH THE SEED: the statements are not yours to turn. If you find one false, say at which input.
  Laid BY PROGRAM, IN A SANDBOX (cutbox-rows.mjs): the forced cells as the released guide's own fill.sh prints them over the translation 34314fe8b0996c1d… (all of the seat's roots in one cut). By AI agents, Wed Nov 11 2026. No macro, syntax, notation, axiom, sorry.
-/
import Derived.Test.YteekhacdffpkoaaChecked
import GoSem.Claim
import GoSem.ClaimJoined
import GoSem.ClaimMapViews
import Derived.JoinedTies
import Derived.KernelRfl
namespace Go.Proofs.Yteekhacdffpkoaa
/- THE CELL 'sum', in the pinned program and in every row, IS THE sha256 OF THE DUMP (.gsa) THAT YteekhacdffpkoaaProg.lean LOADS. Nothing in Lean hashes anything: it is a label: what it is worth is what the hold of that sum in a sandbox is worth. -/
noncomputable def Try.pinned : Pinned := { name := "yteekhacdffpkoaa", sum := "34314fe8b0996c1d869f1131d96c47c11e17f3ae54f9a1bb032750b0679727aa", checked := Try.checked }
namespace Rows
def none {H : Type} : Left H := { results := [], args := [] }

/-- 'laws.FnExactConstants': WHATEVER THE INPUT: true; the input reads as it did. -/
def fnExactConstantsSpec : ChangeSpec := { name := "fnExactConstants", fn := fun _ => fun
  | [] => { results := [.lit (.bool true)], args := [] }
  | _ => none }
def fnExactConstantsRow : OpenClaim := { program := "yteekhacdffpkoaa", sum := "34314fe8b0996c1d869f1131d96c47c11e17f3ae54f9a1bb032750b0679727aa", func := "loop.example/guildway/laws.FnExactConstants", spec := "fnExactConstants", apart := false }
def FnExactConstantsSaid : Prop := fnExactConstantsRow.holds Try.pinned (OpenSpec.ofChange fnExactConstantsSpec)

/-- ITS FALSE NEIGHBOUR: 'it returns false'. Refute it at one input. -/
def fnExactConstantsWrong : ChangeSpec := { name := "fnExactConstants", fn := fun _ => fun
  | [] => { results := [.lit (.bool false)], args := [] }
  | _ => none }
def FnExactConstantsWrongFalsely : Prop := fnExactConstantsRow.holds Try.pinned (OpenSpec.ofChange fnExactConstantsWrong)

/-- 'laws.FnExactExpOk': WHATEVER THE INPUT: true; the input reads as it did. -/
def fnExactExpOkSpec : ChangeSpec := { name := "fnExactExpOk", fn := fun _ => fun
  | [d] => { results := [.lit (.bool true)], args := [d] }
  | _ => none }
def fnExactExpOkRow : OpenClaim := { program := "yteekhacdffpkoaa", sum := "34314fe8b0996c1d869f1131d96c47c11e17f3ae54f9a1bb032750b0679727aa", func := "loop.example/guildway/laws.FnExactExpOk", spec := "fnExactExpOk", apart := false }
def FnExactExpOkSaid : Prop := fnExactExpOkRow.holds Try.pinned (OpenSpec.ofChange fnExactExpOkSpec)

/-- ITS FALSE NEIGHBOUR: 'it returns false'. Refute it at one input. -/
def fnExactExpOkWrong : ChangeSpec := { name := "fnExactExpOk", fn := fun _ => fun
  | [d] => { results := [.lit (.bool false)], args := [d] }
  | _ => none }
def FnExactExpOkWrongFalsely : Prop := fnExactExpOkRow.holds Try.pinned (OpenSpec.ofChange fnExactExpOkWrong)

/-- 'laws.FnExactMrkSum': WHATEVER THE INPUT: true; the input reads as it did. -/
def fnExactMrkSumSpec : ChangeSpec := { name := "fnExactMrkSum", fn := fun _ => fun
  | [d] => { results := [.lit (.bool true)], args := [d] }
  | _ => none }
def fnExactMrkSumRow : OpenClaim := { program := "yteekhacdffpkoaa", sum := "34314fe8b0996c1d869f1131d96c47c11e17f3ae54f9a1bb032750b0679727aa", func := "loop.example/guildway/laws.FnExactMrkSum", spec := "fnExactMrkSum", apart := false }
def FnExactMrkSumSaid : Prop := fnExactMrkSumRow.holds Try.pinned (OpenSpec.ofChange fnExactMrkSumSpec)

/-- ITS FALSE NEIGHBOUR: 'it returns false'. Refute it at one input. -/
def fnExactMrkSumWrong : ChangeSpec := { name := "fnExactMrkSum", fn := fun _ => fun
  | [d] => { results := [.lit (.bool false)], args := [d] }
  | _ => none }
def FnExactMrkSumWrongFalsely : Prop := fnExactMrkSumRow.holds Try.pinned (OpenSpec.ofChange fnExactMrkSumWrong)

/-- 'laws.FnExactMrkMore': WHATEVER THE INPUT: true; the input reads as it did. -/
def fnExactMrkMoreSpec : ChangeSpec := { name := "fnExactMrkMore", fn := fun _ => fun
  | [d1, d2] => { results := [.lit (.bool true)], args := [d1, d2] }
  | _ => none }
def fnExactMrkMoreRow : OpenClaim := { program := "yteekhacdffpkoaa", sum := "34314fe8b0996c1d869f1131d96c47c11e17f3ae54f9a1bb032750b0679727aa", func := "loop.example/guildway/laws.FnExactMrkMore", spec := "fnExactMrkMore", apart := false }
def FnExactMrkMoreSaid : Prop := fnExactMrkMoreRow.holds Try.pinned (OpenSpec.ofChange fnExactMrkMoreSpec)

/-- ITS FALSE NEIGHBOUR: 'it returns false'. Refute it at one input. -/
def fnExactMrkMoreWrong : ChangeSpec := { name := "fnExactMrkMore", fn := fun _ => fun
  | [d1, d2] => { results := [.lit (.bool false)], args := [d1, d2] }
  | _ => none }
def FnExactMrkMoreWrongFalsely : Prop := fnExactMrkMoreRow.holds Try.pinned (OpenSpec.ofChange fnExactMrkMoreWrong)

/-- 'laws.FnExactDatOk': WHATEVER THE INPUT: true; the input reads as it did. -/
def fnExactDatOkSpec : ChangeSpec := { name := "fnExactDatOk", fn := fun _ => fun
  | [d] => { results := [.lit (.bool true)], args := [d] }
  | _ => none }
def fnExactDatOkRow : OpenClaim := { program := "yteekhacdffpkoaa", sum := "34314fe8b0996c1d869f1131d96c47c11e17f3ae54f9a1bb032750b0679727aa", func := "loop.example/guildway/laws.FnExactDatOk", spec := "fnExactDatOk", unfollowed := true, recurses := true, apart := false }
def FnExactDatOkSaid : Prop := fnExactDatOkRow.holds Try.pinned (OpenSpec.ofChange fnExactDatOkSpec)

/-- ITS FALSE NEIGHBOUR: 'it returns false'. Refute it at one input. -/
def fnExactDatOkWrong : ChangeSpec := { name := "fnExactDatOk", fn := fun _ => fun
  | [d] => { results := [.lit (.bool false)], args := [d] }
  | _ => none }
def FnExactDatOkWrongFalsely : Prop := fnExactDatOkRow.holds Try.pinned (OpenSpec.ofChange fnExactDatOkWrong)

/-- 'laws.FnDatOk': WHATEVER THE INPUT: true; the input reads as it did. -/
def fnDatOkSpec : ChangeSpec := { name := "fnDatOk", fn := fun _ => fun
  | [d] => { results := [.lit (.bool true)], args := [d] }
  | _ => none }
def fnDatOkRow : OpenClaim := { program := "yteekhacdffpkoaa", sum := "34314fe8b0996c1d869f1131d96c47c11e17f3ae54f9a1bb032750b0679727aa", func := "loop.example/guildway/laws.FnDatOk", spec := "fnDatOk", unfollowed := true, recurses := true, apart := false }
def FnDatOkSaid : Prop := fnDatOkRow.holds Try.pinned (OpenSpec.ofChange fnDatOkSpec)

/-- ITS FALSE NEIGHBOUR: 'it returns false'. Refute it at one input. -/
def fnDatOkWrong : ChangeSpec := { name := "fnDatOk", fn := fun _ => fun
  | [d] => { results := [.lit (.bool false)], args := [d] }
  | _ => none }
def FnDatOkWrongFalsely : Prop := fnDatOkRow.holds Try.pinned (OpenSpec.ofChange fnDatOkWrong)

/-- 'laws.FnExactDatSet': WHATEVER THE INPUT: true; the input reads as it did. -/
def fnExactDatSetSpec : ChangeSpec := { name := "fnExactDatSet", fn := fun _ => fun
  | [d1, d2, d3] => { results := [.lit (.bool true)], args := [d1, d2, d3] }
  | _ => none }
def fnExactDatSetRow : OpenClaim := { program := "yteekhacdffpkoaa", sum := "34314fe8b0996c1d869f1131d96c47c11e17f3ae54f9a1bb032750b0679727aa", func := "loop.example/guildway/laws.FnExactDatSet", spec := "fnExactDatSet", unfollowed := true, recurses := true, apart := false }
def FnExactDatSetSaid : Prop := fnExactDatSetRow.holds Try.pinned (OpenSpec.ofChange fnExactDatSetSpec)

/-- ITS FALSE NEIGHBOUR: 'it returns false'. Refute it at one input. -/
def fnExactDatSetWrong : ChangeSpec := { name := "fnExactDatSet", fn := fun _ => fun
  | [d1, d2, d3] => { results := [.lit (.bool false)], args := [d1, d2, d3] }
  | _ => none }
def FnExactDatSetWrongFalsely : Prop := fnExactDatSetRow.holds Try.pinned (OpenSpec.ofChange fnExactDatSetWrong)

/-- 'laws.FnMrkSum': WHATEVER THE INPUT: true; the input reads as it did. -/
def fnMrkSumSpec : ChangeSpec := { name := "fnMrkSum", fn := fun _ => fun
  | [d1, d2] => { results := [.lit (.bool true)], args := [d1, d2] }
  | _ => none }
def fnMrkSumRow : OpenClaim := { program := "yteekhacdffpkoaa", sum := "34314fe8b0996c1d869f1131d96c47c11e17f3ae54f9a1bb032750b0679727aa", func := "loop.example/guildway/laws.FnMrkSum", spec := "fnMrkSum", apart := false }
def FnMrkSumSaid : Prop := fnMrkSumRow.holds Try.pinned (OpenSpec.ofChange fnMrkSumSpec)

/-- ITS FALSE NEIGHBOUR: 'it returns false'. Refute it at one input. -/
def fnMrkSumWrong : ChangeSpec := { name := "fnMrkSum", fn := fun _ => fun
  | [d1, d2] => { results := [.lit (.bool false)], args := [d1, d2] }
  | _ => none }
def FnMrkSumWrongFalsely : Prop := fnMrkSumRow.holds Try.pinned (OpenSpec.ofChange fnMrkSumWrong)

/-- 'laws.FnExactExpHolds': WHATEVER THE INPUT: true; the input reads as it did. -/
def fnExactExpHoldsSpec : ChangeSpec := { name := "fnExactExpHolds", fn := fun _ => fun
  | [d1, d2] => { results := [.lit (.bool true)], args := [d1, d2] }
  | _ => none }
def fnExactExpHoldsRow : OpenClaim := { program := "yteekhacdffpkoaa", sum := "34314fe8b0996c1d869f1131d96c47c11e17f3ae54f9a1bb032750b0679727aa", func := "loop.example/guildway/laws.FnExactExpHolds", spec := "fnExactExpHolds", unfollowed := true, recurses := true, apart := false }
def FnExactExpHoldsSaid : Prop := fnExactExpHoldsRow.holds Try.pinned (OpenSpec.ofChange fnExactExpHoldsSpec)

/-- ITS FALSE NEIGHBOUR: 'it returns false'. Refute it at one input. -/
def fnExactExpHoldsWrong : ChangeSpec := { name := "fnExactExpHolds", fn := fun _ => fun
  | [d1, d2] => { results := [.lit (.bool false)], args := [d1, d2] }
  | _ => none }
def FnExactExpHoldsWrongFalsely : Prop := fnExactExpHoldsRow.holds Try.pinned (OpenSpec.ofChange fnExactExpHoldsWrong)

/-- 'laws.FnDatSet': WHATEVER THE INPUT: true; the input reads as it did. -/
def fnDatSetSpec : ChangeSpec := { name := "fnDatSet", fn := fun _ => fun
  | [d] => { results := [.lit (.bool true)], args := [d] }
  | _ => none }
def fnDatSetRow : OpenClaim := { program := "yteekhacdffpkoaa", sum := "34314fe8b0996c1d869f1131d96c47c11e17f3ae54f9a1bb032750b0679727aa", func := "loop.example/guildway/laws.FnDatSet", spec := "fnDatSet", unfollowed := true, recurses := true, apart := false }
def FnDatSetSaid : Prop := fnDatSetRow.holds Try.pinned (OpenSpec.ofChange fnDatSetSpec)

/-- ITS FALSE NEIGHBOUR: 'it returns false'. Refute it at one input. -/
def fnDatSetWrong : ChangeSpec := { name := "fnDatSet", fn := fun _ => fun
  | [d] => { results := [.lit (.bool false)], args := [d] }
  | _ => none }
def FnDatSetWrongFalsely : Prop := fnDatSetRow.holds Try.pinned (OpenSpec.ofChange fnDatSetWrong)

/-- 'laws.FnExpHolds': WHATEVER THE INPUT: true; the input reads as it did. -/
def fnExpHoldsSpec : ChangeSpec := { name := "fnExpHolds", fn := fun _ => fun
  | [d] => { results := [.lit (.bool true)], args := [d] }
  | _ => none }
def fnExpHoldsRow : OpenClaim := { program := "yteekhacdffpkoaa", sum := "34314fe8b0996c1d869f1131d96c47c11e17f3ae54f9a1bb032750b0679727aa", func := "loop.example/guildway/laws.FnExpHolds", spec := "fnExpHolds", unfollowed := true, recurses := true, apart := false }
def FnExpHoldsSaid : Prop := fnExpHoldsRow.holds Try.pinned (OpenSpec.ofChange fnExpHoldsSpec)

/-- ITS FALSE NEIGHBOUR: 'it returns false'. Refute it at one input. -/
def fnExpHoldsWrong : ChangeSpec := { name := "fnExpHolds", fn := fun _ => fun
  | [d] => { results := [.lit (.bool false)], args := [d] }
  | _ => none }
def FnExpHoldsWrongFalsely : Prop := fnExpHoldsRow.holds Try.pinned (OpenSpec.ofChange fnExpHoldsWrong)

/- THE SECOND FORM. 'bulk': how many values and letters a reading holds, each counted each time it is reached (what is shared counts as often as it is met; a slice's spare places count too). A statement '..UptoSaid' is the law's where the arguments, and the package variables that the reading takes, are together of bulk at most 1048576: NARROWER than '..Said'. Prove '..Said' where nothing that the law and all that it calls make is longer than what came in: it says more and counts as full. Else prove '..UptoSaid'. A law counts once. -/
mutual
def uptoBulk {H : Type} : DataW H → Nat
  | .lit (.string bytes) => bytes.length + 1
  | .lit _ => 1
  | .nil => 1
  | .ptr d => uptoBulk d + 1
  | .slice elems spare => uptoBulkAll elems + uptoBulkAll spare + 1
  | .agg parts => uptoBulkAll parts + 1
  | .iface _ d => uptoBulk d + 1
  | .map entries => uptoBulkEntries entries + 1
  | .held _ => 1
def uptoBulkAll {H : Type} : List (DataW H) → Nat
  | [] => 0
  | d :: r => uptoBulk d + uptoBulkAll r
def uptoBulkEntries {H : Type} : List (Lit × DataW H) → Nat
  | [] => 0
  | x :: r => uptoBulkEntry x + uptoBulkEntries r
def uptoBulkEntry {H : Type} : Lit × DataW H → Nat
  | (.string bytes, d) => bytes.length + uptoBulk d + 1
  | (_, d) => uptoBulk d + 1
 end
def uptoSmall : (H : Type) → List (DataW H) → Bool := fun _ ds => decide (uptoBulkAll ds ≤ 1048576)
def OpenSpec.upto (s : _root_.Go.ChangeSpec) : _root_.Go.OpenSpec := { _root_.Go.OpenSpec.ofChange s with cond := some uptoSmall }

/-- 'laws.FnExactConstants', WHERE WHAT IT READS IS OF BULK AT MOST 1048576: true; the input reads as it did. -/
def fnExactConstantsUptoRow : OpenClaim := { program := "yteekhacdffpkoaa", sum := "34314fe8b0996c1d869f1131d96c47c11e17f3ae54f9a1bb032750b0679727aa", func := "loop.example/guildway/laws.FnExactConstants", spec := "fnExactConstants", apart := false, narrowed := true }
def FnExactConstantsUptoSaid : Prop := fnExactConstantsUptoRow.holds Try.pinned (OpenSpec.upto fnExactConstantsSpec)

/-- 'laws.FnExactExpOk', WHERE WHAT IT READS IS OF BULK AT MOST 1048576: true; the input reads as it did. -/
def fnExactExpOkUptoRow : OpenClaim := { program := "yteekhacdffpkoaa", sum := "34314fe8b0996c1d869f1131d96c47c11e17f3ae54f9a1bb032750b0679727aa", func := "loop.example/guildway/laws.FnExactExpOk", spec := "fnExactExpOk", apart := false, narrowed := true }
def FnExactExpOkUptoSaid : Prop := fnExactExpOkUptoRow.holds Try.pinned (OpenSpec.upto fnExactExpOkSpec)

/-- 'laws.FnExactMrkSum', WHERE WHAT IT READS IS OF BULK AT MOST 1048576: true; the input reads as it did. -/
def fnExactMrkSumUptoRow : OpenClaim := { program := "yteekhacdffpkoaa", sum := "34314fe8b0996c1d869f1131d96c47c11e17f3ae54f9a1bb032750b0679727aa", func := "loop.example/guildway/laws.FnExactMrkSum", spec := "fnExactMrkSum", apart := false, narrowed := true }
def FnExactMrkSumUptoSaid : Prop := fnExactMrkSumUptoRow.holds Try.pinned (OpenSpec.upto fnExactMrkSumSpec)

/-- 'laws.FnExactMrkMore', WHERE WHAT IT READS IS OF BULK AT MOST 1048576: true; the input reads as it did. -/
def fnExactMrkMoreUptoRow : OpenClaim := { program := "yteekhacdffpkoaa", sum := "34314fe8b0996c1d869f1131d96c47c11e17f3ae54f9a1bb032750b0679727aa", func := "loop.example/guildway/laws.FnExactMrkMore", spec := "fnExactMrkMore", apart := false, narrowed := true }
def FnExactMrkMoreUptoSaid : Prop := fnExactMrkMoreUptoRow.holds Try.pinned (OpenSpec.upto fnExactMrkMoreSpec)

/-- 'laws.FnExactDatOk', WHERE WHAT IT READS IS OF BULK AT MOST 1048576: true; the input reads as it did. -/
def fnExactDatOkUptoRow : OpenClaim := { program := "yteekhacdffpkoaa", sum := "34314fe8b0996c1d869f1131d96c47c11e17f3ae54f9a1bb032750b0679727aa", func := "loop.example/guildway/laws.FnExactDatOk", spec := "fnExactDatOk", unfollowed := true, recurses := true, apart := false, narrowed := true }
def FnExactDatOkUptoSaid : Prop := fnExactDatOkUptoRow.holds Try.pinned (OpenSpec.upto fnExactDatOkSpec)

/-- 'laws.FnDatOk', WHERE WHAT IT READS IS OF BULK AT MOST 1048576: true; the input reads as it did. -/
def fnDatOkUptoRow : OpenClaim := { program := "yteekhacdffpkoaa", sum := "34314fe8b0996c1d869f1131d96c47c11e17f3ae54f9a1bb032750b0679727aa", func := "loop.example/guildway/laws.FnDatOk", spec := "fnDatOk", unfollowed := true, recurses := true, apart := false, narrowed := true }
def FnDatOkUptoSaid : Prop := fnDatOkUptoRow.holds Try.pinned (OpenSpec.upto fnDatOkSpec)

/-- 'laws.FnExactDatSet', WHERE WHAT IT READS IS OF BULK AT MOST 1048576: true; the input reads as it did. -/
def fnExactDatSetUptoRow : OpenClaim := { program := "yteekhacdffpkoaa", sum := "34314fe8b0996c1d869f1131d96c47c11e17f3ae54f9a1bb032750b0679727aa", func := "loop.example/guildway/laws.FnExactDatSet", spec := "fnExactDatSet", unfollowed := true, recurses := true, apart := false, narrowed := true }
def FnExactDatSetUptoSaid : Prop := fnExactDatSetUptoRow.holds Try.pinned (OpenSpec.upto fnExactDatSetSpec)

/-- 'laws.FnMrkSum', WHERE WHAT IT READS IS OF BULK AT MOST 1048576: true; the input reads as it did. -/
def fnMrkSumUptoRow : OpenClaim := { program := "yteekhacdffpkoaa", sum := "34314fe8b0996c1d869f1131d96c47c11e17f3ae54f9a1bb032750b0679727aa", func := "loop.example/guildway/laws.FnMrkSum", spec := "fnMrkSum", apart := false, narrowed := true }
def FnMrkSumUptoSaid : Prop := fnMrkSumUptoRow.holds Try.pinned (OpenSpec.upto fnMrkSumSpec)

/-- 'laws.FnExactExpHolds', WHERE WHAT IT READS IS OF BULK AT MOST 1048576: true; the input reads as it did. -/
def fnExactExpHoldsUptoRow : OpenClaim := { program := "yteekhacdffpkoaa", sum := "34314fe8b0996c1d869f1131d96c47c11e17f3ae54f9a1bb032750b0679727aa", func := "loop.example/guildway/laws.FnExactExpHolds", spec := "fnExactExpHolds", unfollowed := true, recurses := true, apart := false, narrowed := true }
def FnExactExpHoldsUptoSaid : Prop := fnExactExpHoldsUptoRow.holds Try.pinned (OpenSpec.upto fnExactExpHoldsSpec)

/-- 'laws.FnDatSet', WHERE WHAT IT READS IS OF BULK AT MOST 1048576: true; the input reads as it did. -/
def fnDatSetUptoRow : OpenClaim := { program := "yteekhacdffpkoaa", sum := "34314fe8b0996c1d869f1131d96c47c11e17f3ae54f9a1bb032750b0679727aa", func := "loop.example/guildway/laws.FnDatSet", spec := "fnDatSet", unfollowed := true, recurses := true, apart := false, narrowed := true }
def FnDatSetUptoSaid : Prop := fnDatSetUptoRow.holds Try.pinned (OpenSpec.upto fnDatSetSpec)

/-- 'laws.FnExpHolds', WHERE WHAT IT READS IS OF BULK AT MOST 1048576: true; the input reads as it did. -/
def fnExpHoldsUptoRow : OpenClaim := { program := "yteekhacdffpkoaa", sum := "34314fe8b0996c1d869f1131d96c47c11e17f3ae54f9a1bb032750b0679727aa", func := "loop.example/guildway/laws.FnExpHolds", spec := "fnExpHolds", unfollowed := true, recurses := true, apart := false, narrowed := true }
def FnExpHoldsUptoSaid : Prop := fnExpHoldsUptoRow.holds Try.pinned (OpenSpec.upto fnExpHoldsSpec)

end Rows
end Go.Proofs.Yteekhacdffpkoaa
