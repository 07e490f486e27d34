/-
  No cell of these rows narrows 'for every input' (looked for: loops, veiled, ifaces, maps, wideKeys, modest, calm, conditions, laid).
  DERIVED. THE GIVEN ROWS OF THIS SEAT. 4 by the template 'for every input the law returns true; each argument reads behind the call as it read before'; 0 by the template 'total and deterministic' (their statements: YteedgmaeopnidaaTotals.lean).
  GIVEN WITH THE SEED: the statements are not yours to turn. If you find one false, say at which input.
  Laid BY PROGRAM, IN A SANDBOX (cutbox-rows.mjs): the forced cells as the released guide's own fill.sh prints them over the translation 75b294110bf22abf… (all of the seat's roots in one cut). By AI agents, Wed Nov 11 2026. No macro, syntax, notation, axiom, sorry.
-/
import Derived.Test.YteedgmaeopnidaaChecked
import GoSem.Claim
import GoSem.ClaimJoined
import GoSem.ClaimMapViews
import Derived.JoinedTies
import Derived.KernelRfl
namespace Go.Proofs.Yteedgmaeopnidaa
/- THE CELL 'sum', in the pinned program and in every row, IS THE sha256 OF THE DUMP (.gsa) THAT YteedgmaeopnidaaProg.lean LOADS. Nothing in Lean hashes anything: it is a label: what it is worth is what the hold of that sum in a sandbox is worth. -/
noncomputable def Try.pinned : Pinned := { name := "yteedgmaeopnidaa", sum := "75b294110bf22abfc985a1ffc07d2b35a3e12dd6e682e205fa6e860af897e778", checked := Try.checked }
namespace Rows
def none {H : Type} : Left H := { results := [], args := [] }

/-- 'laws.FnDatSet': WHATEVER THE INPUT: true; the input reads as it did. -/
def fnDatSetSpec : ChangeSpec := { name := "fnDatSet", fn := fun _ => fun
  | [d] => { results := [.lit (.bool true)], args := [d] }
  | _ => none }
def fnDatSetRow : OpenClaim := { program := "yteedgmaeopnidaa", sum := "75b294110bf22abfc985a1ffc07d2b35a3e12dd6e682e205fa6e860af897e778", func := "loop.example/guildway/laws.FnDatSet", spec := "fnDatSet", unfollowed := true, recurses := true, apart := false }
def FnDatSetSaid : Prop := fnDatSetRow.holds Try.pinned (OpenSpec.ofChange fnDatSetSpec)

/-- ITS FALSE NEIGHBOUR: 'it returns false'. Refute it at one input. -/
def fnDatSetWrong : ChangeSpec := { name := "fnDatSet", fn := fun _ => fun
  | [d] => { results := [.lit (.bool false)], args := [d] }
  | _ => none }
def FnDatSetWrongFalsely : Prop := fnDatSetRow.holds Try.pinned (OpenSpec.ofChange fnDatSetWrong)

/-- 'laws.FnExpHolds': WHATEVER THE INPUT: true; the input reads as it did. -/
def fnExpHoldsSpec : ChangeSpec := { name := "fnExpHolds", fn := fun _ => fun
  | [d] => { results := [.lit (.bool true)], args := [d] }
  | _ => none }
def fnExpHoldsRow : OpenClaim := { program := "yteedgmaeopnidaa", sum := "75b294110bf22abfc985a1ffc07d2b35a3e12dd6e682e205fa6e860af897e778", func := "loop.example/guildway/laws.FnExpHolds", spec := "fnExpHolds", unfollowed := true, recurses := true, apart := false }
def FnExpHoldsSaid : Prop := fnExpHoldsRow.holds Try.pinned (OpenSpec.ofChange fnExpHoldsSpec)

/-- ITS FALSE NEIGHBOUR: 'it returns false'. Refute it at one input. -/
def fnExpHoldsWrong : ChangeSpec := { name := "fnExpHolds", fn := fun _ => fun
  | [d] => { results := [.lit (.bool false)], args := [d] }
  | _ => none }
def FnExpHoldsWrongFalsely : Prop := fnExpHoldsRow.holds Try.pinned (OpenSpec.ofChange fnExpHoldsWrong)

/-- 'laws.FnExactSplTo': WHATEVER THE INPUT: true; the input reads as it did. -/
def fnExactSplToSpec : ChangeSpec := { name := "fnExactSplTo", fn := fun _ => fun
  | [d1, d2] => { results := [.lit (.bool true)], args := [d1, d2] }
  | _ => none }
def fnExactSplToRow : OpenClaim := { program := "yteedgmaeopnidaa", sum := "75b294110bf22abfc985a1ffc07d2b35a3e12dd6e682e205fa6e860af897e778", func := "loop.example/guildway/laws.FnExactSplTo", spec := "fnExactSplTo", unfollowed := true, recurses := true, apart := false }
def FnExactSplToSaid : Prop := fnExactSplToRow.holds Try.pinned (OpenSpec.ofChange fnExactSplToSpec)

/-- ITS FALSE NEIGHBOUR: 'it returns false'. Refute it at one input. -/
def fnExactSplToWrong : ChangeSpec := { name := "fnExactSplTo", fn := fun _ => fun
  | [d1, d2] => { results := [.lit (.bool false)], args := [d1, d2] }
  | _ => none }
def FnExactSplToWrongFalsely : Prop := fnExactSplToRow.holds Try.pinned (OpenSpec.ofChange fnExactSplToWrong)

/-- 'laws.FnExactNetAsks': WHATEVER THE INPUT: true; the input reads as it did. -/
def fnExactNetAsksSpec : ChangeSpec := { name := "fnExactNetAsks", fn := fun _ => fun
  | [d] => { results := [.lit (.bool true)], args := [d] }
  | _ => none }
def fnExactNetAsksRow : OpenClaim := { program := "yteedgmaeopnidaa", sum := "75b294110bf22abfc985a1ffc07d2b35a3e12dd6e682e205fa6e860af897e778", func := "loop.example/guildway/laws.FnExactNetAsks", spec := "fnExactNetAsks", unfollowed := true, recurses := true, apart := false }
def FnExactNetAsksSaid : Prop := fnExactNetAsksRow.holds Try.pinned (OpenSpec.ofChange fnExactNetAsksSpec)

/-- ITS FALSE NEIGHBOUR: 'it returns false'. Refute it at one input. -/
def fnExactNetAsksWrong : ChangeSpec := { name := "fnExactNetAsks", fn := fun _ => fun
  | [d] => { results := [.lit (.bool false)], args := [d] }
  | _ => none }
def FnExactNetAsksWrongFalsely : Prop := fnExactNetAsksRow.holds Try.pinned (OpenSpec.ofChange fnExactNetAsksWrong)

/- THE SECOND FORM. 'bulk': how many values and letters a reading holds, each counted each time it is reached (what is shared counts as often as it is met; a slice's spare places count too). A statement '..UptoSaid' is the law's where the arguments, and the package variables that the reading takes, are together of bulk at most 1048576: NARROWER than '..Said'. Prove '..Said' where nothing that the law and all that it calls make is longer than what came in: it says more and counts as full. Else prove '..UptoSaid'. A law counts once. -/
mutual
def uptoBulk {H : Type} : DataW H → Nat
  | .lit (.string bytes) => bytes.length + 1
  | .lit _ => 1
  | .nil => 1
  | .ptr d => uptoBulk d + 1
  | .slice elems spare => uptoBulkAll elems + uptoBulkAll spare + 1
  | .agg parts => uptoBulkAll parts + 1
  | .iface _ d => uptoBulk d + 1
  | .map entries => uptoBulkEntries entries + 1
  | .held _ => 1
def uptoBulkAll {H : Type} : List (DataW H) → Nat
  | [] => 0
  | d :: r => uptoBulk d + uptoBulkAll r
def uptoBulkEntries {H : Type} : List (Lit × DataW H) → Nat
  | [] => 0
  | x :: r => uptoBulkEntry x + uptoBulkEntries r
def uptoBulkEntry {H : Type} : Lit × DataW H → Nat
  | (.string bytes, d) => bytes.length + uptoBulk d + 1
  | (_, d) => uptoBulk d + 1
 end
def uptoSmall : (H : Type) → List (DataW H) → Bool := fun _ ds => decide (uptoBulkAll ds ≤ 1048576)
def OpenSpec.upto (s : _root_.Go.ChangeSpec) : _root_.Go.OpenSpec := { _root_.Go.OpenSpec.ofChange s with cond := some uptoSmall }

/-- 'laws.FnDatSet', WHERE WHAT IT READS IS OF BULK AT MOST 1048576: true; the input reads as it did. -/
def fnDatSetUptoRow : OpenClaim := { program := "yteedgmaeopnidaa", sum := "75b294110bf22abfc985a1ffc07d2b35a3e12dd6e682e205fa6e860af897e778", func := "loop.example/guildway/laws.FnDatSet", spec := "fnDatSet", unfollowed := true, recurses := true, apart := false, narrowed := true }
def FnDatSetUptoSaid : Prop := fnDatSetUptoRow.holds Try.pinned (OpenSpec.upto fnDatSetSpec)

/-- 'laws.FnExpHolds', WHERE WHAT IT READS IS OF BULK AT MOST 1048576: true; the input reads as it did. -/
def fnExpHoldsUptoRow : OpenClaim := { program := "yteedgmaeopnidaa", sum := "75b294110bf22abfc985a1ffc07d2b35a3e12dd6e682e205fa6e860af897e778", func := "loop.example/guildway/laws.FnExpHolds", spec := "fnExpHolds", unfollowed := true, recurses := true, apart := false, narrowed := true }
def FnExpHoldsUptoSaid : Prop := fnExpHoldsUptoRow.holds Try.pinned (OpenSpec.upto fnExpHoldsSpec)

/-- 'laws.FnExactSplTo', WHERE WHAT IT READS IS OF BULK AT MOST 1048576: true; the input reads as it did. -/
def fnExactSplToUptoRow : OpenClaim := { program := "yteedgmaeopnidaa", sum := "75b294110bf22abfc985a1ffc07d2b35a3e12dd6e682e205fa6e860af897e778", func := "loop.example/guildway/laws.FnExactSplTo", spec := "fnExactSplTo", unfollowed := true, recurses := true, apart := false, narrowed := true }
def FnExactSplToUptoSaid : Prop := fnExactSplToUptoRow.holds Try.pinned (OpenSpec.upto fnExactSplToSpec)

/-- 'laws.FnExactNetAsks', WHERE WHAT IT READS IS OF BULK AT MOST 1048576: true; the input reads as it did. -/
def fnExactNetAsksUptoRow : OpenClaim := { program := "yteedgmaeopnidaa", sum := "75b294110bf22abfc985a1ffc07d2b35a3e12dd6e682e205fa6e860af897e778", func := "loop.example/guildway/laws.FnExactNetAsks", spec := "fnExactNetAsks", unfollowed := true, recurses := true, apart := false, narrowed := true }
def FnExactNetAsksUptoSaid : Prop := fnExactNetAsksUptoRow.holds Try.pinned (OpenSpec.upto fnExactNetAsksSpec)

end Rows
end Go.Proofs.Yteedgmaeopnidaa
