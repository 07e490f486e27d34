/-
  DERIVED. GIVEN WITH THE SEED: THE CARDS: each row of YtgleblbgomhmdaaDoorRows.lean that lists a variable, with what it lists TIED to the program's text (the seventh form; the later family's looks); each row that meets fmt, with fmt's text TOLD by the authors' own Lean function (tested against real Go, not proved from fmt's source: count such statements apart). THE CARD IS WHAT COUNTS. Prove the row's statement (the work); the ties are given (YtgleblbgomhmdaaDoorTie.lean); close each card by the builder's one call (the guide's Derived/Test/ToyasCard.lean, 'card_holds'). Laid BY PROGRAM, IN A SANDBOX (cutbox-door.mjs). By AI agents, Wed Nov 11 2026. No macro, syntax, notation, axiom, sorry.
-/
import Derived.Test.YtgleblbgomhmdaaDoorRows
import GoSem.ClaimSeven
namespace Go.Proofs.YtgleblbgomhmdaaDoor
namespace Rows

/-- THE TIED CARD OF 'laws.FnExactExpText'. -/
def fnExactExpTextCard : Claim7 := { stood := { row := fnExactExpTextRow, standIns := [], harness := (true, "e11fc8e13d5109a2c512795d308970c1c167bb0ebc17016f579d06ad00c9d5cc"), looks := true }, kinds := [], alts := [], laidByText := true, laidKinds := [.data, .data, .data], laidTests := true, laidLooks := .later }
def FnExactExpTextCardSaid : Prop := Claim7.holds Tryd.pinned (.plain (OpenSpec.ofChange fnExactExpTextSpec)) fnExactExpTextCard

/-- THE TIED CARD OF 'laws.FnExpText'. -/
def fnExpTextCard : Claim7 := { stood := { row := fnExpTextRow, standIns := [], harness := (true, "e11fc8e13d5109a2c512795d308970c1c167bb0ebc17016f579d06ad00c9d5cc"), looks := true }, kinds := [], alts := [], laidByText := true, laidKinds := [.data, .data, .data, .sentinel, .sentinel], laidTests := true, laidLooks := .later }
def FnExpTextCardSaid : Prop := Claim7.holds Tryd.pinned (.plain (OpenSpec.ofChange fnExpTextSpec)) fnExpTextCard

/-- THE TIED CARD OF 'laws.FnExactExpRead'. -/
def fnExactExpReadCard : Claim7 := { stood := { row := fnExactExpReadRow, standIns := [], harness := (true, "e11fc8e13d5109a2c512795d308970c1c167bb0ebc17016f579d06ad00c9d5cc"), looks := true }, kinds := [], alts := [], laidByText := true, laidKinds := [.data, .data, .data, .sentinel, .sentinel], laidTests := true, laidLooks := .later }
def FnExactExpReadCardSaid : Prop := Claim7.holds Tryd.pinned (.plain (OpenSpec.ofChange fnExactExpReadSpec)) fnExactExpReadCard

/-- THE SECOND FORM's CARD OF 'laws.FnExactExpText'. -/
def fnExactExpTextUptoCard : Claim7 := { stood := { row := fnExactExpTextUptoRow, standIns := [], harness := (true, "e11fc8e13d5109a2c512795d308970c1c167bb0ebc17016f579d06ad00c9d5cc"), looks := true }, kinds := [], alts := [], laidByText := true, laidKinds := [.data, .data, .data], laidTests := true, laidLooks := .later }
def FnExactExpTextUptoCardSaid : Prop := Claim7.holds Tryd.pinned (.plain (OpenSpec.upto fnExactExpTextSpec)) fnExactExpTextUptoCard

/-- THE SECOND FORM's CARD OF 'laws.FnExpText'. -/
def fnExpTextUptoCard : Claim7 := { stood := { row := fnExpTextUptoRow, standIns := [], harness := (true, "e11fc8e13d5109a2c512795d308970c1c167bb0ebc17016f579d06ad00c9d5cc"), looks := true }, kinds := [], alts := [], laidByText := true, laidKinds := [.data, .data, .data, .sentinel, .sentinel], laidTests := true, laidLooks := .later }
def FnExpTextUptoCardSaid : Prop := Claim7.holds Tryd.pinned (.plain (OpenSpec.upto fnExpTextSpec)) fnExpTextUptoCard

/-- THE SECOND FORM's CARD OF 'laws.FnExactExpRead'. -/
def fnExactExpReadUptoCard : Claim7 := { stood := { row := fnExactExpReadUptoRow, standIns := [], harness := (true, "e11fc8e13d5109a2c512795d308970c1c167bb0ebc17016f579d06ad00c9d5cc"), looks := true }, kinds := [], alts := [], laidByText := true, laidKinds := [.data, .data, .data, .sentinel, .sentinel], laidTests := true, laidLooks := .later }
def FnExactExpReadUptoCardSaid : Prop := Claim7.holds Tryd.pinned (.plain (OpenSpec.upto fnExactExpReadSpec)) fnExactExpReadUptoCard
end Rows
end Go.Proofs.YtgleblbgomhmdaaDoor
