/- The number of a text: whatever the text, a number. -/
import Derived.Test.YtgleblbgomhmdaaDoorTxt2
namespace Go.Proofs.YtgleblbgomhmdaaDoor
open Go.RowKit
set_option linter.unusedVariables false
set_option linter.unusedSimpArgs false

set_option maxHeartbeats 4000000 in
theorem l1Number_any (l : List UInt8) (hl : l.length ≤ 1048576) (w : World) :
    Calls Tryd.prog 22 #[.string ⟨l.toArray⟩] w fun e w' => (∃ x : Int, e = .returned (.int .i64 x)) ∧ w = w' := by
  have hl0 : l.length ≤ 9223372036854775807 := by omega
  go_enter Tryd.func22, Tryd.ntmps22
  go_wp2
  all_goals first
    | (go_ret; exact ⟨⟨_, rfl⟩, rfl⟩)
    | (go_loopw [4, 5] (fun n i wr => (∃ x : Int, n = .int .i64 x) ∧ (∃ j : Nat, i = .int .i64 j ∧ j ≤ l.length) ∧ wr = w) (fun _ i _ => match i with | .int _ k => l.length - k.toNat | _ => 0)
       case atStart => exact ⟨⟨0, rfl⟩, ⟨0, rfl, by omega⟩, rfl⟩
       case round =>
         obtain ⟨⟨x, rfl⟩, ⟨j, rfl, hj⟩, hw⟩ := hrel
         obtain rfl : w = wr := hw.symm
         go_wp2
         all_goals first
           | (go_ret; exact ⟨⟨_, rfl⟩, rfl⟩)
           | (refine ⟨⟨_, _, _, ⟨⟨_, rfl⟩, ⟨j + 1, rfl, ?_⟩⟩, rfl, rfl, rfl⟩, ?_⟩ <;> omega)
           | (refine ⟨⟨⟨_, rfl⟩, ⟨j + 1, rfl, ?_⟩, trivial⟩, ?_⟩ <;> first | omega | (dsimp only; omega)))
end Go.Proofs.YtgleblbgomhmdaaDoor
