/- The law FnExactMrkSum: for every slice of numbers it returns true, and what was there reads as it did. -/
import Derived.Test.YteekhacdffpkoaaInts
namespace Go.Proofs.Yteekhacdffpkoaa
open Go.RowKit
set_option linter.unusedVariables false

theorem exactMrkSum_walk {zs : List Int} {A : Option Addr} {b off c : Nat} (w : World) (hV : Row w 0 w.heap.size A b off (ints zs)) (hm : zs.length ≤ maxLen) :
    Calls Try.prog 5 #[.slice A zs.length c] w fun e w' => e = .returned (.bool true) ∧ Below w.heap.size w w' := by
  have hm0 := hm
  unfold maxLen at hm
  go_enter Try.func5, Try.ntmps5
  by_cases hbig : 1048576 < zs.length
  · go_wp2
    go_ret
    exact ⟨rfl, Below.refl _ _⟩
  · go_wp2_with fail
    refine (toIntS_c zs _ _ A b off _ _ hV (Nat.le_refl _) (by omega)).mono ?_
    rintro e w1 ⟨b1, rfl, hR1, hB1⟩
    go_wp2_with fail
    refine (specMrkSum_c zs _ _ _ _ _ _ _ hR1 hm0).mono ?_
    rintro e w' ⟨rfl, rfl⟩
    go_wp2_with fail
    refine (toIntS_c zs _ _ A b off _ _ (hV.below hB1 (Nat.le_refl _)) hB1.size (by omega)).mono ?_
    rintro e w2 ⟨b2, rfl, hR2, hB2⟩
    have hB2 := hB1.trans (hB2.mono hB1.size)
    go_wp2_with fail
    refine (implMrkSum_c zs _ _ _ _ _ _ _ hR2 hm0).mono ?_
    rintro e w' ⟨rfl, rfl⟩
    go_wp2_with fail
    refine (toIntS_c zs _ _ A b off _ _ (hV.below hB2 (Nat.le_refl _)) hB2.size (by omega)).mono ?_
    rintro e w3 ⟨b3, rfl, hR3, hB3⟩
    go_wp2_with fail
    refine (eqIntS_c zs zs _ _ _ _ _ _ _ _ _ _ _ _ _ (hR2.below hB3 (Nat.le_refl _)) hR3 hm0 hm0).mono ?_
    rintro e w4 ⟨rfl, hB4⟩
    go_wp2
    go_ret
    exact ⟨rfl, (hB2.trans (hB3.mono hB2.size)).trans (hB4.mono (by have := hB3.size; have := hB2.size; omega))⟩
end Go.Proofs.Yteekhacdffpkoaa
