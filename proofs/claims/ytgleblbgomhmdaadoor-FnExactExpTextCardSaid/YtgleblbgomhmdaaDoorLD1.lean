/- The law FnExactExpText: the walk. -/
import Derived.Test.YtgleblbgomhmdaaDoorTxt2
namespace Go.Proofs.YtgleblbgomhmdaaDoor
open Go.RowKit
set_option linter.unusedVariables false
set_option linter.unusedSimpArgs false

set_option maxHeartbeats 4000000 in
theorem exactExpText_walk (o v k : Int) (w : World) (hT : PowTab w) :
    Calls Tryd.prog 3 #[.agg #[.int .i64 o, .int .i64 v, .int .i64 k]] w fun e w' => e = .returned (.bool true) ∧ Below w.heap.size w w' := by
  go_enter Tryd.func3, Tryd.ntmps3
  go_wp2_with fail
  have hX : TxB w o v k (w.alloc (.cells #[.int .i64 o, .int .i64 v, .int .i64 k] 23)) := ⟨new_cells w _ _ 0, new_cells w _ _ 1, new_cells w _ _ 2, by simp, Below.alloc (Below.refl _ w) (Nat.le_refl _) _⟩
  refine (toExpAsk_c _ _ _ _).mono ?_
  rintro e w1 ⟨rfl, hb1⟩
  replace hX := hX.below hb1
  clear hb1
  go_wp2_with fail
  refine (specExpText_c o v k _).mono ?_
  rintro e w2 ⟨rfl, hb2⟩
  replace hX := hX.below hb2
  clear hb2
  obtain ⟨x0, x1, x2, _, _⟩ := id hX
  go_wp2_with fail
  refine (toExpAsk_c _ _ _ _).mono ?_
  rintro e w3 ⟨rfl, hb3⟩
  replace hX := hX.below hb3
  clear hb3 x0 x1 x2
  go_wp2_with fail
  refine (implExpText_c o v k _ (Go.Joins.tab_stays pow_named hT hX.bel (Nat.le_refl _))).mono ?_
  rintro e w4 ⟨rfl, hb4⟩
  replace hX := hX.below hb4
  unfold askV
  go_wp2_with fail
  go_ret
  exact ⟨rfl, hX.bel⟩
end Go.Proofs.YtgleblbgomhmdaaDoor
