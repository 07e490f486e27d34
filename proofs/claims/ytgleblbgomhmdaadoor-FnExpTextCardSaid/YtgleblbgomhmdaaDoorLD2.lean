/- The law FnExactExpRead: the walk. -/
import Derived.Test.YtgleblbgomhmdaaDoorRd5
namespace Go.Proofs.YtgleblbgomhmdaaDoor
open Go.RowKit
set_option linter.unusedVariables false
set_option linter.unusedSimpArgs false

theorem eqExpAsk_t (o v k : Int) (w : World) :
    Calls Tryd.prog 14 #[.agg #[.int .i64 o, .int .i64 v, .int .i64 k], .agg #[.int .i64 o, .int .i64 v, .int .i64 k]] w fun e w' => e = .returned (.bool true) ∧ Below w.heap.size w w' := by
  go_enter Tryd.func14, Tryd.ntmps14
  go_wp2
  go_ret; exact ⟨rfl, by (repeat (first | exact Below.refl _ _ | assumption | refine Below.alloc ?_ (by simp <;> omega) _ | refine below_drewN ?_ _ | refine Below.drew ?_ | refine Below.setCell ?_ (by simp <;> omega) _))⟩
theorem read_cases (l : List UInt8) : (l.length ≤ 2 ∨ l = [97, 108, 119, 97, 121, 115]) ∨ (∃ c0 c1 r, r ≠ [] ∧ l = c0 :: c1 :: r ∧ l ≠ [97, 108, 119, 97, 121, 115]) := by
  by_cases h : l = [97, 108, 119, 97, 121, 115]
  · exact .inl (.inr h)
  · match l with
    | [] => exact .inl (.inl (by simp))
    | [_] => exact .inl (.inl (by simp))
    | [_, _] => exact .inl (.inl (by simp))
    | c0 :: c1 :: c2 :: r => exact .inr ⟨c0, c1, c2 :: r, by simp, rfl, h⟩
theorem specExpRead_c (l : List UInt8) (hl : l.length ≤ 1048576) (w : World) : Calls Tryd.prog 12 #[.string ⟨l.toArray⟩] w fun e w' => RdOut l w e w' := by
  rcases read_cases l with h | ⟨c0, c1, r, hr, he, ha⟩
  · exact specExpRead_a l hl h w
  · exact specExpRead_b l hl c0 c1 r hr he ha w
theorem implExpRead_c (l : List UInt8) (hl : l.length ≤ 1048576) (w : World) (hT : PowTab w) (hV : ErrVars w) : Calls Tryd.prog 11 #[.string ⟨l.toArray⟩] w fun e w' => RdOut l w e w' := by
  rcases read_cases l with h | ⟨c0, c1, r, hr, he, ha⟩
  · exact implExpRead_a l hl h w
  · exact implExpRead_b l hl c0 c1 r hr he ha w hT hV

set_option maxRecDepth 100000 in
set_option maxHeartbeats 4000000 in
theorem exactExpRead_walk (l : List UInt8) (w : World) (hT : PowTab w) (hV : ErrVars w) :
    Calls Tryd.prog 5 #[.string ⟨l.toArray⟩] w fun e w' => e = .returned (.bool true) ∧ Below w.heap.size w w' := by
  have HT := Lib.hid hT
  have HV := Lib.hid hV
  clear hT hV
  by_cases hbig : 1048576 < l.length
  · have hb2 : (1048576 : Int) < l.length := by omega
    go_enter Tryd.func5, Tryd.ntmps5
    go_wp2_with fail
    go_ret
    exact ⟨rfl, Below.refl _ _⟩
  · have hb2 : ¬ (1048576 : Int) < l.length := by omega
    have hl : l.length ≤ 1048576 := by omega
    go_enter Tryd.func5, Tryd.ntmps5
    go_wp2_with fail
    refine (specExpRead_c l hl _).mono ?_
    rintro e w1 ⟨⟨o, v, k, b, rfl, hr⟩, hb1⟩
    go_wp2_with fail
    have hX : TxB w1 o v k (w1.alloc (.cells #[.int .i64 o, .int .i64 v, .int .i64 k] 25)) := ⟨new_cells w1 _ _ 0, new_cells w1 _ _ 1, new_cells w1 _ _ 2, by simp, Below.alloc (Below.refl _ w1) (Nat.le_refl _) _⟩
    have hBA : Below w.heap.size w (w1.alloc (.cells #[.int .i64 o, .int .i64 v, .int .i64 k] 25)) := Below.trans hb1 (hX.bel.mono hb1.size)
    refine (implExpRead_c l hl _ (Go.Joins.tab_stays pow_named HT.out hBA (Nat.le_refl _)) (HV.out.below hBA)).mono ?_
    rintro e w2 ⟨⟨o', v', k', b', rfl, hr'⟩, hb2⟩
    obtain ⟨rfl, rfl, rfl, rfl⟩ := hr.unique hr'
    replace hX := hX.below hb2
    have hBB := Below.trans hBA (hb2.mono hBA.size)
    clear hBA hb1 hb2
    have hY : TxB w2 o v k (w2.alloc (.cells #[.int .i64 o, .int .i64 v, .int .i64 k] 25)) := ⟨new_cells w2 _ _ 0, new_cells w2 _ _ 1, new_cells w2 _ _ 2, by simp, Below.alloc (Below.refl _ w2) (Nat.le_refl _) _⟩
    replace hX := hX.alloc (.cells #[.int .i64 o, .int .i64 v, .int .i64 k] 25)
    obtain ⟨x0, x1, x2, _, _⟩ := id hX
    obtain ⟨y0, y1, y2, _, _⟩ := id hY
    go_wp2_with fail
    refine (eqExpAsk_t o v k _).mono ?_
    rintro e w3 ⟨rfl, hb3⟩
    go_wp2_with fail
    go_ret
    exact ⟨rfl, Below.trans hBB (Below.trans (hY.bel.mono hBB.size) (hb3.mono (Nat.le_trans hBB.size hY.bel.size)))⟩
end Go.Proofs.YtgleblbgomhmdaaDoor
