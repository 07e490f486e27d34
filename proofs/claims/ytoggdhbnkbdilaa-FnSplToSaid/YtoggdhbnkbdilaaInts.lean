/- The functions on slices of numbers: their copies, sums and comparisons. -/
import Derived.Test.YtoggdhbnkbdilaaBase
namespace Go.Proofs.Ytoggdhbnkbdilaa
open Go.RowKit
set_option linter.unusedVariables false
set_option linter.unusedSimpArgs false

/-- The sum as the program reckons it, wrapping. -/
def sumW (zs : List Int) : Int := zs.foldl (fun s x => wrap64 (s + x)) 0
theorem sumW_snoc {zs : List Int} {k : Nat} {x : Int} (h : zs[k]? = some x) : sumW (zs.take (k + 1)) = wrap64 (sumW (zs.take k) + x) := by
  rw [take_succ_of h]; simp [sumW]






theorem guInts_c (zs ys : List Int) (lo hi lo' hi' : Nat) (A B : Option Addr) (b off c b' off' c' : Nat) (w : World) (hV : Row w lo hi A b off (ints zs)) (hU : Row w lo' hi' B b' off' (ints ys)) (hm : zs.length ≤ maxLen) (hm' : ys.length ≤ maxLen) :
    Calls Try.prog 24 #[.slice A zs.length c, .slice B ys.length c'] w fun e w' => e = .returned (.bool (decide (zs = ys))) ∧ Below w.heap.size w w' := by
  unfold maxLen at hm hm'
  by_cases hl : zs.length = ys.length
  · have hlb : ((zs.length : Int) != (ys.length : Int)) = false := by simp [hl]
    have HL := Lib.hid hl
    clear hl
    go_enter Try.func24, Try.ntmps24
    go_wp2
    go_loopw [5] (fun i wr => ∃ k n : Nat, k ≤ zs.length ∧ i = .int .i64 k ∧ zs.take k = ys.take k ∧ wr = w.drewN n) (fun i _ => zs.length - (intOf i).toNat)
    case atStart => exact ⟨0, 0, Nat.zero_le _, rfl, rfl, rfl⟩
    case round =>
      obtain ⟨k, n, hk, rfl, he, rfl⟩ := hrel
      have HE := Lib.hid he
      clear he
      by_cases hlt : k < zs.length
      · obtain ⟨rfl, _, _, x, hx, hc, _⟩ := hV.int hlt
        obtain ⟨rfl, _, _, y, hy, hd, _⟩ := hU.int (k := k) (by rw [← HL.out]; exact hlt)
        have HX := Lib.hid hx
        have HY := Lib.hid hy
        have hlt1 : (k : Int) < (zs.length : Int) := by omega
        have hlt2 : (k : Int) < (ys.length : Int) := by rw [← HL.out]; omega
        clear hx hy
        by_cases hxy : x = y
        · have hne : (x != y) = false := by simp [hxy]
          have HXY := Lib.hid hxy
          clear hxy
          go_wp2
          go_quiet (fail)
          go_wp2
          go_roundw
          case rel => exact ⟨k + 1, _, by omega, by go_num, by rw [take_succ_of HX.out, take_succ_of HY.out, HE.out, HXY.out], rfl⟩
          case measure => simp [intOf]; omega
        · have hne : (x != y) = true := by simp [hxy]
          have HXY := Lib.hid hxy
          clear hxy
          go_wp2
          go_quiet (fail)
          go_wp2
          go_ret
          exact ⟨ret_bool (by
            have : zs ≠ ys := by
              intro e; subst e
              have := HX.out.symm.trans HY.out
              injection this with this; exact HXY.out this
            simp [this]), by first | exact below_draws _ _ _ | exact below_drewN (below_draws _ _ _) _⟩
      · go_wp2
        go_ret
        refine ⟨ret_bool ?_, by first | exact below_draws _ _ _ | exact below_drewN (below_draws _ _ _) _⟩
        have e := HE.out
        rw [List.take_of_length_le (by omega), List.take_of_length_le (by rw [← HL.out]; omega)] at e
        simp [e]
  · have hlb : ((zs.length : Int) != (ys.length : Int)) = true := by simp; omega
    have HL := Lib.hid hl
    clear hl
    go_enter Try.func24, Try.ntmps24
    go_wp2
    go_ret
    exact ⟨ret_bool (by have : zs ≠ ys := fun e => HL.out (by rw [e]); simp [this]), Below.refl _ _⟩

end Go.Proofs.Ytoggdhbnkbdilaa
