/- Truth values compared, marked and held. -/
import Derived.Test.YtililbgpjbpnkaaBools
namespace Go.Proofs.Ytililbgpjbpnkaa
open Go.RowKit
set_option linter.unusedVariables false
set_option linter.unusedSimpArgs false

def threes (k : Int) : Bool := k % 3 == 0
def markB (k : Int) (n : Nat) : List Bool := (List.range n).map fun i : Nat => threes (k + (i : Int))
theorem markB_length (k : Int) (n : Nat) : (markB k n).length = n := by simp [markB]
theorem markB_at (k : Int) (n j : Nat) (h : j < n) : (markB k n)[j]? = some (threes (k + (j : Int))) := by simp [markB, h]

theorem eqBoolS_c (zs ys : List Bool) (lo hi lo' hi' : Nat) (A B : Option Addr) (b off c b' off' c' : Nat) (w : World) (hV : Row w lo hi A b off (bools zs)) (hU : Row w lo' hi' B b' off' (bools ys)) (hm : zs.length ≤ maxLen) (hm' : ys.length ≤ maxLen) :
    Calls Try.prog 35 #[.slice A zs.length c, .slice B ys.length c'] w fun e w' => e = .returned (.bool (decide (zs = ys))) ∧ Below w.heap.size w w' := by
  unfold maxLen at hm hm'
  by_cases hl : zs.length = ys.length
  · have hlb : ((zs.length : Int) != (ys.length : Int)) = false := by simp [hl]
    have HL := Lib.hid hl
    clear hl
    go_enter Try.func35, Try.ntmps35
    go_wp2
    go_loopw [5] (fun i wr => ∃ k n : Nat, k ≤ zs.length ∧ i = .int .i64 k ∧ zs.take k = ys.take k ∧ wr = w.drewN n) (fun i _ => zs.length - (intOf i).toNat)
    case atStart => exact ⟨0, 0, Nat.zero_le _, rfl, rfl, rfl⟩
    case round =>
      obtain ⟨k, n, hk, rfl, he, rfl⟩ := hrel
      have HE := Lib.hid he
      clear he
      by_cases hlt : k < zs.length
      · obtain ⟨rfl, _, _, x, hx, hc, _⟩ := hV.bool hlt
        obtain ⟨rfl, _, _, y, hy, hd, _⟩ := hU.bool (k := k) (by rw [← HL.out]; exact hlt)
        have HX := Lib.hid hx
        have HY := Lib.hid hy
        have hlt1 : (k : Int) < (zs.length : Int) := by omega
        have hlt2 : (k : Int) < (ys.length : Int) := by rw [← HL.out]; omega
        clear hx hy
        by_cases hxy : x = y
        · have hne : (x == y) = true := by simp [hxy]
          have hne2 : (!(x == y)) = false := by simp [hxy]
          have HXY := Lib.hid hxy
          clear hxy
          go_wp2
          go_quiet (fail)
          go_wp2
          go_roundw
          case rel => exact ⟨k + 1, _, by omega, by go_num, by rw [take_succ_of HX.out, take_succ_of HY.out, HE.out, HXY.out], rfl⟩
          case measure => simp [intOf]; omega
        · have hne : (x == y) = false := by simp [hxy]
          have hne2 : (!(x == y)) = true := by simp [hxy]
          have HXY := Lib.hid hxy
          clear hxy
          go_wp2
          go_quiet (fail)
          go_wp2
          go_ret
          exact ⟨ret_bool (by
            have : zs ≠ ys := by
              intro e; subst e
              have := HX.out.symm.trans HY.out
              injection this with this; exact HXY.out this
            simp [this]), by first | exact below_draws _ _ _ | exact below_drewN (below_draws _ _ _) _⟩
      · go_wp2
        go_ret
        refine ⟨ret_bool ?_, by first | exact below_draws _ _ _ | exact below_drewN (below_draws _ _ _) _⟩
        have e := HE.out
        rw [List.take_of_length_le (by omega), List.take_of_length_le (by rw [← HL.out]; omega)] at e
        simp [e]
  · have hlb : ((zs.length : Int) != (ys.length : Int)) = true := by simp; omega
    have HL := Lib.hid hl
    clear hl
    go_enter Try.func35, Try.ntmps35
    go_wp2
    go_ret
    exact ⟨ret_bool (by have : zs ≠ ys := fun e => HL.out (by rw [e]); simp [this]), Below.refl _ _⟩


theorem markBoolS_c (zs : List Bool) (lo hi : Nat) (A : Option Addr) (b off c : Nat) (k0 : Int) (w : World) (hV : Row w lo hi A b off (bools zs)) (hm : zs.length ≤ 16777216) (hk0 : 0 ≤ k0) (hk1 : k0 ≤ 1099511627776) :
    Calls Try.prog 36 #[.slice A zs.length c, .int .i64 k0] w fun e w' => e = .returned (.int .i64 (k0 + (zs.length : Int))) ∧ Row w' lo hi A b off (bools (markB k0 zs.length)) ∧ Upd lo hi w w' := by
  go_enter Try.func36, Try.ntmps36
  go_wp2
  go_loopw [1, 5] (fun kk i wr => ∃ (k : Nat) (xs : List Bool), k ≤ zs.length ∧ i = .int .i64 k ∧ kk = .int .i64 (k0 + (k : Int)) ∧ xs.length = zs.length ∧ (∀ j, j < k → xs[j]? = some (threes (k0 + (j : Int)))) ∧ Row wr lo hi A b off (bools xs) ∧ Upd lo hi w wr) (fun _ i _ => zs.length - (intOf i).toNat)
  case atStart => exact ⟨0, zs, Nat.zero_le _, rfl, by simp, rfl, fun j hj => absurd hj (Nat.not_lt_zero _), hV, Upd.refl _ _ _⟩
  case round =>
    obtain ⟨k, xs, hk, rfl, rfl, hxl, hxs, hR, hU⟩ := hrel
    have HL := Lib.hid hxl
    have HXS := Lib.hid hxs
    have HU := Lib.hid hU
    have HRR := Lib.hid hR
    by_cases hlt : k < zs.length
    · obtain ⟨rfl, h2, h3, x, hx, hc, hf⟩ := hR.bool (k := k) (by omega)
      clear hxl hxs hR hU hx hV
      have HS := Lib.hid (HRR.out.set_ k (.bool (threes (k0 + (k : Int)))) (by have := HL.out; simp; omega))
      go_wp2
      go_roundw
      case rel =>
        refine ⟨k + 1, xs.set k (threes (k0 + (k : Int))), by omega, by go_num, by go_num, by simp [HL.out], fun j hj => ?_, by have := HS.out; simpa [bools, List.map_set, threes] using this, HU.out.setCell h2 h3 _⟩
        rw [List.getElem?_set]
        by_cases hjk : k = j
        · subst hjk; have := HL.out; simp; omega
        · rw [if_neg hjk]; exact HXS.out j (by omega)
      case measure => simp [intOf]; omega
    · have hkn : k = zs.length := by omega
      clear hxl hxs hR hU hV
      go_wp2
      go_ret
      have he : xs = markB k0 zs.length := List.ext_getElem? fun j => by
        by_cases hj : j < zs.length
        · rw [markB_at _ _ _ hj]; exact HXS.out j (by omega)
        · rw [List.getElem?_eq_none (by have := HL.out; omega), List.getElem?_eq_none (by rw [markB_length]; omega)]
      exact ⟨ret_int (by omega), by rw [← he]; exact HRR.out, HU.out⟩

theorem heldBoolS_c (n lo hi : Nat) (A : Option Addr) (b off c : Nat) (k0 : Int) (w : World) (hV : Row w lo hi A b off (bools (markB k0 n))) (hm : n ≤ 16777216) (hk0 : 0 ≤ k0) (hk1 : k0 ≤ 1099511627776) :
    Calls Try.prog 37 #[.slice A n c, .int .i64 k0] w fun e w' => e = .returned (.int .i64 (k0 + (n : Int))) ∧ w = w' := by
  go_enter Try.func37, Try.ntmps37
  go_wp2
  go_loop [1, 5] (fun kk i => ∃ (k : Nat), k ≤ n ∧ i = .int .i64 k ∧ kk = .int .i64 (k0 + (k : Int))) (fun _ i => n - (intOf i).toNat)
  case atStart => exact ⟨0, Nat.zero_le _, rfl, by simp⟩
  case round =>
    obtain ⟨k, hk, rfl, rfl⟩ := hrel
    by_cases hlt : k < n
    · obtain ⟨rfl, h2, h3, x, hx, hc, hf⟩ := hV.bool (k := k) (by rw [markB_length]; exact hlt)
      rw [markB_at _ _ _ hlt] at hx
      injection hx with hx
      rw [← hx] at hc
      have hne : (threes (k0 + (k : Int)) == ((k0 + (k : Int)) % 3 == 0)) = true := by simp [threes]
      have hne2 : (!(threes (k0 + (k : Int)) == ((k0 + (k : Int)) % 3 == 0))) = false := by simp [threes]
      clear hx
      go_wp2
      go_round
      case rel => exact ⟨k + 1, by omega, by go_num, by go_num⟩
      case measure => simp [intOf]; omega
    · have hkn : k = n := by omega
      go_wp2
      go_ret
      exact ⟨ret_int (by omega), rfl⟩
end Go.Proofs.Ytililbgpjbpnkaa
