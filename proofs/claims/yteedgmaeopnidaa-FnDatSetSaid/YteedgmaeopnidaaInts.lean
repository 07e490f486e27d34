/- The functions on slices of numbers: their copies, sums and comparisons. -/
import Derived.Test.YteedgmaeopnidaaBase
namespace Go.Proofs.Yteedgmaeopnidaa
open Go.RowKit
set_option linter.unusedVariables false
set_option linter.unusedSimpArgs false

/-- The sum as the program reckons it, wrapping. -/
def sumW (zs : List Int) : Int := zs.foldl (fun s x => wrap64 (s + x)) 0
theorem sumW_snoc {zs : List Int} {k : Nat} {x : Int} (h : zs[k]? = some x) : sumW (zs.take (k + 1)) = wrap64 (sumW (zs.take k) + x) := by
  rw [take_succ_of h]; simp [sumW]




theorem toIntS_c (zs : List Int) (lo hi : Nat) (A : Option Addr) (b off c : Nat) (w : World) (hV : Row w lo hi A b off (ints zs)) (hhi : hi ≤ w.heap.size) (hm : zs.length ≤ 1048576) :
    Calls Try.prog 21 #[.slice A zs.length c] w fun e w' => ∃ b', e = .returned (.slice (some ⟨b', 0, none⟩) zs.length zs.length) ∧ Row w' w.heap.size w'.heap.size (some ⟨b', 0, none⟩) b' 0 (ints zs) ∧ Below w.heap.size w w' := by
  obtain ⟨i0, hi0, hz0, hz1, hz2⟩ := info_parts Try.info3
  go_enter Try.func21, Try.ntmps21
  go_wp2_with (at_make; refine wpList_make_full _ rfl (.tmp 6) (.tmp 6) 23 rfl w.heap.size 3 i0 _ 1 Try.underlying23 hi0 hz0 hz1 .i64 .i64 _ _ zs.length rfl rfl rfl rfl (by rw [hz2]; omega) (by unfold maxLen; omega) (Nat.le_refl _) ?_; intro w1 hown1 hg1)
  have hb1 : Below w.heap.size w w1 := (Below.refl _ _).grown hg1 (Nat.le_refl _) (fun k hk => by cases hk)
  have hsz : w.heap.size < w1.heap.size := (hown1.lt _ rfl).2
  clear hg1
  go_loopw [4] (fun i wr => ∃ (k : Nat) (xs : List Value), k ≤ zs.length ∧ i = .int .i64 k ∧ wr.ownsRow w.heap.size 3 1 (.slice (some ⟨w.heap.size, 0, none⟩) zs.length zs.length) zs.length xs ∧
      (∀ j, j < k → xs[j]? = (ints zs)[j]?) ∧ Below w.heap.size w wr) (fun i _ => zs.length - (intOf i).toNat)
  case atStart => exact ⟨0, _, Nat.zero_le _, rfl, hown1, fun j hj => absurd hj (Nat.not_lt_zero _), hb1⟩
  case round =>
    obtain ⟨k, xs, hk, rfl, hown, hxs, hb⟩ := hrel
    by_cases hlt : k < zs.length
    · obtain ⟨rfl, _, h3, x, hx, hc, _⟩ := hV.int hlt
      have hc1 := (hb.cell (p := ⟨b, off + k, none⟩) (by show b < _; omega)).trans hc
      have hd := hown.cellAt k (by omega)
      have hxl : xs.length = zs.length := by simpa using hown.1
      rw [List.getElem?_eq_getElem (by omega)] at hd
      have hf := hown.frozenAt k
      have HR := Lib.hid (hown.stored k (.int .i64 x)).1
      have HX := Lib.hid hx
      have HB := Lib.hid hb
      have HXS := Lib.hid hxs
      clear hx hc hb hown hxs
      go_wp2
      go_roundw
      case rel => 
        refine ⟨k + 1, _, by omega, by go_num, HR.out, ?_, HB.out.setCell (Nat.le_refl _) _⟩
        intro j hj
        rw [List.getElem?_set]
        by_cases hjk : k = j
        · subst hjk; rw [if_pos rfl, if_pos (by omega), ints_at HX.out]
        · rw [if_neg hjk]; exact HXS.out j (by omega)
      case measure => simp [intOf]; omega
    · have hkn : k = zs.length := by omega
      subst hkn
      have hxl : xs.length = zs.length := by simpa using hown.1
      have hxe : xs = ints zs := List.ext_getElem? fun j => by
        by_cases hj : j < zs.length
        · exact hxs j hj
        · rw [List.getElem?_eq_none (by omega), List.getElem?_eq_none (by simp; omega)]
      subst hxe
      have HB := Lib.hid hb
      have HO := Lib.hid hown
      clear hxs hb hown
      go_wp2
      go_ret
      refine ⟨_, rfl, ?_, HB.out⟩
      refine ⟨fun hn => ⟨rfl, Nat.le_refl _, ?_⟩, fun j u hu => ?_⟩
      · exact (HO.out.lt _ rfl).2
      · refine ⟨?_, HO.out.frozenAt _⟩
        rw [Nat.zero_add, HO.out.cellAt j (by have := lt_of_some hu; simp at this; omega)]
        exact hu

theorem eqIntS_c (zs ys : List Int) (lo hi lo' hi' : Nat) (A B : Option Addr) (b off c b' off' c' : Nat) (w : World) (hV : Row w lo hi A b off (ints zs)) (hU : Row w lo' hi' B b' off' (ints ys)) (hm : zs.length ≤ maxLen) (hm' : ys.length ≤ maxLen) :
    Calls Try.prog 23 #[.slice A zs.length c, .slice B ys.length c'] w fun e w' => e = .returned (.bool (decide (zs = ys))) ∧ Below w.heap.size w w' := by
  unfold maxLen at hm hm'
  by_cases hl : zs.length = ys.length
  · have hlb : ((zs.length : Int) != (ys.length : Int)) = false := by simp [hl]
    have HL := Lib.hid hl
    clear hl
    go_enter Try.func23, Try.ntmps23
    go_wp2
    go_loopw [5] (fun i wr => ∃ k n : Nat, k ≤ zs.length ∧ i = .int .i64 k ∧ zs.take k = ys.take k ∧ wr = w.drewN n) (fun i _ => zs.length - (intOf i).toNat)
    case atStart => exact ⟨0, 0, Nat.zero_le _, rfl, rfl, rfl⟩
    case round =>
      obtain ⟨k, n, hk, rfl, he, rfl⟩ := hrel
      have HE := Lib.hid he
      clear he
      by_cases hlt : k < zs.length
      · obtain ⟨rfl, _, _, x, hx, hc, _⟩ := hV.int hlt
        obtain ⟨rfl, _, _, y, hy, hd, _⟩ := hU.int (k := k) (by rw [← HL.out]; exact hlt)
        have HX := Lib.hid hx
        have HY := Lib.hid hy
        have hlt1 : (k : Int) < (zs.length : Int) := by omega
        have hlt2 : (k : Int) < (ys.length : Int) := by rw [← HL.out]; omega
        clear hx hy
        by_cases hxy : x = y
        · have hne : (x != y) = false := by simp [hxy]
          have HXY := Lib.hid hxy
          clear hxy
          go_wp2
          go_quiet (fail)
          go_wp2
          go_roundw
          case rel => exact ⟨k + 1, _, by omega, by go_num, by rw [take_succ_of HX.out, take_succ_of HY.out, HE.out, HXY.out], rfl⟩
          case measure => simp [intOf]; omega
        · have hne : (x != y) = true := by simp [hxy]
          have HXY := Lib.hid hxy
          clear hxy
          go_wp2
          go_quiet (fail)
          go_wp2
          go_ret
          exact ⟨ret_bool (by
            have : zs ≠ ys := by
              intro e; subst e
              have := HX.out.symm.trans HY.out
              injection this with this; exact HXY.out this
            simp [this]), by first | exact below_draws _ _ _ | exact below_drewN (below_draws _ _ _) _⟩
      · go_wp2
        go_ret
        refine ⟨ret_bool ?_, by first | exact below_draws _ _ _ | exact below_drewN (below_draws _ _ _) _⟩
        have e := HE.out
        rw [List.take_of_length_le (by omega), List.take_of_length_le (by rw [← HL.out]; omega)] at e
        simp [e]
  · have hlb : ((zs.length : Int) != (ys.length : Int)) = true := by simp; omega
    have HL := Lib.hid hl
    clear hl
    go_enter Try.func23, Try.ntmps23
    go_wp2
    go_ret
    exact ⟨ret_bool (by have : zs ≠ ys := fun e => HL.out (by rw [e]); simp [this]), Below.refl _ _⟩

theorem guInts_c (zs ys : List Int) (lo hi lo' hi' : Nat) (A B : Option Addr) (b off c b' off' c' : Nat) (w : World) (hV : Row w lo hi A b off (ints zs)) (hU : Row w lo' hi' B b' off' (ints ys)) (hm : zs.length ≤ maxLen) (hm' : ys.length ≤ maxLen) :
    Calls Try.prog 9 #[.slice A zs.length c, .slice B ys.length c'] w fun e w' => e = .returned (.bool (decide (zs = ys))) ∧ Below w.heap.size w w' := by
  unfold maxLen at hm hm'
  by_cases hl : zs.length = ys.length
  · have hlb : ((zs.length : Int) != (ys.length : Int)) = false := by simp [hl]
    have HL := Lib.hid hl
    clear hl
    go_enter Try.func9, Try.ntmps9
    go_wp2
    go_loopw [5] (fun i wr => ∃ k n : Nat, k ≤ zs.length ∧ i = .int .i64 k ∧ zs.take k = ys.take k ∧ wr = w.drewN n) (fun i _ => zs.length - (intOf i).toNat)
    case atStart => exact ⟨0, 0, Nat.zero_le _, rfl, rfl, rfl⟩
    case round =>
      obtain ⟨k, n, hk, rfl, he, rfl⟩ := hrel
      have HE := Lib.hid he
      clear he
      by_cases hlt : k < zs.length
      · obtain ⟨rfl, _, _, x, hx, hc, _⟩ := hV.int hlt
        obtain ⟨rfl, _, _, y, hy, hd, _⟩ := hU.int (k := k) (by rw [← HL.out]; exact hlt)
        have HX := Lib.hid hx
        have HY := Lib.hid hy
        have hlt1 : (k : Int) < (zs.length : Int) := by omega
        have hlt2 : (k : Int) < (ys.length : Int) := by rw [← HL.out]; omega
        clear hx hy
        by_cases hxy : x = y
        · have hne : (x != y) = false := by simp [hxy]
          have HXY := Lib.hid hxy
          clear hxy
          go_wp2
          go_quiet (fail)
          go_wp2
          go_roundw
          case rel => exact ⟨k + 1, _, by omega, by go_num, by rw [take_succ_of HX.out, take_succ_of HY.out, HE.out, HXY.out], rfl⟩
          case measure => simp [intOf]; omega
        · have hne : (x != y) = true := by simp [hxy]
          have HXY := Lib.hid hxy
          clear hxy
          go_wp2
          go_quiet (fail)
          go_wp2
          go_ret
          exact ⟨ret_bool (by
            have : zs ≠ ys := by
              intro e; subst e
              have := HX.out.symm.trans HY.out
              injection this with this; exact HXY.out this
            simp [this]), by first | exact below_draws _ _ _ | exact below_drewN (below_draws _ _ _) _⟩
      · go_wp2
        go_ret
        refine ⟨ret_bool ?_, by first | exact below_draws _ _ _ | exact below_drewN (below_draws _ _ _) _⟩
        have e := HE.out
        rw [List.take_of_length_le (by omega), List.take_of_length_le (by rw [← HL.out]; omega)] at e
        simp [e]
  · have hlb : ((zs.length : Int) != (ys.length : Int)) = true := by simp; omega
    have HL := Lib.hid hl
    clear hl
    go_enter Try.func9, Try.ntmps9
    go_wp2
    go_ret
    exact ⟨ret_bool (by have : zs ≠ ys := fun e => HL.out (by rw [e]); simp [this]), Below.refl _ _⟩

end Go.Proofs.Yteedgmaeopnidaa
