/- Whether at each place there are no fewer marks. -/
import Derived.Test.YteekhacdffpkoaaInts
namespace Go.Proofs.Yteekhacdffpkoaa
open Go.RowKit
set_option linter.unusedVariables false
set_option linter.unusedSimpArgs false

def moreB : List Int → List Int → Bool
  | [], [] => true
  | x :: xs, y :: ys => decide (y ≤ x) && moreB xs ys
  | _, _ => false
theorem moreB_iff : ∀ (xs ys : List Int), moreB xs ys = true ↔ xs.length = ys.length ∧ ∀ (j : Nat) (x y : Int), xs[j]? = some x → ys[j]? = some y → y ≤ x
  | [], [] => by simp [moreB]
  | [], y :: ys => by simp [moreB]
  | x :: xs, [] => by simp [moreB]
  | x :: xs, y :: ys => by
    simp only [moreB, Bool.and_eq_true, decide_eq_true_eq, moreB_iff xs ys, List.length_cons]
    constructor
    · rintro ⟨h1, h2, h3⟩
      refine ⟨by omega, fun j a b ha hb => ?_⟩
      cases j with
      | zero => simp at ha hb; omega
      | succ j => exact h3 j a b (by simpa using ha) (by simpa using hb)
    · rintro ⟨h1, h2⟩
      exact ⟨h2 0 x y rfl rfl, by omega, fun j a b ha hb => h2 (j + 1) a b (by simpa using ha) (by simpa using hb)⟩
theorem moreB_true {xs ys : List Int} (h : xs.length = ys.length) (hj : ∀ (j : Nat) (x y : Int), xs[j]? = some x → ys[j]? = some y → y ≤ x) : moreB xs ys = true := (moreB_iff _ _).2 ⟨h, hj⟩
theorem moreB_false {xs ys : List Int} {k : Nat} {x y : Int} (hx : xs[k]? = some x) (hy : ys[k]? = some y) (h : x < y) : moreB xs ys = false := by
  rw [Bool.eq_false_iff]; intro e
  have := ((moreB_iff _ _).1 e).2 k x y hx hy
  omega
theorem moreB_len {xs ys : List Int} (h : xs.length ≠ ys.length) : moreB xs ys = false := by
  rw [Bool.eq_false_iff]; intro e; exact h ((moreB_iff _ _).1 e).1

theorem specMrkMore_q (zs ys : List Int) (lo hi lo' hi' : Nat) (A B : Option Addr) (b off c b' off' c' : Nat) (w : World) (hV : Row w lo hi A b off (ints zs)) (hU : Row w lo' hi' B b' off' (ints ys)) (hm : zs.length ≤ maxLen) (hm' : ys.length ≤ maxLen) :
    Calls Try.prog 21 #[.slice A zs.length c, .slice B ys.length c'] w fun e w' => e = .returned (.bool (moreB zs ys)) ∧ ∃ n, w' = w.drewN n := by
  unfold maxLen at hm hm'
  by_cases hl : zs.length = ys.length
  · have hlb : ((zs.length : Int) != (ys.length : Int)) = false := by simp [hl]
    have HL := Lib.hid hl
    clear hl
    go_enter Try.func21, Try.ntmps21
    go_wp2
    go_loopw [5] (fun i wr => ∃ k n : Nat, k ≤ zs.length ∧ i = .int .i64 k ∧ (∀ (j : Nat) (x y : Int), j < k → zs[j]? = some x → ys[j]? = some y → y ≤ x) ∧ wr = w.drewN n) (fun i _ => zs.length - (intOf i).toNat)
    case atStart => exact ⟨0, 0, Nat.zero_le _, rfl, fun j x y hj => absurd hj (Nat.not_lt_zero _), rfl⟩
    case round =>
      obtain ⟨k, n, hk, rfl, he, rfl⟩ := hrel
      have HE := Lib.hid he
      clear he
      by_cases hlt : k < zs.length
      · obtain ⟨rfl, _, _, x, hx, hc, _⟩ := hV.int hlt
        obtain ⟨rfl, _, _, y, hy, hd, _⟩ := hU.int (k := k) (by rw [← HL.out]; exact hlt)
        have HX := Lib.hid hx
        have HY := Lib.hid hy
        have hlt1 : (k : Int) < (zs.length : Int) := by omega
        have hlt2 : (k : Int) < (ys.length : Int) := by rw [← HL.out]; omega
        clear hx hy
        by_cases hxy : x < y
        · go_wp2
          go_quiet (fail)
          go_wp2
          go_ret
          exact ⟨ret_bool (moreB_false HX.out HY.out hxy).symm, by first | exact ⟨_, rfl⟩ | exact ⟨_, World.drewN_drewN _ _ _⟩⟩
        · have hyx : y ≤ x := by omega
          go_wp2
          go_quiet (fail)
          go_wp2
          go_roundw
          case rel =>
            refine ⟨k + 1, _, by omega, by go_num, fun j a b hj ha hb => ?_, rfl⟩
            by_cases hjk : j = k
            · subst hjk
              have e1 := HX.out.symm.trans ha
              have e2 := HY.out.symm.trans hb
              injection e1 with e1; injection e2 with e2; omega
            · exact HE.out j a b (by omega) ha hb
          case measure => simp [intOf]; omega
      · go_wp2
        go_ret
        exact ⟨ret_bool (moreB_true HL.out (fun j x y hx hy => HE.out j x y (by have := lt_of_some hx; omega) hx hy)).symm, by first | exact ⟨_, rfl⟩ | exact ⟨_, World.drewN_drewN _ _ _⟩⟩
  · have hlb : ((zs.length : Int) != (ys.length : Int)) = true := by simp; omega
    have HL := Lib.hid hl
    clear hl
    go_enter Try.func21, Try.ntmps21
    go_wp2
    go_ret
    exact ⟨ret_bool (moreB_len HL.out).symm, 0, rfl⟩

theorem implMrkMore_q (zs ys : List Int) (lo hi lo' hi' : Nat) (A B : Option Addr) (b off c b' off' c' : Nat) (w : World) (hV : Row w lo hi A b off (ints zs)) (hU : Row w lo' hi' B b' off' (ints ys)) (hm : zs.length ≤ maxLen) (hm' : ys.length ≤ maxLen) :
    Calls Try.prog 22 #[.slice A zs.length c, .slice B ys.length c'] w fun e w' => e = .returned (.bool (moreB zs ys)) ∧ ∃ n, w' = w.drewN n := by
  unfold maxLen at hm hm'
  by_cases hl : zs.length = ys.length
  · have hlb : ((zs.length : Int) != (ys.length : Int)) = false := by simp [hl]
    have HL := Lib.hid hl
    clear hl
    go_enter Try.func22, Try.ntmps22
    go_wp2
    go_loopw [14] (fun i wr => ∃ k n : Nat, k ≤ zs.length ∧ i = .int .i64 k ∧ (∀ (j : Nat) (x y : Int), j < k → zs[j]? = some x → ys[j]? = some y → y ≤ x) ∧ wr = w.drewN n) (fun i _ => zs.length - (intOf i).toNat)
    case atStart => exact ⟨0, 0, Nat.zero_le _, rfl, fun j x y hj => absurd hj (Nat.not_lt_zero _), rfl⟩
    case round =>
      obtain ⟨k, n, hk, rfl, he, rfl⟩ := hrel
      have HE := Lib.hid he
      clear he
      by_cases hlt : k < zs.length
      · obtain ⟨rfl, _, _, x, hx, hc, _⟩ := hV.int hlt
        obtain ⟨rfl, _, _, y, hy, hd, _⟩ := hU.int (k := k) (by rw [← HL.out]; exact hlt)
        have HX := Lib.hid hx
        have HY := Lib.hid hy
        have hlt1 : (k : Int) < (zs.length : Int) := by omega
        have hlt2 : (k : Int) < (ys.length : Int) := by rw [← HL.out]; omega
        clear hx hy
        by_cases hxy : x < y
        · go_wp2
          go_ret
          exact ⟨ret_bool (moreB_false HX.out HY.out hxy).symm, by first | exact ⟨_, rfl⟩ | exact ⟨_, World.drewN_drewN _ _ _⟩⟩
        · have hyx : y ≤ x := by omega
          go_wp2
          go_roundw
          case rel =>
            refine ⟨k + 1, _, by omega, by go_num, fun j a b hj ha hb => ?_, rfl⟩
            by_cases hjk : j = k
            · subst hjk
              have e1 := HX.out.symm.trans ha
              have e2 := HY.out.symm.trans hb
              injection e1 with e1; injection e2 with e2; omega
            · exact HE.out j a b (by omega) ha hb
          case measure => simp [intOf]; omega
      · go_wp2
        go_ret
        exact ⟨ret_bool (moreB_true HL.out (fun j x y hx hy => HE.out j x y (by have := lt_of_some hx; omega) hx hy)).symm, by first | exact ⟨_, rfl⟩ | exact ⟨_, World.drewN_drewN _ _ _⟩⟩
  · have hlb : ((zs.length : Int) != (ys.length : Int)) = true := by simp; omega
    have HL := Lib.hid hl
    clear hl
    go_enter Try.func22, Try.ntmps22
    go_wp2
    go_ret
    exact ⟨ret_bool (moreB_len HL.out).symm, 0, rfl⟩

theorem specMrkMore_c (zs ys : List Int) (lo hi lo' hi' : Nat) (A B : Option Addr) (b off c b' off' c' : Nat) (w : World) (hV : Row w lo hi A b off (ints zs)) (hU : Row w lo' hi' B b' off' (ints ys)) (hm : zs.length ≤ maxLen) (hm' : ys.length ≤ maxLen) :
    Calls Try.prog 21 #[.slice A zs.length c, .slice B ys.length c'] w fun e w' => e = .returned (.bool (moreB zs ys)) ∧ Below w.heap.size w w' :=
  (specMrkMore_q zs ys lo hi lo' hi' A B b off c b' off' c' w hV hU hm hm').mono fun e w' ⟨h1, n, h2⟩ => ⟨h1, by rw [h2]; exact below_draws _ _ _⟩

theorem implMrkMore_c (zs ys : List Int) (lo hi lo' hi' : Nat) (A B : Option Addr) (b off c b' off' c' : Nat) (w : World) (hV : Row w lo hi A b off (ints zs)) (hU : Row w lo' hi' B b' off' (ints ys)) (hm : zs.length ≤ maxLen) (hm' : ys.length ≤ maxLen) :
    Calls Try.prog 22 #[.slice A zs.length c, .slice B ys.length c'] w fun e w' => e = .returned (.bool (moreB zs ys)) ∧ Below w.heap.size w w' :=
  (implMrkMore_q zs ys lo hi lo' hi' A B b off c b' off' c' w hV hU hm hm').mono fun e w' ⟨h1, n, h2⟩ => ⟨h1, by rw [h2]; exact below_draws _ _ _⟩

end Go.Proofs.Yteekhacdffpkoaa
