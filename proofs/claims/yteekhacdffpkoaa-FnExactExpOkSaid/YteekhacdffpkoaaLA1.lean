/- Laws of the seat: the program's function returns what the reference's does. -/
import Derived.Test.YteekhacdffpkoaaInts
import Derived.Test.YteekhacdffpkoaaMore
import Derived.Test.YteekhacdffpkoaaHolds
import Derived.Test.YteekhacdffpkoaaMark
namespace Go.Proofs.Yteekhacdffpkoaa
open Go.RowKit
set_option linter.unusedVariables false
set_option linter.unusedSimpArgs false

theorem datSet_length (zs : List Int) (k n : Int) : (datSet zs k n).length = zs.length := by unfold datSet; split <;> simp

theorem exactConstants_walk (w : World) : Calls Try.prog 3 #[] w fun e w' => e = .returned (.bool true) ∧ Below w.heap.size w w' := by
  go_enter Try.func3, Try.ntmps3
  go_wp2
  go_ret
  exact ⟨rfl, Below.refl _ _⟩

theorem exactExpOk_walk {x0 y0 q0 : Int} (w : World)  :
    Calls Try.prog 4 #[.agg #[.int .i64 x0, .int .i64 y0, .int .i64 q0]] w fun e w' => e = .returned (.bool true) ∧ Below w.heap.size w w' := by
  go_enter Try.func4, Try.ntmps4
  go_wp2_with fail
  refine (toExpAsk_c _ _ _ _).mono ?_
  rintro e w1 ⟨rfl, hb⟩
  have hs1 : w.heap.size + 1 ≤ w1.heap.size := by have := hb.size; simp at this; omega
  have hx0_0 : w1.cell? ⟨w.heap.size, 0, none⟩ = some (Value.int .i64 x0) := (hb.cell (p := ⟨w.heap.size, 0, none⟩) (by simp)).trans (by simp [World.cell?_alloc_at])
  have hx0_1 : w1.cell? ⟨w.heap.size, 1, none⟩ = some (Value.int .i64 y0) := (hb.cell (p := ⟨w.heap.size, 1, none⟩) (by simp)).trans (by simp [World.cell?_alloc_at])
  have hx0_2 : w1.cell? ⟨w.heap.size, 2, none⟩ = some (Value.int .i64 q0) := (hb.cell (p := ⟨w.heap.size, 2, none⟩) (by simp)).trans (by simp [World.cell?_alloc_at])
  have HC1 := Lib.hid (((Below.refl w.heap.size w).alloc (by simp) _).trans (hb.mono (by simp)))
  clear hb
  go_wp2_with fail
  refine (specExpOk_c _ _ _ _).mono ?_
  rintro e w2 ⟨rfl, hb⟩
  have hs2 : w1.heap.size ≤ w2.heap.size := hb.size
  have HC2 := Lib.hid hb
  replace hx0_0 := (HC2.out.cell (p := ⟨w.heap.size, 0, none⟩) (by dsimp only; omega)).trans hx0_0
  replace hx0_1 := (HC2.out.cell (p := ⟨w.heap.size, 1, none⟩) (by dsimp only; omega)).trans hx0_1
  replace hx0_2 := (HC2.out.cell (p := ⟨w.heap.size, 2, none⟩) (by dsimp only; omega)).trans hx0_2
  clear hb
  go_wp2_with fail
  refine (toExpAsk_c _ _ _ _).mono ?_
  rintro e w3 ⟨rfl, hb⟩
  have hs3 : w2.heap.size ≤ w3.heap.size := hb.size
  have HC3 := Lib.hid hb
  replace hx0_0 := (HC3.out.cell (p := ⟨w.heap.size, 0, none⟩) (by dsimp only; omega)).trans hx0_0
  replace hx0_1 := (HC3.out.cell (p := ⟨w.heap.size, 1, none⟩) (by dsimp only; omega)).trans hx0_1
  replace hx0_2 := (HC3.out.cell (p := ⟨w.heap.size, 2, none⟩) (by dsimp only; omega)).trans hx0_2
  clear hb
  go_wp2_with fail
  refine (implExpOk_c _ _ _ _).mono ?_
  rintro e w4 ⟨rfl, hb⟩
  have hs4 : w3.heap.size ≤ w4.heap.size := hb.size
  have HC4 := Lib.hid hb
  replace hx0_0 := (HC4.out.cell (p := ⟨w.heap.size, 0, none⟩) (by dsimp only; omega)).trans hx0_0
  replace hx0_1 := (HC4.out.cell (p := ⟨w.heap.size, 1, none⟩) (by dsimp only; omega)).trans hx0_1
  replace hx0_2 := (HC4.out.cell (p := ⟨w.heap.size, 2, none⟩) (by dsimp only; omega)).trans hx0_2
  clear hb
  go_wp2
  go_ret
  exact ⟨rfl, (((HC1.out.trans (HC2.out.mono (by omega))).trans (HC3.out.mono (by omega))).trans (HC4.out.mono (by omega)))⟩

theorem exactMrkMore_walk {z0 : List Int} {A0 : Option Addr} {b0 o0 c0 : Nat} {z1 : List Int} {A1 : Option Addr} {b1 o1 c1 : Nat} (w : World) (hV0 : Row w 0 w.heap.size A0 b0 o0 (ints z0)) (hm0 : z0.length ≤ maxLen) (hV1 : Row w 0 w.heap.size A1 b1 o1 (ints z1)) (hm1 : z1.length ≤ maxLen) :
    Calls Try.prog 6 #[.slice A0 z0.length c0, .slice A1 z1.length c1] w fun e w' => e = .returned (.bool true) ∧ Below w.heap.size w w' := by
  have hM0 := hm0
  unfold maxLen at hm0
  have hM1 := hm1
  unfold maxLen at hm1
  go_enter Try.func6, Try.ntmps6
  by_cases hbig0 : 1048576 < z0.length
  · go_wp2; go_ret; exact ⟨rfl, (Below.refl _ _)⟩
  by_cases hbig1 : 1048576 < z1.length
  · go_wp2; go_ret; exact ⟨rfl, (Below.refl _ _)⟩
  go_wp2_with fail
  refine (toIntS_c z0 _ _ A0 b0 o0 c0 _ hV0 (by omega) (by omega)).mono ?_
  rintro e w1 ⟨bb1, rfl, hR2, hb⟩
  have hs1 : w.heap.size ≤ w1.heap.size := hb.size
  have HC1 := Lib.hid hb
  clear hb
  go_wp2_with fail
  refine (toIntS_c z1 _ _ A1 b1 o1 c1 _ (hV1.below HC1.out (by omega)) (by omega) (by omega)).mono ?_
  rintro e w2 ⟨bb3, rfl, hR4, hb⟩
  have hs2 : w1.heap.size ≤ w2.heap.size := hb.size
  have HC2 := Lib.hid hb
  clear hb
  go_wp2_with fail
  refine (specMrkMore_c z0 z1 _ _ _ _ _ _ _ _ _ _ _ _ _ (hR2.below HC2.out (by omega)) hR4 hM0 hM1).mono ?_
  rintro e w3 ⟨rfl, hb⟩
  have hs3 : w2.heap.size ≤ w3.heap.size := hb.size
  have HC3 := Lib.hid hb
  clear hb
  go_wp2_with fail
  refine (toIntS_c z0 _ _ A0 b0 o0 c0 _ (((hV0.below HC1.out (by omega)).below HC2.out (by omega)).below HC3.out (by omega)) (by omega) (by omega)).mono ?_
  rintro e w4 ⟨bb5, rfl, hR6, hb⟩
  have hs4 : w3.heap.size ≤ w4.heap.size := hb.size
  have HC4 := Lib.hid hb
  clear hb
  go_wp2_with fail
  refine (toIntS_c z1 _ _ A1 b1 o1 c1 _ ((((hV1.below HC1.out (by omega)).below HC2.out (by omega)).below HC3.out (by omega)).below HC4.out (by omega)) (by omega) (by omega)).mono ?_
  rintro e w5 ⟨bb7, rfl, hR8, hb⟩
  have hs5 : w4.heap.size ≤ w5.heap.size := hb.size
  have HC5 := Lib.hid hb
  clear hb
  go_wp2_with fail
  refine (implMrkMore_c z0 z1 _ _ _ _ _ _ _ _ _ _ _ _ _ (hR6.below HC5.out (by omega)) hR8 hM0 hM1).mono ?_
  rintro e w6 ⟨rfl, hb⟩
  have hs6 : w5.heap.size ≤ w6.heap.size := hb.size
  have HC6 := Lib.hid hb
  clear hb
  go_wp2_with fail
  refine (toIntS_c z0 _ _ A0 b0 o0 c0 _ ((((((hV0.below HC1.out (by omega)).below HC2.out (by omega)).below HC3.out (by omega)).below HC4.out (by omega)).below HC5.out (by omega)).below HC6.out (by omega)) (by omega) (by omega)).mono ?_
  rintro e w7 ⟨bb9, rfl, hR10, hb⟩
  have hs7 : w6.heap.size ≤ w7.heap.size := hb.size
  have HC7 := Lib.hid hb
  clear hb
  go_wp2_with fail
  refine (eqIntS_c z0 z0 _ _ _ _ _ _ _ _ _ _ _ _ _ (((hR6.below HC5.out (by omega)).below HC6.out (by omega)).below HC7.out (by omega)) hR10 hM0 hM0).mono ?_
  rintro e w8 ⟨rfl, hb⟩
  have hs8 : w7.heap.size ≤ w8.heap.size := hb.size
  have HC8 := Lib.hid hb
  clear hb
  go_wp2_with fail
  refine (toIntS_c z1 _ _ A1 b1 o1 c1 _ ((((((((hV1.below HC1.out (by omega)).below HC2.out (by omega)).below HC3.out (by omega)).below HC4.out (by omega)).below HC5.out (by omega)).below HC6.out (by omega)).below HC7.out (by omega)).below HC8.out (by omega)) (by omega) (by omega)).mono ?_
  rintro e w9 ⟨bb11, rfl, hR12, hb⟩
  have hs9 : w8.heap.size ≤ w9.heap.size := hb.size
  have HC9 := Lib.hid hb
  clear hb
  go_wp2_with fail
  refine (eqIntS_c z1 z1 _ _ _ _ _ _ _ _ _ _ _ _ _ ((((hR8.below HC6.out (by omega)).below HC7.out (by omega)).below HC8.out (by omega)).below HC9.out (by omega)) hR12 hM1 hM1).mono ?_
  rintro e w10 ⟨rfl, hb⟩
  have hs10 : w9.heap.size ≤ w10.heap.size := hb.size
  have HC10 := Lib.hid hb
  clear hb
  go_wp2
  go_ret
  exact ⟨rfl, (((((((((HC1.out.trans (HC2.out.mono (by omega))).trans (HC3.out.mono (by omega))).trans (HC4.out.mono (by omega))).trans (HC5.out.mono (by omega))).trans (HC6.out.mono (by omega))).trans (HC7.out.mono (by omega))).trans (HC8.out.mono (by omega))).trans (HC9.out.mono (by omega))).trans (HC10.out.mono (by omega)))⟩

theorem exactDatOk_walk {z0 : List Int} {A0 : Option Addr} {b0 o0 c0 : Nat} (w : World) (hV0 : Row w 0 w.heap.size A0 b0 o0 (ints z0)) (hm0 : z0.length ≤ maxLen) :
    Calls Try.prog 7 #[.slice A0 z0.length c0] w fun e w' => e = .returned (.bool true) ∧ Below w.heap.size w w' := by
  have hM0 := hm0
  unfold maxLen at hm0
  go_enter Try.func7, Try.ntmps7
  by_cases hbig0 : 1048576 < z0.length
  · go_wp2; go_ret; exact ⟨rfl, (Below.refl _ _)⟩
  go_wp2_with fail
  refine (toIntS_c z0 _ _ A0 b0 o0 c0 _ hV0 (by omega) (by omega)).mono ?_
  rintro e w1 ⟨bb1, rfl, hR2, hb⟩
  have hs1 : w.heap.size ≤ w1.heap.size := hb.size
  have HC1 := Lib.hid hb
  clear hb
  go_wp2_with fail
  refine (specDatOk_c z0 _ _ _ _ _ _ _ hR2 hM0).mono ?_
  rintro e wq ⟨rfl, rfl⟩
  go_wp2_with fail
  refine (toIntS_c z0 _ _ A0 b0 o0 c0 _ (hV0.below HC1.out (by omega)) (by omega) (by omega)).mono ?_
  rintro e w2 ⟨bb3, rfl, hR4, hb⟩
  have hs2 : w1.heap.size ≤ w2.heap.size := hb.size
  have HC2 := Lib.hid hb
  clear hb
  go_wp2_with fail
  refine (implDatOk_c z0 _ _ _ _ _ _ _ hR4 (by omega) hM0).mono ?_
  rintro e w3 ⟨rfl, hb⟩
  have hs3 : w2.heap.size ≤ w3.heap.size := hb.size
  have HC3 := Lib.hid hb
  clear hb
  go_wp2_with fail
  refine (toIntS_c z0 _ _ A0 b0 o0 c0 _ (((hV0.below HC1.out (by omega)).below HC2.out (by omega)).below HC3.out (by omega)) (by omega) (by omega)).mono ?_
  rintro e w4 ⟨bb5, rfl, hR6, hb⟩
  have hs4 : w3.heap.size ≤ w4.heap.size := hb.size
  have HC4 := Lib.hid hb
  clear hb
  go_wp2_with fail
  refine (eqIntS_c z0 z0 _ _ _ _ _ _ _ _ _ _ _ _ _ ((hR4.below HC3.out (by omega)).below HC4.out (by omega)) hR6 hM0 hM0).mono ?_
  rintro e w5 ⟨rfl, hb⟩
  have hs5 : w4.heap.size ≤ w5.heap.size := hb.size
  have HC5 := Lib.hid hb
  clear hb
  go_wp2
  go_ret
  exact ⟨rfl, ((((HC1.out.trans (HC2.out.mono (by omega))).trans (HC3.out.mono (by omega))).trans (HC4.out.mono (by omega))).trans (HC5.out.mono (by omega)))⟩

theorem exactExpHolds_walk {x0 y0 q0 : Int} {z1 : List Int} {A1 : Option Addr} {b1 o1 c1 : Nat} (w : World) (hV1 : Row w 0 w.heap.size A1 b1 o1 (ints z1)) (hm1 : z1.length ≤ maxLen) :
    Calls Try.prog 11 #[.agg #[.int .i64 x0, .int .i64 y0, .int .i64 q0], .slice A1 z1.length c1] w fun e w' => e = .returned (.bool true) ∧ Below w.heap.size w w' := by
  have hM1 := hm1
  unfold maxLen at hm1
  go_enter Try.func11, Try.ntmps11
  by_cases hbig1 : 1048576 < z1.length
  · go_wp2; go_ret; exact ⟨rfl, ((Below.refl _ _).alloc (by simp) _)⟩
  go_wp2_with fail
  refine (toExpAsk_c _ _ _ _).mono ?_
  rintro e w1 ⟨rfl, hb⟩
  have hs1 : w.heap.size + 1 ≤ w1.heap.size := by have := hb.size; simp at this; omega
  have hx0_0 : w1.cell? ⟨w.heap.size, 0, none⟩ = some (Value.int .i64 x0) := (hb.cell (p := ⟨w.heap.size, 0, none⟩) (by simp)).trans (by simp [World.cell?_alloc_at])
  have hx0_1 : w1.cell? ⟨w.heap.size, 1, none⟩ = some (Value.int .i64 y0) := (hb.cell (p := ⟨w.heap.size, 1, none⟩) (by simp)).trans (by simp [World.cell?_alloc_at])
  have hx0_2 : w1.cell? ⟨w.heap.size, 2, none⟩ = some (Value.int .i64 q0) := (hb.cell (p := ⟨w.heap.size, 2, none⟩) (by simp)).trans (by simp [World.cell?_alloc_at])
  have HC1 := Lib.hid (((Below.refl w.heap.size w).alloc (by simp) _).trans (hb.mono (by simp)))
  clear hb
  go_wp2_with fail
  refine (toIntS_c z1 _ _ A1 b1 o1 c1 _ (hV1.below HC1.out (by omega)) (by omega) (by omega)).mono ?_
  rintro e w2 ⟨bb1, rfl, hR2, hb⟩
  have hs2 : w1.heap.size ≤ w2.heap.size := hb.size
  have HC2 := Lib.hid hb
  replace hx0_0 := (HC2.out.cell (p := ⟨w.heap.size, 0, none⟩) (by dsimp only; omega)).trans hx0_0
  replace hx0_1 := (HC2.out.cell (p := ⟨w.heap.size, 1, none⟩) (by dsimp only; omega)).trans hx0_1
  replace hx0_2 := (HC2.out.cell (p := ⟨w.heap.size, 2, none⟩) (by dsimp only; omega)).trans hx0_2
  clear hb
  go_wp2_with fail
  refine (specExpHolds_c x0 y0 q0 z1 _ _ _ _ _ _ _ hR2 (by omega) hM1).mono ?_
  rintro e w3 ⟨rfl, hb⟩
  have hs3 : w2.heap.size ≤ w3.heap.size := hb.size
  have HC3 := Lib.hid hb
  replace hx0_0 := (HC3.out.cell (p := ⟨w.heap.size, 0, none⟩) (by dsimp only; omega)).trans hx0_0
  replace hx0_1 := (HC3.out.cell (p := ⟨w.heap.size, 1, none⟩) (by dsimp only; omega)).trans hx0_1
  replace hx0_2 := (HC3.out.cell (p := ⟨w.heap.size, 2, none⟩) (by dsimp only; omega)).trans hx0_2
  clear hb
  go_wp2_with fail
  refine (toIntS_c z1 _ _ A1 b1 o1 c1 _ (((hV1.below HC1.out (by omega)).below HC2.out (by omega)).below HC3.out (by omega)) (by omega) (by omega)).mono ?_
  rintro e w4 ⟨bb3, rfl, hR4, hb⟩
  have hs4 : w3.heap.size ≤ w4.heap.size := hb.size
  have HC4 := Lib.hid hb
  replace hx0_0 := (HC4.out.cell (p := ⟨w.heap.size, 0, none⟩) (by dsimp only; omega)).trans hx0_0
  replace hx0_1 := (HC4.out.cell (p := ⟨w.heap.size, 1, none⟩) (by dsimp only; omega)).trans hx0_1
  replace hx0_2 := (HC4.out.cell (p := ⟨w.heap.size, 2, none⟩) (by dsimp only; omega)).trans hx0_2
  clear hb
  go_wp2_with fail
  refine (toExpAsk_c _ _ _ _).mono ?_
  rintro e w5 ⟨rfl, hb⟩
  have hs5 : w4.heap.size ≤ w5.heap.size := hb.size
  have HC5 := Lib.hid hb
  replace hx0_0 := (HC5.out.cell (p := ⟨w.heap.size, 0, none⟩) (by dsimp only; omega)).trans hx0_0
  replace hx0_1 := (HC5.out.cell (p := ⟨w.heap.size, 1, none⟩) (by dsimp only; omega)).trans hx0_1
  replace hx0_2 := (HC5.out.cell (p := ⟨w.heap.size, 2, none⟩) (by dsimp only; omega)).trans hx0_2
  clear hb
  go_wp2_with fail
  refine (implExpHolds_c x0 y0 q0 z1 _ _ _ _ _ _ _ (hR4.below HC5.out (by omega)) (by omega) hM1).mono ?_
  rintro e w6 ⟨rfl, hb⟩
  have hs6 : w5.heap.size ≤ w6.heap.size := hb.size
  have HC6 := Lib.hid hb
  replace hx0_0 := (HC6.out.cell (p := ⟨w.heap.size, 0, none⟩) (by dsimp only; omega)).trans hx0_0
  replace hx0_1 := (HC6.out.cell (p := ⟨w.heap.size, 1, none⟩) (by dsimp only; omega)).trans hx0_1
  replace hx0_2 := (HC6.out.cell (p := ⟨w.heap.size, 2, none⟩) (by dsimp only; omega)).trans hx0_2
  clear hb
  go_wp2_with fail
  refine (toIntS_c z1 _ _ A1 b1 o1 c1 _ ((((((hV1.below HC1.out (by omega)).below HC2.out (by omega)).below HC3.out (by omega)).below HC4.out (by omega)).below HC5.out (by omega)).below HC6.out (by omega)) (by omega) (by omega)).mono ?_
  rintro e w7 ⟨bb5, rfl, hR6, hb⟩
  have hs7 : w6.heap.size ≤ w7.heap.size := hb.size
  have HC7 := Lib.hid hb
  replace hx0_0 := (HC7.out.cell (p := ⟨w.heap.size, 0, none⟩) (by dsimp only; omega)).trans hx0_0
  replace hx0_1 := (HC7.out.cell (p := ⟨w.heap.size, 1, none⟩) (by dsimp only; omega)).trans hx0_1
  replace hx0_2 := (HC7.out.cell (p := ⟨w.heap.size, 2, none⟩) (by dsimp only; omega)).trans hx0_2
  clear hb
  go_wp2_with fail
  refine (eqIntS_c z1 z1 _ _ _ _ _ _ _ _ _ _ _ _ _ (((hR4.below HC5.out (by omega)).below HC6.out (by omega)).below HC7.out (by omega)) hR6 hM1 hM1).mono ?_
  rintro e w8 ⟨rfl, hb⟩
  have hs8 : w7.heap.size ≤ w8.heap.size := hb.size
  have HC8 := Lib.hid hb
  replace hx0_0 := (HC8.out.cell (p := ⟨w.heap.size, 0, none⟩) (by dsimp only; omega)).trans hx0_0
  replace hx0_1 := (HC8.out.cell (p := ⟨w.heap.size, 1, none⟩) (by dsimp only; omega)).trans hx0_1
  replace hx0_2 := (HC8.out.cell (p := ⟨w.heap.size, 2, none⟩) (by dsimp only; omega)).trans hx0_2
  clear hb
  go_wp2
  go_ret
  exact ⟨rfl, (((((((HC1.out.trans (HC2.out.mono (by omega))).trans (HC3.out.mono (by omega))).trans (HC4.out.mono (by omega))).trans (HC5.out.mono (by omega))).trans (HC6.out.mono (by omega))).trans (HC7.out.mono (by omega))).trans (HC8.out.mono (by omega)))⟩

theorem exactDatSet_walk {z0 : List Int} {A0 : Option Addr} {b0 o0 c0 : Nat} {a1 : Int} {a2 : Int} (w : World) (hV0 : Row w 0 w.heap.size A0 b0 o0 (ints z0)) (hm0 : z0.length ≤ maxLen) (ha1 : (Lit.int .i64 a1).wf = true) (ha2 : (Lit.int .i64 a2).wf = true) :
    Calls Try.prog 9 #[.slice A0 z0.length c0, .int .i64 a1, .int .i64 a2] w fun e w' => e = .returned (.bool true) ∧ Below w.heap.size w w' := by
  have hM0 := hm0
  unfold maxLen at hm0
  go_enter Try.func9, Try.ntmps9
  by_cases hbig0 : 1048576 < z0.length
  · go_wp2; go_ret; exact ⟨rfl, (Below.refl _ _)⟩
  have hrl : (datSet z0 a1 a2).length ≤ 1048576 := by rw [datSet_length]; omega
  have hrm : (datSet z0 a1 a2).length ≤ maxLen := by unfold maxLen; omega
  go_wp2_with fail
  refine (toIntS_c z0 _ _ A0 b0 o0 c0 _ hV0 (by omega) (by omega)).mono ?_
  rintro e w1 ⟨bb1, rfl, hR2, hb⟩
  have hs1 : w.heap.size ≤ w1.heap.size := hb.size
  have HC1 := Lib.hid hb
  clear hb
  go_wp2_with fail
  refine (specDatSet_c z0 _ _ _ _ _ _ a1 a2 _ hR2 (by omega) (by omega)).mono ?_
  rintro e w2 ⟨vv3, rfl, hM_4, hb⟩
  have hs2 : w1.heap.size ≤ w2.heap.size := hb.size
  have HC2 := Lib.hid hb
  clear hb
  obtain ⟨AA5, bb6, cc7, rfl, hG8⟩ := hM_4.row
  clear hM_4
  go_wp2_with fail
  refine (toIntS_c z0 _ _ A0 b0 o0 c0 _ ((hV0.below HC1.out (by omega)).below HC2.out (by omega)) (by omega) (by omega)).mono ?_
  rintro e w3 ⟨bb9, rfl, hR10, hb⟩
  have hs3 : w2.heap.size ≤ w3.heap.size := hb.size
  have HC3 := Lib.hid hb
  clear hb
  go_wp2_with fail
  refine (implDatSet_c z0 _ _ _ _ _ _ a1 a2 _ hR10 (by omega) (by omega)).mono ?_
  rintro e w4 ⟨vv11, rfl, hM_12, hb⟩
  have hs4 : w3.heap.size ≤ w4.heap.size := hb.size
  have HC4 := Lib.hid hb
  clear hb
  obtain ⟨AA13, bb14, cc15, rfl, hG16⟩ := hM_12.row
  clear hM_12
  go_wp2_with fail
  refine (eqIntS_c (datSet z0 a1 a2) (datSet z0 a1 a2) _ _ _ _ _ _ _ _ _ _ _ _ _ hG16 ((hG8.below HC3.out (by omega)).below HC4.out (by omega)) hrm hrm).mono ?_
  rintro e w5 ⟨rfl, hb⟩
  have hs5 : w4.heap.size ≤ w5.heap.size := hb.size
  have HC5 := Lib.hid hb
  clear hb
  go_wp2_with fail
  refine (toIntS_c z0 _ _ A0 b0 o0 c0 _ (((((hV0.below HC1.out (by omega)).below HC2.out (by omega)).below HC3.out (by omega)).below HC4.out (by omega)).below HC5.out (by omega)) (by omega) (by omega)).mono ?_
  rintro e w6 ⟨bb17, rfl, hR18, hb⟩
  have hs6 : w5.heap.size ≤ w6.heap.size := hb.size
  have HC6 := Lib.hid hb
  clear hb
  go_wp2_with fail
  refine (eqIntS_c z0 z0 _ _ _ _ _ _ _ _ _ _ _ _ _ (((hR10.below HC4.out (by omega)).below HC5.out (by omega)).below HC6.out (by omega)) hR18 hM0 hM0).mono ?_
  rintro e w7 ⟨rfl, hb⟩
  have hs7 : w6.heap.size ≤ w7.heap.size := hb.size
  have HC7 := Lib.hid hb
  clear hb
  go_wp2_with fail
  refine (markIntS_c z0 _ _ _ _ _ _ 1 _ ((((hR10.below HC4.out (by omega)).below HC5.out (by omega)).below HC6.out (by omega)).below HC7.out (by omega)) (by omega) (by omega) (by omega)).mono ?_
  rintro e w8 ⟨rfl, hK19, hu⟩
  have hs8 : w8.heap.size = w7.heap.size := hu.size
  have HC8 := Lib.hid hu
  clear hu
  clear hK19
  go_wp2_with fail
  refine (eqIntS_c (datSet z0 a1 a2) (datSet z0 a1 a2) _ _ _ _ _ _ _ _ _ _ _ _ _ ((((hG16.below HC5.out (by omega)).below HC6.out (by omega)).below HC7.out (by omega)).upd HC8.out (by omega)) ((((((hG8.below HC3.out (by omega)).below HC4.out (by omega)).below HC5.out (by omega)).below HC6.out (by omega)).below HC7.out (by omega)).upd HC8.out (by omega)) hrm hrm).mono ?_
  rintro e w9 ⟨rfl, hb⟩
  have hs9 : w8.heap.size ≤ w9.heap.size := hb.size
  have HC9 := Lib.hid hb
  clear hb
  go_wp2_with fail
  refine (markIntS_c (datSet z0 a1 a2) _ _ _ _ _ _ 1 _ (((((hG16.below HC5.out (by omega)).below HC6.out (by omega)).below HC7.out (by omega)).upd HC8.out (by omega)).below HC9.out (by omega)) (by omega) (by omega) (by omega)).mono ?_
  rintro e w10 ⟨rfl, hK21, hu⟩
  have hs10 : w10.heap.size = w9.heap.size := hu.size
  have HC10 := Lib.hid hu
  clear hu
  go_wp2_with fail
  refine (heldIntS_c _ _ _ _ _ _ _ 1 _ hK21 (by omega) (by omega) (by omega)).mono ?_
  rintro e wq ⟨rfl, rfl⟩
  go_wp2_with fail
  refine (toIntS_c z0 _ _ A0 b0 o0 c0 _ ((((((((((hV0.below HC1.out (by omega)).below HC2.out (by omega)).below HC3.out (by omega)).below HC4.out (by omega)).below HC5.out (by omega)).below HC6.out (by omega)).below HC7.out (by omega)).upd HC8.out (by omega)).below HC9.out (by omega)).upd HC10.out (by omega)) (by omega) (by omega)).mono ?_
  rintro e w11 ⟨bb22, rfl, hR23, hb⟩
  have hs11 : w10.heap.size ≤ w11.heap.size := hb.size
  have HC11 := Lib.hid hb
  clear hb
  go_wp2_with fail
  refine (implDatSet_c z0 _ _ _ _ _ _ a1 a2 _ hR23 (by omega) (by omega)).mono ?_
  rintro e w12 ⟨vv24, rfl, hM_25, hb⟩
  have hs12 : w11.heap.size ≤ w12.heap.size := hb.size
  have HC12 := Lib.hid hb
  clear hb
  obtain ⟨AA26, bb27, cc28, rfl, hG29⟩ := hM_25.row
  clear hM_25
  go_wp2_with fail
  refine (eqIntS_c (datSet z0 a1 a2) (datSet z0 a1 a2) _ _ _ _ _ _ _ _ _ _ _ _ _ hG29 ((((((((((hG8.below HC3.out (by omega)).below HC4.out (by omega)).below HC5.out (by omega)).below HC6.out (by omega)).below HC7.out (by omega)).upd HC8.out (by omega)).below HC9.out (by omega)).upd HC10.out (by omega)).below HC11.out (by omega)).below HC12.out (by omega)) hrm hrm).mono ?_
  rintro e w13 ⟨rfl, hb⟩
  have hs13 : w12.heap.size ≤ w13.heap.size := hb.size
  have HC13 := Lib.hid hb
  clear hb
  go_wp2_with fail
  refine (heldIntS_c _ _ _ _ _ _ _ 1 _ (((hK21.below HC11.out (by omega)).below HC12.out (by omega)).below HC13.out (by omega)) (by omega) (by omega) (by omega)).mono ?_
  rintro e wq ⟨rfl, rfl⟩
  go_wp2
  go_ret
  exact ⟨rfl, ((((((((((((HC1.out.trans (HC2.out.mono (by omega))).trans (HC3.out.mono (by omega))).trans (HC4.out.mono (by omega))).trans (HC5.out.mono (by omega))).trans (HC6.out.mono (by omega))).trans (HC7.out.mono (by omega))).trans (HC8.out.below (by omega))).trans (HC9.out.mono (by omega))).trans (HC10.out.below (by omega))).trans (HC11.out.mono (by omega))).trans (HC12.out.mono (by omega))).trans (HC13.out.mono (by omega)))⟩

end Go.Proofs.Yteekhacdffpkoaa
