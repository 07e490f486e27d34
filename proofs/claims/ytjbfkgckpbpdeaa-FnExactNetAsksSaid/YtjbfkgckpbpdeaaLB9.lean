/- Laws of the seat: the program's function returns what the reference's does. Nets: roles that are asked for. -/
import Derived.Test.YtjbfkgckpbpdeaaAsks
import Derived.Test.YtjbfkgckpbpdeaaNetMark2
import Derived.Test.YtjbfkgckpbpdeaaLB1
import Derived.StillTailTactics
import Derived.Deep.RegionHeld3
namespace Go.Proofs.Ytjbfkgckpbpdeaa
open Go.RowKit
set_option linter.unusedVariables false
set_option linter.unusedSimpArgs false

set_option maxRecDepth 10000 in
set_option maxHeartbeats 1000000 in
theorem exactNetAsks_walk {n0 : NNet} {v0 : Value} (w : World) (hV0 : NetV w 0 w.heap.size v0 n0) :
    Calls Try.prog 3 #[v0] w fun e w' => e = .returned (.bool true) ∧ Below w.heap.size w w' := by
  have hN0 := hV0
  obtain ⟨A0, b0, o0, c0, ms0, rfl, hm0, hT0⟩ := hV0
  clear hT0
  unfold maxLen at hm0
  go_enter Try.func3, Try.ntmps3
  have hrl : ((asksL n0)).length ≤ 1048576 := asksL_len n0
  have hrm : ((asksL n0)).length ≤ maxLen := by unfold maxLen; omega
  go_wp2_with fail
  have hs1 : (w.alloc (.cells #[Value.int .i64 n0.places, Value.slice A0 n0.tasks.length c0] 24)).heap.size = w.heap.size + 1 := by simp
  have HC1 := Lib.hid (show Below w.heap.size w (w.alloc (.cells #[Value.int .i64 n0.places, Value.slice A0 n0.tasks.length c0] 24)) from (Below.refl w.heap.size w).alloc (Nat.le_refl _) _)
  have hx0_0 : (w.alloc (.cells #[Value.int .i64 n0.places, Value.slice A0 n0.tasks.length c0] 24)).cell? ⟨w.heap.size, 0, none⟩ = some (Value.int .i64 n0.places) := by simp [World.cell?_alloc_new]
  have hx0_1 : (w.alloc (.cells #[Value.int .i64 n0.places, Value.slice A0 n0.tasks.length c0] 24)).cell? ⟨w.heap.size, 1, none⟩ = some (Value.slice A0 n0.tasks.length c0) := by simp [World.cell?_alloc_new]
  generalize w.alloc (.cells #[Value.int .i64 n0.places, Value.slice A0 n0.tasks.length c0] 24) = w1 at *
  go_wp2_with fail
  refine (szNetNet_c n0 _ _ _ (1048576 : Int) _ (hN0.below HC1.out (by omega)) (by omega) (by omega) (by omega)).mono ?_
  rintro e w2 ⟨rfl, hb⟩
  have hs2 : w1.heap.size ≤ w2.heap.size := hb.size
  have HC2 := Lib.hid hb
  replace hx0_0 := (HC2.out.cell (p := ⟨w.heap.size, 0, none⟩) (by dsimp only; omega)).trans hx0_0
  replace hx0_1 := (HC2.out.cell (p := ⟨w.heap.size, 1, none⟩) (by dsimp only; omega)).trans hx0_1
  clear hb
  have hps0 : 0 ≤ netSize n0 := netSize_pos n0
  by_cases hsz0 : (1048576 : Int) < netSize n0
  · rw [cutI_neg (by omega)]; go_wp2; go_ret; exact ⟨rfl, (HC1.out.trans (HC2.out.mono (by omega)))⟩
  rw [cutI_pos (by omega)]
  go_wp2_with fail
  refine (toNetNet_c n0 _ _ _ _ ((hN0.below HC1.out (by omega)).below HC2.out (by omega)) (by omega) (by omega)).mono ?_
  rintro e w3 ⟨uu, rfl, hR2, hb⟩
  have hs3 : w2.heap.size ≤ w3.heap.size := hb.size
  have HC3 := Lib.hid hb
  replace hx0_0 := (HC3.out.cell (p := ⟨w.heap.size, 0, none⟩) (by dsimp only; omega)).trans hx0_0
  replace hx0_1 := (HC3.out.cell (p := ⟨w.heap.size, 1, none⟩) (by dsimp only; omega)).trans hx0_1
  clear hb
  obtain ⟨bb1, rfl⟩ := hR2.form
  go_wp2_with fail
  refine (specNetAsks_c n0 _ _ _ _ hR2.net (by omega)).mono ?_
  rintro e w4 ⟨vv3, rfl, hM_4, hb⟩
  have hs4 : w3.heap.size ≤ w4.heap.size := hb.size
  have HC4 := Lib.hid hb
  replace hx0_0 := (HC4.out.cell (p := ⟨w.heap.size, 0, none⟩) (by dsimp only; omega)).trans hx0_0
  replace hx0_1 := (HC4.out.cell (p := ⟨w.heap.size, 1, none⟩) (by dsimp only; omega)).trans hx0_1
  clear hb
  obtain ⟨AA5, bb6, cc7, rfl, hG8⟩ := hM_4.row
  clear hM_4
  go_wp2_with fail
  refine (toNetNet_c n0 _ _ _ _ ((((hN0.below HC1.out (by omega)).below HC2.out (by omega)).below HC3.out (by omega)).below HC4.out (by omega)) (by omega) (by omega)).mono ?_
  rintro e w5 ⟨uu, rfl, hR10, hb⟩
  have hs5 : w4.heap.size ≤ w5.heap.size := hb.size
  have HC5 := Lib.hid hb
  replace hx0_0 := (HC5.out.cell (p := ⟨w.heap.size, 0, none⟩) (by dsimp only; omega)).trans hx0_0
  replace hx0_1 := (HC5.out.cell (p := ⟨w.heap.size, 1, none⟩) (by dsimp only; omega)).trans hx0_1
  clear hb
  obtain ⟨bb9, rfl⟩ := hR10.form
  go_wp2_with fail
  have hs6 : (w5.alloc (.cells #[Value.int .i64 n0.places, Value.slice (some ⟨bb9, 0, none⟩) n0.tasks.length n0.tasks.length] 30)).heap.size = w5.heap.size + 1 := by simp
  have HC6 := Lib.hid (show Below w5.heap.size w5 (w5.alloc (.cells #[Value.int .i64 n0.places, Value.slice (some ⟨bb9, 0, none⟩) n0.tasks.length n0.tasks.length] 30)) from (Below.refl w5.heap.size w5).alloc (Nat.le_refl _) _)
  replace hx0_0 := (HC6.out.cell (p := ⟨w.heap.size, 0, none⟩) (by dsimp only; omega)).trans hx0_0
  replace hx0_1 := (HC6.out.cell (p := ⟨w.heap.size, 1, none⟩) (by dsimp only; omega)).trans hx0_1
  have hx1_0 : (w5.alloc (.cells #[Value.int .i64 n0.places, Value.slice (some ⟨bb9, 0, none⟩) n0.tasks.length n0.tasks.length] 30)).cell? ⟨w5.heap.size, 0, none⟩ = some (Value.int .i64 n0.places) := by simp [World.cell?_alloc_new]
  have hx1_1 : (w5.alloc (.cells #[Value.int .i64 n0.places, Value.slice (some ⟨bb9, 0, none⟩) n0.tasks.length n0.tasks.length] 30)).cell? ⟨w5.heap.size, 1, none⟩ = some (Value.slice (some ⟨bb9, 0, none⟩) n0.tasks.length n0.tasks.length) := by simp [World.cell?_alloc_new]
  generalize w5.alloc (.cells #[Value.int .i64 n0.places, Value.slice (some ⟨bb9, 0, none⟩) n0.tasks.length n0.tasks.length] 30) = w6 at *
  go_wp2_with fail
  refine (implNetAsks_c n0 _ _ _ _ (hR10.net.below HC6.out (by omega)) (by omega) (netSize_out (by omega))).mono ?_
  rintro e w7 ⟨vv11, rfl, hM_12, hb⟩
  have hs7 : w6.heap.size ≤ w7.heap.size := hb.size
  have HC7 := Lib.hid hb
  replace hx0_0 := (HC7.out.cell (p := ⟨w.heap.size, 0, none⟩) (by dsimp only; omega)).trans hx0_0
  replace hx0_1 := (HC7.out.cell (p := ⟨w.heap.size, 1, none⟩) (by dsimp only; omega)).trans hx0_1
  replace hx1_0 := (HC7.out.cell (p := ⟨w5.heap.size, 0, none⟩) (by dsimp only; omega)).trans hx1_0
  replace hx1_1 := (HC7.out.cell (p := ⟨w5.heap.size, 1, none⟩) (by dsimp only; omega)).trans hx1_1
  clear hb
  obtain ⟨AA13, bb14, cc15, rfl, hG16⟩ := hM_12.row
  clear hM_12
  go_wp2_with fail
  refine (eqIntS_c ((asksL n0)) ((asksL n0)) _ _ _ _ _ _ _ _ _ _ _ _ _ hG16 (((hG8.below HC5.out (by omega)).below HC6.out (by omega)).below HC7.out (by omega)) hrm hrm).mono ?_
  rintro e w8 ⟨rfl, hb⟩
  have hs8 : w7.heap.size ≤ w8.heap.size := hb.size
  have HC8 := Lib.hid hb
  replace hx0_0 := (HC8.out.cell (p := ⟨w.heap.size, 0, none⟩) (by dsimp only; omega)).trans hx0_0
  replace hx0_1 := (HC8.out.cell (p := ⟨w.heap.size, 1, none⟩) (by dsimp only; omega)).trans hx0_1
  replace hx1_0 := (HC8.out.cell (p := ⟨w5.heap.size, 0, none⟩) (by dsimp only; omega)).trans hx1_0
  replace hx1_1 := (HC8.out.cell (p := ⟨w5.heap.size, 1, none⟩) (by dsimp only; omega)).trans hx1_1
  clear hb
  go_wp2_with fail
  have hs9 : w8.drew.heap.size = w8.heap.size := rfl
  have HC9 := Lib.hid (show Below w8.heap.size w8 w8.drew from (Below.refl w8.heap.size w8).drew)
  replace hx0_0 := (HC9.out.cell (p := ⟨w.heap.size, 0, none⟩) (by dsimp only; omega)).trans hx0_0
  replace hx0_1 := (HC9.out.cell (p := ⟨w.heap.size, 1, none⟩) (by dsimp only; omega)).trans hx0_1
  replace hx1_0 := (HC9.out.cell (p := ⟨w5.heap.size, 0, none⟩) (by dsimp only; omega)).trans hx1_0
  replace hx1_1 := (HC9.out.cell (p := ⟨w5.heap.size, 1, none⟩) (by dsimp only; omega)).trans hx1_1
  have HVa := Lib.hid (show NetV w8.drew 0 w.heap.size _ n0 from (((((((((hN0.below HC1.out (by omega)).below HC2.out (by omega)).below HC3.out (by omega)).below HC4.out (by omega)).below HC5.out (by omega)).below HC6.out (by omega)).below HC7.out (by omega)).below HC8.out (by omega)).below HC9.out (by omega)))
  have HXa := Lib.hid (show NetV w8.drew w4.heap.size w5.heap.size _ n0 from ((((hR10.net.below HC6.out (by omega)).below HC7.out (by omega)).below HC8.out (by omega)).below HC9.out (by omega)))
  have hqa : w.heap.size ≤ w8.drew.heap.size := by omega
  have hqs : netSize n0 ≤ 1048576 := by omega
  have hqb : w5.heap.size ≤ w8.drew.heap.size := by omega
  have hqx0 : w.heap.size < w8.drew.heap.size := by omega
  have hqx1 : w5.heap.size < w8.drew.heap.size := by omega
  go_region_held3 (fun w' => w'.cell? ⟨w.heap.size, 0, none⟩ = some (Value.int .i64 n0.places) ∧ w'.cell? ⟨w.heap.size, 1, none⟩ = some (Value.slice A0 n0.tasks.length c0) ∧ w'.cell? ⟨w5.heap.size, 0, none⟩ = some (Value.int .i64 n0.places) ∧ w'.cell? ⟨w5.heap.size, 1, none⟩ = some (Value.slice (some ⟨bb9, 0, none⟩) n0.tasks.length n0.tasks.length)) (first | exact ⟨hx0_0, hx0_1, hx1_0, hx1_1⟩ | exact ⟨hy0_0, hy0_1, hy1_0, hy1_1⟩ | exact ⟨hz0_0, hz0_1, hz1_0, hz1_1⟩)
   (first
    | (go_at_call 6; refine (toNetNet_c n0 _ 0 w.heap.size w8.drew HVa.out hqa hqs).mono ?_; rintro e w10 ⟨uu, rfl, hRe, hb⟩; obtain ⟨bbe, rfl⟩ := hRe.form; have hy0_0 := (hb.cell (p := ⟨w.heap.size, 0, none⟩) hqx0).trans hx0_0; have hy0_1 := (hb.cell (p := ⟨w.heap.size, 1, none⟩) hqx0).trans hx0_1; have hy1_0 := (hb.cell (p := ⟨w5.heap.size, 0, none⟩) hqx1).trans hx1_0; have hy1_1 := (hb.cell (p := ⟨w5.heap.size, 1, none⟩) hqx1).trans hx1_1)
    | (go_at_call 9; refine (eqNetNet_t n0 _ _ _ _ _ _ w10 (HXa.out.below hb hqb) hRe.net (Nat.le_trans hqb hb.size) (Nat.le_refl _)).mono ?_; rintro e w11 ⟨rfl, hb9⟩; have hz0_0 := (hb9.cell (p := ⟨w.heap.size, 0, none⟩) (Nat.lt_of_lt_of_le hqx0 hb.size)).trans hy0_0; have hz0_1 := (hb9.cell (p := ⟨w.heap.size, 1, none⟩) (Nat.lt_of_lt_of_le hqx0 hb.size)).trans hy0_1; have hz1_0 := (hb9.cell (p := ⟨w5.heap.size, 0, none⟩) (Nat.lt_of_lt_of_le hqx1 hb.size)).trans hy1_0; have hz1_1 := (hb9.cell (p := ⟨w5.heap.size, 1, none⟩) (Nat.lt_of_lt_of_le hqx1 hb.size)).trans hy1_1))
  have hs10 : w8.drew.heap.size ≤ w10.heap.size := hb.size
  have HC10 := Lib.hid hb
  have hs11 : w10.heap.size ≤ w11.heap.size := hb9.size
  have HC11 := Lib.hid hb9
  clear hb hb9 hRe HVa HXa hqa hqs hqb hx0_0 hy0_0 hx0_1 hy0_1 hx1_0 hy1_0 hx1_1 hy1_1
  have hx0_0 := hz0_0
  have hx0_1 := hz0_1
  have hx1_0 := hz1_0
  have hx1_1 := hz1_1
  clear hz0_0 hz0_1 hz1_0 hz1_1 hqx0 hqx1
  go_wp2_with fail
  refine (markNetNet_s n0 _ w4.heap.size w5.heap.size _ _ ((((((hR10.below HC6.out (by omega)).below HC7.out (by omega)).below HC8.out (by omega)).below HC9.out (by omega)).below HC10.out (by omega)).below HC11.out (by omega)) (by omega) (by omega) (by omega) (by omega)).mono ?_
  rintro e w12 ⟨kk18, rfl, kk181, kk182, hu⟩
  have hs12 : w11.heap.size ≤ w12.heap.size := hu.size
  have HC12 := Lib.hid hu
  replace hx0_0 := (HC12.out.cell (p := ⟨w.heap.size, 0, none⟩) (by dsimp only; omega) (by dsimp only; omega)).trans hx0_0
  replace hx0_1 := (HC12.out.cell (p := ⟨w.heap.size, 1, none⟩) (by dsimp only; omega) (by dsimp only; omega)).trans hx0_1
  replace hx1_0 := (HC12.out.cell (p := ⟨w5.heap.size, 0, none⟩) (by dsimp only; omega) (by dsimp only; omega)).trans hx1_0
  replace hx1_1 := (HC12.out.cell (p := ⟨w5.heap.size, 1, none⟩) (by dsimp only; omega) (by dsimp only; omega)).trans hx1_1
  clear hu
  go_wp2_with fail
  refine (eqIntS_c ((asksL n0)) ((asksL n0)) _ _ _ _ _ _ _ _ _ _ _ _ _ (((((hG16.below HC8.out (by omega)).below HC9.out (by omega)).below HC10.out (by omega)).below HC11.out (by omega)).chg HC12.out (by omega) (by omega)) ((((((((hG8.below HC5.out (by omega)).below HC6.out (by omega)).below HC7.out (by omega)).below HC8.out (by omega)).below HC9.out (by omega)).below HC10.out (by omega)).below HC11.out (by omega)).chg HC12.out (by omega) (by omega)) hrm hrm).mono ?_
  rintro e w13 ⟨rfl, hb⟩
  have hs13 : w12.heap.size ≤ w13.heap.size := hb.size
  have HC13 := Lib.hid hb
  replace hx0_0 := (HC13.out.cell (p := ⟨w.heap.size, 0, none⟩) (by dsimp only; omega)).trans hx0_0
  replace hx0_1 := (HC13.out.cell (p := ⟨w.heap.size, 1, none⟩) (by dsimp only; omega)).trans hx0_1
  replace hx1_0 := (HC13.out.cell (p := ⟨w5.heap.size, 0, none⟩) (by dsimp only; omega)).trans hx1_0
  replace hx1_1 := (HC13.out.cell (p := ⟨w5.heap.size, 1, none⟩) (by dsimp only; omega)).trans hx1_1
  clear hb
  go_wp2_with fail
  refine (markIntS_c ((asksL n0)) _ _ _ _ _ _ 1 _ ((((((hG16.below HC8.out (by omega)).below HC9.out (by omega)).below HC10.out (by omega)).below HC11.out (by omega)).chg HC12.out (by omega) (by omega)).below HC13.out (by omega)) (by omega) (by omega) (by omega)).mono ?_
  rintro e w14 ⟨rfl, hK19, hu⟩
  have hs14 : w14.heap.size = w13.heap.size := hu.size
  have HC14 := Lib.hid hu
  replace hx0_0 := (HC14.out.cell (p := ⟨w.heap.size, 0, none⟩) (by dsimp only; omega)).trans hx0_0
  replace hx0_1 := (HC14.out.cell (p := ⟨w.heap.size, 1, none⟩) (by dsimp only; omega)).trans hx0_1
  replace hx1_0 := (HC14.out.cell (p := ⟨w5.heap.size, 0, none⟩) (by dsimp only; omega)).trans hx1_0
  replace hx1_1 := (HC14.out.cell (p := ⟨w5.heap.size, 1, none⟩) (by dsimp only; omega)).trans hx1_1
  clear hu
  go_wp2_with fail
  refine (heldIntS_c _ _ _ _ _ _ _ 1 _ hK19 (by omega) (by omega) (by omega)).mono ?_
  rintro e wq ⟨rfl, rfl⟩
  go_wp2_with fail
  refine (toNetNet_c n0 _ _ _ _ ((((((((((((((hN0.below HC1.out (by omega)).below HC2.out (by omega)).below HC3.out (by omega)).below HC4.out (by omega)).below HC5.out (by omega)).below HC6.out (by omega)).below HC7.out (by omega)).below HC8.out (by omega)).below HC9.out (by omega)).below HC10.out (by omega)).below HC11.out (by omega)).chg HC12.out (by omega) (by omega)).below HC13.out (by omega)).upd HC14.out (by omega)) (by omega) (by omega)).mono ?_
  rintro e w15 ⟨uu, rfl, hR21, hb⟩
  have hs15 : w14.heap.size ≤ w15.heap.size := hb.size
  have HC15 := Lib.hid hb
  replace hx0_0 := (HC15.out.cell (p := ⟨w.heap.size, 0, none⟩) (by dsimp only; omega)).trans hx0_0
  replace hx0_1 := (HC15.out.cell (p := ⟨w.heap.size, 1, none⟩) (by dsimp only; omega)).trans hx0_1
  replace hx1_0 := (HC15.out.cell (p := ⟨w5.heap.size, 0, none⟩) (by dsimp only; omega)).trans hx1_0
  replace hx1_1 := (HC15.out.cell (p := ⟨w5.heap.size, 1, none⟩) (by dsimp only; omega)).trans hx1_1
  clear hb
  obtain ⟨bb20, rfl⟩ := hR21.form
  go_wp2_with fail
  refine (implNetAsks_c n0 _ _ _ _ hR21.net (by omega) (netSize_out (by omega))).mono ?_
  rintro e w16 ⟨vv22, rfl, hM_23, hb⟩
  have hs16 : w15.heap.size ≤ w16.heap.size := hb.size
  have HC16 := Lib.hid hb
  replace hx0_0 := (HC16.out.cell (p := ⟨w.heap.size, 0, none⟩) (by dsimp only; omega)).trans hx0_0
  replace hx0_1 := (HC16.out.cell (p := ⟨w.heap.size, 1, none⟩) (by dsimp only; omega)).trans hx0_1
  replace hx1_0 := (HC16.out.cell (p := ⟨w5.heap.size, 0, none⟩) (by dsimp only; omega)).trans hx1_0
  replace hx1_1 := (HC16.out.cell (p := ⟨w5.heap.size, 1, none⟩) (by dsimp only; omega)).trans hx1_1
  clear hb
  obtain ⟨AA24, bb25, cc26, rfl, hG27⟩ := hM_23.row
  clear hM_23
  go_wp2_with fail
  refine (eqIntS_c ((asksL n0)) ((asksL n0)) _ _ _ _ _ _ _ _ _ _ _ _ _ hG27 ((((((((((((hG8.below HC5.out (by omega)).below HC6.out (by omega)).below HC7.out (by omega)).below HC8.out (by omega)).below HC9.out (by omega)).below HC10.out (by omega)).below HC11.out (by omega)).chg HC12.out (by omega) (by omega)).below HC13.out (by omega)).upd HC14.out (by omega)).below HC15.out (by omega)).below HC16.out (by omega)) hrm hrm).mono ?_
  rintro e w17 ⟨rfl, hb⟩
  have hs17 : w16.heap.size ≤ w17.heap.size := hb.size
  have HC17 := Lib.hid hb
  replace hx0_0 := (HC17.out.cell (p := ⟨w.heap.size, 0, none⟩) (by dsimp only; omega)).trans hx0_0
  replace hx0_1 := (HC17.out.cell (p := ⟨w.heap.size, 1, none⟩) (by dsimp only; omega)).trans hx0_1
  replace hx1_0 := (HC17.out.cell (p := ⟨w5.heap.size, 0, none⟩) (by dsimp only; omega)).trans hx1_0
  replace hx1_1 := (HC17.out.cell (p := ⟨w5.heap.size, 1, none⟩) (by dsimp only; omega)).trans hx1_1
  clear hb
  go_wp2_with fail
  refine (heldIntS_c _ _ _ _ _ _ _ 1 _ (((hK19.below HC15.out (by omega)).below HC16.out (by omega)).below HC17.out (by omega)) (by omega) (by omega) (by omega)).mono ?_
  rintro e wq ⟨rfl, rfl⟩
  go_wp2
  go_ret
  exact ⟨rfl, ((((((((((((((((HC1.out.trans (HC2.out.mono (by omega))).trans (HC3.out.mono (by omega))).trans (HC4.out.mono (by omega))).trans (HC5.out.mono (by omega))).trans (HC6.out.mono (by omega))).trans (HC7.out.mono (by omega))).trans (HC8.out.mono (by omega))).trans (HC9.out.mono (by omega))).trans (HC10.out.mono (by omega))).trans (HC11.out.mono (by omega))).trans (HC12.out.below (by omega) (by omega))).trans (HC13.out.mono (by omega))).trans (HC14.out.below (by omega))).trans (HC15.out.mono (by omega))).trans (HC16.out.mono (by omega))).trans (HC17.out.mono (by omega)))⟩

end Go.Proofs.Ytjbfkgckpbpdeaa
