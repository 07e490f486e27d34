/- Laws of the seat: the program's function returns what the reference's does. EnaTasks, EnaWaits. -/
import Derived.Test.YtililbgpjbpnkaaEnaTasks
import Derived.Test.YtililbgpjbpnkaaNetMark2
import Derived.Test.YtililbgpjbpnkaaLB1
import Derived.StillTailTactics
import Derived.Deep.RegionHeld3
namespace Go.Proofs.Ytililbgpjbpnkaa
open Go.RowKit
set_option linter.unusedVariables false
set_option linter.unusedSimpArgs false

theorem markCasItemS_u (z : List NItem) (lo hi : Nat) (A : Option Addr) (b off c : Nat) (k0 : Int) (w : World) (hV : Row w lo hi A b off (itemCells z)) (hm : z.length ≤ 16777216) (hk0 : 0 ≤ k0) (hk1 : k0 ≤ 1099511627776) :
    Calls Try.prog 51 #[.slice A z.length c, .int .i64 k0] w fun e w' => e = .returned (.int .i64 (k0 + 3 * (z.length : Int))) ∧ Upd lo hi w w' :=
  (markCasItemS_s z.length lo hi A b off c k0 w (IntRow.of_items hV) hm hk0 hk1).mono fun e w' h => ⟨h.1, h.2.upd⟩

set_option maxRecDepth 10000 in
set_option maxHeartbeats 2000000 in
theorem exactEnaTasks_walk {n0 : NNet} {v0 : Value} {z1 : List Int} {A1 : Option Addr} {b1 o1 c1 : Nat} {z2 : List NItem} {A2 : Option Addr} {b2 o2 c2 : Nat} (w : World) (hV0 : NetV w 0 w.heap.size v0 n0) (hV1 : Row w 0 w.heap.size A1 b1 o1 (ints z1)) (hm1 : z1.length ≤ maxLen) (hV2 : Row w 0 w.heap.size A2 b2 o2 (itemCells z2)) (hm2 : z2.length ≤ maxLen) :
    Calls Try.prog 13 #[v0, .slice A1 z1.length c1, .slice A2 z2.length c2] w fun e w' => e = .returned (.bool true) ∧ Below w.heap.size w w' := by
  have hN0 := hV0
  obtain ⟨A0, b0, o0, c0, ms0, rfl, hm0, hT0⟩ := hV0
  clear hT0
  unfold maxLen at hm0
  have hM1 := hm1
  unfold maxLen at hm1
  have hM2 := hm2
  unfold maxLen at hm2
  go_enter Try.func13, Try.ntmps13
  by_cases hbig1 : 1048576 < z1.length
  · go_wp2; go_ret; exact ⟨rfl, ((Below.refl _ _).alloc (by simp) _)⟩
  have hrl : ((enaL n0 z1 z2)).length ≤ 1048576 := enaL_len _ _ _
  have hrm : ((enaL n0 z1 z2)).length ≤ maxLen := by unfold maxLen; omega
  go_wp2_with fail
  have hs1 : (w.alloc (.cells #[Value.int .i64 n0.places, Value.slice A0 n0.tasks.length c0] 24)).heap.size = w.heap.size + 1 := by simp
  have HC1 := Lib.hid (show Below w.heap.size w (w.alloc (.cells #[Value.int .i64 n0.places, Value.slice A0 n0.tasks.length c0] 24)) from (Below.refl w.heap.size w).alloc (Nat.le_refl _) _)
  have hx0_0 : (w.alloc (.cells #[Value.int .i64 n0.places, Value.slice A0 n0.tasks.length c0] 24)).cell? ⟨w.heap.size, 0, none⟩ = some (Value.int .i64 n0.places) := by simp [World.cell?_alloc_new]
  have hx0_1 : (w.alloc (.cells #[Value.int .i64 n0.places, Value.slice A0 n0.tasks.length c0] 24)).cell? ⟨w.heap.size, 1, none⟩ = some (Value.slice A0 n0.tasks.length c0) := by simp [World.cell?_alloc_new]
  generalize w.alloc (.cells #[Value.int .i64 n0.places, Value.slice A0 n0.tasks.length c0] 24) = w1 at *
  go_wp2_with fail
  refine (szNetNet_c n0 _ _ _ (1048576 : Int) _ (hN0.below HC1.out (by omega)) (by omega) (by omega) (by omega)).mono ?_
  rintro e w2 ⟨rfl, hb⟩
  have hs2 : w1.heap.size ≤ w2.heap.size := hb.size
  have HC2 := Lib.hid hb
  replace hx0_0 := (HC2.out.cell (p := ⟨w.heap.size, 0, none⟩) (by dsimp only; omega)).trans hx0_0
  replace hx0_1 := (HC2.out.cell (p := ⟨w.heap.size, 1, none⟩) (by dsimp only; omega)).trans hx0_1
  clear hb
  have hps0 : 0 ≤ netSize n0 := netSize_pos n0
  by_cases hsz0 : (1048576 : Int) < netSize n0
  · rw [cutI_neg (by omega)]; go_wp2; go_ret; exact ⟨rfl, (HC1.out.trans (HC2.out.mono (by omega)))⟩
  rw [cutI_pos (by omega)]
  go_wp2_with fail
  refine (szCasItemS_c z2.length A2 c2 ((1048576 : Int) - netSize n0) _ hM2 (by omega) (by omega)).mono ?_
  rintro e wq ⟨rfl, rfl⟩
  have hps2 : 0 ≤ (z2.length : Int) := Int.natCast_nonneg z2.length
  by_cases hsz2 : ((1048576 : Int) - netSize n0) < (z2.length : Int)
  · rw [cutI_neg (by omega)]; go_wp2; go_ret; exact ⟨rfl, (HC1.out.trans (HC2.out.mono (by omega)))⟩
  rw [cutI_pos (by omega)]
  go_wp2_with fail
  refine (toNetNet_c n0 _ _ _ _ ((hN0.below HC1.out (by omega)).below HC2.out (by omega)) (by omega) (by omega)).mono ?_
  rintro e w3 ⟨uu, rfl, hR2, hb⟩
  have hs3 : w2.heap.size ≤ w3.heap.size := hb.size
  have HC3 := Lib.hid hb
  replace hx0_0 := (HC3.out.cell (p := ⟨w.heap.size, 0, none⟩) (by dsimp only; omega)).trans hx0_0
  replace hx0_1 := (HC3.out.cell (p := ⟨w.heap.size, 1, none⟩) (by dsimp only; omega)).trans hx0_1
  clear hb
  obtain ⟨bb1, rfl⟩ := hR2.form
  go_wp2_with fail
  refine (toIntS_c z1 _ _ A1 b1 o1 c1 _ (((hV1.below HC1.out (by omega)).below HC2.out (by omega)).below HC3.out (by omega)) (by omega) (by omega)).mono ?_
  rintro e w4 ⟨bb3, rfl, hR4, hb⟩
  have hs4 : w3.heap.size ≤ w4.heap.size := hb.size
  have HC4 := Lib.hid hb
  replace hx0_0 := (HC4.out.cell (p := ⟨w.heap.size, 0, none⟩) (by dsimp only; omega)).trans hx0_0
  replace hx0_1 := (HC4.out.cell (p := ⟨w.heap.size, 1, none⟩) (by dsimp only; omega)).trans hx0_1
  clear hb
  go_wp2_with fail
  refine (toCasItemS_c z2 _ _ A2 b2 o2 c2 _ ((((hV2.below HC1.out (by omega)).below HC2.out (by omega)).below HC3.out (by omega)).below HC4.out (by omega)) (by omega) (by omega)).mono ?_
  rintro e w5 ⟨bb5, rfl, hR6a, hR6b, hR6, hb⟩
  have hs5 : w4.heap.size ≤ w5.heap.size := hb.size
  have HC5 := Lib.hid hb
  replace hx0_0 := (HC5.out.cell (p := ⟨w.heap.size, 0, none⟩) (by dsimp only; omega)).trans hx0_0
  replace hx0_1 := (HC5.out.cell (p := ⟨w.heap.size, 1, none⟩) (by dsimp only; omega)).trans hx0_1
  clear hb
  replace hR6 := hR6.more hR6a hR6b
  clear hR6a hR6b
  go_wp2_with fail
  refine (specEnaTasks_c n0 _ z1 z2 _ _ _ _ _ _ _ _ _ _ _ _ _ _ _ ((hR2.net.below HC4.out (by omega)).below HC5.out (by omega)) (by omega) (hR4.below HC5.out (by omega)) (by omega) hR6 (by omega) hM1 hM2).mono ?_
  rintro e w6 ⟨vv7, rfl, hM_8, hb⟩
  have hs6 : w5.heap.size ≤ w6.heap.size := hb.size
  have HC6 := Lib.hid hb
  replace hx0_0 := (HC6.out.cell (p := ⟨w.heap.size, 0, none⟩) (by dsimp only; omega)).trans hx0_0
  replace hx0_1 := (HC6.out.cell (p := ⟨w.heap.size, 1, none⟩) (by dsimp only; omega)).trans hx0_1
  clear hb
  obtain ⟨AA9, bb10, cc11, rfl, hG12⟩ := hM_8.row
  clear hM_8
  go_wp2_with fail
  refine (toNetNet_c n0 _ _ _ _ ((((((hN0.below HC1.out (by omega)).below HC2.out (by omega)).below HC3.out (by omega)).below HC4.out (by omega)).below HC5.out (by omega)).below HC6.out (by omega)) (by omega) (by omega)).mono ?_
  rintro e w7 ⟨uu, rfl, hR14, hb⟩
  have hs7 : w6.heap.size ≤ w7.heap.size := hb.size
  have HC7 := Lib.hid hb
  replace hx0_0 := (HC7.out.cell (p := ⟨w.heap.size, 0, none⟩) (by dsimp only; omega)).trans hx0_0
  replace hx0_1 := (HC7.out.cell (p := ⟨w.heap.size, 1, none⟩) (by dsimp only; omega)).trans hx0_1
  clear hb
  obtain ⟨bb13, rfl⟩ := hR14.form
  go_wp2_with fail
  have hs8 : (w7.alloc (.cells #[Value.int .i64 n0.places, Value.slice (some ⟨bb13, 0, none⟩) n0.tasks.length n0.tasks.length] 29)).heap.size = w7.heap.size + 1 := by simp
  have HC8 := Lib.hid (show Below w7.heap.size w7 (w7.alloc (.cells #[Value.int .i64 n0.places, Value.slice (some ⟨bb13, 0, none⟩) n0.tasks.length n0.tasks.length] 29)) from (Below.refl w7.heap.size w7).alloc (Nat.le_refl _) _)
  replace hx0_0 := (HC8.out.cell (p := ⟨w.heap.size, 0, none⟩) (by dsimp only; omega)).trans hx0_0
  replace hx0_1 := (HC8.out.cell (p := ⟨w.heap.size, 1, none⟩) (by dsimp only; omega)).trans hx0_1
  have hx1_0 : (w7.alloc (.cells #[Value.int .i64 n0.places, Value.slice (some ⟨bb13, 0, none⟩) n0.tasks.length n0.tasks.length] 29)).cell? ⟨w7.heap.size, 0, none⟩ = some (Value.int .i64 n0.places) := by simp [World.cell?_alloc_new]
  have hx1_1 : (w7.alloc (.cells #[Value.int .i64 n0.places, Value.slice (some ⟨bb13, 0, none⟩) n0.tasks.length n0.tasks.length] 29)).cell? ⟨w7.heap.size, 1, none⟩ = some (Value.slice (some ⟨bb13, 0, none⟩) n0.tasks.length n0.tasks.length) := by simp [World.cell?_alloc_new]
  generalize w7.alloc (.cells #[Value.int .i64 n0.places, Value.slice (some ⟨bb13, 0, none⟩) n0.tasks.length n0.tasks.length] 29) = w8 at *
  go_wp2_with fail
  refine (toIntS_c z1 _ _ A1 b1 o1 c1 _ ((((((((hV1.below HC1.out (by omega)).below HC2.out (by omega)).below HC3.out (by omega)).below HC4.out (by omega)).below HC5.out (by omega)).below HC6.out (by omega)).below HC7.out (by omega)).below HC8.out (by omega)) (by omega) (by omega)).mono ?_
  rintro e w9 ⟨bb15, rfl, hR16, hb⟩
  have hs9 : w8.heap.size ≤ w9.heap.size := hb.size
  have HC9 := Lib.hid hb
  replace hx0_0 := (HC9.out.cell (p := ⟨w.heap.size, 0, none⟩) (by dsimp only; omega)).trans hx0_0
  replace hx0_1 := (HC9.out.cell (p := ⟨w.heap.size, 1, none⟩) (by dsimp only; omega)).trans hx0_1
  replace hx1_0 := (HC9.out.cell (p := ⟨w7.heap.size, 0, none⟩) (by dsimp only; omega)).trans hx1_0
  replace hx1_1 := (HC9.out.cell (p := ⟨w7.heap.size, 1, none⟩) (by dsimp only; omega)).trans hx1_1
  clear hb
  go_wp2_with fail
  refine (toCasItemS_c z2 _ _ A2 b2 o2 c2 _ (((((((((hV2.below HC1.out (by omega)).below HC2.out (by omega)).below HC3.out (by omega)).below HC4.out (by omega)).below HC5.out (by omega)).below HC6.out (by omega)).below HC7.out (by omega)).below HC8.out (by omega)).below HC9.out (by omega)) (by omega) (by omega)).mono ?_
  rintro e w10 ⟨bb17, rfl, hR18a, hR18b, hR18, hb⟩
  have hs10 : w9.heap.size ≤ w10.heap.size := hb.size
  have HC10 := Lib.hid hb
  replace hx0_0 := (HC10.out.cell (p := ⟨w.heap.size, 0, none⟩) (by dsimp only; omega)).trans hx0_0
  replace hx0_1 := (HC10.out.cell (p := ⟨w.heap.size, 1, none⟩) (by dsimp only; omega)).trans hx0_1
  replace hx1_0 := (HC10.out.cell (p := ⟨w7.heap.size, 0, none⟩) (by dsimp only; omega)).trans hx1_0
  replace hx1_1 := (HC10.out.cell (p := ⟨w7.heap.size, 1, none⟩) (by dsimp only; omega)).trans hx1_1
  clear hb
  replace hR18 := hR18.more hR18a hR18b
  clear hR18a hR18b
  go_wp2_with fail
  refine (implEnaTasks_c n0 _ z1 z2 _ _ _ _ _ _ _ _ _ _ _ _ _ _ _ (((hR14.net.below HC8.out (by omega)).below HC9.out (by omega)).below HC10.out (by omega)) (by omega) (netSize_out (by omega)) (hR16.below HC10.out (by omega)) (by omega) hR18 (by omega) hM1 hM2).mono ?_
  rintro e w11 ⟨vv19, rfl, hM_20, hb⟩
  have hs11 : w10.heap.size ≤ w11.heap.size := hb.size
  have HC11 := Lib.hid hb
  replace hx0_0 := (HC11.out.cell (p := ⟨w.heap.size, 0, none⟩) (by dsimp only; omega)).trans hx0_0
  replace hx0_1 := (HC11.out.cell (p := ⟨w.heap.size, 1, none⟩) (by dsimp only; omega)).trans hx0_1
  replace hx1_0 := (HC11.out.cell (p := ⟨w7.heap.size, 0, none⟩) (by dsimp only; omega)).trans hx1_0
  replace hx1_1 := (HC11.out.cell (p := ⟨w7.heap.size, 1, none⟩) (by dsimp only; omega)).trans hx1_1
  clear hb
  obtain ⟨AA21, bb22, cc23, rfl, hG24⟩ := hM_20.row
  clear hM_20
  go_wp2_with fail
  refine (eqIntS_c ((enaL n0 z1 z2)) ((enaL n0 z1 z2)) _ _ _ _ _ _ _ _ _ _ _ _ _ hG24 (((((hG12.below HC7.out (by omega)).below HC8.out (by omega)).below HC9.out (by omega)).below HC10.out (by omega)).below HC11.out (by omega)) hrm hrm).mono ?_
  rintro e w12 ⟨rfl, hb⟩
  have hs12 : w11.heap.size ≤ w12.heap.size := hb.size
  have HC12 := Lib.hid hb
  replace hx0_0 := (HC12.out.cell (p := ⟨w.heap.size, 0, none⟩) (by dsimp only; omega)).trans hx0_0
  replace hx0_1 := (HC12.out.cell (p := ⟨w.heap.size, 1, none⟩) (by dsimp only; omega)).trans hx0_1
  replace hx1_0 := (HC12.out.cell (p := ⟨w7.heap.size, 0, none⟩) (by dsimp only; omega)).trans hx1_0
  replace hx1_1 := (HC12.out.cell (p := ⟨w7.heap.size, 1, none⟩) (by dsimp only; omega)).trans hx1_1
  clear hb
  go_wp2_with fail
  have hs13 : w12.drew.heap.size = w12.heap.size := rfl
  have HC13 := Lib.hid (show Below w12.heap.size w12 w12.drew from (Below.refl w12.heap.size w12).drew)
  replace hx0_0 := (HC13.out.cell (p := ⟨w.heap.size, 0, none⟩) (by dsimp only; omega)).trans hx0_0
  replace hx0_1 := (HC13.out.cell (p := ⟨w.heap.size, 1, none⟩) (by dsimp only; omega)).trans hx0_1
  replace hx1_0 := (HC13.out.cell (p := ⟨w7.heap.size, 0, none⟩) (by dsimp only; omega)).trans hx1_0
  replace hx1_1 := (HC13.out.cell (p := ⟨w7.heap.size, 1, none⟩) (by dsimp only; omega)).trans hx1_1
  have HVa := Lib.hid (show NetV w12.drew 0 w.heap.size _ n0 from (((((((((((((hN0.below HC1.out (by omega)).below HC2.out (by omega)).below HC3.out (by omega)).below HC4.out (by omega)).below HC5.out (by omega)).below HC6.out (by omega)).below HC7.out (by omega)).below HC8.out (by omega)).below HC9.out (by omega)).below HC10.out (by omega)).below HC11.out (by omega)).below HC12.out (by omega)).below HC13.out (by omega)))
  have HXa := Lib.hid (show NetV w12.drew w6.heap.size w7.heap.size _ n0 from ((((((hR14.net.below HC8.out (by omega)).below HC9.out (by omega)).below HC10.out (by omega)).below HC11.out (by omega)).below HC12.out (by omega)).below HC13.out (by omega)))
  have hqa : w.heap.size ≤ w12.drew.heap.size := by omega
  have hqs : netSize n0 ≤ 1048576 := by omega
  have hqb : w7.heap.size ≤ w12.drew.heap.size := by omega
  have hqx0 : w.heap.size < w12.drew.heap.size := by omega
  have hqx1 : w7.heap.size < w12.drew.heap.size := by omega
  go_region_held3 (fun w' => w'.cell? ⟨w.heap.size, 0, none⟩ = some (Value.int .i64 n0.places) ∧ w'.cell? ⟨w.heap.size, 1, none⟩ = some (Value.slice A0 n0.tasks.length c0) ∧ w'.cell? ⟨w7.heap.size, 0, none⟩ = some (Value.int .i64 n0.places) ∧ w'.cell? ⟨w7.heap.size, 1, none⟩ = some (Value.slice (some ⟨bb13, 0, none⟩) n0.tasks.length n0.tasks.length)) (first | exact ⟨hx0_0, hx0_1, hx1_0, hx1_1⟩ | exact ⟨hy0_0, hy0_1, hy1_0, hy1_1⟩ | exact ⟨hz0_0, hz0_1, hz1_0, hz1_1⟩)
   (first
    | (go_at_call 17; refine (toNetNet_c n0 _ 0 w.heap.size w12.drew HVa.out hqa hqs).mono ?_; rintro e w14 ⟨uu, rfl, hRe, hb⟩; obtain ⟨bbe, rfl⟩ := hRe.form; have hy0_0 := (hb.cell (p := ⟨w.heap.size, 0, none⟩) hqx0).trans hx0_0; have hy0_1 := (hb.cell (p := ⟨w.heap.size, 1, none⟩) hqx0).trans hx0_1; have hy1_0 := (hb.cell (p := ⟨w7.heap.size, 0, none⟩) hqx1).trans hx1_0; have hy1_1 := (hb.cell (p := ⟨w7.heap.size, 1, none⟩) hqx1).trans hx1_1)
    | (go_at_call 19; refine (eqNetNet_t n0 _ _ _ _ _ _ w14 (HXa.out.below hb hqb) hRe.net (Nat.le_trans hqb hb.size) (Nat.le_refl _)).mono ?_; rintro e w15 ⟨rfl, hb9⟩; have hz0_0 := (hb9.cell (p := ⟨w.heap.size, 0, none⟩) (Nat.lt_of_lt_of_le hqx0 hb.size)).trans hy0_0; have hz0_1 := (hb9.cell (p := ⟨w.heap.size, 1, none⟩) (Nat.lt_of_lt_of_le hqx0 hb.size)).trans hy0_1; have hz1_0 := (hb9.cell (p := ⟨w7.heap.size, 0, none⟩) (Nat.lt_of_lt_of_le hqx1 hb.size)).trans hy1_0; have hz1_1 := (hb9.cell (p := ⟨w7.heap.size, 1, none⟩) (Nat.lt_of_lt_of_le hqx1 hb.size)).trans hy1_1))
  have hs14 : w12.drew.heap.size ≤ w14.heap.size := hb.size
  have HC14 := Lib.hid hb
  have hs15 : w14.heap.size ≤ w15.heap.size := hb9.size
  have HC15 := Lib.hid hb9
  clear hb hb9 hRe HVa HXa hqa hqs hqb hx0_0 hy0_0 hx0_1 hy0_1 hx1_0 hy1_0 hx1_1 hy1_1
  have hx0_0 := hz0_0
  have hx0_1 := hz0_1
  have hx1_0 := hz1_0
  have hx1_1 := hz1_1
  clear hz0_0 hz0_1 hz1_0 hz1_1 hqx0 hqx1
  go_wp2_with fail
  refine (toIntS_c z1 _ _ A1 b1 o1 c1 _ (((((((((((((((hV1.below HC1.out (by omega)).below HC2.out (by omega)).below HC3.out (by omega)).below HC4.out (by omega)).below HC5.out (by omega)).below HC6.out (by omega)).below HC7.out (by omega)).below HC8.out (by omega)).below HC9.out (by omega)).below HC10.out (by omega)).below HC11.out (by omega)).below HC12.out (by omega)).below HC13.out (by omega)).below HC14.out (by omega)).below HC15.out (by omega)) (by omega) (by omega)).mono ?_
  rintro e w16 ⟨bb25, rfl, hR26, hb⟩
  have hs16 : w15.heap.size ≤ w16.heap.size := hb.size
  have HC16 := Lib.hid hb
  replace hx0_0 := (HC16.out.cell (p := ⟨w.heap.size, 0, none⟩) (by dsimp only; omega)).trans hx0_0
  replace hx0_1 := (HC16.out.cell (p := ⟨w.heap.size, 1, none⟩) (by dsimp only; omega)).trans hx0_1
  replace hx1_0 := (HC16.out.cell (p := ⟨w7.heap.size, 0, none⟩) (by dsimp only; omega)).trans hx1_0
  replace hx1_1 := (HC16.out.cell (p := ⟨w7.heap.size, 1, none⟩) (by dsimp only; omega)).trans hx1_1
  clear hb
  go_wp2_with fail
  refine (eqIntS_c z1 z1 _ _ _ _ _ _ _ _ _ _ _ _ _ (((((((hR16.below HC10.out (by omega)).below HC11.out (by omega)).below HC12.out (by omega)).below HC13.out (by omega)).below HC14.out (by omega)).below HC15.out (by omega)).below HC16.out (by omega)) hR26 hM1 hM1).mono ?_
  rintro e w17 ⟨rfl, hb⟩
  have hs17 : w16.heap.size ≤ w17.heap.size := hb.size
  have HC17 := Lib.hid hb
  replace hx0_0 := (HC17.out.cell (p := ⟨w.heap.size, 0, none⟩) (by dsimp only; omega)).trans hx0_0
  replace hx0_1 := (HC17.out.cell (p := ⟨w.heap.size, 1, none⟩) (by dsimp only; omega)).trans hx0_1
  replace hx1_0 := (HC17.out.cell (p := ⟨w7.heap.size, 0, none⟩) (by dsimp only; omega)).trans hx1_0
  replace hx1_1 := (HC17.out.cell (p := ⟨w7.heap.size, 1, none⟩) (by dsimp only; omega)).trans hx1_1
  clear hb
  go_wp2_with fail
  refine (toCasItemS_c z2 _ _ A2 b2 o2 c2 _ (((((((((((((((((hV2.below HC1.out (by omega)).below HC2.out (by omega)).below HC3.out (by omega)).below HC4.out (by omega)).below HC5.out (by omega)).below HC6.out (by omega)).below HC7.out (by omega)).below HC8.out (by omega)).below HC9.out (by omega)).below HC10.out (by omega)).below HC11.out (by omega)).below HC12.out (by omega)).below HC13.out (by omega)).below HC14.out (by omega)).below HC15.out (by omega)).below HC16.out (by omega)).below HC17.out (by omega)) (by omega) (by omega)).mono ?_
  rintro e w18 ⟨bb27, rfl, hR28a, hR28b, hR28, hb⟩
  have hs18 : w17.heap.size ≤ w18.heap.size := hb.size
  have HC18 := Lib.hid hb
  replace hx0_0 := (HC18.out.cell (p := ⟨w.heap.size, 0, none⟩) (by dsimp only; omega)).trans hx0_0
  replace hx0_1 := (HC18.out.cell (p := ⟨w.heap.size, 1, none⟩) (by dsimp only; omega)).trans hx0_1
  replace hx1_0 := (HC18.out.cell (p := ⟨w7.heap.size, 0, none⟩) (by dsimp only; omega)).trans hx1_0
  replace hx1_1 := (HC18.out.cell (p := ⟨w7.heap.size, 1, none⟩) (by dsimp only; omega)).trans hx1_1
  clear hb
  replace hR28 := hR28.more hR28a hR28b
  clear hR28a hR28b
  go_wp2_with fail
  refine (eqCasItemS_t z2 _ _ _ _ _ _ _ _ _ _ _ _ _ ((((((((hR18.below HC11.out (by omega)).below HC12.out (by omega)).below HC13.out (by omega)).below HC14.out (by omega)).below HC15.out (by omega)).below HC16.out (by omega)).below HC17.out (by omega)).below HC18.out (by omega)) hR28 (by omega) (by omega) hM2).mono ?_
  rintro e w19 ⟨rfl, hb⟩
  have hs19 : w18.heap.size ≤ w19.heap.size := hb.size
  have HC19 := Lib.hid hb
  replace hx0_0 := (HC19.out.cell (p := ⟨w.heap.size, 0, none⟩) (by dsimp only; omega)).trans hx0_0
  replace hx0_1 := (HC19.out.cell (p := ⟨w.heap.size, 1, none⟩) (by dsimp only; omega)).trans hx0_1
  replace hx1_0 := (HC19.out.cell (p := ⟨w7.heap.size, 0, none⟩) (by dsimp only; omega)).trans hx1_0
  replace hx1_1 := (HC19.out.cell (p := ⟨w7.heap.size, 1, none⟩) (by dsimp only; omega)).trans hx1_1
  clear hb
  go_wp2_with fail
  refine (markNetNet_s n0 _ w6.heap.size w7.heap.size _ _ ((((((((((((hR14.below HC8.out (by omega)).below HC9.out (by omega)).below HC10.out (by omega)).below HC11.out (by omega)).below HC12.out (by omega)).below HC13.out (by omega)).below HC14.out (by omega)).below HC15.out (by omega)).below HC16.out (by omega)).below HC17.out (by omega)).below HC18.out (by omega)).below HC19.out (by omega)) (by omega) (by omega) (by omega) (by omega)).mono ?_
  rintro e w20 ⟨kk30, rfl, kk301, kk302, hu⟩
  have hs20 : w19.heap.size ≤ w20.heap.size := hu.size
  have HC20 := Lib.hid hu
  replace hx0_0 := (HC20.out.cell (p := ⟨w.heap.size, 0, none⟩) (by dsimp only; omega) (by dsimp only; omega)).trans hx0_0
  replace hx0_1 := (HC20.out.cell (p := ⟨w.heap.size, 1, none⟩) (by dsimp only; omega) (by dsimp only; omega)).trans hx0_1
  replace hx1_0 := (HC20.out.cell (p := ⟨w7.heap.size, 0, none⟩) (by dsimp only; omega) (by dsimp only; omega)).trans hx1_0
  replace hx1_1 := (HC20.out.cell (p := ⟨w7.heap.size, 1, none⟩) (by dsimp only; omega) (by dsimp only; omega)).trans hx1_1
  clear hu
  go_wp2_with fail
  refine (markIntS_c z1 _ _ _ _ _ _ kk30 _ (((((((((((hR16.below HC10.out (by omega)).below HC11.out (by omega)).below HC12.out (by omega)).below HC13.out (by omega)).below HC14.out (by omega)).below HC15.out (by omega)).below HC16.out (by omega)).below HC17.out (by omega)).below HC18.out (by omega)).below HC19.out (by omega)).chg HC20.out (by omega) (by omega)) (by omega) (by omega) (by omega)).mono ?_
  rintro e w21 ⟨rfl, hK31, hu⟩
  have hs21 : w21.heap.size = w20.heap.size := hu.size
  have HC21 := Lib.hid hu
  replace hx0_0 := (HC21.out.cell (p := ⟨w.heap.size, 0, none⟩) (by dsimp only; omega)).trans hx0_0
  replace hx0_1 := (HC21.out.cell (p := ⟨w.heap.size, 1, none⟩) (by dsimp only; omega)).trans hx0_1
  replace hx1_0 := (HC21.out.cell (p := ⟨w7.heap.size, 0, none⟩) (by dsimp only; omega)).trans hx1_0
  replace hx1_1 := (HC21.out.cell (p := ⟨w7.heap.size, 1, none⟩) (by dsimp only; omega)).trans hx1_1
  clear hu
  clear hK31
  go_wp2_with fail
  refine (markCasItemS_u z2 _ _ _ _ _ _ _ _ (((((((((((hR18.below HC11.out (by omega)).below HC12.out (by omega)).below HC13.out (by omega)).below HC14.out (by omega)).below HC15.out (by omega)).below HC16.out (by omega)).below HC17.out (by omega)).below HC18.out (by omega)).below HC19.out (by omega)).chg HC20.out (by omega) (by omega)).upd HC21.out (by omega)) (by omega) (by omega) (by omega)).mono ?_
  rintro e w22 ⟨rfl, hu⟩
  have hs22 : w22.heap.size = w21.heap.size := hu.size
  have HC22 := Lib.hid hu
  replace hx0_0 := (HC22.out.cell (p := ⟨w.heap.size, 0, none⟩) (by dsimp only; omega)).trans hx0_0
  replace hx0_1 := (HC22.out.cell (p := ⟨w.heap.size, 1, none⟩) (by dsimp only; omega)).trans hx0_1
  replace hx1_0 := (HC22.out.cell (p := ⟨w7.heap.size, 0, none⟩) (by dsimp only; omega)).trans hx1_0
  replace hx1_1 := (HC22.out.cell (p := ⟨w7.heap.size, 1, none⟩) (by dsimp only; omega)).trans hx1_1
  clear hu
  go_wp2_with fail
  refine (eqIntS_c ((enaL n0 z1 z2)) ((enaL n0 z1 z2)) _ _ _ _ _ _ _ _ _ _ _ _ _ (((((((((((hG24.below HC12.out (by omega)).below HC13.out (by omega)).below HC14.out (by omega)).below HC15.out (by omega)).below HC16.out (by omega)).below HC17.out (by omega)).below HC18.out (by omega)).below HC19.out (by omega)).chg HC20.out (by omega) (by omega)).upd HC21.out (by omega)).upd HC22.out (by omega)) ((((((((((((((((hG12.below HC7.out (by omega)).below HC8.out (by omega)).below HC9.out (by omega)).below HC10.out (by omega)).below HC11.out (by omega)).below HC12.out (by omega)).below HC13.out (by omega)).below HC14.out (by omega)).below HC15.out (by omega)).below HC16.out (by omega)).below HC17.out (by omega)).below HC18.out (by omega)).below HC19.out (by omega)).chg HC20.out (by omega) (by omega)).upd HC21.out (by omega)).upd HC22.out (by omega)) hrm hrm).mono ?_
  rintro e w23 ⟨rfl, hb⟩
  have hs23 : w22.heap.size ≤ w23.heap.size := hb.size
  have HC23 := Lib.hid hb
  replace hx0_0 := (HC23.out.cell (p := ⟨w.heap.size, 0, none⟩) (by dsimp only; omega)).trans hx0_0
  replace hx0_1 := (HC23.out.cell (p := ⟨w.heap.size, 1, none⟩) (by dsimp only; omega)).trans hx0_1
  replace hx1_0 := (HC23.out.cell (p := ⟨w7.heap.size, 0, none⟩) (by dsimp only; omega)).trans hx1_0
  replace hx1_1 := (HC23.out.cell (p := ⟨w7.heap.size, 1, none⟩) (by dsimp only; omega)).trans hx1_1
  clear hb
  go_wp2_with fail
  refine (markIntS_c ((enaL n0 z1 z2)) _ _ _ _ _ _ 1 _ ((((((((((((hG24.below HC12.out (by omega)).below HC13.out (by omega)).below HC14.out (by omega)).below HC15.out (by omega)).below HC16.out (by omega)).below HC17.out (by omega)).below HC18.out (by omega)).below HC19.out (by omega)).chg HC20.out (by omega) (by omega)).upd HC21.out (by omega)).upd HC22.out (by omega)).below HC23.out (by omega)) (by omega) (by omega) (by omega)).mono ?_
  rintro e w24 ⟨rfl, hK35, hu⟩
  have hs24 : w24.heap.size = w23.heap.size := hu.size
  have HC24 := Lib.hid hu
  replace hx0_0 := (HC24.out.cell (p := ⟨w.heap.size, 0, none⟩) (by dsimp only; omega)).trans hx0_0
  replace hx0_1 := (HC24.out.cell (p := ⟨w.heap.size, 1, none⟩) (by dsimp only; omega)).trans hx0_1
  replace hx1_0 := (HC24.out.cell (p := ⟨w7.heap.size, 0, none⟩) (by dsimp only; omega)).trans hx1_0
  replace hx1_1 := (HC24.out.cell (p := ⟨w7.heap.size, 1, none⟩) (by dsimp only; omega)).trans hx1_1
  clear hu
  go_wp2_with fail
  refine (heldIntS_c _ _ _ _ _ _ _ 1 _ hK35 (by omega) (by omega) (by omega)).mono ?_
  rintro e wq ⟨rfl, rfl⟩
  go_wp2_with fail
  refine (toNetNet_c n0 _ _ _ _ ((((((((((((((((((((((((hN0.below HC1.out (by omega)).below HC2.out (by omega)).below HC3.out (by omega)).below HC4.out (by omega)).below HC5.out (by omega)).below HC6.out (by omega)).below HC7.out (by omega)).below HC8.out (by omega)).below HC9.out (by omega)).below HC10.out (by omega)).below HC11.out (by omega)).below HC12.out (by omega)).below HC13.out (by omega)).below HC14.out (by omega)).below HC15.out (by omega)).below HC16.out (by omega)).below HC17.out (by omega)).below HC18.out (by omega)).below HC19.out (by omega)).chg HC20.out (by omega) (by omega)).upd HC21.out (by omega)).upd HC22.out (by omega)).below HC23.out (by omega)).upd HC24.out (by omega)) (by omega) (by omega)).mono ?_
  rintro e w25 ⟨uu, rfl, hR37, hb⟩
  have hs25 : w24.heap.size ≤ w25.heap.size := hb.size
  have HC25 := Lib.hid hb
  replace hx0_0 := (HC25.out.cell (p := ⟨w.heap.size, 0, none⟩) (by dsimp only; omega)).trans hx0_0
  replace hx0_1 := (HC25.out.cell (p := ⟨w.heap.size, 1, none⟩) (by dsimp only; omega)).trans hx0_1
  replace hx1_0 := (HC25.out.cell (p := ⟨w7.heap.size, 0, none⟩) (by dsimp only; omega)).trans hx1_0
  replace hx1_1 := (HC25.out.cell (p := ⟨w7.heap.size, 1, none⟩) (by dsimp only; omega)).trans hx1_1
  clear hb
  obtain ⟨bb36, rfl⟩ := hR37.form
  go_wp2_with fail
  refine (toIntS_c z1 _ _ A1 b1 o1 c1 _ (((((((((((((((((((((((((hV1.below HC1.out (by omega)).below HC2.out (by omega)).below HC3.out (by omega)).below HC4.out (by omega)).below HC5.out (by omega)).below HC6.out (by omega)).below HC7.out (by omega)).below HC8.out (by omega)).below HC9.out (by omega)).below HC10.out (by omega)).below HC11.out (by omega)).below HC12.out (by omega)).below HC13.out (by omega)).below HC14.out (by omega)).below HC15.out (by omega)).below HC16.out (by omega)).below HC17.out (by omega)).below HC18.out (by omega)).below HC19.out (by omega)).chg HC20.out (by omega) (by omega)).upd HC21.out (by omega)).upd HC22.out (by omega)).below HC23.out (by omega)).upd HC24.out (by omega)).below HC25.out (by omega)) (by omega) (by omega)).mono ?_
  rintro e w26 ⟨bb38, rfl, hR39, hb⟩
  have hs26 : w25.heap.size ≤ w26.heap.size := hb.size
  have HC26 := Lib.hid hb
  replace hx0_0 := (HC26.out.cell (p := ⟨w.heap.size, 0, none⟩) (by dsimp only; omega)).trans hx0_0
  replace hx0_1 := (HC26.out.cell (p := ⟨w.heap.size, 1, none⟩) (by dsimp only; omega)).trans hx0_1
  replace hx1_0 := (HC26.out.cell (p := ⟨w7.heap.size, 0, none⟩) (by dsimp only; omega)).trans hx1_0
  replace hx1_1 := (HC26.out.cell (p := ⟨w7.heap.size, 1, none⟩) (by dsimp only; omega)).trans hx1_1
  clear hb
  go_wp2_with fail
  refine (toCasItemS_c z2 _ _ A2 b2 o2 c2 _ ((((((((((((((((((((((((((hV2.below HC1.out (by omega)).below HC2.out (by omega)).below HC3.out (by omega)).below HC4.out (by omega)).below HC5.out (by omega)).below HC6.out (by omega)).below HC7.out (by omega)).below HC8.out (by omega)).below HC9.out (by omega)).below HC10.out (by omega)).below HC11.out (by omega)).below HC12.out (by omega)).below HC13.out (by omega)).below HC14.out (by omega)).below HC15.out (by omega)).below HC16.out (by omega)).below HC17.out (by omega)).below HC18.out (by omega)).below HC19.out (by omega)).chg HC20.out (by omega) (by omega)).upd HC21.out (by omega)).upd HC22.out (by omega)).below HC23.out (by omega)).upd HC24.out (by omega)).below HC25.out (by omega)).below HC26.out (by omega)) (by omega) (by omega)).mono ?_
  rintro e w27 ⟨bb40, rfl, hR41a, hR41b, hR41, hb⟩
  have hs27 : w26.heap.size ≤ w27.heap.size := hb.size
  have HC27 := Lib.hid hb
  replace hx0_0 := (HC27.out.cell (p := ⟨w.heap.size, 0, none⟩) (by dsimp only; omega)).trans hx0_0
  replace hx0_1 := (HC27.out.cell (p := ⟨w.heap.size, 1, none⟩) (by dsimp only; omega)).trans hx0_1
  replace hx1_0 := (HC27.out.cell (p := ⟨w7.heap.size, 0, none⟩) (by dsimp only; omega)).trans hx1_0
  replace hx1_1 := (HC27.out.cell (p := ⟨w7.heap.size, 1, none⟩) (by dsimp only; omega)).trans hx1_1
  clear hb
  replace hR41 := hR41.more hR41a hR41b
  clear hR41a hR41b
  go_wp2_with fail
  refine (implEnaTasks_c n0 _ z1 z2 _ _ _ _ _ _ _ _ _ _ _ _ _ _ _ ((hR37.net.below HC26.out (by omega)).below HC27.out (by omega)) (by omega) (netSize_out (by omega)) (hR39.below HC27.out (by omega)) (by omega) hR41 (by omega) hM1 hM2).mono ?_
  rintro e w28 ⟨vv42, rfl, hM_43, hb⟩
  have hs28 : w27.heap.size ≤ w28.heap.size := hb.size
  have HC28 := Lib.hid hb
  replace hx0_0 := (HC28.out.cell (p := ⟨w.heap.size, 0, none⟩) (by dsimp only; omega)).trans hx0_0
  replace hx0_1 := (HC28.out.cell (p := ⟨w.heap.size, 1, none⟩) (by dsimp only; omega)).trans hx0_1
  replace hx1_0 := (HC28.out.cell (p := ⟨w7.heap.size, 0, none⟩) (by dsimp only; omega)).trans hx1_0
  replace hx1_1 := (HC28.out.cell (p := ⟨w7.heap.size, 1, none⟩) (by dsimp only; omega)).trans hx1_1
  clear hb
  obtain ⟨AA44, bb45, cc46, rfl, hG47⟩ := hM_43.row
  clear hM_43
  go_wp2_with fail
  refine (eqIntS_c ((enaL n0 z1 z2)) ((enaL n0 z1 z2)) _ _ _ _ _ _ _ _ _ _ _ _ _ hG47 ((((((((((((((((((((((hG12.below HC7.out (by omega)).below HC8.out (by omega)).below HC9.out (by omega)).below HC10.out (by omega)).below HC11.out (by omega)).below HC12.out (by omega)).below HC13.out (by omega)).below HC14.out (by omega)).below HC15.out (by omega)).below HC16.out (by omega)).below HC17.out (by omega)).below HC18.out (by omega)).below HC19.out (by omega)).chg HC20.out (by omega) (by omega)).upd HC21.out (by omega)).upd HC22.out (by omega)).below HC23.out (by omega)).upd HC24.out (by omega)).below HC25.out (by omega)).below HC26.out (by omega)).below HC27.out (by omega)).below HC28.out (by omega)) hrm hrm).mono ?_
  rintro e w29 ⟨rfl, hb⟩
  have hs29 : w28.heap.size ≤ w29.heap.size := hb.size
  have HC29 := Lib.hid hb
  replace hx0_0 := (HC29.out.cell (p := ⟨w.heap.size, 0, none⟩) (by dsimp only; omega)).trans hx0_0
  replace hx0_1 := (HC29.out.cell (p := ⟨w.heap.size, 1, none⟩) (by dsimp only; omega)).trans hx0_1
  replace hx1_0 := (HC29.out.cell (p := ⟨w7.heap.size, 0, none⟩) (by dsimp only; omega)).trans hx1_0
  replace hx1_1 := (HC29.out.cell (p := ⟨w7.heap.size, 1, none⟩) (by dsimp only; omega)).trans hx1_1
  clear hb
  go_wp2_with fail
  refine (heldIntS_c _ _ _ _ _ _ _ 1 _ (((((hK35.below HC25.out (by omega)).below HC26.out (by omega)).below HC27.out (by omega)).below HC28.out (by omega)).below HC29.out (by omega)) (by omega) (by omega) (by omega)).mono ?_
  rintro e wq ⟨rfl, rfl⟩
  go_wp2
  go_ret
  exact ⟨rfl, ((((((((((((((((((((((((((((HC1.out.trans (HC2.out.mono (by omega))).trans (HC3.out.mono (by omega))).trans (HC4.out.mono (by omega))).trans (HC5.out.mono (by omega))).trans (HC6.out.mono (by omega))).trans (HC7.out.mono (by omega))).trans (HC8.out.mono (by omega))).trans (HC9.out.mono (by omega))).trans (HC10.out.mono (by omega))).trans (HC11.out.mono (by omega))).trans (HC12.out.mono (by omega))).trans (HC13.out.mono (by omega))).trans (HC14.out.mono (by omega))).trans (HC15.out.mono (by omega))).trans (HC16.out.mono (by omega))).trans (HC17.out.mono (by omega))).trans (HC18.out.mono (by omega))).trans (HC19.out.mono (by omega))).trans (HC20.out.below (by omega) (by omega))).trans (HC21.out.below (by omega))).trans (HC22.out.below (by omega))).trans (HC23.out.mono (by omega))).trans (HC24.out.below (by omega))).trans (HC25.out.mono (by omega))).trans (HC26.out.mono (by omega))).trans (HC27.out.mono (by omega))).trans (HC28.out.mono (by omega))).trans (HC29.out.mono (by omega)))⟩

set_option maxRecDepth 10000 in
set_option maxHeartbeats 2000000 in
theorem exactEnaWaits_walk {n0 : NNet} {v0 : Value} {z1 : List Int} {A1 : Option Addr} {b1 o1 c1 : Nat} {z2 : List NItem} {A2 : Option Addr} {b2 o2 c2 : Nat} (w : World) (hV0 : NetV w 0 w.heap.size v0 n0) (hV1 : Row w 0 w.heap.size A1 b1 o1 (ints z1)) (hm1 : z1.length ≤ maxLen) (hV2 : Row w 0 w.heap.size A2 b2 o2 (itemCells z2)) (hm2 : z2.length ≤ maxLen) :
    Calls Try.prog 14 #[v0, .slice A1 z1.length c1, .slice A2 z2.length c2] w fun e w' => e = .returned (.bool true) ∧ Below w.heap.size w w' := by
  have hN0 := hV0
  obtain ⟨A0, b0, o0, c0, ms0, rfl, hm0, hT0⟩ := hV0
  clear hT0
  unfold maxLen at hm0
  have hM1 := hm1
  unfold maxLen at hm1
  have hM2 := hm2
  unfold maxLen at hm2
  go_enter Try.func14, Try.ntmps14
  by_cases hbig1 : 1048576 < z1.length
  · go_wp2; go_ret; exact ⟨rfl, ((Below.refl _ _).alloc (by simp) _)⟩
  have hrl : ((waitL n0 z1 z2)).length ≤ 1048576 := waitL_len _ _ _
  have hrm : ((waitL n0 z1 z2)).length ≤ maxLen := by unfold maxLen; omega
  go_wp2_with fail
  have hs1 : (w.alloc (.cells #[Value.int .i64 n0.places, Value.slice A0 n0.tasks.length c0] 24)).heap.size = w.heap.size + 1 := by simp
  have HC1 := Lib.hid (show Below w.heap.size w (w.alloc (.cells #[Value.int .i64 n0.places, Value.slice A0 n0.tasks.length c0] 24)) from (Below.refl w.heap.size w).alloc (Nat.le_refl _) _)
  have hx0_0 : (w.alloc (.cells #[Value.int .i64 n0.places, Value.slice A0 n0.tasks.length c0] 24)).cell? ⟨w.heap.size, 0, none⟩ = some (Value.int .i64 n0.places) := by simp [World.cell?_alloc_new]
  have hx0_1 : (w.alloc (.cells #[Value.int .i64 n0.places, Value.slice A0 n0.tasks.length c0] 24)).cell? ⟨w.heap.size, 1, none⟩ = some (Value.slice A0 n0.tasks.length c0) := by simp [World.cell?_alloc_new]
  generalize w.alloc (.cells #[Value.int .i64 n0.places, Value.slice A0 n0.tasks.length c0] 24) = w1 at *
  go_wp2_with fail
  refine (szNetNet_c n0 _ _ _ (1048576 : Int) _ (hN0.below HC1.out (by omega)) (by omega) (by omega) (by omega)).mono ?_
  rintro e w2 ⟨rfl, hb⟩
  have hs2 : w1.heap.size ≤ w2.heap.size := hb.size
  have HC2 := Lib.hid hb
  replace hx0_0 := (HC2.out.cell (p := ⟨w.heap.size, 0, none⟩) (by dsimp only; omega)).trans hx0_0
  replace hx0_1 := (HC2.out.cell (p := ⟨w.heap.size, 1, none⟩) (by dsimp only; omega)).trans hx0_1
  clear hb
  have hps0 : 0 ≤ netSize n0 := netSize_pos n0
  by_cases hsz0 : (1048576 : Int) < netSize n0
  · rw [cutI_neg (by omega)]; go_wp2; go_ret; exact ⟨rfl, (HC1.out.trans (HC2.out.mono (by omega)))⟩
  rw [cutI_pos (by omega)]
  go_wp2_with fail
  refine (szCasItemS_c z2.length A2 c2 ((1048576 : Int) - netSize n0) _ hM2 (by omega) (by omega)).mono ?_
  rintro e wq ⟨rfl, rfl⟩
  have hps2 : 0 ≤ (z2.length : Int) := Int.natCast_nonneg z2.length
  by_cases hsz2 : ((1048576 : Int) - netSize n0) < (z2.length : Int)
  · rw [cutI_neg (by omega)]; go_wp2; go_ret; exact ⟨rfl, (HC1.out.trans (HC2.out.mono (by omega)))⟩
  rw [cutI_pos (by omega)]
  go_wp2_with fail
  refine (toNetNet_c n0 _ _ _ _ ((hN0.below HC1.out (by omega)).below HC2.out (by omega)) (by omega) (by omega)).mono ?_
  rintro e w3 ⟨uu, rfl, hR2, hb⟩
  have hs3 : w2.heap.size ≤ w3.heap.size := hb.size
  have HC3 := Lib.hid hb
  replace hx0_0 := (HC3.out.cell (p := ⟨w.heap.size, 0, none⟩) (by dsimp only; omega)).trans hx0_0
  replace hx0_1 := (HC3.out.cell (p := ⟨w.heap.size, 1, none⟩) (by dsimp only; omega)).trans hx0_1
  clear hb
  obtain ⟨bb1, rfl⟩ := hR2.form
  go_wp2_with fail
  refine (toIntS_c z1 _ _ A1 b1 o1 c1 _ (((hV1.below HC1.out (by omega)).below HC2.out (by omega)).below HC3.out (by omega)) (by omega) (by omega)).mono ?_
  rintro e w4 ⟨bb3, rfl, hR4, hb⟩
  have hs4 : w3.heap.size ≤ w4.heap.size := hb.size
  have HC4 := Lib.hid hb
  replace hx0_0 := (HC4.out.cell (p := ⟨w.heap.size, 0, none⟩) (by dsimp only; omega)).trans hx0_0
  replace hx0_1 := (HC4.out.cell (p := ⟨w.heap.size, 1, none⟩) (by dsimp only; omega)).trans hx0_1
  clear hb
  go_wp2_with fail
  refine (toCasItemS_c z2 _ _ A2 b2 o2 c2 _ ((((hV2.below HC1.out (by omega)).below HC2.out (by omega)).below HC3.out (by omega)).below HC4.out (by omega)) (by omega) (by omega)).mono ?_
  rintro e w5 ⟨bb5, rfl, hR6a, hR6b, hR6, hb⟩
  have hs5 : w4.heap.size ≤ w5.heap.size := hb.size
  have HC5 := Lib.hid hb
  replace hx0_0 := (HC5.out.cell (p := ⟨w.heap.size, 0, none⟩) (by dsimp only; omega)).trans hx0_0
  replace hx0_1 := (HC5.out.cell (p := ⟨w.heap.size, 1, none⟩) (by dsimp only; omega)).trans hx0_1
  clear hb
  replace hR6 := hR6.more hR6a hR6b
  clear hR6a hR6b
  go_wp2_with fail
  refine (specEnaWaits_c n0 _ z1 z2 _ _ _ _ _ _ _ _ _ _ _ _ _ _ _ ((hR2.net.below HC4.out (by omega)).below HC5.out (by omega)) (by omega) (hR4.below HC5.out (by omega)) (by omega) hR6 (by omega) hM1 hM2).mono ?_
  rintro e w6 ⟨vv7, rfl, hM_8, hb⟩
  have hs6 : w5.heap.size ≤ w6.heap.size := hb.size
  have HC6 := Lib.hid hb
  replace hx0_0 := (HC6.out.cell (p := ⟨w.heap.size, 0, none⟩) (by dsimp only; omega)).trans hx0_0
  replace hx0_1 := (HC6.out.cell (p := ⟨w.heap.size, 1, none⟩) (by dsimp only; omega)).trans hx0_1
  clear hb
  obtain ⟨AA9, bb10, cc11, rfl, hG12⟩ := hM_8.row
  clear hM_8
  go_wp2_with fail
  refine (toNetNet_c n0 _ _ _ _ ((((((hN0.below HC1.out (by omega)).below HC2.out (by omega)).below HC3.out (by omega)).below HC4.out (by omega)).below HC5.out (by omega)).below HC6.out (by omega)) (by omega) (by omega)).mono ?_
  rintro e w7 ⟨uu, rfl, hR14, hb⟩
  have hs7 : w6.heap.size ≤ w7.heap.size := hb.size
  have HC7 := Lib.hid hb
  replace hx0_0 := (HC7.out.cell (p := ⟨w.heap.size, 0, none⟩) (by dsimp only; omega)).trans hx0_0
  replace hx0_1 := (HC7.out.cell (p := ⟨w.heap.size, 1, none⟩) (by dsimp only; omega)).trans hx0_1
  clear hb
  obtain ⟨bb13, rfl⟩ := hR14.form
  go_wp2_with fail
  have hs8 : (w7.alloc (.cells #[Value.int .i64 n0.places, Value.slice (some ⟨bb13, 0, none⟩) n0.tasks.length n0.tasks.length] 29)).heap.size = w7.heap.size + 1 := by simp
  have HC8 := Lib.hid (show Below w7.heap.size w7 (w7.alloc (.cells #[Value.int .i64 n0.places, Value.slice (some ⟨bb13, 0, none⟩) n0.tasks.length n0.tasks.length] 29)) from (Below.refl w7.heap.size w7).alloc (Nat.le_refl _) _)
  replace hx0_0 := (HC8.out.cell (p := ⟨w.heap.size, 0, none⟩) (by dsimp only; omega)).trans hx0_0
  replace hx0_1 := (HC8.out.cell (p := ⟨w.heap.size, 1, none⟩) (by dsimp only; omega)).trans hx0_1
  have hx1_0 : (w7.alloc (.cells #[Value.int .i64 n0.places, Value.slice (some ⟨bb13, 0, none⟩) n0.tasks.length n0.tasks.length] 29)).cell? ⟨w7.heap.size, 0, none⟩ = some (Value.int .i64 n0.places) := by simp [World.cell?_alloc_new]
  have hx1_1 : (w7.alloc (.cells #[Value.int .i64 n0.places, Value.slice (some ⟨bb13, 0, none⟩) n0.tasks.length n0.tasks.length] 29)).cell? ⟨w7.heap.size, 1, none⟩ = some (Value.slice (some ⟨bb13, 0, none⟩) n0.tasks.length n0.tasks.length) := by simp [World.cell?_alloc_new]
  generalize w7.alloc (.cells #[Value.int .i64 n0.places, Value.slice (some ⟨bb13, 0, none⟩) n0.tasks.length n0.tasks.length] 29) = w8 at *
  go_wp2_with fail
  refine (toIntS_c z1 _ _ A1 b1 o1 c1 _ ((((((((hV1.below HC1.out (by omega)).below HC2.out (by omega)).below HC3.out (by omega)).below HC4.out (by omega)).below HC5.out (by omega)).below HC6.out (by omega)).below HC7.out (by omega)).below HC8.out (by omega)) (by omega) (by omega)).mono ?_
  rintro e w9 ⟨bb15, rfl, hR16, hb⟩
  have hs9 : w8.heap.size ≤ w9.heap.size := hb.size
  have HC9 := Lib.hid hb
  replace hx0_0 := (HC9.out.cell (p := ⟨w.heap.size, 0, none⟩) (by dsimp only; omega)).trans hx0_0
  replace hx0_1 := (HC9.out.cell (p := ⟨w.heap.size, 1, none⟩) (by dsimp only; omega)).trans hx0_1
  replace hx1_0 := (HC9.out.cell (p := ⟨w7.heap.size, 0, none⟩) (by dsimp only; omega)).trans hx1_0
  replace hx1_1 := (HC9.out.cell (p := ⟨w7.heap.size, 1, none⟩) (by dsimp only; omega)).trans hx1_1
  clear hb
  go_wp2_with fail
  refine (toCasItemS_c z2 _ _ A2 b2 o2 c2 _ (((((((((hV2.below HC1.out (by omega)).below HC2.out (by omega)).below HC3.out (by omega)).below HC4.out (by omega)).below HC5.out (by omega)).below HC6.out (by omega)).below HC7.out (by omega)).below HC8.out (by omega)).below HC9.out (by omega)) (by omega) (by omega)).mono ?_
  rintro e w10 ⟨bb17, rfl, hR18a, hR18b, hR18, hb⟩
  have hs10 : w9.heap.size ≤ w10.heap.size := hb.size
  have HC10 := Lib.hid hb
  replace hx0_0 := (HC10.out.cell (p := ⟨w.heap.size, 0, none⟩) (by dsimp only; omega)).trans hx0_0
  replace hx0_1 := (HC10.out.cell (p := ⟨w.heap.size, 1, none⟩) (by dsimp only; omega)).trans hx0_1
  replace hx1_0 := (HC10.out.cell (p := ⟨w7.heap.size, 0, none⟩) (by dsimp only; omega)).trans hx1_0
  replace hx1_1 := (HC10.out.cell (p := ⟨w7.heap.size, 1, none⟩) (by dsimp only; omega)).trans hx1_1
  clear hb
  replace hR18 := hR18.more hR18a hR18b
  clear hR18a hR18b
  go_wp2_with fail
  refine (implEnaWaits_c n0 _ z1 z2 _ _ _ _ _ _ _ _ _ _ _ _ _ _ _ (((hR14.net.below HC8.out (by omega)).below HC9.out (by omega)).below HC10.out (by omega)) (by omega) (netSize_out (by omega)) (hR16.below HC10.out (by omega)) (by omega) hR18 (by omega) hM1 hM2).mono ?_
  rintro e w11 ⟨vv19, rfl, hM_20, hb⟩
  have hs11 : w10.heap.size ≤ w11.heap.size := hb.size
  have HC11 := Lib.hid hb
  replace hx0_0 := (HC11.out.cell (p := ⟨w.heap.size, 0, none⟩) (by dsimp only; omega)).trans hx0_0
  replace hx0_1 := (HC11.out.cell (p := ⟨w.heap.size, 1, none⟩) (by dsimp only; omega)).trans hx0_1
  replace hx1_0 := (HC11.out.cell (p := ⟨w7.heap.size, 0, none⟩) (by dsimp only; omega)).trans hx1_0
  replace hx1_1 := (HC11.out.cell (p := ⟨w7.heap.size, 1, none⟩) (by dsimp only; omega)).trans hx1_1
  clear hb
  obtain ⟨AA21, bb22, cc23, rfl, hG24⟩ := hM_20.row
  clear hM_20
  go_wp2_with fail
  refine (eqIntS_c ((waitL n0 z1 z2)) ((waitL n0 z1 z2)) _ _ _ _ _ _ _ _ _ _ _ _ _ hG24 (((((hG12.below HC7.out (by omega)).below HC8.out (by omega)).below HC9.out (by omega)).below HC10.out (by omega)).below HC11.out (by omega)) hrm hrm).mono ?_
  rintro e w12 ⟨rfl, hb⟩
  have hs12 : w11.heap.size ≤ w12.heap.size := hb.size
  have HC12 := Lib.hid hb
  replace hx0_0 := (HC12.out.cell (p := ⟨w.heap.size, 0, none⟩) (by dsimp only; omega)).trans hx0_0
  replace hx0_1 := (HC12.out.cell (p := ⟨w.heap.size, 1, none⟩) (by dsimp only; omega)).trans hx0_1
  replace hx1_0 := (HC12.out.cell (p := ⟨w7.heap.size, 0, none⟩) (by dsimp only; omega)).trans hx1_0
  replace hx1_1 := (HC12.out.cell (p := ⟨w7.heap.size, 1, none⟩) (by dsimp only; omega)).trans hx1_1
  clear hb
  go_wp2_with fail
  have hs13 : w12.drew.heap.size = w12.heap.size := rfl
  have HC13 := Lib.hid (show Below w12.heap.size w12 w12.drew from (Below.refl w12.heap.size w12).drew)
  replace hx0_0 := (HC13.out.cell (p := ⟨w.heap.size, 0, none⟩) (by dsimp only; omega)).trans hx0_0
  replace hx0_1 := (HC13.out.cell (p := ⟨w.heap.size, 1, none⟩) (by dsimp only; omega)).trans hx0_1
  replace hx1_0 := (HC13.out.cell (p := ⟨w7.heap.size, 0, none⟩) (by dsimp only; omega)).trans hx1_0
  replace hx1_1 := (HC13.out.cell (p := ⟨w7.heap.size, 1, none⟩) (by dsimp only; omega)).trans hx1_1
  have HVa := Lib.hid (show NetV w12.drew 0 w.heap.size _ n0 from (((((((((((((hN0.below HC1.out (by omega)).below HC2.out (by omega)).below HC3.out (by omega)).below HC4.out (by omega)).below HC5.out (by omega)).below HC6.out (by omega)).below HC7.out (by omega)).below HC8.out (by omega)).below HC9.out (by omega)).below HC10.out (by omega)).below HC11.out (by omega)).below HC12.out (by omega)).below HC13.out (by omega)))
  have HXa := Lib.hid (show NetV w12.drew w6.heap.size w7.heap.size _ n0 from ((((((hR14.net.below HC8.out (by omega)).below HC9.out (by omega)).below HC10.out (by omega)).below HC11.out (by omega)).below HC12.out (by omega)).below HC13.out (by omega)))
  have hqa : w.heap.size ≤ w12.drew.heap.size := by omega
  have hqs : netSize n0 ≤ 1048576 := by omega
  have hqb : w7.heap.size ≤ w12.drew.heap.size := by omega
  have hqx0 : w.heap.size < w12.drew.heap.size := by omega
  have hqx1 : w7.heap.size < w12.drew.heap.size := by omega
  go_region_held3 (fun w' => w'.cell? ⟨w.heap.size, 0, none⟩ = some (Value.int .i64 n0.places) ∧ w'.cell? ⟨w.heap.size, 1, none⟩ = some (Value.slice A0 n0.tasks.length c0) ∧ w'.cell? ⟨w7.heap.size, 0, none⟩ = some (Value.int .i64 n0.places) ∧ w'.cell? ⟨w7.heap.size, 1, none⟩ = some (Value.slice (some ⟨bb13, 0, none⟩) n0.tasks.length n0.tasks.length)) (first | exact ⟨hx0_0, hx0_1, hx1_0, hx1_1⟩ | exact ⟨hy0_0, hy0_1, hy1_0, hy1_1⟩ | exact ⟨hz0_0, hz0_1, hz1_0, hz1_1⟩)
   (first
    | (go_at_call 17; refine (toNetNet_c n0 _ 0 w.heap.size w12.drew HVa.out hqa hqs).mono ?_; rintro e w14 ⟨uu, rfl, hRe, hb⟩; obtain ⟨bbe, rfl⟩ := hRe.form; have hy0_0 := (hb.cell (p := ⟨w.heap.size, 0, none⟩) hqx0).trans hx0_0; have hy0_1 := (hb.cell (p := ⟨w.heap.size, 1, none⟩) hqx0).trans hx0_1; have hy1_0 := (hb.cell (p := ⟨w7.heap.size, 0, none⟩) hqx1).trans hx1_0; have hy1_1 := (hb.cell (p := ⟨w7.heap.size, 1, none⟩) hqx1).trans hx1_1)
    | (go_at_call 19; refine (eqNetNet_t n0 _ _ _ _ _ _ w14 (HXa.out.below hb hqb) hRe.net (Nat.le_trans hqb hb.size) (Nat.le_refl _)).mono ?_; rintro e w15 ⟨rfl, hb9⟩; have hz0_0 := (hb9.cell (p := ⟨w.heap.size, 0, none⟩) (Nat.lt_of_lt_of_le hqx0 hb.size)).trans hy0_0; have hz0_1 := (hb9.cell (p := ⟨w.heap.size, 1, none⟩) (Nat.lt_of_lt_of_le hqx0 hb.size)).trans hy0_1; have hz1_0 := (hb9.cell (p := ⟨w7.heap.size, 0, none⟩) (Nat.lt_of_lt_of_le hqx1 hb.size)).trans hy1_0; have hz1_1 := (hb9.cell (p := ⟨w7.heap.size, 1, none⟩) (Nat.lt_of_lt_of_le hqx1 hb.size)).trans hy1_1))
  have hs14 : w12.drew.heap.size ≤ w14.heap.size := hb.size
  have HC14 := Lib.hid hb
  have hs15 : w14.heap.size ≤ w15.heap.size := hb9.size
  have HC15 := Lib.hid hb9
  clear hb hb9 hRe HVa HXa hqa hqs hqb hx0_0 hy0_0 hx0_1 hy0_1 hx1_0 hy1_0 hx1_1 hy1_1
  have hx0_0 := hz0_0
  have hx0_1 := hz0_1
  have hx1_0 := hz1_0
  have hx1_1 := hz1_1
  clear hz0_0 hz0_1 hz1_0 hz1_1 hqx0 hqx1
  go_wp2_with fail
  refine (toIntS_c z1 _ _ A1 b1 o1 c1 _ (((((((((((((((hV1.below HC1.out (by omega)).below HC2.out (by omega)).below HC3.out (by omega)).below HC4.out (by omega)).below HC5.out (by omega)).below HC6.out (by omega)).below HC7.out (by omega)).below HC8.out (by omega)).below HC9.out (by omega)).below HC10.out (by omega)).below HC11.out (by omega)).below HC12.out (by omega)).below HC13.out (by omega)).below HC14.out (by omega)).below HC15.out (by omega)) (by omega) (by omega)).mono ?_
  rintro e w16 ⟨bb25, rfl, hR26, hb⟩
  have hs16 : w15.heap.size ≤ w16.heap.size := hb.size
  have HC16 := Lib.hid hb
  replace hx0_0 := (HC16.out.cell (p := ⟨w.heap.size, 0, none⟩) (by dsimp only; omega)).trans hx0_0
  replace hx0_1 := (HC16.out.cell (p := ⟨w.heap.size, 1, none⟩) (by dsimp only; omega)).trans hx0_1
  replace hx1_0 := (HC16.out.cell (p := ⟨w7.heap.size, 0, none⟩) (by dsimp only; omega)).trans hx1_0
  replace hx1_1 := (HC16.out.cell (p := ⟨w7.heap.size, 1, none⟩) (by dsimp only; omega)).trans hx1_1
  clear hb
  go_wp2_with fail
  refine (eqIntS_c z1 z1 _ _ _ _ _ _ _ _ _ _ _ _ _ (((((((hR16.below HC10.out (by omega)).below HC11.out (by omega)).below HC12.out (by omega)).below HC13.out (by omega)).below HC14.out (by omega)).below HC15.out (by omega)).below HC16.out (by omega)) hR26 hM1 hM1).mono ?_
  rintro e w17 ⟨rfl, hb⟩
  have hs17 : w16.heap.size ≤ w17.heap.size := hb.size
  have HC17 := Lib.hid hb
  replace hx0_0 := (HC17.out.cell (p := ⟨w.heap.size, 0, none⟩) (by dsimp only; omega)).trans hx0_0
  replace hx0_1 := (HC17.out.cell (p := ⟨w.heap.size, 1, none⟩) (by dsimp only; omega)).trans hx0_1
  replace hx1_0 := (HC17.out.cell (p := ⟨w7.heap.size, 0, none⟩) (by dsimp only; omega)).trans hx1_0
  replace hx1_1 := (HC17.out.cell (p := ⟨w7.heap.size, 1, none⟩) (by dsimp only; omega)).trans hx1_1
  clear hb
  go_wp2_with fail
  refine (toCasItemS_c z2 _ _ A2 b2 o2 c2 _ (((((((((((((((((hV2.below HC1.out (by omega)).below HC2.out (by omega)).below HC3.out (by omega)).below HC4.out (by omega)).below HC5.out (by omega)).below HC6.out (by omega)).below HC7.out (by omega)).below HC8.out (by omega)).below HC9.out (by omega)).below HC10.out (by omega)).below HC11.out (by omega)).below HC12.out (by omega)).below HC13.out (by omega)).below HC14.out (by omega)).below HC15.out (by omega)).below HC16.out (by omega)).below HC17.out (by omega)) (by omega) (by omega)).mono ?_
  rintro e w18 ⟨bb27, rfl, hR28a, hR28b, hR28, hb⟩
  have hs18 : w17.heap.size ≤ w18.heap.size := hb.size
  have HC18 := Lib.hid hb
  replace hx0_0 := (HC18.out.cell (p := ⟨w.heap.size, 0, none⟩) (by dsimp only; omega)).trans hx0_0
  replace hx0_1 := (HC18.out.cell (p := ⟨w.heap.size, 1, none⟩) (by dsimp only; omega)).trans hx0_1
  replace hx1_0 := (HC18.out.cell (p := ⟨w7.heap.size, 0, none⟩) (by dsimp only; omega)).trans hx1_0
  replace hx1_1 := (HC18.out.cell (p := ⟨w7.heap.size, 1, none⟩) (by dsimp only; omega)).trans hx1_1
  clear hb
  replace hR28 := hR28.more hR28a hR28b
  clear hR28a hR28b
  go_wp2_with fail
  refine (eqCasItemS_t z2 _ _ _ _ _ _ _ _ _ _ _ _ _ ((((((((hR18.below HC11.out (by omega)).below HC12.out (by omega)).below HC13.out (by omega)).below HC14.out (by omega)).below HC15.out (by omega)).below HC16.out (by omega)).below HC17.out (by omega)).below HC18.out (by omega)) hR28 (by omega) (by omega) hM2).mono ?_
  rintro e w19 ⟨rfl, hb⟩
  have hs19 : w18.heap.size ≤ w19.heap.size := hb.size
  have HC19 := Lib.hid hb
  replace hx0_0 := (HC19.out.cell (p := ⟨w.heap.size, 0, none⟩) (by dsimp only; omega)).trans hx0_0
  replace hx0_1 := (HC19.out.cell (p := ⟨w.heap.size, 1, none⟩) (by dsimp only; omega)).trans hx0_1
  replace hx1_0 := (HC19.out.cell (p := ⟨w7.heap.size, 0, none⟩) (by dsimp only; omega)).trans hx1_0
  replace hx1_1 := (HC19.out.cell (p := ⟨w7.heap.size, 1, none⟩) (by dsimp only; omega)).trans hx1_1
  clear hb
  go_wp2_with fail
  refine (markNetNet_s n0 _ w6.heap.size w7.heap.size _ _ ((((((((((((hR14.below HC8.out (by omega)).below HC9.out (by omega)).below HC10.out (by omega)).below HC11.out (by omega)).below HC12.out (by omega)).below HC13.out (by omega)).below HC14.out (by omega)).below HC15.out (by omega)).below HC16.out (by omega)).below HC17.out (by omega)).below HC18.out (by omega)).below HC19.out (by omega)) (by omega) (by omega) (by omega) (by omega)).mono ?_
  rintro e w20 ⟨kk30, rfl, kk301, kk302, hu⟩
  have hs20 : w19.heap.size ≤ w20.heap.size := hu.size
  have HC20 := Lib.hid hu
  replace hx0_0 := (HC20.out.cell (p := ⟨w.heap.size, 0, none⟩) (by dsimp only; omega) (by dsimp only; omega)).trans hx0_0
  replace hx0_1 := (HC20.out.cell (p := ⟨w.heap.size, 1, none⟩) (by dsimp only; omega) (by dsimp only; omega)).trans hx0_1
  replace hx1_0 := (HC20.out.cell (p := ⟨w7.heap.size, 0, none⟩) (by dsimp only; omega) (by dsimp only; omega)).trans hx1_0
  replace hx1_1 := (HC20.out.cell (p := ⟨w7.heap.size, 1, none⟩) (by dsimp only; omega) (by dsimp only; omega)).trans hx1_1
  clear hu
  go_wp2_with fail
  refine (markIntS_c z1 _ _ _ _ _ _ kk30 _ (((((((((((hR16.below HC10.out (by omega)).below HC11.out (by omega)).below HC12.out (by omega)).below HC13.out (by omega)).below HC14.out (by omega)).below HC15.out (by omega)).below HC16.out (by omega)).below HC17.out (by omega)).below HC18.out (by omega)).below HC19.out (by omega)).chg HC20.out (by omega) (by omega)) (by omega) (by omega) (by omega)).mono ?_
  rintro e w21 ⟨rfl, hK31, hu⟩
  have hs21 : w21.heap.size = w20.heap.size := hu.size
  have HC21 := Lib.hid hu
  replace hx0_0 := (HC21.out.cell (p := ⟨w.heap.size, 0, none⟩) (by dsimp only; omega)).trans hx0_0
  replace hx0_1 := (HC21.out.cell (p := ⟨w.heap.size, 1, none⟩) (by dsimp only; omega)).trans hx0_1
  replace hx1_0 := (HC21.out.cell (p := ⟨w7.heap.size, 0, none⟩) (by dsimp only; omega)).trans hx1_0
  replace hx1_1 := (HC21.out.cell (p := ⟨w7.heap.size, 1, none⟩) (by dsimp only; omega)).trans hx1_1
  clear hu
  clear hK31
  go_wp2_with fail
  refine (markCasItemS_u z2 _ _ _ _ _ _ _ _ (((((((((((hR18.below HC11.out (by omega)).below HC12.out (by omega)).below HC13.out (by omega)).below HC14.out (by omega)).below HC15.out (by omega)).below HC16.out (by omega)).below HC17.out (by omega)).below HC18.out (by omega)).below HC19.out (by omega)).chg HC20.out (by omega) (by omega)).upd HC21.out (by omega)) (by omega) (by omega) (by omega)).mono ?_
  rintro e w22 ⟨rfl, hu⟩
  have hs22 : w22.heap.size = w21.heap.size := hu.size
  have HC22 := Lib.hid hu
  replace hx0_0 := (HC22.out.cell (p := ⟨w.heap.size, 0, none⟩) (by dsimp only; omega)).trans hx0_0
  replace hx0_1 := (HC22.out.cell (p := ⟨w.heap.size, 1, none⟩) (by dsimp only; omega)).trans hx0_1
  replace hx1_0 := (HC22.out.cell (p := ⟨w7.heap.size, 0, none⟩) (by dsimp only; omega)).trans hx1_0
  replace hx1_1 := (HC22.out.cell (p := ⟨w7.heap.size, 1, none⟩) (by dsimp only; omega)).trans hx1_1
  clear hu
  go_wp2_with fail
  refine (eqIntS_c ((waitL n0 z1 z2)) ((waitL n0 z1 z2)) _ _ _ _ _ _ _ _ _ _ _ _ _ (((((((((((hG24.below HC12.out (by omega)).below HC13.out (by omega)).below HC14.out (by omega)).below HC15.out (by omega)).below HC16.out (by omega)).below HC17.out (by omega)).below HC18.out (by omega)).below HC19.out (by omega)).chg HC20.out (by omega) (by omega)).upd HC21.out (by omega)).upd HC22.out (by omega)) ((((((((((((((((hG12.below HC7.out (by omega)).below HC8.out (by omega)).below HC9.out (by omega)).below HC10.out (by omega)).below HC11.out (by omega)).below HC12.out (by omega)).below HC13.out (by omega)).below HC14.out (by omega)).below HC15.out (by omega)).below HC16.out (by omega)).below HC17.out (by omega)).below HC18.out (by omega)).below HC19.out (by omega)).chg HC20.out (by omega) (by omega)).upd HC21.out (by omega)).upd HC22.out (by omega)) hrm hrm).mono ?_
  rintro e w23 ⟨rfl, hb⟩
  have hs23 : w22.heap.size ≤ w23.heap.size := hb.size
  have HC23 := Lib.hid hb
  replace hx0_0 := (HC23.out.cell (p := ⟨w.heap.size, 0, none⟩) (by dsimp only; omega)).trans hx0_0
  replace hx0_1 := (HC23.out.cell (p := ⟨w.heap.size, 1, none⟩) (by dsimp only; omega)).trans hx0_1
  replace hx1_0 := (HC23.out.cell (p := ⟨w7.heap.size, 0, none⟩) (by dsimp only; omega)).trans hx1_0
  replace hx1_1 := (HC23.out.cell (p := ⟨w7.heap.size, 1, none⟩) (by dsimp only; omega)).trans hx1_1
  clear hb
  go_wp2_with fail
  refine (markIntS_c ((waitL n0 z1 z2)) _ _ _ _ _ _ 1 _ ((((((((((((hG24.below HC12.out (by omega)).below HC13.out (by omega)).below HC14.out (by omega)).below HC15.out (by omega)).below HC16.out (by omega)).below HC17.out (by omega)).below HC18.out (by omega)).below HC19.out (by omega)).chg HC20.out (by omega) (by omega)).upd HC21.out (by omega)).upd HC22.out (by omega)).below HC23.out (by omega)) (by omega) (by omega) (by omega)).mono ?_
  rintro e w24 ⟨rfl, hK35, hu⟩
  have hs24 : w24.heap.size = w23.heap.size := hu.size
  have HC24 := Lib.hid hu
  replace hx0_0 := (HC24.out.cell (p := ⟨w.heap.size, 0, none⟩) (by dsimp only; omega)).trans hx0_0
  replace hx0_1 := (HC24.out.cell (p := ⟨w.heap.size, 1, none⟩) (by dsimp only; omega)).trans hx0_1
  replace hx1_0 := (HC24.out.cell (p := ⟨w7.heap.size, 0, none⟩) (by dsimp only; omega)).trans hx1_0
  replace hx1_1 := (HC24.out.cell (p := ⟨w7.heap.size, 1, none⟩) (by dsimp only; omega)).trans hx1_1
  clear hu
  go_wp2_with fail
  refine (heldIntS_c _ _ _ _ _ _ _ 1 _ hK35 (by omega) (by omega) (by omega)).mono ?_
  rintro e wq ⟨rfl, rfl⟩
  go_wp2_with fail
  refine (toNetNet_c n0 _ _ _ _ ((((((((((((((((((((((((hN0.below HC1.out (by omega)).below HC2.out (by omega)).below HC3.out (by omega)).below HC4.out (by omega)).below HC5.out (by omega)).below HC6.out (by omega)).below HC7.out (by omega)).below HC8.out (by omega)).below HC9.out (by omega)).below HC10.out (by omega)).below HC11.out (by omega)).below HC12.out (by omega)).below HC13.out (by omega)).below HC14.out (by omega)).below HC15.out (by omega)).below HC16.out (by omega)).below HC17.out (by omega)).below HC18.out (by omega)).below HC19.out (by omega)).chg HC20.out (by omega) (by omega)).upd HC21.out (by omega)).upd HC22.out (by omega)).below HC23.out (by omega)).upd HC24.out (by omega)) (by omega) (by omega)).mono ?_
  rintro e w25 ⟨uu, rfl, hR37, hb⟩
  have hs25 : w24.heap.size ≤ w25.heap.size := hb.size
  have HC25 := Lib.hid hb
  replace hx0_0 := (HC25.out.cell (p := ⟨w.heap.size, 0, none⟩) (by dsimp only; omega)).trans hx0_0
  replace hx0_1 := (HC25.out.cell (p := ⟨w.heap.size, 1, none⟩) (by dsimp only; omega)).trans hx0_1
  replace hx1_0 := (HC25.out.cell (p := ⟨w7.heap.size, 0, none⟩) (by dsimp only; omega)).trans hx1_0
  replace hx1_1 := (HC25.out.cell (p := ⟨w7.heap.size, 1, none⟩) (by dsimp only; omega)).trans hx1_1
  clear hb
  obtain ⟨bb36, rfl⟩ := hR37.form
  go_wp2_with fail
  refine (toIntS_c z1 _ _ A1 b1 o1 c1 _ (((((((((((((((((((((((((hV1.below HC1.out (by omega)).below HC2.out (by omega)).below HC3.out (by omega)).below HC4.out (by omega)).below HC5.out (by omega)).below HC6.out (by omega)).below HC7.out (by omega)).below HC8.out (by omega)).below HC9.out (by omega)).below HC10.out (by omega)).below HC11.out (by omega)).below HC12.out (by omega)).below HC13.out (by omega)).below HC14.out (by omega)).below HC15.out (by omega)).below HC16.out (by omega)).below HC17.out (by omega)).below HC18.out (by omega)).below HC19.out (by omega)).chg HC20.out (by omega) (by omega)).upd HC21.out (by omega)).upd HC22.out (by omega)).below HC23.out (by omega)).upd HC24.out (by omega)).below HC25.out (by omega)) (by omega) (by omega)).mono ?_
  rintro e w26 ⟨bb38, rfl, hR39, hb⟩
  have hs26 : w25.heap.size ≤ w26.heap.size := hb.size
  have HC26 := Lib.hid hb
  replace hx0_0 := (HC26.out.cell (p := ⟨w.heap.size, 0, none⟩) (by dsimp only; omega)).trans hx0_0
  replace hx0_1 := (HC26.out.cell (p := ⟨w.heap.size, 1, none⟩) (by dsimp only; omega)).trans hx0_1
  replace hx1_0 := (HC26.out.cell (p := ⟨w7.heap.size, 0, none⟩) (by dsimp only; omega)).trans hx1_0
  replace hx1_1 := (HC26.out.cell (p := ⟨w7.heap.size, 1, none⟩) (by dsimp only; omega)).trans hx1_1
  clear hb
  go_wp2_with fail
  refine (toCasItemS_c z2 _ _ A2 b2 o2 c2 _ ((((((((((((((((((((((((((hV2.below HC1.out (by omega)).below HC2.out (by omega)).below HC3.out (by omega)).below HC4.out (by omega)).below HC5.out (by omega)).below HC6.out (by omega)).below HC7.out (by omega)).below HC8.out (by omega)).below HC9.out (by omega)).below HC10.out (by omega)).below HC11.out (by omega)).below HC12.out (by omega)).below HC13.out (by omega)).below HC14.out (by omega)).below HC15.out (by omega)).below HC16.out (by omega)).below HC17.out (by omega)).below HC18.out (by omega)).below HC19.out (by omega)).chg HC20.out (by omega) (by omega)).upd HC21.out (by omega)).upd HC22.out (by omega)).below HC23.out (by omega)).upd HC24.out (by omega)).below HC25.out (by omega)).below HC26.out (by omega)) (by omega) (by omega)).mono ?_
  rintro e w27 ⟨bb40, rfl, hR41a, hR41b, hR41, hb⟩
  have hs27 : w26.heap.size ≤ w27.heap.size := hb.size
  have HC27 := Lib.hid hb
  replace hx0_0 := (HC27.out.cell (p := ⟨w.heap.size, 0, none⟩) (by dsimp only; omega)).trans hx0_0
  replace hx0_1 := (HC27.out.cell (p := ⟨w.heap.size, 1, none⟩) (by dsimp only; omega)).trans hx0_1
  replace hx1_0 := (HC27.out.cell (p := ⟨w7.heap.size, 0, none⟩) (by dsimp only; omega)).trans hx1_0
  replace hx1_1 := (HC27.out.cell (p := ⟨w7.heap.size, 1, none⟩) (by dsimp only; omega)).trans hx1_1
  clear hb
  replace hR41 := hR41.more hR41a hR41b
  clear hR41a hR41b
  go_wp2_with fail
  refine (implEnaWaits_c n0 _ z1 z2 _ _ _ _ _ _ _ _ _ _ _ _ _ _ _ ((hR37.net.below HC26.out (by omega)).below HC27.out (by omega)) (by omega) (netSize_out (by omega)) (hR39.below HC27.out (by omega)) (by omega) hR41 (by omega) hM1 hM2).mono ?_
  rintro e w28 ⟨vv42, rfl, hM_43, hb⟩
  have hs28 : w27.heap.size ≤ w28.heap.size := hb.size
  have HC28 := Lib.hid hb
  replace hx0_0 := (HC28.out.cell (p := ⟨w.heap.size, 0, none⟩) (by dsimp only; omega)).trans hx0_0
  replace hx0_1 := (HC28.out.cell (p := ⟨w.heap.size, 1, none⟩) (by dsimp only; omega)).trans hx0_1
  replace hx1_0 := (HC28.out.cell (p := ⟨w7.heap.size, 0, none⟩) (by dsimp only; omega)).trans hx1_0
  replace hx1_1 := (HC28.out.cell (p := ⟨w7.heap.size, 1, none⟩) (by dsimp only; omega)).trans hx1_1
  clear hb
  obtain ⟨AA44, bb45, cc46, rfl, hG47⟩ := hM_43.row
  clear hM_43
  go_wp2_with fail
  refine (eqIntS_c ((waitL n0 z1 z2)) ((waitL n0 z1 z2)) _ _ _ _ _ _ _ _ _ _ _ _ _ hG47 ((((((((((((((((((((((hG12.below HC7.out (by omega)).below HC8.out (by omega)).below HC9.out (by omega)).below HC10.out (by omega)).below HC11.out (by omega)).below HC12.out (by omega)).below HC13.out (by omega)).below HC14.out (by omega)).below HC15.out (by omega)).below HC16.out (by omega)).below HC17.out (by omega)).below HC18.out (by omega)).below HC19.out (by omega)).chg HC20.out (by omega) (by omega)).upd HC21.out (by omega)).upd HC22.out (by omega)).below HC23.out (by omega)).upd HC24.out (by omega)).below HC25.out (by omega)).below HC26.out (by omega)).below HC27.out (by omega)).below HC28.out (by omega)) hrm hrm).mono ?_
  rintro e w29 ⟨rfl, hb⟩
  have hs29 : w28.heap.size ≤ w29.heap.size := hb.size
  have HC29 := Lib.hid hb
  replace hx0_0 := (HC29.out.cell (p := ⟨w.heap.size, 0, none⟩) (by dsimp only; omega)).trans hx0_0
  replace hx0_1 := (HC29.out.cell (p := ⟨w.heap.size, 1, none⟩) (by dsimp only; omega)).trans hx0_1
  replace hx1_0 := (HC29.out.cell (p := ⟨w7.heap.size, 0, none⟩) (by dsimp only; omega)).trans hx1_0
  replace hx1_1 := (HC29.out.cell (p := ⟨w7.heap.size, 1, none⟩) (by dsimp only; omega)).trans hx1_1
  clear hb
  go_wp2_with fail
  refine (heldIntS_c _ _ _ _ _ _ _ 1 _ (((((hK35.below HC25.out (by omega)).below HC26.out (by omega)).below HC27.out (by omega)).below HC28.out (by omega)).below HC29.out (by omega)) (by omega) (by omega) (by omega)).mono ?_
  rintro e wq ⟨rfl, rfl⟩
  go_wp2
  go_ret
  exact ⟨rfl, ((((((((((((((((((((((((((((HC1.out.trans (HC2.out.mono (by omega))).trans (HC3.out.mono (by omega))).trans (HC4.out.mono (by omega))).trans (HC5.out.mono (by omega))).trans (HC6.out.mono (by omega))).trans (HC7.out.mono (by omega))).trans (HC8.out.mono (by omega))).trans (HC9.out.mono (by omega))).trans (HC10.out.mono (by omega))).trans (HC11.out.mono (by omega))).trans (HC12.out.mono (by omega))).trans (HC13.out.mono (by omega))).trans (HC14.out.mono (by omega))).trans (HC15.out.mono (by omega))).trans (HC16.out.mono (by omega))).trans (HC17.out.mono (by omega))).trans (HC18.out.mono (by omega))).trans (HC19.out.mono (by omega))).trans (HC20.out.below (by omega) (by omega))).trans (HC21.out.below (by omega))).trans (HC22.out.below (by omega))).trans (HC23.out.mono (by omega))).trans (HC24.out.below (by omega))).trans (HC25.out.mono (by omega))).trans (HC26.out.mono (by omega))).trans (HC27.out.mono (by omega))).trans (HC28.out.mono (by omega))).trans (HC29.out.mono (by omega)))⟩

end Go.Proofs.Ytililbgpjbpnkaa
