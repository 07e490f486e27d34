/- Laws of the seat: the program's function returns what the reference's does. EnaTake. -/
import Derived.Test.YtililbgpjbpnkaaEnaTake
import Derived.Test.YtililbgpjbpnkaaNetMark2
import Derived.Test.YtililbgpjbpnkaaLB1
import Derived.StillTailTactics
import Derived.Deep.RegionHeld3
namespace Go.Proofs.Ytililbgpjbpnkaa
open Go.RowKit
set_option linter.unusedVariables false
set_option linter.unusedSimpArgs false

set_option maxRecDepth 10000 in
set_option maxHeartbeats 2000000 in
theorem exactEnaTake_walk {n0 : NNet} {v0 : Value} {z1 : List Int} {A1 : Option Addr} {b1 o1 c1 : Nat} {a2 : Int} (w : World) (hV0 : NetV w 0 w.heap.size v0 n0) (hV1 : Row w 0 w.heap.size A1 b1 o1 (ints z1)) (hm1 : z1.length ≤ maxLen) (ha2 : (Lit.int .i64 a2).wf = true) :
    Calls Try.prog 11 #[v0, .slice A1 z1.length c1, .int .i64 a2] w fun e w' => e = .returned (.bool true) ∧ Below w.heap.size w w' := by
  have hN0 := hV0
  obtain ⟨A0, b0, o0, c0, ms0, rfl, hm0, hT0⟩ := hV0
  clear hT0
  unfold maxLen at hm0
  have hM1 := hm1
  unfold maxLen at hm1
  go_enter Try.func11, Try.ntmps11
  by_cases hbig1 : 1048576 < z1.length
  · go_wp2; go_ret; exact ⟨rfl, ((Below.refl _ _).alloc (by simp) _)⟩
  have hrl : ((takeN n0 z1 a2)).length ≤ 1048576 := takeN_len _ _ _
  have hrm : ((takeN n0 z1 a2)).length ≤ maxLen := by unfold maxLen; omega
  go_wp2_with fail
  have hs1 : (w.alloc (.cells #[Value.int .i64 n0.places, Value.slice A0 n0.tasks.length c0] 24)).heap.size = w.heap.size + 1 := by simp
  have HC1 := Lib.hid (show Below w.heap.size w (w.alloc (.cells #[Value.int .i64 n0.places, Value.slice A0 n0.tasks.length c0] 24)) from (Below.refl w.heap.size w).alloc (Nat.le_refl _) _)
  have hx0_0 : (w.alloc (.cells #[Value.int .i64 n0.places, Value.slice A0 n0.tasks.length c0] 24)).cell? ⟨w.heap.size, 0, none⟩ = some (Value.int .i64 n0.places) := by simp [World.cell?_alloc_new]
  have hx0_1 : (w.alloc (.cells #[Value.int .i64 n0.places, Value.slice A0 n0.tasks.length c0] 24)).cell? ⟨w.heap.size, 1, none⟩ = some (Value.slice A0 n0.tasks.length c0) := by simp [World.cell?_alloc_new]
  generalize w.alloc (.cells #[Value.int .i64 n0.places, Value.slice A0 n0.tasks.length c0] 24) = w1 at *
  go_wp2_with fail
  refine (szNetNet_c n0 _ _ _ (1048576 : Int) _ (hN0.below HC1.out (by omega)) (by omega) (by omega) (by omega)).mono ?_
  rintro e w2 ⟨rfl, hb⟩
  have hs2 : w1.heap.size ≤ w2.heap.size := hb.size
  have HC2 := Lib.hid hb
  replace hx0_0 := (HC2.out.cell (p := ⟨w.heap.size, 0, none⟩) (by dsimp only; omega)).trans hx0_0
  replace hx0_1 := (HC2.out.cell (p := ⟨w.heap.size, 1, none⟩) (by dsimp only; omega)).trans hx0_1
  clear hb
  have hps0 : 0 ≤ netSize n0 := netSize_pos n0
  by_cases hsz0 : (1048576 : Int) < netSize n0
  · rw [cutI_neg (by omega)]; go_wp2; go_ret; exact ⟨rfl, (HC1.out.trans (HC2.out.mono (by omega)))⟩
  rw [cutI_pos (by omega)]
  go_wp2_with fail
  refine (toNetNet_c n0 _ _ _ _ ((hN0.below HC1.out (by omega)).below HC2.out (by omega)) (by omega) (by omega)).mono ?_
  rintro e w3 ⟨uu, rfl, hR2, hb⟩
  have hs3 : w2.heap.size ≤ w3.heap.size := hb.size
  have HC3 := Lib.hid hb
  replace hx0_0 := (HC3.out.cell (p := ⟨w.heap.size, 0, none⟩) (by dsimp only; omega)).trans hx0_0
  replace hx0_1 := (HC3.out.cell (p := ⟨w.heap.size, 1, none⟩) (by dsimp only; omega)).trans hx0_1
  clear hb
  obtain ⟨bb1, rfl⟩ := hR2.form
  go_wp2_with fail
  refine (toIntS_c z1 _ _ A1 b1 o1 c1 _ (((hV1.below HC1.out (by omega)).below HC2.out (by omega)).below HC3.out (by omega)) (by omega) (by omega)).mono ?_
  rintro e w4 ⟨bb3, rfl, hR4, hb⟩
  have hs4 : w3.heap.size ≤ w4.heap.size := hb.size
  have HC4 := Lib.hid hb
  replace hx0_0 := (HC4.out.cell (p := ⟨w.heap.size, 0, none⟩) (by dsimp only; omega)).trans hx0_0
  replace hx0_1 := (HC4.out.cell (p := ⟨w.heap.size, 1, none⟩) (by dsimp only; omega)).trans hx0_1
  clear hb
  go_wp2_with fail
  refine (specEnaTake_c n0 _ z1 _ _ _ _ _ _ _ _ a2 _ (hR2.net.below HC4.out (by omega)) (by omega) hR4 (by omega) hM1).mono ?_
  rintro e w5 ⟨vv5, rfl, hM_6, hb⟩
  have hs5 : w4.heap.size ≤ w5.heap.size := hb.size
  have HC5 := Lib.hid hb
  replace hx0_0 := (HC5.out.cell (p := ⟨w.heap.size, 0, none⟩) (by dsimp only; omega)).trans hx0_0
  replace hx0_1 := (HC5.out.cell (p := ⟨w.heap.size, 1, none⟩) (by dsimp only; omega)).trans hx0_1
  clear hb
  obtain ⟨AA7, bb8, cc9, rfl, hG10⟩ := hM_6.row
  clear hM_6
  go_wp2_with fail
  refine (toNetNet_c n0 _ _ _ _ (((((hN0.below HC1.out (by omega)).below HC2.out (by omega)).below HC3.out (by omega)).below HC4.out (by omega)).below HC5.out (by omega)) (by omega) (by omega)).mono ?_
  rintro e w6 ⟨uu, rfl, hR12, hb⟩
  have hs6 : w5.heap.size ≤ w6.heap.size := hb.size
  have HC6 := Lib.hid hb
  replace hx0_0 := (HC6.out.cell (p := ⟨w.heap.size, 0, none⟩) (by dsimp only; omega)).trans hx0_0
  replace hx0_1 := (HC6.out.cell (p := ⟨w.heap.size, 1, none⟩) (by dsimp only; omega)).trans hx0_1
  clear hb
  obtain ⟨bb11, rfl⟩ := hR12.form
  go_wp2_with fail
  have hs7 : (w6.alloc (.cells #[Value.int .i64 n0.places, Value.slice (some ⟨bb11, 0, none⟩) n0.tasks.length n0.tasks.length] 29)).heap.size = w6.heap.size + 1 := by simp
  have HC7 := Lib.hid (show Below w6.heap.size w6 (w6.alloc (.cells #[Value.int .i64 n0.places, Value.slice (some ⟨bb11, 0, none⟩) n0.tasks.length n0.tasks.length] 29)) from (Below.refl w6.heap.size w6).alloc (Nat.le_refl _) _)
  replace hx0_0 := (HC7.out.cell (p := ⟨w.heap.size, 0, none⟩) (by dsimp only; omega)).trans hx0_0
  replace hx0_1 := (HC7.out.cell (p := ⟨w.heap.size, 1, none⟩) (by dsimp only; omega)).trans hx0_1
  have hx1_0 : (w6.alloc (.cells #[Value.int .i64 n0.places, Value.slice (some ⟨bb11, 0, none⟩) n0.tasks.length n0.tasks.length] 29)).cell? ⟨w6.heap.size, 0, none⟩ = some (Value.int .i64 n0.places) := by simp [World.cell?_alloc_new]
  have hx1_1 : (w6.alloc (.cells #[Value.int .i64 n0.places, Value.slice (some ⟨bb11, 0, none⟩) n0.tasks.length n0.tasks.length] 29)).cell? ⟨w6.heap.size, 1, none⟩ = some (Value.slice (some ⟨bb11, 0, none⟩) n0.tasks.length n0.tasks.length) := by simp [World.cell?_alloc_new]
  generalize w6.alloc (.cells #[Value.int .i64 n0.places, Value.slice (some ⟨bb11, 0, none⟩) n0.tasks.length n0.tasks.length] 29) = w7 at *
  go_wp2_with fail
  refine (toIntS_c z1 _ _ A1 b1 o1 c1 _ (((((((hV1.below HC1.out (by omega)).below HC2.out (by omega)).below HC3.out (by omega)).below HC4.out (by omega)).below HC5.out (by omega)).below HC6.out (by omega)).below HC7.out (by omega)) (by omega) (by omega)).mono ?_
  rintro e w8 ⟨bb13, rfl, hR14, hb⟩
  have hs8 : w7.heap.size ≤ w8.heap.size := hb.size
  have HC8 := Lib.hid hb
  replace hx0_0 := (HC8.out.cell (p := ⟨w.heap.size, 0, none⟩) (by dsimp only; omega)).trans hx0_0
  replace hx0_1 := (HC8.out.cell (p := ⟨w.heap.size, 1, none⟩) (by dsimp only; omega)).trans hx0_1
  replace hx1_0 := (HC8.out.cell (p := ⟨w6.heap.size, 0, none⟩) (by dsimp only; omega)).trans hx1_0
  replace hx1_1 := (HC8.out.cell (p := ⟨w6.heap.size, 1, none⟩) (by dsimp only; omega)).trans hx1_1
  clear hb
  go_wp2_with fail
  refine (implEnaTake_c n0 _ z1 _ _ _ _ _ _ _ _ a2 _ ((hR12.net.below HC7.out (by omega)).below HC8.out (by omega)) (by omega) (netSize_out (by omega)) hR14 (by omega) hM1).mono ?_
  rintro e w9 ⟨vv15, rfl, hM_16, hb⟩
  have hs9 : w8.heap.size ≤ w9.heap.size := hb.size
  have HC9 := Lib.hid hb
  replace hx0_0 := (HC9.out.cell (p := ⟨w.heap.size, 0, none⟩) (by dsimp only; omega)).trans hx0_0
  replace hx0_1 := (HC9.out.cell (p := ⟨w.heap.size, 1, none⟩) (by dsimp only; omega)).trans hx0_1
  replace hx1_0 := (HC9.out.cell (p := ⟨w6.heap.size, 0, none⟩) (by dsimp only; omega)).trans hx1_0
  replace hx1_1 := (HC9.out.cell (p := ⟨w6.heap.size, 1, none⟩) (by dsimp only; omega)).trans hx1_1
  clear hb
  obtain ⟨AA17, bb18, cc19, rfl, hG20⟩ := hM_16.row
  clear hM_16
  go_wp2_with fail
  refine (eqIntS_c ((takeN n0 z1 a2)) ((takeN n0 z1 a2)) _ _ _ _ _ _ _ _ _ _ _ _ _ hG20 ((((hG10.below HC6.out (by omega)).below HC7.out (by omega)).below HC8.out (by omega)).below HC9.out (by omega)) hrm hrm).mono ?_
  rintro e w10 ⟨rfl, hb⟩
  have hs10 : w9.heap.size ≤ w10.heap.size := hb.size
  have HC10 := Lib.hid hb
  replace hx0_0 := (HC10.out.cell (p := ⟨w.heap.size, 0, none⟩) (by dsimp only; omega)).trans hx0_0
  replace hx0_1 := (HC10.out.cell (p := ⟨w.heap.size, 1, none⟩) (by dsimp only; omega)).trans hx0_1
  replace hx1_0 := (HC10.out.cell (p := ⟨w6.heap.size, 0, none⟩) (by dsimp only; omega)).trans hx1_0
  replace hx1_1 := (HC10.out.cell (p := ⟨w6.heap.size, 1, none⟩) (by dsimp only; omega)).trans hx1_1
  clear hb
  go_wp2_with fail
  have hs11 : w10.drew.heap.size = w10.heap.size := rfl
  have HC11 := Lib.hid (show Below w10.heap.size w10 w10.drew from (Below.refl w10.heap.size w10).drew)
  replace hx0_0 := (HC11.out.cell (p := ⟨w.heap.size, 0, none⟩) (by dsimp only; omega)).trans hx0_0
  replace hx0_1 := (HC11.out.cell (p := ⟨w.heap.size, 1, none⟩) (by dsimp only; omega)).trans hx0_1
  replace hx1_0 := (HC11.out.cell (p := ⟨w6.heap.size, 0, none⟩) (by dsimp only; omega)).trans hx1_0
  replace hx1_1 := (HC11.out.cell (p := ⟨w6.heap.size, 1, none⟩) (by dsimp only; omega)).trans hx1_1
  have HVa := Lib.hid (show NetV w10.drew 0 w.heap.size _ n0 from (((((((((((hN0.below HC1.out (by omega)).below HC2.out (by omega)).below HC3.out (by omega)).below HC4.out (by omega)).below HC5.out (by omega)).below HC6.out (by omega)).below HC7.out (by omega)).below HC8.out (by omega)).below HC9.out (by omega)).below HC10.out (by omega)).below HC11.out (by omega)))
  have HXa := Lib.hid (show NetV w10.drew w5.heap.size w6.heap.size _ n0 from (((((hR12.net.below HC7.out (by omega)).below HC8.out (by omega)).below HC9.out (by omega)).below HC10.out (by omega)).below HC11.out (by omega)))
  have hqa : w.heap.size ≤ w10.drew.heap.size := by omega
  have hqs : netSize n0 ≤ 1048576 := by omega
  have hqb : w6.heap.size ≤ w10.drew.heap.size := by omega
  have hqx0 : w.heap.size < w10.drew.heap.size := by omega
  have hqx1 : w6.heap.size < w10.drew.heap.size := by omega
  go_region_held3 (fun w' => w'.cell? ⟨w.heap.size, 0, none⟩ = some (Value.int .i64 n0.places) ∧ w'.cell? ⟨w.heap.size, 1, none⟩ = some (Value.slice A0 n0.tasks.length c0) ∧ w'.cell? ⟨w6.heap.size, 0, none⟩ = some (Value.int .i64 n0.places) ∧ w'.cell? ⟨w6.heap.size, 1, none⟩ = some (Value.slice (some ⟨bb11, 0, none⟩) n0.tasks.length n0.tasks.length)) (first | exact ⟨hx0_0, hx0_1, hx1_0, hx1_1⟩ | exact ⟨hy0_0, hy0_1, hy1_0, hy1_1⟩ | exact ⟨hz0_0, hz0_1, hz1_0, hz1_1⟩)
   (first
    | (go_at_call 17; refine (toNetNet_c n0 _ 0 w.heap.size w10.drew HVa.out hqa hqs).mono ?_; rintro e w12 ⟨uu, rfl, hRe, hb⟩; obtain ⟨bbe, rfl⟩ := hRe.form; have hy0_0 := (hb.cell (p := ⟨w.heap.size, 0, none⟩) hqx0).trans hx0_0; have hy0_1 := (hb.cell (p := ⟨w.heap.size, 1, none⟩) hqx0).trans hx0_1; have hy1_0 := (hb.cell (p := ⟨w6.heap.size, 0, none⟩) hqx1).trans hx1_0; have hy1_1 := (hb.cell (p := ⟨w6.heap.size, 1, none⟩) hqx1).trans hx1_1)
    | (go_at_call 19; refine (eqNetNet_t n0 _ _ _ _ _ _ w12 (HXa.out.below hb hqb) hRe.net (Nat.le_trans hqb hb.size) (Nat.le_refl _)).mono ?_; rintro e w13 ⟨rfl, hb9⟩; have hz0_0 := (hb9.cell (p := ⟨w.heap.size, 0, none⟩) (Nat.lt_of_lt_of_le hqx0 hb.size)).trans hy0_0; have hz0_1 := (hb9.cell (p := ⟨w.heap.size, 1, none⟩) (Nat.lt_of_lt_of_le hqx0 hb.size)).trans hy0_1; have hz1_0 := (hb9.cell (p := ⟨w6.heap.size, 0, none⟩) (Nat.lt_of_lt_of_le hqx1 hb.size)).trans hy1_0; have hz1_1 := (hb9.cell (p := ⟨w6.heap.size, 1, none⟩) (Nat.lt_of_lt_of_le hqx1 hb.size)).trans hy1_1))
  have hs12 : w10.drew.heap.size ≤ w12.heap.size := hb.size
  have HC12 := Lib.hid hb
  have hs13 : w12.heap.size ≤ w13.heap.size := hb9.size
  have HC13 := Lib.hid hb9
  clear hb hb9 hRe HVa HXa hqa hqs hqb hx0_0 hy0_0 hx0_1 hy0_1 hx1_0 hy1_0 hx1_1 hy1_1
  have hx0_0 := hz0_0
  have hx0_1 := hz0_1
  have hx1_0 := hz1_0
  have hx1_1 := hz1_1
  clear hz0_0 hz0_1 hz1_0 hz1_1 hqx0 hqx1
  go_wp2_with fail
  refine (toIntS_c z1 _ _ A1 b1 o1 c1 _ (((((((((((((hV1.below HC1.out (by omega)).below HC2.out (by omega)).below HC3.out (by omega)).below HC4.out (by omega)).below HC5.out (by omega)).below HC6.out (by omega)).below HC7.out (by omega)).below HC8.out (by omega)).below HC9.out (by omega)).below HC10.out (by omega)).below HC11.out (by omega)).below HC12.out (by omega)).below HC13.out (by omega)) (by omega) (by omega)).mono ?_
  rintro e w14 ⟨bb21, rfl, hR22, hb⟩
  have hs14 : w13.heap.size ≤ w14.heap.size := hb.size
  have HC14 := Lib.hid hb
  replace hx0_0 := (HC14.out.cell (p := ⟨w.heap.size, 0, none⟩) (by dsimp only; omega)).trans hx0_0
  replace hx0_1 := (HC14.out.cell (p := ⟨w.heap.size, 1, none⟩) (by dsimp only; omega)).trans hx0_1
  replace hx1_0 := (HC14.out.cell (p := ⟨w6.heap.size, 0, none⟩) (by dsimp only; omega)).trans hx1_0
  replace hx1_1 := (HC14.out.cell (p := ⟨w6.heap.size, 1, none⟩) (by dsimp only; omega)).trans hx1_1
  clear hb
  go_wp2_with fail
  refine (eqIntS_c z1 z1 _ _ _ _ _ _ _ _ _ _ _ _ _ ((((((hR14.below HC9.out (by omega)).below HC10.out (by omega)).below HC11.out (by omega)).below HC12.out (by omega)).below HC13.out (by omega)).below HC14.out (by omega)) hR22 hM1 hM1).mono ?_
  rintro e w15 ⟨rfl, hb⟩
  have hs15 : w14.heap.size ≤ w15.heap.size := hb.size
  have HC15 := Lib.hid hb
  replace hx0_0 := (HC15.out.cell (p := ⟨w.heap.size, 0, none⟩) (by dsimp only; omega)).trans hx0_0
  replace hx0_1 := (HC15.out.cell (p := ⟨w.heap.size, 1, none⟩) (by dsimp only; omega)).trans hx0_1
  replace hx1_0 := (HC15.out.cell (p := ⟨w6.heap.size, 0, none⟩) (by dsimp only; omega)).trans hx1_0
  replace hx1_1 := (HC15.out.cell (p := ⟨w6.heap.size, 1, none⟩) (by dsimp only; omega)).trans hx1_1
  clear hb
  go_wp2_with fail
  refine (markNetNet_s n0 _ w5.heap.size w6.heap.size _ _ (((((((((hR12.below HC7.out (by omega)).below HC8.out (by omega)).below HC9.out (by omega)).below HC10.out (by omega)).below HC11.out (by omega)).below HC12.out (by omega)).below HC13.out (by omega)).below HC14.out (by omega)).below HC15.out (by omega)) (by omega) (by omega) (by omega) (by omega)).mono ?_
  rintro e w16 ⟨kk24, rfl, kk241, kk242, hu⟩
  have hs16 : w15.heap.size ≤ w16.heap.size := hu.size
  have HC16 := Lib.hid hu
  replace hx0_0 := (HC16.out.cell (p := ⟨w.heap.size, 0, none⟩) (by dsimp only; omega) (by dsimp only; omega)).trans hx0_0
  replace hx0_1 := (HC16.out.cell (p := ⟨w.heap.size, 1, none⟩) (by dsimp only; omega) (by dsimp only; omega)).trans hx0_1
  replace hx1_0 := (HC16.out.cell (p := ⟨w6.heap.size, 0, none⟩) (by dsimp only; omega) (by dsimp only; omega)).trans hx1_0
  replace hx1_1 := (HC16.out.cell (p := ⟨w6.heap.size, 1, none⟩) (by dsimp only; omega) (by dsimp only; omega)).trans hx1_1
  clear hu
  go_wp2_with fail
  refine (markIntS_c z1 _ _ _ _ _ _ kk24 _ ((((((((hR14.below HC9.out (by omega)).below HC10.out (by omega)).below HC11.out (by omega)).below HC12.out (by omega)).below HC13.out (by omega)).below HC14.out (by omega)).below HC15.out (by omega)).chg HC16.out (by omega) (by omega)) (by omega) (by omega) (by omega)).mono ?_
  rintro e w17 ⟨rfl, hK25, hu⟩
  have hs17 : w17.heap.size = w16.heap.size := hu.size
  have HC17 := Lib.hid hu
  replace hx0_0 := (HC17.out.cell (p := ⟨w.heap.size, 0, none⟩) (by dsimp only; omega)).trans hx0_0
  replace hx0_1 := (HC17.out.cell (p := ⟨w.heap.size, 1, none⟩) (by dsimp only; omega)).trans hx0_1
  replace hx1_0 := (HC17.out.cell (p := ⟨w6.heap.size, 0, none⟩) (by dsimp only; omega)).trans hx1_0
  replace hx1_1 := (HC17.out.cell (p := ⟨w6.heap.size, 1, none⟩) (by dsimp only; omega)).trans hx1_1
  clear hu
  clear hK25
  go_wp2_with fail
  refine (eqIntS_c ((takeN n0 z1 a2)) ((takeN n0 z1 a2)) _ _ _ _ _ _ _ _ _ _ _ _ _ ((((((((hG20.below HC10.out (by omega)).below HC11.out (by omega)).below HC12.out (by omega)).below HC13.out (by omega)).below HC14.out (by omega)).below HC15.out (by omega)).chg HC16.out (by omega) (by omega)).upd HC17.out (by omega)) ((((((((((((hG10.below HC6.out (by omega)).below HC7.out (by omega)).below HC8.out (by omega)).below HC9.out (by omega)).below HC10.out (by omega)).below HC11.out (by omega)).below HC12.out (by omega)).below HC13.out (by omega)).below HC14.out (by omega)).below HC15.out (by omega)).chg HC16.out (by omega) (by omega)).upd HC17.out (by omega)) hrm hrm).mono ?_
  rintro e w18 ⟨rfl, hb⟩
  have hs18 : w17.heap.size ≤ w18.heap.size := hb.size
  have HC18 := Lib.hid hb
  replace hx0_0 := (HC18.out.cell (p := ⟨w.heap.size, 0, none⟩) (by dsimp only; omega)).trans hx0_0
  replace hx0_1 := (HC18.out.cell (p := ⟨w.heap.size, 1, none⟩) (by dsimp only; omega)).trans hx0_1
  replace hx1_0 := (HC18.out.cell (p := ⟨w6.heap.size, 0, none⟩) (by dsimp only; omega)).trans hx1_0
  replace hx1_1 := (HC18.out.cell (p := ⟨w6.heap.size, 1, none⟩) (by dsimp only; omega)).trans hx1_1
  clear hb
  go_wp2_with fail
  refine (markIntS_c ((takeN n0 z1 a2)) _ _ _ _ _ _ 1 _ (((((((((hG20.below HC10.out (by omega)).below HC11.out (by omega)).below HC12.out (by omega)).below HC13.out (by omega)).below HC14.out (by omega)).below HC15.out (by omega)).chg HC16.out (by omega) (by omega)).upd HC17.out (by omega)).below HC18.out (by omega)) (by omega) (by omega) (by omega)).mono ?_
  rintro e w19 ⟨rfl, hK27, hu⟩
  have hs19 : w19.heap.size = w18.heap.size := hu.size
  have HC19 := Lib.hid hu
  replace hx0_0 := (HC19.out.cell (p := ⟨w.heap.size, 0, none⟩) (by dsimp only; omega)).trans hx0_0
  replace hx0_1 := (HC19.out.cell (p := ⟨w.heap.size, 1, none⟩) (by dsimp only; omega)).trans hx0_1
  replace hx1_0 := (HC19.out.cell (p := ⟨w6.heap.size, 0, none⟩) (by dsimp only; omega)).trans hx1_0
  replace hx1_1 := (HC19.out.cell (p := ⟨w6.heap.size, 1, none⟩) (by dsimp only; omega)).trans hx1_1
  clear hu
  go_wp2_with fail
  refine (heldIntS_c _ _ _ _ _ _ _ 1 _ hK27 (by omega) (by omega) (by omega)).mono ?_
  rintro e wq ⟨rfl, rfl⟩
  go_wp2_with fail
  refine (toNetNet_c n0 _ _ _ _ (((((((((((((((((((hN0.below HC1.out (by omega)).below HC2.out (by omega)).below HC3.out (by omega)).below HC4.out (by omega)).below HC5.out (by omega)).below HC6.out (by omega)).below HC7.out (by omega)).below HC8.out (by omega)).below HC9.out (by omega)).below HC10.out (by omega)).below HC11.out (by omega)).below HC12.out (by omega)).below HC13.out (by omega)).below HC14.out (by omega)).below HC15.out (by omega)).chg HC16.out (by omega) (by omega)).upd HC17.out (by omega)).below HC18.out (by omega)).upd HC19.out (by omega)) (by omega) (by omega)).mono ?_
  rintro e w20 ⟨uu, rfl, hR29, hb⟩
  have hs20 : w19.heap.size ≤ w20.heap.size := hb.size
  have HC20 := Lib.hid hb
  replace hx0_0 := (HC20.out.cell (p := ⟨w.heap.size, 0, none⟩) (by dsimp only; omega)).trans hx0_0
  replace hx0_1 := (HC20.out.cell (p := ⟨w.heap.size, 1, none⟩) (by dsimp only; omega)).trans hx0_1
  replace hx1_0 := (HC20.out.cell (p := ⟨w6.heap.size, 0, none⟩) (by dsimp only; omega)).trans hx1_0
  replace hx1_1 := (HC20.out.cell (p := ⟨w6.heap.size, 1, none⟩) (by dsimp only; omega)).trans hx1_1
  clear hb
  obtain ⟨bb28, rfl⟩ := hR29.form
  go_wp2_with fail
  refine (toIntS_c z1 _ _ A1 b1 o1 c1 _ ((((((((((((((((((((hV1.below HC1.out (by omega)).below HC2.out (by omega)).below HC3.out (by omega)).below HC4.out (by omega)).below HC5.out (by omega)).below HC6.out (by omega)).below HC7.out (by omega)).below HC8.out (by omega)).below HC9.out (by omega)).below HC10.out (by omega)).below HC11.out (by omega)).below HC12.out (by omega)).below HC13.out (by omega)).below HC14.out (by omega)).below HC15.out (by omega)).chg HC16.out (by omega) (by omega)).upd HC17.out (by omega)).below HC18.out (by omega)).upd HC19.out (by omega)).below HC20.out (by omega)) (by omega) (by omega)).mono ?_
  rintro e w21 ⟨bb30, rfl, hR31, hb⟩
  have hs21 : w20.heap.size ≤ w21.heap.size := hb.size
  have HC21 := Lib.hid hb
  replace hx0_0 := (HC21.out.cell (p := ⟨w.heap.size, 0, none⟩) (by dsimp only; omega)).trans hx0_0
  replace hx0_1 := (HC21.out.cell (p := ⟨w.heap.size, 1, none⟩) (by dsimp only; omega)).trans hx0_1
  replace hx1_0 := (HC21.out.cell (p := ⟨w6.heap.size, 0, none⟩) (by dsimp only; omega)).trans hx1_0
  replace hx1_1 := (HC21.out.cell (p := ⟨w6.heap.size, 1, none⟩) (by dsimp only; omega)).trans hx1_1
  clear hb
  go_wp2_with fail
  refine (implEnaTake_c n0 _ z1 _ _ _ _ _ _ _ _ a2 _ (hR29.net.below HC21.out (by omega)) (by omega) (netSize_out (by omega)) hR31 (by omega) hM1).mono ?_
  rintro e w22 ⟨vv32, rfl, hM_33, hb⟩
  have hs22 : w21.heap.size ≤ w22.heap.size := hb.size
  have HC22 := Lib.hid hb
  replace hx0_0 := (HC22.out.cell (p := ⟨w.heap.size, 0, none⟩) (by dsimp only; omega)).trans hx0_0
  replace hx0_1 := (HC22.out.cell (p := ⟨w.heap.size, 1, none⟩) (by dsimp only; omega)).trans hx0_1
  replace hx1_0 := (HC22.out.cell (p := ⟨w6.heap.size, 0, none⟩) (by dsimp only; omega)).trans hx1_0
  replace hx1_1 := (HC22.out.cell (p := ⟨w6.heap.size, 1, none⟩) (by dsimp only; omega)).trans hx1_1
  clear hb
  obtain ⟨AA34, bb35, cc36, rfl, hG37⟩ := hM_33.row
  clear hM_33
  go_wp2_with fail
  refine (eqIntS_c ((takeN n0 z1 a2)) ((takeN n0 z1 a2)) _ _ _ _ _ _ _ _ _ _ _ _ _ hG37 (((((((((((((((((hG10.below HC6.out (by omega)).below HC7.out (by omega)).below HC8.out (by omega)).below HC9.out (by omega)).below HC10.out (by omega)).below HC11.out (by omega)).below HC12.out (by omega)).below HC13.out (by omega)).below HC14.out (by omega)).below HC15.out (by omega)).chg HC16.out (by omega) (by omega)).upd HC17.out (by omega)).below HC18.out (by omega)).upd HC19.out (by omega)).below HC20.out (by omega)).below HC21.out (by omega)).below HC22.out (by omega)) hrm hrm).mono ?_
  rintro e w23 ⟨rfl, hb⟩
  have hs23 : w22.heap.size ≤ w23.heap.size := hb.size
  have HC23 := Lib.hid hb
  replace hx0_0 := (HC23.out.cell (p := ⟨w.heap.size, 0, none⟩) (by dsimp only; omega)).trans hx0_0
  replace hx0_1 := (HC23.out.cell (p := ⟨w.heap.size, 1, none⟩) (by dsimp only; omega)).trans hx0_1
  replace hx1_0 := (HC23.out.cell (p := ⟨w6.heap.size, 0, none⟩) (by dsimp only; omega)).trans hx1_0
  replace hx1_1 := (HC23.out.cell (p := ⟨w6.heap.size, 1, none⟩) (by dsimp only; omega)).trans hx1_1
  clear hb
  go_wp2_with fail
  refine (heldIntS_c _ _ _ _ _ _ _ 1 _ ((((hK27.below HC20.out (by omega)).below HC21.out (by omega)).below HC22.out (by omega)).below HC23.out (by omega)) (by omega) (by omega) (by omega)).mono ?_
  rintro e wq ⟨rfl, rfl⟩
  go_wp2
  go_ret
  exact ⟨rfl, ((((((((((((((((((((((HC1.out.trans (HC2.out.mono (by omega))).trans (HC3.out.mono (by omega))).trans (HC4.out.mono (by omega))).trans (HC5.out.mono (by omega))).trans (HC6.out.mono (by omega))).trans (HC7.out.mono (by omega))).trans (HC8.out.mono (by omega))).trans (HC9.out.mono (by omega))).trans (HC10.out.mono (by omega))).trans (HC11.out.mono (by omega))).trans (HC12.out.mono (by omega))).trans (HC13.out.mono (by omega))).trans (HC14.out.mono (by omega))).trans (HC15.out.mono (by omega))).trans (HC16.out.below (by omega) (by omega))).trans (HC17.out.below (by omega))).trans (HC18.out.mono (by omega))).trans (HC19.out.below (by omega))).trans (HC20.out.mono (by omega))).trans (HC21.out.mono (by omega))).trans (HC22.out.mono (by omega))).trans (HC23.out.mono (by omega)))⟩

end Go.Proofs.Ytililbgpjbpnkaa
