/- Laws of the seat: the program's function returns what the reference's does. Nets: truth values and numbers. -/
import Derived.Test.YtililbgpjbpnkaaNetEq
import Derived.Test.YtililbgpjbpnkaaSpecNetOk
import Derived.Test.YtililbgpjbpnkaaImplNet
import Derived.Test.YtililbgpjbpnkaaMrkOk
import Derived.Test.YtililbgpjbpnkaaNetFlows
import Derived.StillTailTactics
import Derived.Deep.RegionHeld3
namespace Go.Proofs.Ytililbgpjbpnkaa
open Go.RowKit
set_option linter.unusedVariables false
set_option linter.unusedSimpArgs false

theorem NetV.drew {w : World} {lo hi : Nat} {v : Value} {n : NNet} (h : NetV w lo hi v n) : NetV w.drew lo hi v n := h.keep fun _ _ _ => rfl
theorem netSize_pos (n : NNet) : 0 ≤ netSize n := by unfold netSize; have := tasksSize_pos n.tasks; omega
theorem netSize_out {n : NNet} (h : netSize n ≤ 1048576) : ∀ t ∈ n.tasks, t.out.length ≤ 1048576 := fun t ht => ((netSize_small h).2 t ht).2.1

set_option maxRecDepth 10000 in
set_option maxHeartbeats 1000000 in
theorem exactNetOk_walk {n0 : NNet} {v0 : Value} (w : World) (hV0 : NetV w 0 w.heap.size v0 n0) :
    Calls Try.prog 3 #[v0] w fun e w' => e = .returned (.bool true) ∧ Below w.heap.size w w' := by
  have hN0 := hV0
  obtain ⟨A0, b0, o0, c0, ms0, rfl, hm0, hT0⟩ := hV0
  clear hT0
  unfold maxLen at hm0
  go_enter Try.func3, Try.ntmps3
  go_wp2_with fail
  have hs1 : (w.alloc (.cells #[Value.int .i64 n0.places, Value.slice A0 n0.tasks.length c0] 24)).heap.size = w.heap.size + 1 := by simp
  have HC1 := Lib.hid (show Below w.heap.size w (w.alloc (.cells #[Value.int .i64 n0.places, Value.slice A0 n0.tasks.length c0] 24)) from (Below.refl w.heap.size w).alloc (Nat.le_refl _) _)
  have hx0_0 : (w.alloc (.cells #[Value.int .i64 n0.places, Value.slice A0 n0.tasks.length c0] 24)).cell? ⟨w.heap.size, 0, none⟩ = some (Value.int .i64 n0.places) := by simp [World.cell?_alloc_new]
  have hx0_1 : (w.alloc (.cells #[Value.int .i64 n0.places, Value.slice A0 n0.tasks.length c0] 24)).cell? ⟨w.heap.size, 1, none⟩ = some (Value.slice A0 n0.tasks.length c0) := by simp [World.cell?_alloc_new]
  generalize w.alloc (.cells #[Value.int .i64 n0.places, Value.slice A0 n0.tasks.length c0] 24) = w1 at *
  go_wp2_with fail
  refine (szNetNet_c n0 _ _ _ (1048576 : Int) _ (hN0.below HC1.out (by omega)) (by omega) (by omega) (by omega)).mono ?_
  rintro e w2 ⟨rfl, hb⟩
  have hs2 : w1.heap.size ≤ w2.heap.size := hb.size
  have HC2 := Lib.hid hb
  replace hx0_0 := (HC2.out.cell (p := ⟨w.heap.size, 0, none⟩) (by dsimp only; omega)).trans hx0_0
  replace hx0_1 := (HC2.out.cell (p := ⟨w.heap.size, 1, none⟩) (by dsimp only; omega)).trans hx0_1
  clear hb
  have hps0 : 0 ≤ netSize n0 := netSize_pos n0
  by_cases hsz0 : (1048576 : Int) < netSize n0
  · rw [cutI_neg (by omega)]; go_wp2; go_ret; exact ⟨rfl, (HC1.out.trans (HC2.out.mono (by omega)))⟩
  rw [cutI_pos (by omega)]
  go_wp2_with fail
  refine (toNetNet_c n0 _ _ _ _ ((hN0.below HC1.out (by omega)).below HC2.out (by omega)) (by omega) (by omega)).mono ?_
  rintro e w3 ⟨uu, rfl, hR2, hb⟩
  have hs3 : w2.heap.size ≤ w3.heap.size := hb.size
  have HC3 := Lib.hid hb
  replace hx0_0 := (HC3.out.cell (p := ⟨w.heap.size, 0, none⟩) (by dsimp only; omega)).trans hx0_0
  replace hx0_1 := (HC3.out.cell (p := ⟨w.heap.size, 1, none⟩) (by dsimp only; omega)).trans hx0_1
  clear hb
  obtain ⟨bb1, rfl⟩ := hR2.form
  go_wp2_with fail
  refine (specNetOk_c n0 _ _ _ _ hR2.net (by omega)).mono ?_
  rintro e w4 ⟨rfl, hb⟩
  have hs4 : w3.heap.size ≤ w4.heap.size := hb.size
  have HC4 := Lib.hid hb
  replace hx0_0 := (HC4.out.cell (p := ⟨w.heap.size, 0, none⟩) (by dsimp only; omega)).trans hx0_0
  replace hx0_1 := (HC4.out.cell (p := ⟨w.heap.size, 1, none⟩) (by dsimp only; omega)).trans hx0_1
  clear hb
  go_wp2_with fail
  refine (toNetNet_c n0 _ _ _ _ ((((hN0.below HC1.out (by omega)).below HC2.out (by omega)).below HC3.out (by omega)).below HC4.out (by omega)) (by omega) (by omega)).mono ?_
  rintro e w5 ⟨uu, rfl, hR4, hb⟩
  have hs5 : w4.heap.size ≤ w5.heap.size := hb.size
  have HC5 := Lib.hid hb
  replace hx0_0 := (HC5.out.cell (p := ⟨w.heap.size, 0, none⟩) (by dsimp only; omega)).trans hx0_0
  replace hx0_1 := (HC5.out.cell (p := ⟨w.heap.size, 1, none⟩) (by dsimp only; omega)).trans hx0_1
  clear hb
  obtain ⟨bb3, rfl⟩ := hR4.form
  go_wp2_with fail
  have hs6 : (w5.alloc (.cells #[Value.int .i64 n0.places, Value.slice (some ⟨bb3, 0, none⟩) n0.tasks.length n0.tasks.length] 29)).heap.size = w5.heap.size + 1 := by simp
  have HC6 := Lib.hid (show Below w5.heap.size w5 (w5.alloc (.cells #[Value.int .i64 n0.places, Value.slice (some ⟨bb3, 0, none⟩) n0.tasks.length n0.tasks.length] 29)) from (Below.refl w5.heap.size w5).alloc (Nat.le_refl _) _)
  replace hx0_0 := (HC6.out.cell (p := ⟨w.heap.size, 0, none⟩) (by dsimp only; omega)).trans hx0_0
  replace hx0_1 := (HC6.out.cell (p := ⟨w.heap.size, 1, none⟩) (by dsimp only; omega)).trans hx0_1
  have hx1_0 : (w5.alloc (.cells #[Value.int .i64 n0.places, Value.slice (some ⟨bb3, 0, none⟩) n0.tasks.length n0.tasks.length] 29)).cell? ⟨w5.heap.size, 0, none⟩ = some (Value.int .i64 n0.places) := by simp [World.cell?_alloc_new]
  have hx1_1 : (w5.alloc (.cells #[Value.int .i64 n0.places, Value.slice (some ⟨bb3, 0, none⟩) n0.tasks.length n0.tasks.length] 29)).cell? ⟨w5.heap.size, 1, none⟩ = some (Value.slice (some ⟨bb3, 0, none⟩) n0.tasks.length n0.tasks.length) := by simp [World.cell?_alloc_new]
  generalize w5.alloc (.cells #[Value.int .i64 n0.places, Value.slice (some ⟨bb3, 0, none⟩) n0.tasks.length n0.tasks.length] 29) = w6 at *
  go_wp2_with fail
  refine (implNetOk_c n0 _ _ _ _ (hR4.net.below HC6.out (by omega)) (by omega) (netSize_out (by omega))).mono ?_
  rintro e w7 ⟨rfl, hb⟩
  have hs7 : w6.heap.size ≤ w7.heap.size := hb.size
  have HC7 := Lib.hid hb
  replace hx0_0 := (HC7.out.cell (p := ⟨w.heap.size, 0, none⟩) (by dsimp only; omega)).trans hx0_0
  replace hx0_1 := (HC7.out.cell (p := ⟨w.heap.size, 1, none⟩) (by dsimp only; omega)).trans hx0_1
  replace hx1_0 := (HC7.out.cell (p := ⟨w5.heap.size, 0, none⟩) (by dsimp only; omega)).trans hx1_0
  replace hx1_1 := (HC7.out.cell (p := ⟨w5.heap.size, 1, none⟩) (by dsimp only; omega)).trans hx1_1
  clear hb
  go_wp2_with fail
  have hs8 : w7.drew.heap.size = w7.heap.size := rfl
  have HC8 := Lib.hid (show Below w7.heap.size w7 w7.drew from (Below.refl w7.heap.size w7).drew)
  replace hx0_0 := (HC8.out.cell (p := ⟨w.heap.size, 0, none⟩) (by dsimp only; omega)).trans hx0_0
  replace hx0_1 := (HC8.out.cell (p := ⟨w.heap.size, 1, none⟩) (by dsimp only; omega)).trans hx0_1
  replace hx1_0 := (HC8.out.cell (p := ⟨w5.heap.size, 0, none⟩) (by dsimp only; omega)).trans hx1_0
  replace hx1_1 := (HC8.out.cell (p := ⟨w5.heap.size, 1, none⟩) (by dsimp only; omega)).trans hx1_1
  have HVa := Lib.hid (show NetV w7.drew 0 w.heap.size _ n0 from ((((((((hN0.below HC1.out (by omega)).below HC2.out (by omega)).below HC3.out (by omega)).below HC4.out (by omega)).below HC5.out (by omega)).below HC6.out (by omega)).below HC7.out (by omega)).below HC8.out (by omega)))
  have HXa := Lib.hid (show NetV w7.drew w4.heap.size w5.heap.size _ n0 from (((hR4.net.below HC6.out (by omega)).below HC7.out (by omega)).below HC8.out (by omega)))
  have hqa : w.heap.size ≤ w7.drew.heap.size := by omega
  have hqs : netSize n0 ≤ 1048576 := by omega
  have hqb : w5.heap.size ≤ w7.drew.heap.size := by omega
  have hqx0 : w.heap.size < w7.drew.heap.size := by omega
  have hqx1 : w5.heap.size < w7.drew.heap.size := by omega
  go_region_held3 (fun w' => w'.cell? ⟨w.heap.size, 0, none⟩ = some (Value.int .i64 n0.places) ∧ w'.cell? ⟨w.heap.size, 1, none⟩ = some (Value.slice A0 n0.tasks.length c0) ∧ w'.cell? ⟨w5.heap.size, 0, none⟩ = some (Value.int .i64 n0.places) ∧ w'.cell? ⟨w5.heap.size, 1, none⟩ = some (Value.slice (some ⟨bb3, 0, none⟩) n0.tasks.length n0.tasks.length)) (first | exact ⟨hx0_0, hx0_1, hx1_0, hx1_1⟩ | exact ⟨hy0_0, hy0_1, hy1_0, hy1_1⟩ | exact ⟨hz0_0, hz0_1, hz1_0, hz1_1⟩)
   (first
    | (go_at_call 17; refine (toNetNet_c n0 _ 0 w.heap.size w7.drew HVa.out hqa hqs).mono ?_; rintro e w9 ⟨uu, rfl, hRe, hb⟩; obtain ⟨bbe, rfl⟩ := hRe.form; have hy0_0 := (hb.cell (p := ⟨w.heap.size, 0, none⟩) hqx0).trans hx0_0; have hy0_1 := (hb.cell (p := ⟨w.heap.size, 1, none⟩) hqx0).trans hx0_1; have hy1_0 := (hb.cell (p := ⟨w5.heap.size, 0, none⟩) hqx1).trans hx1_0; have hy1_1 := (hb.cell (p := ⟨w5.heap.size, 1, none⟩) hqx1).trans hx1_1)
    | (go_at_call 19; refine (eqNetNet_t n0 _ _ _ _ _ _ w9 (HXa.out.below hb hqb) hRe.net (Nat.le_trans hqb hb.size) (Nat.le_refl _)).mono ?_; rintro e w10 ⟨rfl, hb9⟩; have hz0_0 := (hb9.cell (p := ⟨w.heap.size, 0, none⟩) (Nat.lt_of_lt_of_le hqx0 hb.size)).trans hy0_0; have hz0_1 := (hb9.cell (p := ⟨w.heap.size, 1, none⟩) (Nat.lt_of_lt_of_le hqx0 hb.size)).trans hy0_1; have hz1_0 := (hb9.cell (p := ⟨w5.heap.size, 0, none⟩) (Nat.lt_of_lt_of_le hqx1 hb.size)).trans hy1_0; have hz1_1 := (hb9.cell (p := ⟨w5.heap.size, 1, none⟩) (Nat.lt_of_lt_of_le hqx1 hb.size)).trans hy1_1))
  have hs9 : w7.drew.heap.size ≤ w9.heap.size := hb.size
  have HC9 := Lib.hid hb
  have hs10 : w9.heap.size ≤ w10.heap.size := hb9.size
  have HC10 := Lib.hid hb9
  clear hb hb9 hRe HVa HXa hqa hqs hqb hx0_0 hy0_0 hx0_1 hy0_1 hx1_0 hy1_0 hx1_1 hy1_1
  have hx0_0 := hz0_0
  have hx0_1 := hz0_1
  have hx1_0 := hz1_0
  have hx1_1 := hz1_1
  clear hz0_0 hz0_1 hz1_0 hz1_1 hqx0 hqx1
  go_wp2
  go_ret
  exact ⟨rfl, (((((((((HC1.out.trans (HC2.out.mono (by omega))).trans (HC3.out.mono (by omega))).trans (HC4.out.mono (by omega))).trans (HC5.out.mono (by omega))).trans (HC6.out.mono (by omega))).trans (HC7.out.mono (by omega))).trans (HC8.out.mono (by omega))).trans (HC9.out.mono (by omega))).trans (HC10.out.mono (by omega)))⟩

set_option maxRecDepth 10000 in
set_option maxHeartbeats 1000000 in
theorem exactMrkOk_walk {n0 : NNet} {v0 : Value} {z1 : List Int} {A1 : Option Addr} {b1 o1 c1 : Nat} (w : World) (hV0 : NetV w 0 w.heap.size v0 n0) (hV1 : Row w 0 w.heap.size A1 b1 o1 (ints z1)) (hm1 : z1.length ≤ maxLen) :
    Calls Try.prog 4 #[v0, .slice A1 z1.length c1] w fun e w' => e = .returned (.bool true) ∧ Below w.heap.size w w' := by
  have hN0 := hV0
  obtain ⟨A0, b0, o0, c0, ms0, rfl, hm0, hT0⟩ := hV0
  clear hT0
  unfold maxLen at hm0
  have hM1 := hm1
  unfold maxLen at hm1
  go_enter Try.func4, Try.ntmps4
  by_cases hbig1 : 1048576 < z1.length
  · go_wp2; go_ret; exact ⟨rfl, ((Below.refl _ _).alloc (by simp) _)⟩
  go_wp2_with fail
  have hs1 : (w.alloc (.cells #[Value.int .i64 n0.places, Value.slice A0 n0.tasks.length c0] 24)).heap.size = w.heap.size + 1 := by simp
  have HC1 := Lib.hid (show Below w.heap.size w (w.alloc (.cells #[Value.int .i64 n0.places, Value.slice A0 n0.tasks.length c0] 24)) from (Below.refl w.heap.size w).alloc (Nat.le_refl _) _)
  have hx0_0 : (w.alloc (.cells #[Value.int .i64 n0.places, Value.slice A0 n0.tasks.length c0] 24)).cell? ⟨w.heap.size, 0, none⟩ = some (Value.int .i64 n0.places) := by simp [World.cell?_alloc_new]
  have hx0_1 : (w.alloc (.cells #[Value.int .i64 n0.places, Value.slice A0 n0.tasks.length c0] 24)).cell? ⟨w.heap.size, 1, none⟩ = some (Value.slice A0 n0.tasks.length c0) := by simp [World.cell?_alloc_new]
  generalize w.alloc (.cells #[Value.int .i64 n0.places, Value.slice A0 n0.tasks.length c0] 24) = w1 at *
  go_wp2_with fail
  refine (szNetNet_c n0 _ _ _ (1048576 : Int) _ (hN0.below HC1.out (by omega)) (by omega) (by omega) (by omega)).mono ?_
  rintro e w2 ⟨rfl, hb⟩
  have hs2 : w1.heap.size ≤ w2.heap.size := hb.size
  have HC2 := Lib.hid hb
  replace hx0_0 := (HC2.out.cell (p := ⟨w.heap.size, 0, none⟩) (by dsimp only; omega)).trans hx0_0
  replace hx0_1 := (HC2.out.cell (p := ⟨w.heap.size, 1, none⟩) (by dsimp only; omega)).trans hx0_1
  clear hb
  have hps0 : 0 ≤ netSize n0 := netSize_pos n0
  by_cases hsz0 : (1048576 : Int) < netSize n0
  · rw [cutI_neg (by omega)]; go_wp2; go_ret; exact ⟨rfl, (HC1.out.trans (HC2.out.mono (by omega)))⟩
  rw [cutI_pos (by omega)]
  go_wp2_with fail
  refine (toNetNet_c n0 _ _ _ _ ((hN0.below HC1.out (by omega)).below HC2.out (by omega)) (by omega) (by omega)).mono ?_
  rintro e w3 ⟨uu, rfl, hR2, hb⟩
  have hs3 : w2.heap.size ≤ w3.heap.size := hb.size
  have HC3 := Lib.hid hb
  replace hx0_0 := (HC3.out.cell (p := ⟨w.heap.size, 0, none⟩) (by dsimp only; omega)).trans hx0_0
  replace hx0_1 := (HC3.out.cell (p := ⟨w.heap.size, 1, none⟩) (by dsimp only; omega)).trans hx0_1
  clear hb
  obtain ⟨bb1, rfl⟩ := hR2.form
  go_wp2_with fail
  refine (toIntS_c z1 _ _ A1 b1 o1 c1 _ (((hV1.below HC1.out (by omega)).below HC2.out (by omega)).below HC3.out (by omega)) (by omega) (by omega)).mono ?_
  rintro e w4 ⟨bb3, rfl, hR4, hb⟩
  have hs4 : w3.heap.size ≤ w4.heap.size := hb.size
  have HC4 := Lib.hid hb
  replace hx0_0 := (HC4.out.cell (p := ⟨w.heap.size, 0, none⟩) (by dsimp only; omega)).trans hx0_0
  replace hx0_1 := (HC4.out.cell (p := ⟨w.heap.size, 1, none⟩) (by dsimp only; omega)).trans hx0_1
  clear hb
  go_wp2_with fail
  refine (specMrkOk_c n0 _ z1 _ _ _ _ _ _ _ _ _ (hR2.net.below HC4.out (by omega)) (by omega) hR4 (by omega) hM1).mono ?_
  rintro e w5 ⟨rfl, hb⟩
  have hs5 : w4.heap.size ≤ w5.heap.size := hb.size
  have HC5 := Lib.hid hb
  replace hx0_0 := (HC5.out.cell (p := ⟨w.heap.size, 0, none⟩) (by dsimp only; omega)).trans hx0_0
  replace hx0_1 := (HC5.out.cell (p := ⟨w.heap.size, 1, none⟩) (by dsimp only; omega)).trans hx0_1
  clear hb
  go_wp2_with fail
  refine (toNetNet_c n0 _ _ _ _ (((((hN0.below HC1.out (by omega)).below HC2.out (by omega)).below HC3.out (by omega)).below HC4.out (by omega)).below HC5.out (by omega)) (by omega) (by omega)).mono ?_
  rintro e w6 ⟨uu, rfl, hR6, hb⟩
  have hs6 : w5.heap.size ≤ w6.heap.size := hb.size
  have HC6 := Lib.hid hb
  replace hx0_0 := (HC6.out.cell (p := ⟨w.heap.size, 0, none⟩) (by dsimp only; omega)).trans hx0_0
  replace hx0_1 := (HC6.out.cell (p := ⟨w.heap.size, 1, none⟩) (by dsimp only; omega)).trans hx0_1
  clear hb
  obtain ⟨bb5, rfl⟩ := hR6.form
  go_wp2_with fail
  have hs7 : (w6.alloc (.cells #[Value.int .i64 n0.places, Value.slice (some ⟨bb5, 0, none⟩) n0.tasks.length n0.tasks.length] 29)).heap.size = w6.heap.size + 1 := by simp
  have HC7 := Lib.hid (show Below w6.heap.size w6 (w6.alloc (.cells #[Value.int .i64 n0.places, Value.slice (some ⟨bb5, 0, none⟩) n0.tasks.length n0.tasks.length] 29)) from (Below.refl w6.heap.size w6).alloc (Nat.le_refl _) _)
  replace hx0_0 := (HC7.out.cell (p := ⟨w.heap.size, 0, none⟩) (by dsimp only; omega)).trans hx0_0
  replace hx0_1 := (HC7.out.cell (p := ⟨w.heap.size, 1, none⟩) (by dsimp only; omega)).trans hx0_1
  have hx1_0 : (w6.alloc (.cells #[Value.int .i64 n0.places, Value.slice (some ⟨bb5, 0, none⟩) n0.tasks.length n0.tasks.length] 29)).cell? ⟨w6.heap.size, 0, none⟩ = some (Value.int .i64 n0.places) := by simp [World.cell?_alloc_new]
  have hx1_1 : (w6.alloc (.cells #[Value.int .i64 n0.places, Value.slice (some ⟨bb5, 0, none⟩) n0.tasks.length n0.tasks.length] 29)).cell? ⟨w6.heap.size, 1, none⟩ = some (Value.slice (some ⟨bb5, 0, none⟩) n0.tasks.length n0.tasks.length) := by simp [World.cell?_alloc_new]
  generalize w6.alloc (.cells #[Value.int .i64 n0.places, Value.slice (some ⟨bb5, 0, none⟩) n0.tasks.length n0.tasks.length] 29) = w7 at *
  go_wp2_with fail
  refine (toIntS_c z1 _ _ A1 b1 o1 c1 _ (((((((hV1.below HC1.out (by omega)).below HC2.out (by omega)).below HC3.out (by omega)).below HC4.out (by omega)).below HC5.out (by omega)).below HC6.out (by omega)).below HC7.out (by omega)) (by omega) (by omega)).mono ?_
  rintro e w8 ⟨bb7, rfl, hR8, hb⟩
  have hs8 : w7.heap.size ≤ w8.heap.size := hb.size
  have HC8 := Lib.hid hb
  replace hx0_0 := (HC8.out.cell (p := ⟨w.heap.size, 0, none⟩) (by dsimp only; omega)).trans hx0_0
  replace hx0_1 := (HC8.out.cell (p := ⟨w.heap.size, 1, none⟩) (by dsimp only; omega)).trans hx0_1
  replace hx1_0 := (HC8.out.cell (p := ⟨w6.heap.size, 0, none⟩) (by dsimp only; omega)).trans hx1_0
  replace hx1_1 := (HC8.out.cell (p := ⟨w6.heap.size, 1, none⟩) (by dsimp only; omega)).trans hx1_1
  clear hb
  go_wp2_with fail
  refine (implMrkOk_c n0 _ z1 _ _ _ _ _ _ _ _ _ ((hR6.net.below HC7.out (by omega)).below HC8.out (by omega)) (by omega) (netSize_out (by omega)) hR8 (by omega) hM1).mono ?_
  rintro e w9 ⟨rfl, hb⟩
  have hs9 : w8.heap.size ≤ w9.heap.size := hb.size
  have HC9 := Lib.hid hb
  replace hx0_0 := (HC9.out.cell (p := ⟨w.heap.size, 0, none⟩) (by dsimp only; omega)).trans hx0_0
  replace hx0_1 := (HC9.out.cell (p := ⟨w.heap.size, 1, none⟩) (by dsimp only; omega)).trans hx0_1
  replace hx1_0 := (HC9.out.cell (p := ⟨w6.heap.size, 0, none⟩) (by dsimp only; omega)).trans hx1_0
  replace hx1_1 := (HC9.out.cell (p := ⟨w6.heap.size, 1, none⟩) (by dsimp only; omega)).trans hx1_1
  clear hb
  go_wp2_with fail
  have hs10 : w9.drew.heap.size = w9.heap.size := rfl
  have HC10 := Lib.hid (show Below w9.heap.size w9 w9.drew from (Below.refl w9.heap.size w9).drew)
  replace hx0_0 := (HC10.out.cell (p := ⟨w.heap.size, 0, none⟩) (by dsimp only; omega)).trans hx0_0
  replace hx0_1 := (HC10.out.cell (p := ⟨w.heap.size, 1, none⟩) (by dsimp only; omega)).trans hx0_1
  replace hx1_0 := (HC10.out.cell (p := ⟨w6.heap.size, 0, none⟩) (by dsimp only; omega)).trans hx1_0
  replace hx1_1 := (HC10.out.cell (p := ⟨w6.heap.size, 1, none⟩) (by dsimp only; omega)).trans hx1_1
  have HVa := Lib.hid (show NetV w9.drew 0 w.heap.size _ n0 from ((((((((((hN0.below HC1.out (by omega)).below HC2.out (by omega)).below HC3.out (by omega)).below HC4.out (by omega)).below HC5.out (by omega)).below HC6.out (by omega)).below HC7.out (by omega)).below HC8.out (by omega)).below HC9.out (by omega)).below HC10.out (by omega)))
  have HXa := Lib.hid (show NetV w9.drew w5.heap.size w6.heap.size _ n0 from ((((hR6.net.below HC7.out (by omega)).below HC8.out (by omega)).below HC9.out (by omega)).below HC10.out (by omega)))
  have hqa : w.heap.size ≤ w9.drew.heap.size := by omega
  have hqs : netSize n0 ≤ 1048576 := by omega
  have hqb : w6.heap.size ≤ w9.drew.heap.size := by omega
  have hqx0 : w.heap.size < w9.drew.heap.size := by omega
  have hqx1 : w6.heap.size < w9.drew.heap.size := by omega
  go_region_held3 (fun w' => w'.cell? ⟨w.heap.size, 0, none⟩ = some (Value.int .i64 n0.places) ∧ w'.cell? ⟨w.heap.size, 1, none⟩ = some (Value.slice A0 n0.tasks.length c0) ∧ w'.cell? ⟨w6.heap.size, 0, none⟩ = some (Value.int .i64 n0.places) ∧ w'.cell? ⟨w6.heap.size, 1, none⟩ = some (Value.slice (some ⟨bb5, 0, none⟩) n0.tasks.length n0.tasks.length)) (first | exact ⟨hx0_0, hx0_1, hx1_0, hx1_1⟩ | exact ⟨hy0_0, hy0_1, hy1_0, hy1_1⟩ | exact ⟨hz0_0, hz0_1, hz1_0, hz1_1⟩)
   (first
    | (go_at_call 17; refine (toNetNet_c n0 _ 0 w.heap.size w9.drew HVa.out hqa hqs).mono ?_; rintro e w11 ⟨uu, rfl, hRe, hb⟩; obtain ⟨bbe, rfl⟩ := hRe.form; have hy0_0 := (hb.cell (p := ⟨w.heap.size, 0, none⟩) hqx0).trans hx0_0; have hy0_1 := (hb.cell (p := ⟨w.heap.size, 1, none⟩) hqx0).trans hx0_1; have hy1_0 := (hb.cell (p := ⟨w6.heap.size, 0, none⟩) hqx1).trans hx1_0; have hy1_1 := (hb.cell (p := ⟨w6.heap.size, 1, none⟩) hqx1).trans hx1_1)
    | (go_at_call 19; refine (eqNetNet_t n0 _ _ _ _ _ _ w11 (HXa.out.below hb hqb) hRe.net (Nat.le_trans hqb hb.size) (Nat.le_refl _)).mono ?_; rintro e w12 ⟨rfl, hb9⟩; have hz0_0 := (hb9.cell (p := ⟨w.heap.size, 0, none⟩) (Nat.lt_of_lt_of_le hqx0 hb.size)).trans hy0_0; have hz0_1 := (hb9.cell (p := ⟨w.heap.size, 1, none⟩) (Nat.lt_of_lt_of_le hqx0 hb.size)).trans hy0_1; have hz1_0 := (hb9.cell (p := ⟨w6.heap.size, 0, none⟩) (Nat.lt_of_lt_of_le hqx1 hb.size)).trans hy1_0; have hz1_1 := (hb9.cell (p := ⟨w6.heap.size, 1, none⟩) (Nat.lt_of_lt_of_le hqx1 hb.size)).trans hy1_1))
  have hs11 : w9.drew.heap.size ≤ w11.heap.size := hb.size
  have HC11 := Lib.hid hb
  have hs12 : w11.heap.size ≤ w12.heap.size := hb9.size
  have HC12 := Lib.hid hb9
  clear hb hb9 hRe HVa HXa hqa hqs hqb hx0_0 hy0_0 hx0_1 hy0_1 hx1_0 hy1_0 hx1_1 hy1_1
  have hx0_0 := hz0_0
  have hx0_1 := hz0_1
  have hx1_0 := hz1_0
  have hx1_1 := hz1_1
  clear hz0_0 hz0_1 hz1_0 hz1_1 hqx0 hqx1
  go_wp2_with fail
  refine (toIntS_c z1 _ _ A1 b1 o1 c1 _ ((((((((((((hV1.below HC1.out (by omega)).below HC2.out (by omega)).below HC3.out (by omega)).below HC4.out (by omega)).below HC5.out (by omega)).below HC6.out (by omega)).below HC7.out (by omega)).below HC8.out (by omega)).below HC9.out (by omega)).below HC10.out (by omega)).below HC11.out (by omega)).below HC12.out (by omega)) (by omega) (by omega)).mono ?_
  rintro e w13 ⟨bb9, rfl, hR10, hb⟩
  have hs13 : w12.heap.size ≤ w13.heap.size := hb.size
  have HC13 := Lib.hid hb
  replace hx0_0 := (HC13.out.cell (p := ⟨w.heap.size, 0, none⟩) (by dsimp only; omega)).trans hx0_0
  replace hx0_1 := (HC13.out.cell (p := ⟨w.heap.size, 1, none⟩) (by dsimp only; omega)).trans hx0_1
  replace hx1_0 := (HC13.out.cell (p := ⟨w6.heap.size, 0, none⟩) (by dsimp only; omega)).trans hx1_0
  replace hx1_1 := (HC13.out.cell (p := ⟨w6.heap.size, 1, none⟩) (by dsimp only; omega)).trans hx1_1
  clear hb
  go_wp2_with fail
  refine (eqIntS_c z1 z1 _ _ _ _ _ _ _ _ _ _ _ _ _ (((((hR8.below HC9.out (by omega)).below HC10.out (by omega)).below HC11.out (by omega)).below HC12.out (by omega)).below HC13.out (by omega)) hR10 hM1 hM1).mono ?_
  rintro e w14 ⟨rfl, hb⟩
  have hs14 : w13.heap.size ≤ w14.heap.size := hb.size
  have HC14 := Lib.hid hb
  replace hx0_0 := (HC14.out.cell (p := ⟨w.heap.size, 0, none⟩) (by dsimp only; omega)).trans hx0_0
  replace hx0_1 := (HC14.out.cell (p := ⟨w.heap.size, 1, none⟩) (by dsimp only; omega)).trans hx0_1
  replace hx1_0 := (HC14.out.cell (p := ⟨w6.heap.size, 0, none⟩) (by dsimp only; omega)).trans hx1_0
  replace hx1_1 := (HC14.out.cell (p := ⟨w6.heap.size, 1, none⟩) (by dsimp only; omega)).trans hx1_1
  clear hb
  go_wp2
  go_ret
  exact ⟨rfl, (((((((((((((HC1.out.trans (HC2.out.mono (by omega))).trans (HC3.out.mono (by omega))).trans (HC4.out.mono (by omega))).trans (HC5.out.mono (by omega))).trans (HC6.out.mono (by omega))).trans (HC7.out.mono (by omega))).trans (HC8.out.mono (by omega))).trans (HC9.out.mono (by omega))).trans (HC10.out.mono (by omega))).trans (HC11.out.mono (by omega))).trans (HC12.out.mono (by omega))).trans (HC13.out.mono (by omega))).trans (HC14.out.mono (by omega)))⟩

set_option maxRecDepth 10000 in
set_option maxHeartbeats 1000000 in
theorem exactNetFlows_walk {n0 : NNet} {v0 : Value} (w : World) (hV0 : NetV w 0 w.heap.size v0 n0) :
    Calls Try.prog 5 #[v0] w fun e w' => e = .returned (.bool true) ∧ Below w.heap.size w w' := by
  have hN0 := hV0
  obtain ⟨A0, b0, o0, c0, ms0, rfl, hm0, hT0⟩ := hV0
  clear hT0
  unfold maxLen at hm0
  go_enter Try.func5, Try.ntmps5
  go_wp2_with fail
  have hs1 : (w.alloc (.cells #[Value.int .i64 n0.places, Value.slice A0 n0.tasks.length c0] 24)).heap.size = w.heap.size + 1 := by simp
  have HC1 := Lib.hid (show Below w.heap.size w (w.alloc (.cells #[Value.int .i64 n0.places, Value.slice A0 n0.tasks.length c0] 24)) from (Below.refl w.heap.size w).alloc (Nat.le_refl _) _)
  have hx0_0 : (w.alloc (.cells #[Value.int .i64 n0.places, Value.slice A0 n0.tasks.length c0] 24)).cell? ⟨w.heap.size, 0, none⟩ = some (Value.int .i64 n0.places) := by simp [World.cell?_alloc_new]
  have hx0_1 : (w.alloc (.cells #[Value.int .i64 n0.places, Value.slice A0 n0.tasks.length c0] 24)).cell? ⟨w.heap.size, 1, none⟩ = some (Value.slice A0 n0.tasks.length c0) := by simp [World.cell?_alloc_new]
  generalize w.alloc (.cells #[Value.int .i64 n0.places, Value.slice A0 n0.tasks.length c0] 24) = w1 at *
  go_wp2_with fail
  refine (szNetNet_c n0 _ _ _ (1048576 : Int) _ (hN0.below HC1.out (by omega)) (by omega) (by omega) (by omega)).mono ?_
  rintro e w2 ⟨rfl, hb⟩
  have hs2 : w1.heap.size ≤ w2.heap.size := hb.size
  have HC2 := Lib.hid hb
  replace hx0_0 := (HC2.out.cell (p := ⟨w.heap.size, 0, none⟩) (by dsimp only; omega)).trans hx0_0
  replace hx0_1 := (HC2.out.cell (p := ⟨w.heap.size, 1, none⟩) (by dsimp only; omega)).trans hx0_1
  clear hb
  have hps0 : 0 ≤ netSize n0 := netSize_pos n0
  by_cases hsz0 : (1048576 : Int) < netSize n0
  · rw [cutI_neg (by omega)]; go_wp2; go_ret; exact ⟨rfl, (HC1.out.trans (HC2.out.mono (by omega)))⟩
  rw [cutI_pos (by omega)]
  go_wp2_with fail
  refine (toNetNet_c n0 _ _ _ _ ((hN0.below HC1.out (by omega)).below HC2.out (by omega)) (by omega) (by omega)).mono ?_
  rintro e w3 ⟨uu, rfl, hR2, hb⟩
  have hs3 : w2.heap.size ≤ w3.heap.size := hb.size
  have HC3 := Lib.hid hb
  replace hx0_0 := (HC3.out.cell (p := ⟨w.heap.size, 0, none⟩) (by dsimp only; omega)).trans hx0_0
  replace hx0_1 := (HC3.out.cell (p := ⟨w.heap.size, 1, none⟩) (by dsimp only; omega)).trans hx0_1
  clear hb
  obtain ⟨bb1, rfl⟩ := hR2.form
  go_wp2_with fail
  refine (specNetFlows_c n0 _ _ _ _ hR2.net (by omega)).mono ?_
  rintro e w4 ⟨rfl, hb⟩
  have hs4 : w3.heap.size ≤ w4.heap.size := hb.size
  have HC4 := Lib.hid hb
  replace hx0_0 := (HC4.out.cell (p := ⟨w.heap.size, 0, none⟩) (by dsimp only; omega)).trans hx0_0
  replace hx0_1 := (HC4.out.cell (p := ⟨w.heap.size, 1, none⟩) (by dsimp only; omega)).trans hx0_1
  clear hb
  go_wp2_with fail
  refine (toNetNet_c n0 _ _ _ _ ((((hN0.below HC1.out (by omega)).below HC2.out (by omega)).below HC3.out (by omega)).below HC4.out (by omega)) (by omega) (by omega)).mono ?_
  rintro e w5 ⟨uu, rfl, hR4, hb⟩
  have hs5 : w4.heap.size ≤ w5.heap.size := hb.size
  have HC5 := Lib.hid hb
  replace hx0_0 := (HC5.out.cell (p := ⟨w.heap.size, 0, none⟩) (by dsimp only; omega)).trans hx0_0
  replace hx0_1 := (HC5.out.cell (p := ⟨w.heap.size, 1, none⟩) (by dsimp only; omega)).trans hx0_1
  clear hb
  obtain ⟨bb3, rfl⟩ := hR4.form
  go_wp2_with fail
  have hs6 : (w5.alloc (.cells #[Value.int .i64 n0.places, Value.slice (some ⟨bb3, 0, none⟩) n0.tasks.length n0.tasks.length] 29)).heap.size = w5.heap.size + 1 := by simp
  have HC6 := Lib.hid (show Below w5.heap.size w5 (w5.alloc (.cells #[Value.int .i64 n0.places, Value.slice (some ⟨bb3, 0, none⟩) n0.tasks.length n0.tasks.length] 29)) from (Below.refl w5.heap.size w5).alloc (Nat.le_refl _) _)
  replace hx0_0 := (HC6.out.cell (p := ⟨w.heap.size, 0, none⟩) (by dsimp only; omega)).trans hx0_0
  replace hx0_1 := (HC6.out.cell (p := ⟨w.heap.size, 1, none⟩) (by dsimp only; omega)).trans hx0_1
  have hx1_0 : (w5.alloc (.cells #[Value.int .i64 n0.places, Value.slice (some ⟨bb3, 0, none⟩) n0.tasks.length n0.tasks.length] 29)).cell? ⟨w5.heap.size, 0, none⟩ = some (Value.int .i64 n0.places) := by simp [World.cell?_alloc_new]
  have hx1_1 : (w5.alloc (.cells #[Value.int .i64 n0.places, Value.slice (some ⟨bb3, 0, none⟩) n0.tasks.length n0.tasks.length] 29)).cell? ⟨w5.heap.size, 1, none⟩ = some (Value.slice (some ⟨bb3, 0, none⟩) n0.tasks.length n0.tasks.length) := by simp [World.cell?_alloc_new]
  generalize w5.alloc (.cells #[Value.int .i64 n0.places, Value.slice (some ⟨bb3, 0, none⟩) n0.tasks.length n0.tasks.length] 29) = w6 at *
  go_wp2_with fail
  refine (implNetFlows_c n0 _ _ _ _ (hR4.net.below HC6.out (by omega)) (by omega) (netSize_out (by omega))).mono ?_
  rintro e w7 ⟨rfl, hb⟩
  have hs7 : w6.heap.size ≤ w7.heap.size := hb.size
  have HC7 := Lib.hid hb
  replace hx0_0 := (HC7.out.cell (p := ⟨w.heap.size, 0, none⟩) (by dsimp only; omega)).trans hx0_0
  replace hx0_1 := (HC7.out.cell (p := ⟨w.heap.size, 1, none⟩) (by dsimp only; omega)).trans hx0_1
  replace hx1_0 := (HC7.out.cell (p := ⟨w5.heap.size, 0, none⟩) (by dsimp only; omega)).trans hx1_0
  replace hx1_1 := (HC7.out.cell (p := ⟨w5.heap.size, 1, none⟩) (by dsimp only; omega)).trans hx1_1
  clear hb
  go_wp2_with fail
  have hs8 : w7.drew.heap.size = w7.heap.size := rfl
  have HC8 := Lib.hid (show Below w7.heap.size w7 w7.drew from (Below.refl w7.heap.size w7).drew)
  replace hx0_0 := (HC8.out.cell (p := ⟨w.heap.size, 0, none⟩) (by dsimp only; omega)).trans hx0_0
  replace hx0_1 := (HC8.out.cell (p := ⟨w.heap.size, 1, none⟩) (by dsimp only; omega)).trans hx0_1
  replace hx1_0 := (HC8.out.cell (p := ⟨w5.heap.size, 0, none⟩) (by dsimp only; omega)).trans hx1_0
  replace hx1_1 := (HC8.out.cell (p := ⟨w5.heap.size, 1, none⟩) (by dsimp only; omega)).trans hx1_1
  have HVa := Lib.hid (show NetV w7.drew 0 w.heap.size _ n0 from ((((((((hN0.below HC1.out (by omega)).below HC2.out (by omega)).below HC3.out (by omega)).below HC4.out (by omega)).below HC5.out (by omega)).below HC6.out (by omega)).below HC7.out (by omega)).below HC8.out (by omega)))
  have HXa := Lib.hid (show NetV w7.drew w4.heap.size w5.heap.size _ n0 from (((hR4.net.below HC6.out (by omega)).below HC7.out (by omega)).below HC8.out (by omega)))
  have hqa : w.heap.size ≤ w7.drew.heap.size := by omega
  have hqs : netSize n0 ≤ 1048576 := by omega
  have hqb : w5.heap.size ≤ w7.drew.heap.size := by omega
  have hqx0 : w.heap.size < w7.drew.heap.size := by omega
  have hqx1 : w5.heap.size < w7.drew.heap.size := by omega
  go_region_held3 (fun w' => w'.cell? ⟨w.heap.size, 0, none⟩ = some (Value.int .i64 n0.places) ∧ w'.cell? ⟨w.heap.size, 1, none⟩ = some (Value.slice A0 n0.tasks.length c0) ∧ w'.cell? ⟨w5.heap.size, 0, none⟩ = some (Value.int .i64 n0.places) ∧ w'.cell? ⟨w5.heap.size, 1, none⟩ = some (Value.slice (some ⟨bb3, 0, none⟩) n0.tasks.length n0.tasks.length)) (first | exact ⟨hx0_0, hx0_1, hx1_0, hx1_1⟩ | exact ⟨hy0_0, hy0_1, hy1_0, hy1_1⟩ | exact ⟨hz0_0, hz0_1, hz1_0, hz1_1⟩)
   (first
    | (go_at_call 17; refine (toNetNet_c n0 _ 0 w.heap.size w7.drew HVa.out hqa hqs).mono ?_; rintro e w9 ⟨uu, rfl, hRe, hb⟩; obtain ⟨bbe, rfl⟩ := hRe.form; have hy0_0 := (hb.cell (p := ⟨w.heap.size, 0, none⟩) hqx0).trans hx0_0; have hy0_1 := (hb.cell (p := ⟨w.heap.size, 1, none⟩) hqx0).trans hx0_1; have hy1_0 := (hb.cell (p := ⟨w5.heap.size, 0, none⟩) hqx1).trans hx1_0; have hy1_1 := (hb.cell (p := ⟨w5.heap.size, 1, none⟩) hqx1).trans hx1_1)
    | (go_at_call 19; refine (eqNetNet_t n0 _ _ _ _ _ _ w9 (HXa.out.below hb hqb) hRe.net (Nat.le_trans hqb hb.size) (Nat.le_refl _)).mono ?_; rintro e w10 ⟨rfl, hb9⟩; have hz0_0 := (hb9.cell (p := ⟨w.heap.size, 0, none⟩) (Nat.lt_of_lt_of_le hqx0 hb.size)).trans hy0_0; have hz0_1 := (hb9.cell (p := ⟨w.heap.size, 1, none⟩) (Nat.lt_of_lt_of_le hqx0 hb.size)).trans hy0_1; have hz1_0 := (hb9.cell (p := ⟨w5.heap.size, 0, none⟩) (Nat.lt_of_lt_of_le hqx1 hb.size)).trans hy1_0; have hz1_1 := (hb9.cell (p := ⟨w5.heap.size, 1, none⟩) (Nat.lt_of_lt_of_le hqx1 hb.size)).trans hy1_1))
  have hs9 : w7.drew.heap.size ≤ w9.heap.size := hb.size
  have HC9 := Lib.hid hb
  have hs10 : w9.heap.size ≤ w10.heap.size := hb9.size
  have HC10 := Lib.hid hb9
  clear hb hb9 hRe HVa HXa hqa hqs hqb hx0_0 hy0_0 hx0_1 hy0_1 hx1_0 hy1_0 hx1_1 hy1_1
  have hx0_0 := hz0_0
  have hx0_1 := hz0_1
  have hx1_0 := hz1_0
  have hx1_1 := hz1_1
  clear hz0_0 hz0_1 hz1_0 hz1_1 hqx0 hqx1
  go_wp2
  go_ret
  exact ⟨rfl, (((((((((HC1.out.trans (HC2.out.mono (by omega))).trans (HC3.out.mono (by omega))).trans (HC4.out.mono (by omega))).trans (HC5.out.mono (by omega))).trans (HC6.out.mono (by omega))).trans (HC7.out.mono (by omega))).trans (HC8.out.mono (by omega))).trans (HC9.out.mono (by omega))).trans (HC10.out.mono (by omega)))⟩

end Go.Proofs.Ytililbgpjbpnkaa
