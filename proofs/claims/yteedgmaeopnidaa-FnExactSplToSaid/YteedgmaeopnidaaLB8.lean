/- Laws of the seat: the program's function returns what the reference's does. SplTo. -/
import Derived.Test.YteedgmaeopnidaaSpl
import Derived.Test.YteedgmaeopnidaaTaskMark
import Derived.StillTailTactics
import Derived.Deep.RegionHeld3
namespace Go.Proofs.Yteedgmaeopnidaa
open Go.RowKit
set_option linter.unusedVariables false
set_option linter.unusedSimpArgs false

set_option maxRecDepth 10000 in
set_option maxHeartbeats 4000000 in
theorem exactSplTo_walk {n0 : NTask} {vi0 vo0 vc0 : Value} {z1 : List Int} {A1 : Option Addr} {b1 o1 c1 : Nat} (w : World) (hV0 : TaskV w 0 w.heap.size n0 vi0 vo0 vc0) (hV1 : Row w 0 w.heap.size A1 b1 o1 (ints z1)) (hm1 : z1.length ≤ maxLen) :
    Calls Try.prog 5 #[.agg #[.int .i64 n0.join, .int .i64 n0.split, vi0, vo0, vc0, .int .i64 n0.role, .int .i64 n0.apart, .int .i64 n0.all, .int .i64 n0.need], .slice A1 z1.length c1] w fun e w' => e = .returned (.bool true) ∧ Below w.heap.size w w' := by
  obtain ⟨A0a, c0a, A0b, c0b, A0c, c0c, rfl, rfl, rfl⟩ := hV0.forms
  obtain ⟨_, _, _, _, _, hm0a, _⟩ := hV0.ins
  obtain ⟨_, _, _, _, _, hm0b, _⟩ := hV0.out
  obtain ⟨_, _, _, _, _, hm0c, _⟩ := hV0.clear
  have hM1 := hm1
  unfold maxLen at hm1
  go_enter Try.func5, Try.ntmps5
  by_cases hbig1 : 1048576 < z1.length
  · go_wp2; go_ret; exact ⟨rfl, ((Below.refl _ _).alloc (by simp) _)⟩
  go_wp2_with fail
  have hs1 : (w.alloc (.cells #[Value.int .i64 n0.join, Value.int .i64 n0.split, Value.slice A0a n0.ins.length c0a, Value.slice A0b n0.out.length c0b, Value.slice A0c n0.clear.length c0c, Value.int .i64 n0.role, Value.int .i64 n0.apart, Value.int .i64 n0.all, Value.int .i64 n0.need] 39)).heap.size = w.heap.size + 1 := by simp
  have HC1 := Lib.hid (show Below w.heap.size w (w.alloc (.cells #[Value.int .i64 n0.join, Value.int .i64 n0.split, Value.slice A0a n0.ins.length c0a, Value.slice A0b n0.out.length c0b, Value.slice A0c n0.clear.length c0c, Value.int .i64 n0.role, Value.int .i64 n0.apart, Value.int .i64 n0.all, Value.int .i64 n0.need] 39)) from (Below.refl w.heap.size w).alloc (Nat.le_refl _) _)
  have hx0_0 : (w.alloc (.cells #[Value.int .i64 n0.join, Value.int .i64 n0.split, Value.slice A0a n0.ins.length c0a, Value.slice A0b n0.out.length c0b, Value.slice A0c n0.clear.length c0c, Value.int .i64 n0.role, Value.int .i64 n0.apart, Value.int .i64 n0.all, Value.int .i64 n0.need] 39)).cell? ⟨w.heap.size, 0, none⟩ = some (Value.int .i64 n0.join) := by simp [World.cell?_alloc_new]
  have hx0_1 : (w.alloc (.cells #[Value.int .i64 n0.join, Value.int .i64 n0.split, Value.slice A0a n0.ins.length c0a, Value.slice A0b n0.out.length c0b, Value.slice A0c n0.clear.length c0c, Value.int .i64 n0.role, Value.int .i64 n0.apart, Value.int .i64 n0.all, Value.int .i64 n0.need] 39)).cell? ⟨w.heap.size, 1, none⟩ = some (Value.int .i64 n0.split) := by simp [World.cell?_alloc_new]
  have hx0_2 : (w.alloc (.cells #[Value.int .i64 n0.join, Value.int .i64 n0.split, Value.slice A0a n0.ins.length c0a, Value.slice A0b n0.out.length c0b, Value.slice A0c n0.clear.length c0c, Value.int .i64 n0.role, Value.int .i64 n0.apart, Value.int .i64 n0.all, Value.int .i64 n0.need] 39)).cell? ⟨w.heap.size, 2, none⟩ = some (Value.slice A0a n0.ins.length c0a) := by simp [World.cell?_alloc_new]
  have hx0_3 : (w.alloc (.cells #[Value.int .i64 n0.join, Value.int .i64 n0.split, Value.slice A0a n0.ins.length c0a, Value.slice A0b n0.out.length c0b, Value.slice A0c n0.clear.length c0c, Value.int .i64 n0.role, Value.int .i64 n0.apart, Value.int .i64 n0.all, Value.int .i64 n0.need] 39)).cell? ⟨w.heap.size, 3, none⟩ = some (Value.slice A0b n0.out.length c0b) := by simp [World.cell?_alloc_new]
  have hx0_4 : (w.alloc (.cells #[Value.int .i64 n0.join, Value.int .i64 n0.split, Value.slice A0a n0.ins.length c0a, Value.slice A0b n0.out.length c0b, Value.slice A0c n0.clear.length c0c, Value.int .i64 n0.role, Value.int .i64 n0.apart, Value.int .i64 n0.all, Value.int .i64 n0.need] 39)).cell? ⟨w.heap.size, 4, none⟩ = some (Value.slice A0c n0.clear.length c0c) := by simp [World.cell?_alloc_new]
  have hx0_5 : (w.alloc (.cells #[Value.int .i64 n0.join, Value.int .i64 n0.split, Value.slice A0a n0.ins.length c0a, Value.slice A0b n0.out.length c0b, Value.slice A0c n0.clear.length c0c, Value.int .i64 n0.role, Value.int .i64 n0.apart, Value.int .i64 n0.all, Value.int .i64 n0.need] 39)).cell? ⟨w.heap.size, 5, none⟩ = some (Value.int .i64 n0.role) := by simp [World.cell?_alloc_new]
  have hx0_6 : (w.alloc (.cells #[Value.int .i64 n0.join, Value.int .i64 n0.split, Value.slice A0a n0.ins.length c0a, Value.slice A0b n0.out.length c0b, Value.slice A0c n0.clear.length c0c, Value.int .i64 n0.role, Value.int .i64 n0.apart, Value.int .i64 n0.all, Value.int .i64 n0.need] 39)).cell? ⟨w.heap.size, 6, none⟩ = some (Value.int .i64 n0.apart) := by simp [World.cell?_alloc_new]
  have hx0_7 : (w.alloc (.cells #[Value.int .i64 n0.join, Value.int .i64 n0.split, Value.slice A0a n0.ins.length c0a, Value.slice A0b n0.out.length c0b, Value.slice A0c n0.clear.length c0c, Value.int .i64 n0.role, Value.int .i64 n0.apart, Value.int .i64 n0.all, Value.int .i64 n0.need] 39)).cell? ⟨w.heap.size, 7, none⟩ = some (Value.int .i64 n0.all) := by simp [World.cell?_alloc_new]
  have hx0_8 : (w.alloc (.cells #[Value.int .i64 n0.join, Value.int .i64 n0.split, Value.slice A0a n0.ins.length c0a, Value.slice A0b n0.out.length c0b, Value.slice A0c n0.clear.length c0c, Value.int .i64 n0.role, Value.int .i64 n0.apart, Value.int .i64 n0.all, Value.int .i64 n0.need] 39)).cell? ⟨w.heap.size, 8, none⟩ = some (Value.int .i64 n0.need) := by simp [World.cell?_alloc_new]
  generalize w.alloc (.cells #[Value.int .i64 n0.join, Value.int .i64 n0.split, Value.slice A0a n0.ins.length c0a, Value.slice A0b n0.out.length c0b, Value.slice A0c n0.clear.length c0c, Value.int .i64 n0.role, Value.int .i64 n0.apart, Value.int .i64 n0.all, Value.int .i64 n0.need] 39) = w1 at *
  go_wp2_with fail
  refine (szNetTask_c n0 _ _ _ _ _ _ (1048576 : Int) _ hm0a hm0b hm0c (by omega) (by omega)).mono ?_
  rintro e w2 ⟨rfl, hb⟩
  have hs2 : w1.heap.size ≤ w2.heap.size := hb.size
  have HC2 := Lib.hid hb
  replace hx0_0 := (HC2.out.cell (p := ⟨w.heap.size, 0, none⟩) (by dsimp only; omega)).trans hx0_0
  replace hx0_1 := (HC2.out.cell (p := ⟨w.heap.size, 1, none⟩) (by dsimp only; omega)).trans hx0_1
  replace hx0_2 := (HC2.out.cell (p := ⟨w.heap.size, 2, none⟩) (by dsimp only; omega)).trans hx0_2
  replace hx0_3 := (HC2.out.cell (p := ⟨w.heap.size, 3, none⟩) (by dsimp only; omega)).trans hx0_3
  replace hx0_4 := (HC2.out.cell (p := ⟨w.heap.size, 4, none⟩) (by dsimp only; omega)).trans hx0_4
  replace hx0_5 := (HC2.out.cell (p := ⟨w.heap.size, 5, none⟩) (by dsimp only; omega)).trans hx0_5
  replace hx0_6 := (HC2.out.cell (p := ⟨w.heap.size, 6, none⟩) (by dsimp only; omega)).trans hx0_6
  replace hx0_7 := (HC2.out.cell (p := ⟨w.heap.size, 7, none⟩) (by dsimp only; omega)).trans hx0_7
  replace hx0_8 := (HC2.out.cell (p := ⟨w.heap.size, 8, none⟩) (by dsimp only; omega)).trans hx0_8
  clear hb
  have hps0 : 0 ≤ taskSize n0 := taskSize_pos n0
  by_cases hsz0 : (1048576 : Int) < taskSize n0
  · rw [cutI_neg (by omega)]; go_wp2; go_ret; exact ⟨rfl, (HC1.out.trans (HC2.out.mono (by omega)))⟩
  rw [cutI_pos (by omega)]
  have htz0 : taskSize n0 ≤ 1048576 := by omega
  have hq0a : n0.ins.length ≤ 1048576 := by have := htz0; unfold taskSize at this; omega
  have hq0b : n0.out.length ≤ 1048576 := by have := htz0; unfold taskSize at this; omega
  have hq0c : n0.clear.length ≤ 1048576 := by have := htz0; unfold taskSize at this; omega
  have hrl : (splL n0 z1).length ≤ 1048576 := splL_len _ _ hq0b
  have hrm : (splL n0 z1).length ≤ maxLen := by unfold maxLen; omega
  go_wp2_with fail
  refine (toNetTask_c n0 _ _ _ _ _ _ ((hV0.below HC1.out (by omega)).below HC2.out (by omega)) (by omega) hq0a hq0b hq0c).mono ?_
  rintro e w3 ⟨ui, uo, uc, rfl, hR1, hb⟩
  have hs3 : w2.heap.size ≤ w3.heap.size := hb.size
  have HC3 := Lib.hid hb
  replace hx0_0 := (HC3.out.cell (p := ⟨w.heap.size, 0, none⟩) (by dsimp only; omega)).trans hx0_0
  replace hx0_1 := (HC3.out.cell (p := ⟨w.heap.size, 1, none⟩) (by dsimp only; omega)).trans hx0_1
  replace hx0_2 := (HC3.out.cell (p := ⟨w.heap.size, 2, none⟩) (by dsimp only; omega)).trans hx0_2
  replace hx0_3 := (HC3.out.cell (p := ⟨w.heap.size, 3, none⟩) (by dsimp only; omega)).trans hx0_3
  replace hx0_4 := (HC3.out.cell (p := ⟨w.heap.size, 4, none⟩) (by dsimp only; omega)).trans hx0_4
  replace hx0_5 := (HC3.out.cell (p := ⟨w.heap.size, 5, none⟩) (by dsimp only; omega)).trans hx0_5
  replace hx0_6 := (HC3.out.cell (p := ⟨w.heap.size, 6, none⟩) (by dsimp only; omega)).trans hx0_6
  replace hx0_7 := (HC3.out.cell (p := ⟨w.heap.size, 7, none⟩) (by dsimp only; omega)).trans hx0_7
  replace hx0_8 := (HC3.out.cell (p := ⟨w.heap.size, 8, none⟩) (by dsimp only; omega)).trans hx0_8
  clear hb
  obtain ⟨B2, d5, B3, d6, B4, d7, rfl, rfl, rfl⟩ := hR1.forms
  go_wp2_with fail
  refine (toIntS_c z1 _ _ A1 b1 o1 c1 _ (((hV1.below HC1.out (by omega)).below HC2.out (by omega)).below HC3.out (by omega)) (by omega) (by omega)).mono ?_
  rintro e w4 ⟨bb8, rfl, hR9, hb⟩
  have hs4 : w3.heap.size ≤ w4.heap.size := hb.size
  have HC4 := Lib.hid hb
  replace hx0_0 := (HC4.out.cell (p := ⟨w.heap.size, 0, none⟩) (by dsimp only; omega)).trans hx0_0
  replace hx0_1 := (HC4.out.cell (p := ⟨w.heap.size, 1, none⟩) (by dsimp only; omega)).trans hx0_1
  replace hx0_2 := (HC4.out.cell (p := ⟨w.heap.size, 2, none⟩) (by dsimp only; omega)).trans hx0_2
  replace hx0_3 := (HC4.out.cell (p := ⟨w.heap.size, 3, none⟩) (by dsimp only; omega)).trans hx0_3
  replace hx0_4 := (HC4.out.cell (p := ⟨w.heap.size, 4, none⟩) (by dsimp only; omega)).trans hx0_4
  replace hx0_5 := (HC4.out.cell (p := ⟨w.heap.size, 5, none⟩) (by dsimp only; omega)).trans hx0_5
  replace hx0_6 := (HC4.out.cell (p := ⟨w.heap.size, 6, none⟩) (by dsimp only; omega)).trans hx0_6
  replace hx0_7 := (HC4.out.cell (p := ⟨w.heap.size, 7, none⟩) (by dsimp only; omega)).trans hx0_7
  replace hx0_8 := (HC4.out.cell (p := ⟨w.heap.size, 8, none⟩) (by dsimp only; omega)).trans hx0_8
  clear hb
  go_wp2_with fail
  refine (specSplTo_c n0 _ _ _ z1 _ _ _ _ _ _ _ _ _ (hR1.below HC4.out (by omega)) (by omega) hq0b hR9 (by omega) hM1).mono ?_
  rintro e w5 ⟨vv10, rfl, hM_11, hb⟩
  have hs5 : w4.heap.size ≤ w5.heap.size := hb.size
  have HC5 := Lib.hid hb
  replace hx0_0 := (HC5.out.cell (p := ⟨w.heap.size, 0, none⟩) (by dsimp only; omega)).trans hx0_0
  replace hx0_1 := (HC5.out.cell (p := ⟨w.heap.size, 1, none⟩) (by dsimp only; omega)).trans hx0_1
  replace hx0_2 := (HC5.out.cell (p := ⟨w.heap.size, 2, none⟩) (by dsimp only; omega)).trans hx0_2
  replace hx0_3 := (HC5.out.cell (p := ⟨w.heap.size, 3, none⟩) (by dsimp only; omega)).trans hx0_3
  replace hx0_4 := (HC5.out.cell (p := ⟨w.heap.size, 4, none⟩) (by dsimp only; omega)).trans hx0_4
  replace hx0_5 := (HC5.out.cell (p := ⟨w.heap.size, 5, none⟩) (by dsimp only; omega)).trans hx0_5
  replace hx0_6 := (HC5.out.cell (p := ⟨w.heap.size, 6, none⟩) (by dsimp only; omega)).trans hx0_6
  replace hx0_7 := (HC5.out.cell (p := ⟨w.heap.size, 7, none⟩) (by dsimp only; omega)).trans hx0_7
  replace hx0_8 := (HC5.out.cell (p := ⟨w.heap.size, 8, none⟩) (by dsimp only; omega)).trans hx0_8
  clear hb
  obtain ⟨AA12, bb13, cc14, rfl, hG15⟩ := hM_11.row
  clear hM_11
  go_wp2_with fail
  refine (toNetTask_c n0 _ _ _ _ _ _ (((((hV0.below HC1.out (by omega)).below HC2.out (by omega)).below HC3.out (by omega)).below HC4.out (by omega)).below HC5.out (by omega)) (by omega) hq0a hq0b hq0c).mono ?_
  rintro e w6 ⟨ui, uo, uc, rfl, hR16, hb⟩
  have hs6 : w5.heap.size ≤ w6.heap.size := hb.size
  have HC6 := Lib.hid hb
  replace hx0_0 := (HC6.out.cell (p := ⟨w.heap.size, 0, none⟩) (by dsimp only; omega)).trans hx0_0
  replace hx0_1 := (HC6.out.cell (p := ⟨w.heap.size, 1, none⟩) (by dsimp only; omega)).trans hx0_1
  replace hx0_2 := (HC6.out.cell (p := ⟨w.heap.size, 2, none⟩) (by dsimp only; omega)).trans hx0_2
  replace hx0_3 := (HC6.out.cell (p := ⟨w.heap.size, 3, none⟩) (by dsimp only; omega)).trans hx0_3
  replace hx0_4 := (HC6.out.cell (p := ⟨w.heap.size, 4, none⟩) (by dsimp only; omega)).trans hx0_4
  replace hx0_5 := (HC6.out.cell (p := ⟨w.heap.size, 5, none⟩) (by dsimp only; omega)).trans hx0_5
  replace hx0_6 := (HC6.out.cell (p := ⟨w.heap.size, 6, none⟩) (by dsimp only; omega)).trans hx0_6
  replace hx0_7 := (HC6.out.cell (p := ⟨w.heap.size, 7, none⟩) (by dsimp only; omega)).trans hx0_7
  replace hx0_8 := (HC6.out.cell (p := ⟨w.heap.size, 8, none⟩) (by dsimp only; omega)).trans hx0_8
  clear hb
  obtain ⟨B17, d20, B18, d21, B19, d22, rfl, rfl, rfl⟩ := hR16.forms
  go_wp2_with fail
  have hs7 : (w6.alloc (.cells #[Value.int .i64 n0.join, Value.int .i64 n0.split, Value.slice B17 n0.ins.length d20, Value.slice B18 n0.out.length d21, Value.slice B19 n0.clear.length d22, Value.int .i64 n0.role, Value.int .i64 n0.apart, Value.int .i64 n0.all, Value.int .i64 n0.need] 44)).heap.size = w6.heap.size + 1 := by simp
  have HC7 := Lib.hid (show Below w6.heap.size w6 (w6.alloc (.cells #[Value.int .i64 n0.join, Value.int .i64 n0.split, Value.slice B17 n0.ins.length d20, Value.slice B18 n0.out.length d21, Value.slice B19 n0.clear.length d22, Value.int .i64 n0.role, Value.int .i64 n0.apart, Value.int .i64 n0.all, Value.int .i64 n0.need] 44)) from (Below.refl w6.heap.size w6).alloc (Nat.le_refl _) _)
  replace hx0_0 := (HC7.out.cell (p := ⟨w.heap.size, 0, none⟩) (by dsimp only; omega)).trans hx0_0
  replace hx0_1 := (HC7.out.cell (p := ⟨w.heap.size, 1, none⟩) (by dsimp only; omega)).trans hx0_1
  replace hx0_2 := (HC7.out.cell (p := ⟨w.heap.size, 2, none⟩) (by dsimp only; omega)).trans hx0_2
  replace hx0_3 := (HC7.out.cell (p := ⟨w.heap.size, 3, none⟩) (by dsimp only; omega)).trans hx0_3
  replace hx0_4 := (HC7.out.cell (p := ⟨w.heap.size, 4, none⟩) (by dsimp only; omega)).trans hx0_4
  replace hx0_5 := (HC7.out.cell (p := ⟨w.heap.size, 5, none⟩) (by dsimp only; omega)).trans hx0_5
  replace hx0_6 := (HC7.out.cell (p := ⟨w.heap.size, 6, none⟩) (by dsimp only; omega)).trans hx0_6
  replace hx0_7 := (HC7.out.cell (p := ⟨w.heap.size, 7, none⟩) (by dsimp only; omega)).trans hx0_7
  replace hx0_8 := (HC7.out.cell (p := ⟨w.heap.size, 8, none⟩) (by dsimp only; omega)).trans hx0_8
  have hx1_0 : (w6.alloc (.cells #[Value.int .i64 n0.join, Value.int .i64 n0.split, Value.slice B17 n0.ins.length d20, Value.slice B18 n0.out.length d21, Value.slice B19 n0.clear.length d22, Value.int .i64 n0.role, Value.int .i64 n0.apart, Value.int .i64 n0.all, Value.int .i64 n0.need] 44)).cell? ⟨w6.heap.size, 0, none⟩ = some (Value.int .i64 n0.join) := by simp [World.cell?_alloc_new]
  have hx1_1 : (w6.alloc (.cells #[Value.int .i64 n0.join, Value.int .i64 n0.split, Value.slice B17 n0.ins.length d20, Value.slice B18 n0.out.length d21, Value.slice B19 n0.clear.length d22, Value.int .i64 n0.role, Value.int .i64 n0.apart, Value.int .i64 n0.all, Value.int .i64 n0.need] 44)).cell? ⟨w6.heap.size, 1, none⟩ = some (Value.int .i64 n0.split) := by simp [World.cell?_alloc_new]
  have hx1_2 : (w6.alloc (.cells #[Value.int .i64 n0.join, Value.int .i64 n0.split, Value.slice B17 n0.ins.length d20, Value.slice B18 n0.out.length d21, Value.slice B19 n0.clear.length d22, Value.int .i64 n0.role, Value.int .i64 n0.apart, Value.int .i64 n0.all, Value.int .i64 n0.need] 44)).cell? ⟨w6.heap.size, 2, none⟩ = some (Value.slice B17 n0.ins.length d20) := by simp [World.cell?_alloc_new]
  have hx1_3 : (w6.alloc (.cells #[Value.int .i64 n0.join, Value.int .i64 n0.split, Value.slice B17 n0.ins.length d20, Value.slice B18 n0.out.length d21, Value.slice B19 n0.clear.length d22, Value.int .i64 n0.role, Value.int .i64 n0.apart, Value.int .i64 n0.all, Value.int .i64 n0.need] 44)).cell? ⟨w6.heap.size, 3, none⟩ = some (Value.slice B18 n0.out.length d21) := by simp [World.cell?_alloc_new]
  have hx1_4 : (w6.alloc (.cells #[Value.int .i64 n0.join, Value.int .i64 n0.split, Value.slice B17 n0.ins.length d20, Value.slice B18 n0.out.length d21, Value.slice B19 n0.clear.length d22, Value.int .i64 n0.role, Value.int .i64 n0.apart, Value.int .i64 n0.all, Value.int .i64 n0.need] 44)).cell? ⟨w6.heap.size, 4, none⟩ = some (Value.slice B19 n0.clear.length d22) := by simp [World.cell?_alloc_new]
  have hx1_5 : (w6.alloc (.cells #[Value.int .i64 n0.join, Value.int .i64 n0.split, Value.slice B17 n0.ins.length d20, Value.slice B18 n0.out.length d21, Value.slice B19 n0.clear.length d22, Value.int .i64 n0.role, Value.int .i64 n0.apart, Value.int .i64 n0.all, Value.int .i64 n0.need] 44)).cell? ⟨w6.heap.size, 5, none⟩ = some (Value.int .i64 n0.role) := by simp [World.cell?_alloc_new]
  have hx1_6 : (w6.alloc (.cells #[Value.int .i64 n0.join, Value.int .i64 n0.split, Value.slice B17 n0.ins.length d20, Value.slice B18 n0.out.length d21, Value.slice B19 n0.clear.length d22, Value.int .i64 n0.role, Value.int .i64 n0.apart, Value.int .i64 n0.all, Value.int .i64 n0.need] 44)).cell? ⟨w6.heap.size, 6, none⟩ = some (Value.int .i64 n0.apart) := by simp [World.cell?_alloc_new]
  have hx1_7 : (w6.alloc (.cells #[Value.int .i64 n0.join, Value.int .i64 n0.split, Value.slice B17 n0.ins.length d20, Value.slice B18 n0.out.length d21, Value.slice B19 n0.clear.length d22, Value.int .i64 n0.role, Value.int .i64 n0.apart, Value.int .i64 n0.all, Value.int .i64 n0.need] 44)).cell? ⟨w6.heap.size, 7, none⟩ = some (Value.int .i64 n0.all) := by simp [World.cell?_alloc_new]
  have hx1_8 : (w6.alloc (.cells #[Value.int .i64 n0.join, Value.int .i64 n0.split, Value.slice B17 n0.ins.length d20, Value.slice B18 n0.out.length d21, Value.slice B19 n0.clear.length d22, Value.int .i64 n0.role, Value.int .i64 n0.apart, Value.int .i64 n0.all, Value.int .i64 n0.need] 44)).cell? ⟨w6.heap.size, 8, none⟩ = some (Value.int .i64 n0.need) := by simp [World.cell?_alloc_new]
  generalize w6.alloc (.cells #[Value.int .i64 n0.join, Value.int .i64 n0.split, Value.slice B17 n0.ins.length d20, Value.slice B18 n0.out.length d21, Value.slice B19 n0.clear.length d22, Value.int .i64 n0.role, Value.int .i64 n0.apart, Value.int .i64 n0.all, Value.int .i64 n0.need] 44) = w7 at *
  go_wp2_with fail
  refine (toIntS_c z1 _ _ A1 b1 o1 c1 _ (((((((hV1.below HC1.out (by omega)).below HC2.out (by omega)).below HC3.out (by omega)).below HC4.out (by omega)).below HC5.out (by omega)).below HC6.out (by omega)).below HC7.out (by omega)) (by omega) (by omega)).mono ?_
  rintro e w8 ⟨bb23, rfl, hR24, hb⟩
  have hs8 : w7.heap.size ≤ w8.heap.size := hb.size
  have HC8 := Lib.hid hb
  replace hx0_0 := (HC8.out.cell (p := ⟨w.heap.size, 0, none⟩) (by dsimp only; omega)).trans hx0_0
  replace hx0_1 := (HC8.out.cell (p := ⟨w.heap.size, 1, none⟩) (by dsimp only; omega)).trans hx0_1
  replace hx0_2 := (HC8.out.cell (p := ⟨w.heap.size, 2, none⟩) (by dsimp only; omega)).trans hx0_2
  replace hx0_3 := (HC8.out.cell (p := ⟨w.heap.size, 3, none⟩) (by dsimp only; omega)).trans hx0_3
  replace hx0_4 := (HC8.out.cell (p := ⟨w.heap.size, 4, none⟩) (by dsimp only; omega)).trans hx0_4
  replace hx0_5 := (HC8.out.cell (p := ⟨w.heap.size, 5, none⟩) (by dsimp only; omega)).trans hx0_5
  replace hx0_6 := (HC8.out.cell (p := ⟨w.heap.size, 6, none⟩) (by dsimp only; omega)).trans hx0_6
  replace hx0_7 := (HC8.out.cell (p := ⟨w.heap.size, 7, none⟩) (by dsimp only; omega)).trans hx0_7
  replace hx0_8 := (HC8.out.cell (p := ⟨w.heap.size, 8, none⟩) (by dsimp only; omega)).trans hx0_8
  replace hx1_0 := (HC8.out.cell (p := ⟨w6.heap.size, 0, none⟩) (by dsimp only; omega)).trans hx1_0
  replace hx1_1 := (HC8.out.cell (p := ⟨w6.heap.size, 1, none⟩) (by dsimp only; omega)).trans hx1_1
  replace hx1_2 := (HC8.out.cell (p := ⟨w6.heap.size, 2, none⟩) (by dsimp only; omega)).trans hx1_2
  replace hx1_3 := (HC8.out.cell (p := ⟨w6.heap.size, 3, none⟩) (by dsimp only; omega)).trans hx1_3
  replace hx1_4 := (HC8.out.cell (p := ⟨w6.heap.size, 4, none⟩) (by dsimp only; omega)).trans hx1_4
  replace hx1_5 := (HC8.out.cell (p := ⟨w6.heap.size, 5, none⟩) (by dsimp only; omega)).trans hx1_5
  replace hx1_6 := (HC8.out.cell (p := ⟨w6.heap.size, 6, none⟩) (by dsimp only; omega)).trans hx1_6
  replace hx1_7 := (HC8.out.cell (p := ⟨w6.heap.size, 7, none⟩) (by dsimp only; omega)).trans hx1_7
  replace hx1_8 := (HC8.out.cell (p := ⟨w6.heap.size, 8, none⟩) (by dsimp only; omega)).trans hx1_8
  clear hb
  go_wp2_with fail
  refine (implSplTo_c n0 _ _ _ z1 _ _ _ _ _ _ _ _ _ ((hR16.below HC7.out (by omega)).below HC8.out (by omega)) (by omega) hq0b hR24 (by omega) hM1).mono ?_
  rintro e w9 ⟨vv25, rfl, hM_26, hb⟩
  have hs9 : w8.heap.size ≤ w9.heap.size := hb.size
  have HC9 := Lib.hid hb
  replace hx0_0 := (HC9.out.cell (p := ⟨w.heap.size, 0, none⟩) (by dsimp only; omega)).trans hx0_0
  replace hx0_1 := (HC9.out.cell (p := ⟨w.heap.size, 1, none⟩) (by dsimp only; omega)).trans hx0_1
  replace hx0_2 := (HC9.out.cell (p := ⟨w.heap.size, 2, none⟩) (by dsimp only; omega)).trans hx0_2
  replace hx0_3 := (HC9.out.cell (p := ⟨w.heap.size, 3, none⟩) (by dsimp only; omega)).trans hx0_3
  replace hx0_4 := (HC9.out.cell (p := ⟨w.heap.size, 4, none⟩) (by dsimp only; omega)).trans hx0_4
  replace hx0_5 := (HC9.out.cell (p := ⟨w.heap.size, 5, none⟩) (by dsimp only; omega)).trans hx0_5
  replace hx0_6 := (HC9.out.cell (p := ⟨w.heap.size, 6, none⟩) (by dsimp only; omega)).trans hx0_6
  replace hx0_7 := (HC9.out.cell (p := ⟨w.heap.size, 7, none⟩) (by dsimp only; omega)).trans hx0_7
  replace hx0_8 := (HC9.out.cell (p := ⟨w.heap.size, 8, none⟩) (by dsimp only; omega)).trans hx0_8
  replace hx1_0 := (HC9.out.cell (p := ⟨w6.heap.size, 0, none⟩) (by dsimp only; omega)).trans hx1_0
  replace hx1_1 := (HC9.out.cell (p := ⟨w6.heap.size, 1, none⟩) (by dsimp only; omega)).trans hx1_1
  replace hx1_2 := (HC9.out.cell (p := ⟨w6.heap.size, 2, none⟩) (by dsimp only; omega)).trans hx1_2
  replace hx1_3 := (HC9.out.cell (p := ⟨w6.heap.size, 3, none⟩) (by dsimp only; omega)).trans hx1_3
  replace hx1_4 := (HC9.out.cell (p := ⟨w6.heap.size, 4, none⟩) (by dsimp only; omega)).trans hx1_4
  replace hx1_5 := (HC9.out.cell (p := ⟨w6.heap.size, 5, none⟩) (by dsimp only; omega)).trans hx1_5
  replace hx1_6 := (HC9.out.cell (p := ⟨w6.heap.size, 6, none⟩) (by dsimp only; omega)).trans hx1_6
  replace hx1_7 := (HC9.out.cell (p := ⟨w6.heap.size, 7, none⟩) (by dsimp only; omega)).trans hx1_7
  replace hx1_8 := (HC9.out.cell (p := ⟨w6.heap.size, 8, none⟩) (by dsimp only; omega)).trans hx1_8
  clear hb
  obtain ⟨AA27, bb28, cc29, rfl, hG30⟩ := hM_26.row
  clear hM_26
  go_wp2_with fail
  refine (eqIntS_c ((splL n0 z1)) ((splL n0 z1)) _ _ _ _ _ _ _ _ _ _ _ _ _ hG30 ((((hG15.below HC6.out (by omega)).below HC7.out (by omega)).below HC8.out (by omega)).below HC9.out (by omega)) hrm hrm).mono ?_
  rintro e w10 ⟨rfl, hb⟩
  have hs10 : w9.heap.size ≤ w10.heap.size := hb.size
  have HC10 := Lib.hid hb
  replace hx0_0 := (HC10.out.cell (p := ⟨w.heap.size, 0, none⟩) (by dsimp only; omega)).trans hx0_0
  replace hx0_1 := (HC10.out.cell (p := ⟨w.heap.size, 1, none⟩) (by dsimp only; omega)).trans hx0_1
  replace hx0_2 := (HC10.out.cell (p := ⟨w.heap.size, 2, none⟩) (by dsimp only; omega)).trans hx0_2
  replace hx0_3 := (HC10.out.cell (p := ⟨w.heap.size, 3, none⟩) (by dsimp only; omega)).trans hx0_3
  replace hx0_4 := (HC10.out.cell (p := ⟨w.heap.size, 4, none⟩) (by dsimp only; omega)).trans hx0_4
  replace hx0_5 := (HC10.out.cell (p := ⟨w.heap.size, 5, none⟩) (by dsimp only; omega)).trans hx0_5
  replace hx0_6 := (HC10.out.cell (p := ⟨w.heap.size, 6, none⟩) (by dsimp only; omega)).trans hx0_6
  replace hx0_7 := (HC10.out.cell (p := ⟨w.heap.size, 7, none⟩) (by dsimp only; omega)).trans hx0_7
  replace hx0_8 := (HC10.out.cell (p := ⟨w.heap.size, 8, none⟩) (by dsimp only; omega)).trans hx0_8
  replace hx1_0 := (HC10.out.cell (p := ⟨w6.heap.size, 0, none⟩) (by dsimp only; omega)).trans hx1_0
  replace hx1_1 := (HC10.out.cell (p := ⟨w6.heap.size, 1, none⟩) (by dsimp only; omega)).trans hx1_1
  replace hx1_2 := (HC10.out.cell (p := ⟨w6.heap.size, 2, none⟩) (by dsimp only; omega)).trans hx1_2
  replace hx1_3 := (HC10.out.cell (p := ⟨w6.heap.size, 3, none⟩) (by dsimp only; omega)).trans hx1_3
  replace hx1_4 := (HC10.out.cell (p := ⟨w6.heap.size, 4, none⟩) (by dsimp only; omega)).trans hx1_4
  replace hx1_5 := (HC10.out.cell (p := ⟨w6.heap.size, 5, none⟩) (by dsimp only; omega)).trans hx1_5
  replace hx1_6 := (HC10.out.cell (p := ⟨w6.heap.size, 6, none⟩) (by dsimp only; omega)).trans hx1_6
  replace hx1_7 := (HC10.out.cell (p := ⟨w6.heap.size, 7, none⟩) (by dsimp only; omega)).trans hx1_7
  replace hx1_8 := (HC10.out.cell (p := ⟨w6.heap.size, 8, none⟩) (by dsimp only; omega)).trans hx1_8
  clear hb
  go_wp2_with fail
  have hs11 : w10.drew.heap.size = w10.heap.size := rfl
  have HC11 := Lib.hid (show Below w10.heap.size w10 w10.drew from (Below.refl w10.heap.size w10).drew)
  replace hx0_0 := (HC11.out.cell (p := ⟨w.heap.size, 0, none⟩) (by dsimp only; omega)).trans hx0_0
  replace hx0_1 := (HC11.out.cell (p := ⟨w.heap.size, 1, none⟩) (by dsimp only; omega)).trans hx0_1
  replace hx0_2 := (HC11.out.cell (p := ⟨w.heap.size, 2, none⟩) (by dsimp only; omega)).trans hx0_2
  replace hx0_3 := (HC11.out.cell (p := ⟨w.heap.size, 3, none⟩) (by dsimp only; omega)).trans hx0_3
  replace hx0_4 := (HC11.out.cell (p := ⟨w.heap.size, 4, none⟩) (by dsimp only; omega)).trans hx0_4
  replace hx0_5 := (HC11.out.cell (p := ⟨w.heap.size, 5, none⟩) (by dsimp only; omega)).trans hx0_5
  replace hx0_6 := (HC11.out.cell (p := ⟨w.heap.size, 6, none⟩) (by dsimp only; omega)).trans hx0_6
  replace hx0_7 := (HC11.out.cell (p := ⟨w.heap.size, 7, none⟩) (by dsimp only; omega)).trans hx0_7
  replace hx0_8 := (HC11.out.cell (p := ⟨w.heap.size, 8, none⟩) (by dsimp only; omega)).trans hx0_8
  replace hx1_0 := (HC11.out.cell (p := ⟨w6.heap.size, 0, none⟩) (by dsimp only; omega)).trans hx1_0
  replace hx1_1 := (HC11.out.cell (p := ⟨w6.heap.size, 1, none⟩) (by dsimp only; omega)).trans hx1_1
  replace hx1_2 := (HC11.out.cell (p := ⟨w6.heap.size, 2, none⟩) (by dsimp only; omega)).trans hx1_2
  replace hx1_3 := (HC11.out.cell (p := ⟨w6.heap.size, 3, none⟩) (by dsimp only; omega)).trans hx1_3
  replace hx1_4 := (HC11.out.cell (p := ⟨w6.heap.size, 4, none⟩) (by dsimp only; omega)).trans hx1_4
  replace hx1_5 := (HC11.out.cell (p := ⟨w6.heap.size, 5, none⟩) (by dsimp only; omega)).trans hx1_5
  replace hx1_6 := (HC11.out.cell (p := ⟨w6.heap.size, 6, none⟩) (by dsimp only; omega)).trans hx1_6
  replace hx1_7 := (HC11.out.cell (p := ⟨w6.heap.size, 7, none⟩) (by dsimp only; omega)).trans hx1_7
  replace hx1_8 := (HC11.out.cell (p := ⟨w6.heap.size, 8, none⟩) (by dsimp only; omega)).trans hx1_8
  have HVa := Lib.hid (show TaskV w10.drew 0 w.heap.size n0 _ _ _ from (((((((((((hV0.below HC1.out (by omega)).below HC2.out (by omega)).below HC3.out (by omega)).below HC4.out (by omega)).below HC5.out (by omega)).below HC6.out (by omega)).below HC7.out (by omega)).below HC8.out (by omega)).below HC9.out (by omega)).below HC10.out (by omega)).below HC11.out (by omega)))
  have HXa := Lib.hid (show TaskV w10.drew w5.heap.size w6.heap.size n0 _ _ _ from (((((hR16.below HC7.out (by omega)).below HC8.out (by omega)).below HC9.out (by omega)).below HC10.out (by omega)).below HC11.out (by omega)))
  have hqa : w.heap.size ≤ w10.drew.heap.size := by omega
  have hqs : taskSize n0 ≤ 1048576 := by omega
  have hqb : w6.heap.size ≤ w10.drew.heap.size := by omega
  have hqx0 : w.heap.size < w10.drew.heap.size := by omega
  have hqx1 : w6.heap.size < w10.drew.heap.size := by omega
  go_region_held3 (fun w' => w'.cell? ⟨w.heap.size, 0, none⟩ = some (Value.int .i64 n0.join) ∧ w'.cell? ⟨w.heap.size, 1, none⟩ = some (Value.int .i64 n0.split) ∧ w'.cell? ⟨w.heap.size, 2, none⟩ = some (Value.slice A0a n0.ins.length c0a) ∧ w'.cell? ⟨w.heap.size, 3, none⟩ = some (Value.slice A0b n0.out.length c0b) ∧ w'.cell? ⟨w.heap.size, 4, none⟩ = some (Value.slice A0c n0.clear.length c0c) ∧ w'.cell? ⟨w.heap.size, 5, none⟩ = some (Value.int .i64 n0.role) ∧ w'.cell? ⟨w.heap.size, 6, none⟩ = some (Value.int .i64 n0.apart) ∧ w'.cell? ⟨w.heap.size, 7, none⟩ = some (Value.int .i64 n0.all) ∧ w'.cell? ⟨w.heap.size, 8, none⟩ = some (Value.int .i64 n0.need) ∧ w'.cell? ⟨w6.heap.size, 0, none⟩ = some (Value.int .i64 n0.join) ∧ w'.cell? ⟨w6.heap.size, 1, none⟩ = some (Value.int .i64 n0.split) ∧ w'.cell? ⟨w6.heap.size, 2, none⟩ = some (Value.slice B17 n0.ins.length d20) ∧ w'.cell? ⟨w6.heap.size, 3, none⟩ = some (Value.slice B18 n0.out.length d21) ∧ w'.cell? ⟨w6.heap.size, 4, none⟩ = some (Value.slice B19 n0.clear.length d22) ∧ w'.cell? ⟨w6.heap.size, 5, none⟩ = some (Value.int .i64 n0.role) ∧ w'.cell? ⟨w6.heap.size, 6, none⟩ = some (Value.int .i64 n0.apart) ∧ w'.cell? ⟨w6.heap.size, 7, none⟩ = some (Value.int .i64 n0.all) ∧ w'.cell? ⟨w6.heap.size, 8, none⟩ = some (Value.int .i64 n0.need)) (first | exact ⟨hx0_0, hx0_1, hx0_2, hx0_3, hx0_4, hx0_5, hx0_6, hx0_7, hx0_8, hx1_0, hx1_1, hx1_2, hx1_3, hx1_4, hx1_5, hx1_6, hx1_7, hx1_8⟩ | exact ⟨hy0_0, hy0_1, hy0_2, hy0_3, hy0_4, hy0_5, hy0_6, hy0_7, hy0_8, hy1_0, hy1_1, hy1_2, hy1_3, hy1_4, hy1_5, hy1_6, hy1_7, hy1_8⟩ | exact ⟨hz0_0, hz0_1, hz0_2, hz0_3, hz0_4, hz0_5, hz0_6, hz0_7, hz0_8, hz1_0, hz1_1, hz1_2, hz1_3, hz1_4, hz1_5, hz1_6, hz1_7, hz1_8⟩)
   (first
    | (go_at_call 20; refine (toNetTask_c n0 _ _ _ 0 w.heap.size w10.drew HVa.out hqa hq0a hq0b hq0c).mono ?_; rintro e w12 ⟨ue1, ue2, ue3, rfl, hRe, hb⟩; obtain ⟨Be1, de1, Be2, de2, Be3, de3, rfl, rfl, rfl⟩ := hRe.forms; have hy0_0 := (hb.cell (p := ⟨w.heap.size, 0, none⟩) hqx0).trans hx0_0; have hy0_1 := (hb.cell (p := ⟨w.heap.size, 1, none⟩) hqx0).trans hx0_1; have hy0_2 := (hb.cell (p := ⟨w.heap.size, 2, none⟩) hqx0).trans hx0_2; have hy0_3 := (hb.cell (p := ⟨w.heap.size, 3, none⟩) hqx0).trans hx0_3; have hy0_4 := (hb.cell (p := ⟨w.heap.size, 4, none⟩) hqx0).trans hx0_4; have hy0_5 := (hb.cell (p := ⟨w.heap.size, 5, none⟩) hqx0).trans hx0_5; have hy0_6 := (hb.cell (p := ⟨w.heap.size, 6, none⟩) hqx0).trans hx0_6; have hy0_7 := (hb.cell (p := ⟨w.heap.size, 7, none⟩) hqx0).trans hx0_7; have hy0_8 := (hb.cell (p := ⟨w.heap.size, 8, none⟩) hqx0).trans hx0_8; have hy1_0 := (hb.cell (p := ⟨w6.heap.size, 0, none⟩) hqx1).trans hx1_0; have hy1_1 := (hb.cell (p := ⟨w6.heap.size, 1, none⟩) hqx1).trans hx1_1; have hy1_2 := (hb.cell (p := ⟨w6.heap.size, 2, none⟩) hqx1).trans hx1_2; have hy1_3 := (hb.cell (p := ⟨w6.heap.size, 3, none⟩) hqx1).trans hx1_3; have hy1_4 := (hb.cell (p := ⟨w6.heap.size, 4, none⟩) hqx1).trans hx1_4; have hy1_5 := (hb.cell (p := ⟨w6.heap.size, 5, none⟩) hqx1).trans hx1_5; have hy1_6 := (hb.cell (p := ⟨w6.heap.size, 6, none⟩) hqx1).trans hx1_6; have hy1_7 := (hb.cell (p := ⟨w6.heap.size, 7, none⟩) hqx1).trans hx1_7; have hy1_8 := (hb.cell (p := ⟨w6.heap.size, 8, none⟩) hqx1).trans hx1_8)
    | (go_at_call 24; refine (eqNetTask_t n0 _ _ _ _ _ _ _ _ _ _ w12 (HXa.out.below hb hqb) hRe (Nat.le_trans hqb hb.size) (Nat.le_refl _)).mono ?_; rintro e w13 ⟨rfl, hb9⟩; have hz0_0 := (hb9.cell (p := ⟨w.heap.size, 0, none⟩) (Nat.lt_of_lt_of_le hqx0 hb.size)).trans hy0_0; have hz0_1 := (hb9.cell (p := ⟨w.heap.size, 1, none⟩) (Nat.lt_of_lt_of_le hqx0 hb.size)).trans hy0_1; have hz0_2 := (hb9.cell (p := ⟨w.heap.size, 2, none⟩) (Nat.lt_of_lt_of_le hqx0 hb.size)).trans hy0_2; have hz0_3 := (hb9.cell (p := ⟨w.heap.size, 3, none⟩) (Nat.lt_of_lt_of_le hqx0 hb.size)).trans hy0_3; have hz0_4 := (hb9.cell (p := ⟨w.heap.size, 4, none⟩) (Nat.lt_of_lt_of_le hqx0 hb.size)).trans hy0_4; have hz0_5 := (hb9.cell (p := ⟨w.heap.size, 5, none⟩) (Nat.lt_of_lt_of_le hqx0 hb.size)).trans hy0_5; have hz0_6 := (hb9.cell (p := ⟨w.heap.size, 6, none⟩) (Nat.lt_of_lt_of_le hqx0 hb.size)).trans hy0_6; have hz0_7 := (hb9.cell (p := ⟨w.heap.size, 7, none⟩) (Nat.lt_of_lt_of_le hqx0 hb.size)).trans hy0_7; have hz0_8 := (hb9.cell (p := ⟨w.heap.size, 8, none⟩) (Nat.lt_of_lt_of_le hqx0 hb.size)).trans hy0_8; have hz1_0 := (hb9.cell (p := ⟨w6.heap.size, 0, none⟩) (Nat.lt_of_lt_of_le hqx1 hb.size)).trans hy1_0; have hz1_1 := (hb9.cell (p := ⟨w6.heap.size, 1, none⟩) (Nat.lt_of_lt_of_le hqx1 hb.size)).trans hy1_1; have hz1_2 := (hb9.cell (p := ⟨w6.heap.size, 2, none⟩) (Nat.lt_of_lt_of_le hqx1 hb.size)).trans hy1_2; have hz1_3 := (hb9.cell (p := ⟨w6.heap.size, 3, none⟩) (Nat.lt_of_lt_of_le hqx1 hb.size)).trans hy1_3; have hz1_4 := (hb9.cell (p := ⟨w6.heap.size, 4, none⟩) (Nat.lt_of_lt_of_le hqx1 hb.size)).trans hy1_4; have hz1_5 := (hb9.cell (p := ⟨w6.heap.size, 5, none⟩) (Nat.lt_of_lt_of_le hqx1 hb.size)).trans hy1_5; have hz1_6 := (hb9.cell (p := ⟨w6.heap.size, 6, none⟩) (Nat.lt_of_lt_of_le hqx1 hb.size)).trans hy1_6; have hz1_7 := (hb9.cell (p := ⟨w6.heap.size, 7, none⟩) (Nat.lt_of_lt_of_le hqx1 hb.size)).trans hy1_7; have hz1_8 := (hb9.cell (p := ⟨w6.heap.size, 8, none⟩) (Nat.lt_of_lt_of_le hqx1 hb.size)).trans hy1_8))
  have hs12 : w10.drew.heap.size ≤ w12.heap.size := hb.size
  have HC12 := Lib.hid hb
  have hs13 : w12.heap.size ≤ w13.heap.size := hb9.size
  have HC13 := Lib.hid hb9
  clear hb hb9 hRe HVa HXa hqa hqs hqb hx0_0 hy0_0 hx0_1 hy0_1 hx0_2 hy0_2 hx0_3 hy0_3 hx0_4 hy0_4 hx0_5 hy0_5 hx0_6 hy0_6 hx0_7 hy0_7 hx0_8 hy0_8 hx1_0 hy1_0 hx1_1 hy1_1 hx1_2 hy1_2 hx1_3 hy1_3 hx1_4 hy1_4 hx1_5 hy1_5 hx1_6 hy1_6 hx1_7 hy1_7 hx1_8 hy1_8
  have hx0_0 := hz0_0
  have hx0_1 := hz0_1
  have hx0_2 := hz0_2
  have hx0_3 := hz0_3
  have hx0_4 := hz0_4
  have hx0_5 := hz0_5
  have hx0_6 := hz0_6
  have hx0_7 := hz0_7
  have hx0_8 := hz0_8
  have hx1_0 := hz1_0
  have hx1_1 := hz1_1
  have hx1_2 := hz1_2
  have hx1_3 := hz1_3
  have hx1_4 := hz1_4
  have hx1_5 := hz1_5
  have hx1_6 := hz1_6
  have hx1_7 := hz1_7
  have hx1_8 := hz1_8
  clear hz0_0 hz0_1 hz0_2 hz0_3 hz0_4 hz0_5 hz0_6 hz0_7 hz0_8 hz1_0 hz1_1 hz1_2 hz1_3 hz1_4 hz1_5 hz1_6 hz1_7 hz1_8 hqx0 hqx1
  go_wp2_with fail
  refine (toIntS_c z1 _ _ A1 b1 o1 c1 _ (((((((((((((hV1.below HC1.out (by omega)).below HC2.out (by omega)).below HC3.out (by omega)).below HC4.out (by omega)).below HC5.out (by omega)).below HC6.out (by omega)).below HC7.out (by omega)).below HC8.out (by omega)).below HC9.out (by omega)).below HC10.out (by omega)).below HC11.out (by omega)).below HC12.out (by omega)).below HC13.out (by omega)) (by omega) (by omega)).mono ?_
  rintro e w14 ⟨bb31, rfl, hR32, hb⟩
  have hs14 : w13.heap.size ≤ w14.heap.size := hb.size
  have HC14 := Lib.hid hb
  replace hx0_0 := (HC14.out.cell (p := ⟨w.heap.size, 0, none⟩) (by dsimp only; omega)).trans hx0_0
  replace hx0_1 := (HC14.out.cell (p := ⟨w.heap.size, 1, none⟩) (by dsimp only; omega)).trans hx0_1
  replace hx0_2 := (HC14.out.cell (p := ⟨w.heap.size, 2, none⟩) (by dsimp only; omega)).trans hx0_2
  replace hx0_3 := (HC14.out.cell (p := ⟨w.heap.size, 3, none⟩) (by dsimp only; omega)).trans hx0_3
  replace hx0_4 := (HC14.out.cell (p := ⟨w.heap.size, 4, none⟩) (by dsimp only; omega)).trans hx0_4
  replace hx0_5 := (HC14.out.cell (p := ⟨w.heap.size, 5, none⟩) (by dsimp only; omega)).trans hx0_5
  replace hx0_6 := (HC14.out.cell (p := ⟨w.heap.size, 6, none⟩) (by dsimp only; omega)).trans hx0_6
  replace hx0_7 := (HC14.out.cell (p := ⟨w.heap.size, 7, none⟩) (by dsimp only; omega)).trans hx0_7
  replace hx0_8 := (HC14.out.cell (p := ⟨w.heap.size, 8, none⟩) (by dsimp only; omega)).trans hx0_8
  replace hx1_0 := (HC14.out.cell (p := ⟨w6.heap.size, 0, none⟩) (by dsimp only; omega)).trans hx1_0
  replace hx1_1 := (HC14.out.cell (p := ⟨w6.heap.size, 1, none⟩) (by dsimp only; omega)).trans hx1_1
  replace hx1_2 := (HC14.out.cell (p := ⟨w6.heap.size, 2, none⟩) (by dsimp only; omega)).trans hx1_2
  replace hx1_3 := (HC14.out.cell (p := ⟨w6.heap.size, 3, none⟩) (by dsimp only; omega)).trans hx1_3
  replace hx1_4 := (HC14.out.cell (p := ⟨w6.heap.size, 4, none⟩) (by dsimp only; omega)).trans hx1_4
  replace hx1_5 := (HC14.out.cell (p := ⟨w6.heap.size, 5, none⟩) (by dsimp only; omega)).trans hx1_5
  replace hx1_6 := (HC14.out.cell (p := ⟨w6.heap.size, 6, none⟩) (by dsimp only; omega)).trans hx1_6
  replace hx1_7 := (HC14.out.cell (p := ⟨w6.heap.size, 7, none⟩) (by dsimp only; omega)).trans hx1_7
  replace hx1_8 := (HC14.out.cell (p := ⟨w6.heap.size, 8, none⟩) (by dsimp only; omega)).trans hx1_8
  clear hb
  go_wp2_with fail
  refine (eqIntS_c z1 z1 _ _ _ _ _ _ _ _ _ _ _ _ _ ((((((hR24.below HC9.out (by omega)).below HC10.out (by omega)).below HC11.out (by omega)).below HC12.out (by omega)).below HC13.out (by omega)).below HC14.out (by omega)) hR32 hM1 hM1).mono ?_
  rintro e w15 ⟨rfl, hb⟩
  have hs15 : w14.heap.size ≤ w15.heap.size := hb.size
  have HC15 := Lib.hid hb
  replace hx0_0 := (HC15.out.cell (p := ⟨w.heap.size, 0, none⟩) (by dsimp only; omega)).trans hx0_0
  replace hx0_1 := (HC15.out.cell (p := ⟨w.heap.size, 1, none⟩) (by dsimp only; omega)).trans hx0_1
  replace hx0_2 := (HC15.out.cell (p := ⟨w.heap.size, 2, none⟩) (by dsimp only; omega)).trans hx0_2
  replace hx0_3 := (HC15.out.cell (p := ⟨w.heap.size, 3, none⟩) (by dsimp only; omega)).trans hx0_3
  replace hx0_4 := (HC15.out.cell (p := ⟨w.heap.size, 4, none⟩) (by dsimp only; omega)).trans hx0_4
  replace hx0_5 := (HC15.out.cell (p := ⟨w.heap.size, 5, none⟩) (by dsimp only; omega)).trans hx0_5
  replace hx0_6 := (HC15.out.cell (p := ⟨w.heap.size, 6, none⟩) (by dsimp only; omega)).trans hx0_6
  replace hx0_7 := (HC15.out.cell (p := ⟨w.heap.size, 7, none⟩) (by dsimp only; omega)).trans hx0_7
  replace hx0_8 := (HC15.out.cell (p := ⟨w.heap.size, 8, none⟩) (by dsimp only; omega)).trans hx0_8
  replace hx1_0 := (HC15.out.cell (p := ⟨w6.heap.size, 0, none⟩) (by dsimp only; omega)).trans hx1_0
  replace hx1_1 := (HC15.out.cell (p := ⟨w6.heap.size, 1, none⟩) (by dsimp only; omega)).trans hx1_1
  replace hx1_2 := (HC15.out.cell (p := ⟨w6.heap.size, 2, none⟩) (by dsimp only; omega)).trans hx1_2
  replace hx1_3 := (HC15.out.cell (p := ⟨w6.heap.size, 3, none⟩) (by dsimp only; omega)).trans hx1_3
  replace hx1_4 := (HC15.out.cell (p := ⟨w6.heap.size, 4, none⟩) (by dsimp only; omega)).trans hx1_4
  replace hx1_5 := (HC15.out.cell (p := ⟨w6.heap.size, 5, none⟩) (by dsimp only; omega)).trans hx1_5
  replace hx1_6 := (HC15.out.cell (p := ⟨w6.heap.size, 6, none⟩) (by dsimp only; omega)).trans hx1_6
  replace hx1_7 := (HC15.out.cell (p := ⟨w6.heap.size, 7, none⟩) (by dsimp only; omega)).trans hx1_7
  replace hx1_8 := (HC15.out.cell (p := ⟨w6.heap.size, 8, none⟩) (by dsimp only; omega)).trans hx1_8
  clear hb
  go_wp2_with fail
  refine (markNetTask_s n0 _ _ _ w5.heap.size w6.heap.size _ _ (((((((((hR16.below HC7.out (by omega)).below HC8.out (by omega)).below HC9.out (by omega)).below HC10.out (by omega)).below HC11.out (by omega)).below HC12.out (by omega)).below HC13.out (by omega)).below HC14.out (by omega)).below HC15.out (by omega)) (by omega) (by omega) (by omega) (by omega)).mono ?_
  rintro e w16 ⟨kk34, rfl, kk341, kk342, hu⟩
  have hs16 : w15.heap.size ≤ w16.heap.size := hu.size
  have HC16 := Lib.hid hu
  replace hx0_0 := (HC16.out.cell (p := ⟨w.heap.size, 0, none⟩) (by dsimp only; omega) (by dsimp only; omega)).trans hx0_0
  replace hx0_1 := (HC16.out.cell (p := ⟨w.heap.size, 1, none⟩) (by dsimp only; omega) (by dsimp only; omega)).trans hx0_1
  replace hx0_2 := (HC16.out.cell (p := ⟨w.heap.size, 2, none⟩) (by dsimp only; omega) (by dsimp only; omega)).trans hx0_2
  replace hx0_3 := (HC16.out.cell (p := ⟨w.heap.size, 3, none⟩) (by dsimp only; omega) (by dsimp only; omega)).trans hx0_3
  replace hx0_4 := (HC16.out.cell (p := ⟨w.heap.size, 4, none⟩) (by dsimp only; omega) (by dsimp only; omega)).trans hx0_4
  replace hx0_5 := (HC16.out.cell (p := ⟨w.heap.size, 5, none⟩) (by dsimp only; omega) (by dsimp only; omega)).trans hx0_5
  replace hx0_6 := (HC16.out.cell (p := ⟨w.heap.size, 6, none⟩) (by dsimp only; omega) (by dsimp only; omega)).trans hx0_6
  replace hx0_7 := (HC16.out.cell (p := ⟨w.heap.size, 7, none⟩) (by dsimp only; omega) (by dsimp only; omega)).trans hx0_7
  replace hx0_8 := (HC16.out.cell (p := ⟨w.heap.size, 8, none⟩) (by dsimp only; omega) (by dsimp only; omega)).trans hx0_8
  replace hx1_0 := (HC16.out.cell (p := ⟨w6.heap.size, 0, none⟩) (by dsimp only; omega) (by dsimp only; omega)).trans hx1_0
  replace hx1_1 := (HC16.out.cell (p := ⟨w6.heap.size, 1, none⟩) (by dsimp only; omega) (by dsimp only; omega)).trans hx1_1
  replace hx1_2 := (HC16.out.cell (p := ⟨w6.heap.size, 2, none⟩) (by dsimp only; omega) (by dsimp only; omega)).trans hx1_2
  replace hx1_3 := (HC16.out.cell (p := ⟨w6.heap.size, 3, none⟩) (by dsimp only; omega) (by dsimp only; omega)).trans hx1_3
  replace hx1_4 := (HC16.out.cell (p := ⟨w6.heap.size, 4, none⟩) (by dsimp only; omega) (by dsimp only; omega)).trans hx1_4
  replace hx1_5 := (HC16.out.cell (p := ⟨w6.heap.size, 5, none⟩) (by dsimp only; omega) (by dsimp only; omega)).trans hx1_5
  replace hx1_6 := (HC16.out.cell (p := ⟨w6.heap.size, 6, none⟩) (by dsimp only; omega) (by dsimp only; omega)).trans hx1_6
  replace hx1_7 := (HC16.out.cell (p := ⟨w6.heap.size, 7, none⟩) (by dsimp only; omega) (by dsimp only; omega)).trans hx1_7
  replace hx1_8 := (HC16.out.cell (p := ⟨w6.heap.size, 8, none⟩) (by dsimp only; omega) (by dsimp only; omega)).trans hx1_8
  clear hu
  go_wp2_with fail
  refine (markIntS_c z1 _ _ _ _ _ _ kk34 _ ((((((((hR24.below HC9.out (by omega)).below HC10.out (by omega)).below HC11.out (by omega)).below HC12.out (by omega)).below HC13.out (by omega)).below HC14.out (by omega)).below HC15.out (by omega)).chg HC16.out (by omega) (by omega)) (by omega) (by omega) (by omega)).mono ?_
  rintro e w17 ⟨rfl, hK35, hu⟩
  have hs17 : w17.heap.size = w16.heap.size := hu.size
  have HC17 := Lib.hid hu
  replace hx0_0 := (HC17.out.cell (p := ⟨w.heap.size, 0, none⟩) (by dsimp only; omega)).trans hx0_0
  replace hx0_1 := (HC17.out.cell (p := ⟨w.heap.size, 1, none⟩) (by dsimp only; omega)).trans hx0_1
  replace hx0_2 := (HC17.out.cell (p := ⟨w.heap.size, 2, none⟩) (by dsimp only; omega)).trans hx0_2
  replace hx0_3 := (HC17.out.cell (p := ⟨w.heap.size, 3, none⟩) (by dsimp only; omega)).trans hx0_3
  replace hx0_4 := (HC17.out.cell (p := ⟨w.heap.size, 4, none⟩) (by dsimp only; omega)).trans hx0_4
  replace hx0_5 := (HC17.out.cell (p := ⟨w.heap.size, 5, none⟩) (by dsimp only; omega)).trans hx0_5
  replace hx0_6 := (HC17.out.cell (p := ⟨w.heap.size, 6, none⟩) (by dsimp only; omega)).trans hx0_6
  replace hx0_7 := (HC17.out.cell (p := ⟨w.heap.size, 7, none⟩) (by dsimp only; omega)).trans hx0_7
  replace hx0_8 := (HC17.out.cell (p := ⟨w.heap.size, 8, none⟩) (by dsimp only; omega)).trans hx0_8
  replace hx1_0 := (HC17.out.cell (p := ⟨w6.heap.size, 0, none⟩) (by dsimp only; omega)).trans hx1_0
  replace hx1_1 := (HC17.out.cell (p := ⟨w6.heap.size, 1, none⟩) (by dsimp only; omega)).trans hx1_1
  replace hx1_2 := (HC17.out.cell (p := ⟨w6.heap.size, 2, none⟩) (by dsimp only; omega)).trans hx1_2
  replace hx1_3 := (HC17.out.cell (p := ⟨w6.heap.size, 3, none⟩) (by dsimp only; omega)).trans hx1_3
  replace hx1_4 := (HC17.out.cell (p := ⟨w6.heap.size, 4, none⟩) (by dsimp only; omega)).trans hx1_4
  replace hx1_5 := (HC17.out.cell (p := ⟨w6.heap.size, 5, none⟩) (by dsimp only; omega)).trans hx1_5
  replace hx1_6 := (HC17.out.cell (p := ⟨w6.heap.size, 6, none⟩) (by dsimp only; omega)).trans hx1_6
  replace hx1_7 := (HC17.out.cell (p := ⟨w6.heap.size, 7, none⟩) (by dsimp only; omega)).trans hx1_7
  replace hx1_8 := (HC17.out.cell (p := ⟨w6.heap.size, 8, none⟩) (by dsimp only; omega)).trans hx1_8
  clear hu
  clear hK35
  go_wp2_with fail
  refine (eqIntS_c ((splL n0 z1)) ((splL n0 z1)) _ _ _ _ _ _ _ _ _ _ _ _ _ ((((((((hG30.below HC10.out (by omega)).below HC11.out (by omega)).below HC12.out (by omega)).below HC13.out (by omega)).below HC14.out (by omega)).below HC15.out (by omega)).chg HC16.out (by omega) (by omega)).upd HC17.out (by omega)) ((((((((((((hG15.below HC6.out (by omega)).below HC7.out (by omega)).below HC8.out (by omega)).below HC9.out (by omega)).below HC10.out (by omega)).below HC11.out (by omega)).below HC12.out (by omega)).below HC13.out (by omega)).below HC14.out (by omega)).below HC15.out (by omega)).chg HC16.out (by omega) (by omega)).upd HC17.out (by omega)) hrm hrm).mono ?_
  rintro e w18 ⟨rfl, hb⟩
  have hs18 : w17.heap.size ≤ w18.heap.size := hb.size
  have HC18 := Lib.hid hb
  replace hx0_0 := (HC18.out.cell (p := ⟨w.heap.size, 0, none⟩) (by dsimp only; omega)).trans hx0_0
  replace hx0_1 := (HC18.out.cell (p := ⟨w.heap.size, 1, none⟩) (by dsimp only; omega)).trans hx0_1
  replace hx0_2 := (HC18.out.cell (p := ⟨w.heap.size, 2, none⟩) (by dsimp only; omega)).trans hx0_2
  replace hx0_3 := (HC18.out.cell (p := ⟨w.heap.size, 3, none⟩) (by dsimp only; omega)).trans hx0_3
  replace hx0_4 := (HC18.out.cell (p := ⟨w.heap.size, 4, none⟩) (by dsimp only; omega)).trans hx0_4
  replace hx0_5 := (HC18.out.cell (p := ⟨w.heap.size, 5, none⟩) (by dsimp only; omega)).trans hx0_5
  replace hx0_6 := (HC18.out.cell (p := ⟨w.heap.size, 6, none⟩) (by dsimp only; omega)).trans hx0_6
  replace hx0_7 := (HC18.out.cell (p := ⟨w.heap.size, 7, none⟩) (by dsimp only; omega)).trans hx0_7
  replace hx0_8 := (HC18.out.cell (p := ⟨w.heap.size, 8, none⟩) (by dsimp only; omega)).trans hx0_8
  replace hx1_0 := (HC18.out.cell (p := ⟨w6.heap.size, 0, none⟩) (by dsimp only; omega)).trans hx1_0
  replace hx1_1 := (HC18.out.cell (p := ⟨w6.heap.size, 1, none⟩) (by dsimp only; omega)).trans hx1_1
  replace hx1_2 := (HC18.out.cell (p := ⟨w6.heap.size, 2, none⟩) (by dsimp only; omega)).trans hx1_2
  replace hx1_3 := (HC18.out.cell (p := ⟨w6.heap.size, 3, none⟩) (by dsimp only; omega)).trans hx1_3
  replace hx1_4 := (HC18.out.cell (p := ⟨w6.heap.size, 4, none⟩) (by dsimp only; omega)).trans hx1_4
  replace hx1_5 := (HC18.out.cell (p := ⟨w6.heap.size, 5, none⟩) (by dsimp only; omega)).trans hx1_5
  replace hx1_6 := (HC18.out.cell (p := ⟨w6.heap.size, 6, none⟩) (by dsimp only; omega)).trans hx1_6
  replace hx1_7 := (HC18.out.cell (p := ⟨w6.heap.size, 7, none⟩) (by dsimp only; omega)).trans hx1_7
  replace hx1_8 := (HC18.out.cell (p := ⟨w6.heap.size, 8, none⟩) (by dsimp only; omega)).trans hx1_8
  clear hb
  go_wp2_with fail
  refine (markIntS_c ((splL n0 z1)) _ _ _ _ _ _ 1 _ (((((((((hG30.below HC10.out (by omega)).below HC11.out (by omega)).below HC12.out (by omega)).below HC13.out (by omega)).below HC14.out (by omega)).below HC15.out (by omega)).chg HC16.out (by omega) (by omega)).upd HC17.out (by omega)).below HC18.out (by omega)) (by omega) (by omega) (by omega)).mono ?_
  rintro e w19 ⟨rfl, hK37, hu⟩
  have hs19 : w19.heap.size = w18.heap.size := hu.size
  have HC19 := Lib.hid hu
  replace hx0_0 := (HC19.out.cell (p := ⟨w.heap.size, 0, none⟩) (by dsimp only; omega)).trans hx0_0
  replace hx0_1 := (HC19.out.cell (p := ⟨w.heap.size, 1, none⟩) (by dsimp only; omega)).trans hx0_1
  replace hx0_2 := (HC19.out.cell (p := ⟨w.heap.size, 2, none⟩) (by dsimp only; omega)).trans hx0_2
  replace hx0_3 := (HC19.out.cell (p := ⟨w.heap.size, 3, none⟩) (by dsimp only; omega)).trans hx0_3
  replace hx0_4 := (HC19.out.cell (p := ⟨w.heap.size, 4, none⟩) (by dsimp only; omega)).trans hx0_4
  replace hx0_5 := (HC19.out.cell (p := ⟨w.heap.size, 5, none⟩) (by dsimp only; omega)).trans hx0_5
  replace hx0_6 := (HC19.out.cell (p := ⟨w.heap.size, 6, none⟩) (by dsimp only; omega)).trans hx0_6
  replace hx0_7 := (HC19.out.cell (p := ⟨w.heap.size, 7, none⟩) (by dsimp only; omega)).trans hx0_7
  replace hx0_8 := (HC19.out.cell (p := ⟨w.heap.size, 8, none⟩) (by dsimp only; omega)).trans hx0_8
  replace hx1_0 := (HC19.out.cell (p := ⟨w6.heap.size, 0, none⟩) (by dsimp only; omega)).trans hx1_0
  replace hx1_1 := (HC19.out.cell (p := ⟨w6.heap.size, 1, none⟩) (by dsimp only; omega)).trans hx1_1
  replace hx1_2 := (HC19.out.cell (p := ⟨w6.heap.size, 2, none⟩) (by dsimp only; omega)).trans hx1_2
  replace hx1_3 := (HC19.out.cell (p := ⟨w6.heap.size, 3, none⟩) (by dsimp only; omega)).trans hx1_3
  replace hx1_4 := (HC19.out.cell (p := ⟨w6.heap.size, 4, none⟩) (by dsimp only; omega)).trans hx1_4
  replace hx1_5 := (HC19.out.cell (p := ⟨w6.heap.size, 5, none⟩) (by dsimp only; omega)).trans hx1_5
  replace hx1_6 := (HC19.out.cell (p := ⟨w6.heap.size, 6, none⟩) (by dsimp only; omega)).trans hx1_6
  replace hx1_7 := (HC19.out.cell (p := ⟨w6.heap.size, 7, none⟩) (by dsimp only; omega)).trans hx1_7
  replace hx1_8 := (HC19.out.cell (p := ⟨w6.heap.size, 8, none⟩) (by dsimp only; omega)).trans hx1_8
  clear hu
  go_wp2_with fail
  refine (heldIntS_c _ _ _ _ _ _ _ 1 _ hK37 (by omega) (by omega) (by omega)).mono ?_
  rintro e wq ⟨rfl, rfl⟩
  go_wp2_with fail
  refine (toNetTask_c n0 _ _ _ _ _ _ (((((((((((((((((((hV0.below HC1.out (by omega)).below HC2.out (by omega)).below HC3.out (by omega)).below HC4.out (by omega)).below HC5.out (by omega)).below HC6.out (by omega)).below HC7.out (by omega)).below HC8.out (by omega)).below HC9.out (by omega)).below HC10.out (by omega)).below HC11.out (by omega)).below HC12.out (by omega)).below HC13.out (by omega)).below HC14.out (by omega)).below HC15.out (by omega)).chg HC16.out (by omega) (by omega)).upd HC17.out (by omega)).below HC18.out (by omega)).upd HC19.out (by omega)) (by omega) hq0a hq0b hq0c).mono ?_
  rintro e w20 ⟨ui, uo, uc, rfl, hR38, hb⟩
  have hs20 : w19.heap.size ≤ w20.heap.size := hb.size
  have HC20 := Lib.hid hb
  replace hx0_0 := (HC20.out.cell (p := ⟨w.heap.size, 0, none⟩) (by dsimp only; omega)).trans hx0_0
  replace hx0_1 := (HC20.out.cell (p := ⟨w.heap.size, 1, none⟩) (by dsimp only; omega)).trans hx0_1
  replace hx0_2 := (HC20.out.cell (p := ⟨w.heap.size, 2, none⟩) (by dsimp only; omega)).trans hx0_2
  replace hx0_3 := (HC20.out.cell (p := ⟨w.heap.size, 3, none⟩) (by dsimp only; omega)).trans hx0_3
  replace hx0_4 := (HC20.out.cell (p := ⟨w.heap.size, 4, none⟩) (by dsimp only; omega)).trans hx0_4
  replace hx0_5 := (HC20.out.cell (p := ⟨w.heap.size, 5, none⟩) (by dsimp only; omega)).trans hx0_5
  replace hx0_6 := (HC20.out.cell (p := ⟨w.heap.size, 6, none⟩) (by dsimp only; omega)).trans hx0_6
  replace hx0_7 := (HC20.out.cell (p := ⟨w.heap.size, 7, none⟩) (by dsimp only; omega)).trans hx0_7
  replace hx0_8 := (HC20.out.cell (p := ⟨w.heap.size, 8, none⟩) (by dsimp only; omega)).trans hx0_8
  replace hx1_0 := (HC20.out.cell (p := ⟨w6.heap.size, 0, none⟩) (by dsimp only; omega)).trans hx1_0
  replace hx1_1 := (HC20.out.cell (p := ⟨w6.heap.size, 1, none⟩) (by dsimp only; omega)).trans hx1_1
  replace hx1_2 := (HC20.out.cell (p := ⟨w6.heap.size, 2, none⟩) (by dsimp only; omega)).trans hx1_2
  replace hx1_3 := (HC20.out.cell (p := ⟨w6.heap.size, 3, none⟩) (by dsimp only; omega)).trans hx1_3
  replace hx1_4 := (HC20.out.cell (p := ⟨w6.heap.size, 4, none⟩) (by dsimp only; omega)).trans hx1_4
  replace hx1_5 := (HC20.out.cell (p := ⟨w6.heap.size, 5, none⟩) (by dsimp only; omega)).trans hx1_5
  replace hx1_6 := (HC20.out.cell (p := ⟨w6.heap.size, 6, none⟩) (by dsimp only; omega)).trans hx1_6
  replace hx1_7 := (HC20.out.cell (p := ⟨w6.heap.size, 7, none⟩) (by dsimp only; omega)).trans hx1_7
  replace hx1_8 := (HC20.out.cell (p := ⟨w6.heap.size, 8, none⟩) (by dsimp only; omega)).trans hx1_8
  clear hb
  obtain ⟨B39, d42, B40, d43, B41, d44, rfl, rfl, rfl⟩ := hR38.forms
  go_wp2_with fail
  refine (toIntS_c z1 _ _ A1 b1 o1 c1 _ ((((((((((((((((((((hV1.below HC1.out (by omega)).below HC2.out (by omega)).below HC3.out (by omega)).below HC4.out (by omega)).below HC5.out (by omega)).below HC6.out (by omega)).below HC7.out (by omega)).below HC8.out (by omega)).below HC9.out (by omega)).below HC10.out (by omega)).below HC11.out (by omega)).below HC12.out (by omega)).below HC13.out (by omega)).below HC14.out (by omega)).below HC15.out (by omega)).chg HC16.out (by omega) (by omega)).upd HC17.out (by omega)).below HC18.out (by omega)).upd HC19.out (by omega)).below HC20.out (by omega)) (by omega) (by omega)).mono ?_
  rintro e w21 ⟨bb45, rfl, hR46, hb⟩
  have hs21 : w20.heap.size ≤ w21.heap.size := hb.size
  have HC21 := Lib.hid hb
  replace hx0_0 := (HC21.out.cell (p := ⟨w.heap.size, 0, none⟩) (by dsimp only; omega)).trans hx0_0
  replace hx0_1 := (HC21.out.cell (p := ⟨w.heap.size, 1, none⟩) (by dsimp only; omega)).trans hx0_1
  replace hx0_2 := (HC21.out.cell (p := ⟨w.heap.size, 2, none⟩) (by dsimp only; omega)).trans hx0_2
  replace hx0_3 := (HC21.out.cell (p := ⟨w.heap.size, 3, none⟩) (by dsimp only; omega)).trans hx0_3
  replace hx0_4 := (HC21.out.cell (p := ⟨w.heap.size, 4, none⟩) (by dsimp only; omega)).trans hx0_4
  replace hx0_5 := (HC21.out.cell (p := ⟨w.heap.size, 5, none⟩) (by dsimp only; omega)).trans hx0_5
  replace hx0_6 := (HC21.out.cell (p := ⟨w.heap.size, 6, none⟩) (by dsimp only; omega)).trans hx0_6
  replace hx0_7 := (HC21.out.cell (p := ⟨w.heap.size, 7, none⟩) (by dsimp only; omega)).trans hx0_7
  replace hx0_8 := (HC21.out.cell (p := ⟨w.heap.size, 8, none⟩) (by dsimp only; omega)).trans hx0_8
  replace hx1_0 := (HC21.out.cell (p := ⟨w6.heap.size, 0, none⟩) (by dsimp only; omega)).trans hx1_0
  replace hx1_1 := (HC21.out.cell (p := ⟨w6.heap.size, 1, none⟩) (by dsimp only; omega)).trans hx1_1
  replace hx1_2 := (HC21.out.cell (p := ⟨w6.heap.size, 2, none⟩) (by dsimp only; omega)).trans hx1_2
  replace hx1_3 := (HC21.out.cell (p := ⟨w6.heap.size, 3, none⟩) (by dsimp only; omega)).trans hx1_3
  replace hx1_4 := (HC21.out.cell (p := ⟨w6.heap.size, 4, none⟩) (by dsimp only; omega)).trans hx1_4
  replace hx1_5 := (HC21.out.cell (p := ⟨w6.heap.size, 5, none⟩) (by dsimp only; omega)).trans hx1_5
  replace hx1_6 := (HC21.out.cell (p := ⟨w6.heap.size, 6, none⟩) (by dsimp only; omega)).trans hx1_6
  replace hx1_7 := (HC21.out.cell (p := ⟨w6.heap.size, 7, none⟩) (by dsimp only; omega)).trans hx1_7
  replace hx1_8 := (HC21.out.cell (p := ⟨w6.heap.size, 8, none⟩) (by dsimp only; omega)).trans hx1_8
  clear hb
  go_wp2_with fail
  refine (implSplTo_c n0 _ _ _ z1 _ _ _ _ _ _ _ _ _ (hR38.below HC21.out (by omega)) (by omega) hq0b hR46 (by omega) hM1).mono ?_
  rintro e w22 ⟨vv47, rfl, hM_48, hb⟩
  have hs22 : w21.heap.size ≤ w22.heap.size := hb.size
  have HC22 := Lib.hid hb
  replace hx0_0 := (HC22.out.cell (p := ⟨w.heap.size, 0, none⟩) (by dsimp only; omega)).trans hx0_0
  replace hx0_1 := (HC22.out.cell (p := ⟨w.heap.size, 1, none⟩) (by dsimp only; omega)).trans hx0_1
  replace hx0_2 := (HC22.out.cell (p := ⟨w.heap.size, 2, none⟩) (by dsimp only; omega)).trans hx0_2
  replace hx0_3 := (HC22.out.cell (p := ⟨w.heap.size, 3, none⟩) (by dsimp only; omega)).trans hx0_3
  replace hx0_4 := (HC22.out.cell (p := ⟨w.heap.size, 4, none⟩) (by dsimp only; omega)).trans hx0_4
  replace hx0_5 := (HC22.out.cell (p := ⟨w.heap.size, 5, none⟩) (by dsimp only; omega)).trans hx0_5
  replace hx0_6 := (HC22.out.cell (p := ⟨w.heap.size, 6, none⟩) (by dsimp only; omega)).trans hx0_6
  replace hx0_7 := (HC22.out.cell (p := ⟨w.heap.size, 7, none⟩) (by dsimp only; omega)).trans hx0_7
  replace hx0_8 := (HC22.out.cell (p := ⟨w.heap.size, 8, none⟩) (by dsimp only; omega)).trans hx0_8
  replace hx1_0 := (HC22.out.cell (p := ⟨w6.heap.size, 0, none⟩) (by dsimp only; omega)).trans hx1_0
  replace hx1_1 := (HC22.out.cell (p := ⟨w6.heap.size, 1, none⟩) (by dsimp only; omega)).trans hx1_1
  replace hx1_2 := (HC22.out.cell (p := ⟨w6.heap.size, 2, none⟩) (by dsimp only; omega)).trans hx1_2
  replace hx1_3 := (HC22.out.cell (p := ⟨w6.heap.size, 3, none⟩) (by dsimp only; omega)).trans hx1_3
  replace hx1_4 := (HC22.out.cell (p := ⟨w6.heap.size, 4, none⟩) (by dsimp only; omega)).trans hx1_4
  replace hx1_5 := (HC22.out.cell (p := ⟨w6.heap.size, 5, none⟩) (by dsimp only; omega)).trans hx1_5
  replace hx1_6 := (HC22.out.cell (p := ⟨w6.heap.size, 6, none⟩) (by dsimp only; omega)).trans hx1_6
  replace hx1_7 := (HC22.out.cell (p := ⟨w6.heap.size, 7, none⟩) (by dsimp only; omega)).trans hx1_7
  replace hx1_8 := (HC22.out.cell (p := ⟨w6.heap.size, 8, none⟩) (by dsimp only; omega)).trans hx1_8
  clear hb
  obtain ⟨AA49, bb50, cc51, rfl, hG52⟩ := hM_48.row
  clear hM_48
  go_wp2_with fail
  refine (eqIntS_c ((splL n0 z1)) ((splL n0 z1)) _ _ _ _ _ _ _ _ _ _ _ _ _ hG52 (((((((((((((((((hG15.below HC6.out (by omega)).below HC7.out (by omega)).below HC8.out (by omega)).below HC9.out (by omega)).below HC10.out (by omega)).below HC11.out (by omega)).below HC12.out (by omega)).below HC13.out (by omega)).below HC14.out (by omega)).below HC15.out (by omega)).chg HC16.out (by omega) (by omega)).upd HC17.out (by omega)).below HC18.out (by omega)).upd HC19.out (by omega)).below HC20.out (by omega)).below HC21.out (by omega)).below HC22.out (by omega)) hrm hrm).mono ?_
  rintro e w23 ⟨rfl, hb⟩
  have hs23 : w22.heap.size ≤ w23.heap.size := hb.size
  have HC23 := Lib.hid hb
  replace hx0_0 := (HC23.out.cell (p := ⟨w.heap.size, 0, none⟩) (by dsimp only; omega)).trans hx0_0
  replace hx0_1 := (HC23.out.cell (p := ⟨w.heap.size, 1, none⟩) (by dsimp only; omega)).trans hx0_1
  replace hx0_2 := (HC23.out.cell (p := ⟨w.heap.size, 2, none⟩) (by dsimp only; omega)).trans hx0_2
  replace hx0_3 := (HC23.out.cell (p := ⟨w.heap.size, 3, none⟩) (by dsimp only; omega)).trans hx0_3
  replace hx0_4 := (HC23.out.cell (p := ⟨w.heap.size, 4, none⟩) (by dsimp only; omega)).trans hx0_4
  replace hx0_5 := (HC23.out.cell (p := ⟨w.heap.size, 5, none⟩) (by dsimp only; omega)).trans hx0_5
  replace hx0_6 := (HC23.out.cell (p := ⟨w.heap.size, 6, none⟩) (by dsimp only; omega)).trans hx0_6
  replace hx0_7 := (HC23.out.cell (p := ⟨w.heap.size, 7, none⟩) (by dsimp only; omega)).trans hx0_7
  replace hx0_8 := (HC23.out.cell (p := ⟨w.heap.size, 8, none⟩) (by dsimp only; omega)).trans hx0_8
  replace hx1_0 := (HC23.out.cell (p := ⟨w6.heap.size, 0, none⟩) (by dsimp only; omega)).trans hx1_0
  replace hx1_1 := (HC23.out.cell (p := ⟨w6.heap.size, 1, none⟩) (by dsimp only; omega)).trans hx1_1
  replace hx1_2 := (HC23.out.cell (p := ⟨w6.heap.size, 2, none⟩) (by dsimp only; omega)).trans hx1_2
  replace hx1_3 := (HC23.out.cell (p := ⟨w6.heap.size, 3, none⟩) (by dsimp only; omega)).trans hx1_3
  replace hx1_4 := (HC23.out.cell (p := ⟨w6.heap.size, 4, none⟩) (by dsimp only; omega)).trans hx1_4
  replace hx1_5 := (HC23.out.cell (p := ⟨w6.heap.size, 5, none⟩) (by dsimp only; omega)).trans hx1_5
  replace hx1_6 := (HC23.out.cell (p := ⟨w6.heap.size, 6, none⟩) (by dsimp only; omega)).trans hx1_6
  replace hx1_7 := (HC23.out.cell (p := ⟨w6.heap.size, 7, none⟩) (by dsimp only; omega)).trans hx1_7
  replace hx1_8 := (HC23.out.cell (p := ⟨w6.heap.size, 8, none⟩) (by dsimp only; omega)).trans hx1_8
  clear hb
  go_wp2_with fail
  refine (heldIntS_c _ _ _ _ _ _ _ 1 _ ((((hK37.below HC20.out (by omega)).below HC21.out (by omega)).below HC22.out (by omega)).below HC23.out (by omega)) (by omega) (by omega) (by omega)).mono ?_
  rintro e wq ⟨rfl, rfl⟩
  go_wp2
  go_ret
  exact ⟨rfl, ((((((((((((((((((((((HC1.out.trans (HC2.out.mono (by omega))).trans (HC3.out.mono (by omega))).trans (HC4.out.mono (by omega))).trans (HC5.out.mono (by omega))).trans (HC6.out.mono (by omega))).trans (HC7.out.mono (by omega))).trans (HC8.out.mono (by omega))).trans (HC9.out.mono (by omega))).trans (HC10.out.mono (by omega))).trans (HC11.out.mono (by omega))).trans (HC12.out.mono (by omega))).trans (HC13.out.mono (by omega))).trans (HC14.out.mono (by omega))).trans (HC15.out.mono (by omega))).trans (HC16.out.below (by omega) (by omega))).trans (HC17.out.below (by omega))).trans (HC18.out.mono (by omega))).trans (HC19.out.below (by omega))).trans (HC20.out.mono (by omega))).trans (HC21.out.mono (by omega))).trans (HC22.out.mono (by omega))).trans (HC23.out.mono (by omega)))⟩

end Go.Proofs.Yteedgmaeopnidaa
