/- A text that is bent by one letter. -/
import Derived.Test.YtgleblbgomhmdaaDoorRd5
import Derived.BigQuiet
namespace Go.Proofs.YtgleblbgomhmdaaDoor
open Go.RowKit
set_option linter.unusedVariables false
set_option linter.unusedSimpArgs false

set_option maxRecDepth 100000 in
set_option maxHeartbeats 4000000 in
theorem l20Bent_c (R p : Nat) (s : ByteArray) (hs : s.size ≤ 1000) (w : World) (hR : RdV w R p) (hp : p ≤ 900000) :
    Calls Tryd.prog 28 #[.pointer (some ⟨R, 0, none⟩), .string s] w fun e w' => ∃ t : ByteArray, e = .returned (.string t) ∧ t.size ≤ 1048576 ∧ w.grownBy w' (some R) := by
  have hs1 : (s.size : Int) ≤ 1000 := by omega
  go_enter Tryd.func28, Tryd.ntmps28
  go_wp2_with fail
  refine (pick_c R p ((s.size : Int) + 1) _ hR (by omega) (by omega) (by omega)).mono ?_
  rintro e w1 ⟨k, rfl, hk0, hR1, hu1⟩
  have hk := pick_lt hk0 (by omega)
  go_wp2_with fail
  refine (pick_c R (p + 1) 256 _ hR1 (by omega) (by omega) (by omega)).mono ?_
  rintro e w2 ⟨x, rfl, hx0, hR2, hu2⟩
  have hx := pick_lt hx0 (by omega)
  go_wp2_with fail
  have hRlt := hR2.lt
  have hlen8 : ([32, 48, 49, 44, 45, 58, 97, (x : Int)] : List Int).length = 8 := rfl
  refine (pick_c R (p + 2) 8 _ (hR2.alloc (.cells #[.int .i64 32, .int .i64 48, .int .i64 49, .int .i64 44, .int .i64 45, .int .i64 58, .int .i64 97, .int .i64 (x : Int)] 3)) (by omega) (by omega) (by omega)).mono ?_
  rintro e w3 ⟨r, rfl, hr0, hR3, hu3⟩
  have hr := pick_lt hr0 (by omega)
  obtain ⟨y, hy1, hy2⟩ := lit_at w2 [32, 48, 49, 44, 45, 58, 97, (x : Int)] 3 r (by rw [hlen8]; omega)
  have hyc : w3.cell? ⟨w2.heap.size, r, none⟩ = some (.int .i64 y) := (hu3.cell (p := ⟨w2.heap.size, r, none⟩) (by dsimp only; omega)).trans hy2
  have hyb : 0 ≤ y ∧ y ≤ 255 := by
    rcases (show r = 0 ∨ r = 1 ∨ r = 2 ∨ r = 3 ∨ r = 4 ∨ r = 5 ∨ r = 6 ∨ r = 7 by omega) with rfl | rfl | rfl | rfl | rfl | rfl | rfl | rfl <;> (injection hy1 with hy1; omega)
  have hg3 : w.grownBy w3 (some R) := grown_tr (grown_tr (grown_upd hu1) (grown_upd hu2)) (grown_tr (World.grownBy_alloc _ _ _) (grown_upd hu3))
  clear hu1 hu2 hu3 hR1 hR2 hy1 hy2 hk0 hx0 hr0
  obtain ⟨hy0, hy9⟩ := hyb
  go_wp2_with fail
  rw [str1 _ _ y hy0 hy9 (new_cell w3 y)]
  have hR4 := hR3.alloc (.cells #[.int .u8 y] 5)
  have hg4 : w.grownBy (w3.alloc (.cells #[.int .u8 y] 5)) (some R) := grown_alloc hg3 _
  have hcs : (⟨#[UInt8.ofNat y.toNat]⟩ : ByteArray).size = 1 := rfl
  generalize World.alloc w3 (.cells #[.int .u8 y] 5) = w4 at hR4 hg4 ⊢
  generalize (⟨#[UInt8.ofNat y.toNat]⟩ : ByteArray) = cB at hcs ⊢
  clear hyc hR3 hg3
  go_wp2_with fail
  refine (pick_c R (p + 3) 3 _ hR4 (by omega) (by omega) (by omega)).mono ?_
  rintro e w5 ⟨a, rfl, _, hR5, hu5⟩
  have hg5 : w.grownBy w5 (some R) := grown_tr hg4 (grown_upd hu5)
  clear hu5 hg4 hR4
  have hk1 : (0 : Int) ≤ k := by omega
  have hk2 : (k : Int) ≤ s.size := by omega
  by_cases ha : a = 0
  · subst ha
    go_wp2_with fail
    go_quiet (fail)
    go_wp2_with fail
    refine bodyPost_ret (v := .string (s.extract 0 k ++ cB ++ s.extract k s.size)) (by simp [results, Tryd.results28, go_sem]) rfl ⟨_, rfl, ?_, grown_drewN hg5 nq⟩
    simp only [ByteArray.size_append, ByteArray.size_extract, hcs]
    omega
  · have ha2 : ((a : Int) == 0) = false := by simp; omega
    by_cases hks : (k : Int) = s.size
    · have hkb : ((k : Int) == s.size) = true := by simpa using hks
      go_wp2_with fail
      refine bodyPost_ret (v := .string (s ++ cB)) (by simp [results, Tryd.results28, go_sem]) rfl ⟨_, rfl, ?_, hg5⟩
      simp only [ByteArray.size_append, ByteArray.size_extract, hcs]
      omega
    · have hkb : ((k : Int) == s.size) = false := by simpa using hks
      go_wp2_with fail
      refine (pick_c R (p + 4) 2 _ hR5 (by omega) (by omega) (by omega)).mono ?_
      rintro e w6 ⟨b, rfl, _, hR6, hu6⟩
      have hg6 : w.grownBy w6 (some R) := grown_tr hg5 (grown_upd hu6)
      clear hu6 hg5 hR5
      have hk3 : (k : Int) + 1 ≤ s.size := by omega
      have hk4 : 0 ≤ (k : Int) + 1 := by omega
      by_cases hb : b = 0
      · subst hb
        go_wp2_with fail
        go_quiet (fail)
        go_wp2_with fail
        refine bodyPost_ret (v := .string (s.extract 0 k ++ s.extract (k + 1) s.size)) (by simp [results, Tryd.results28, go_sem]) rfl ⟨_, rfl, ?_, grown_drewN hg6 nq⟩
        simp only [ByteArray.size_append, ByteArray.size_extract, hcs]
        omega
      · have hb2 : ((b : Int) == 0) = false := by simp; omega
        go_wp2_with fail
        go_quiet (fail)
        go_wp2_with fail
        refine bodyPost_ret (v := .string (s.extract 0 k ++ cB ++ s.extract (k + 1) s.size)) (by simp [results, Tryd.results28, go_sem]) rfl ⟨_, rfl, ?_, grown_drewN hg6 nq⟩
        simp only [ByteArray.size_append, ByteArray.size_extract, hcs]
        omega
end Go.Proofs.YtgleblbgomhmdaaDoor
