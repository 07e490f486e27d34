/- A drawn datum turned: the draw. -/
import Derived.Test.YteedgmaeopnidaaDraw4
import Derived.Test.YteedgmaeopnidaaSteps
namespace Go.Proofs.Yteedgmaeopnidaa
open Go.RowKit
set_option linter.unusedVariables false
set_option linter.unusedSimpArgs false

set_option maxRecDepth 20000 in
set_option maxHeartbeats 4000000 in
theorem drawDatSet_c (zs : List Int) (A : Option Addr) (b off c : Nat) (w : World) (hV : Row w 0 w.heap.size A b off (bytesC zs)) (hz : ∀ x ∈ zs, 0 ≤ x ∧ x ≤ 255) (hm : zs.length ≤ maxLen) (hcap : zs.length ≤ c) :
    Calls Try.prog 7 #[.slice A zs.length c] w fun e w' => ∃ (vv : Value) (ys : List Int) (k n : Int), e = .returned (.tuple #[vv, .int .i64 k, .int .i64 n]) ∧ ys.length ≤ 4 ∧ (-1 ≤ k ∧ k ≤ 3) ∧ NumsV w' w.heap.size vv ys ∧ Below w.heap.size w w' := by
  go_enter Try.func7, Try.ntmps7
  go_wp2_with fail
  refine (l20Open_c zs A b off c w hV hz hm hcap).mono ?_
  rintro e w1 ⟨R, rfl, hR, hrd, hb⟩
  have hRlt : R < w1.heap.size := hrd.lt
  have HB := Lib.hid hb
  have hs1 := hb.size
  have RD0 := Lib.hid (show RdV w1.drew R 0 from hrd)
  have GR0 := Lib.hid (show w1.grownBy w1.drew (some R) from ⟨rfl, rfl, rfl, Nat.le_refl _, fun _ _ _ => rfl⟩)
  have HRW := Lib.hid hR
  clear hrd hb hR
  go_wp2
  refine wp_region_noPanic ?_
  refine wp_region_held_drew (S := fun _ => True) (by kernel_rfl) trivial (fun hHeld => ?_)
  refine take_yes (i := 0) (v := ?_) rfl (by kernel_rfl) (by kernel_rfl) (by kernel_rfl) (fun _ _ _ h => h) (by kernel_rfl) ?_ (by assumption) ?_
  rotate_left
  · (intro w hSw; (try dsimp only at hSw); go_simp; try with_reducible rfl)
  try simp only [Act.put, List.setIfInBounds_toArray, List.set_cons_zero, List.set_cons_succ]
  refine take_yes (i := 2) (v := ?_) rfl (by kernel_rfl) (by kernel_rfl) (by kernel_rfl) (fun _ _ _ h => h) (by kernel_rfl) ?_ (by assumption) ?_
  rotate_left
  · (intro w hSw; (try dsimp only at hSw); go_simp; try with_reducible rfl)
  try simp only [Act.put, List.setIfInBounds_toArray, List.set_cons_zero, List.set_cons_succ]
  refine take_yes (i := 6) (v := ?_) rfl (by kernel_rfl) (by kernel_rfl) (by kernel_rfl) (fun _ _ _ h => h) (by kernel_rfl) ?_ (by assumption) ?_
  rotate_left
  · (intro w hSw; (try dsimp only at hSw); go_simp; try with_reducible rfl)
  try simp only [Act.put, List.setIfInBounds_toArray, List.set_cons_zero, List.set_cons_succ]
  refine wpAnyH_ready (rs := [1, 5]) (by kernel_rfl) (by simp) ?_
  refine AllReadyH.cons (of_drop rfl) (fun K hK => ?_) (AllReadyH.cons (of_drop rfl) (fun K hK => ?_) AllReadyH.nil)
  · skip
    go_simp
    (go_at_call 35; refine (l20Data_c R 0 9 _ RD0.out (by omega) (by omega) (by omega)).mono ?_; rintro e x1 ⟨vv, ys, p1, rfl, hys, hp1, hv1, hrd1, hg1⟩)
    have RD1 := Lib.hid hrd1
    have GR1 := Lib.hid (grown_tr GR0.out hg1)
    have NV1 := Lib.hid (show NumsV x1 w1.drew.heap.size vv ys from hv1)
    have hlo1 : w1.heap.size ≤ w1.drew.heap.size := GR0.out.size
    clear hrd1 hg1 hv1
    try go_wp2_with fail
    refine hK.out _ _ trivial (fun hHeld2 => ?_)
    clear hK K hHeld
    have hHeld := hHeld2
    clear hHeld2
    try simp only [Act.put, List.setIfInBounds_toArray, List.set_cons_zero, List.set_cons_succ]
    refine wpAnyH_ready (rs := [3, 5]) (by kernel_rfl) (by simp) ?_
    refine AllReadyH.cons (of_drop rfl) (fun K hK => ?_) (AllReadyH.cons (of_drop rfl) (fun K hK => ?_) AllReadyH.nil)
    · skip
      go_simp
      (go_at_call 36; refine (pick_c R p1 5 _ RD1.out (by omega) (by omega) (by omega)).mono ?_; rintro e x2 ⟨q3, rfl, hq3, hrd2, hu2⟩)
      have hq3l := pick_lt hq3 (by omega)
      have hwq : IntKind.i64.wrap ((q3 : Int) - 1) = (q3 : Int) - 1 := IntWalk.i64_in _ (by omega)
      have RD2 := Lib.hid hrd2
      have GR2 := Lib.hid (grown_tr GR1.out (grown_upd hu2))
      have NV2 := Lib.hid (NV1.out.grown (grown_upd hu2) (by omega))
      clear hrd2 hu2 hq3
      try go_wp2_with fail
      refine hK.out _ _ trivial (fun hHeld2 => ?_)
      clear hK K hHeld
      have hHeld := hHeld2
      clear hHeld2
      try simp only [Act.put, List.setIfInBounds_toArray, List.set_cons_zero, List.set_cons_succ]
      refine take_yes (i := 4) (v := ?_) rfl (by kernel_rfl) (by kernel_rfl) (by kernel_rfl) (fun _ _ _ h => h) (by kernel_rfl) ?_ (by assumption) ?_
      rotate_left
      · (intro w hSw; (try dsimp only at hSw); go_simp; try with_reducible rfl)
      try simp only [Act.put, List.setIfInBounds_toArray, List.set_cons_zero, List.set_cons_succ]
      refine wpAnyH_ready (rs := [5, 7]) (by kernel_rfl) (by simp) ?_
      refine AllReadyH.cons (of_drop rfl) (fun K hK => ?_) (AllReadyH.cons (of_drop rfl) (fun K hK => ?_) AllReadyH.nil)
      · skip
        go_simp
        have RD3 := Lib.hid (RD2.out.alloc (.cells #[.int .i64 0, .int .i64 7, .int .i64 99, .int .i64 100, .int .i64 (-99)] 3))
        have GR3 := Lib.hid (grown_alloc GR2.out (.cells #[.int .i64 0, .int .i64 7, .int .i64 99, .int .i64 100, .int .i64 (-99)] 3))
        have NV3 := Lib.hid (NV2.out.below ((Below.refl _ _).alloc (Nat.le_refl _) (.cells #[.int .i64 0, .int .i64 7, .int .i64 99, .int .i64 100, .int .i64 (-99)] 3)))
        have BK3 := Lib.hid (show Blk (x2.alloc (.cells #[.int .i64 0, .int .i64 7, .int .i64 99, .int .i64 100, .int .i64 (-99)] 3)) x2.heap.size 3 #[.int .i64 0, .int .i64 7, .int .i64 99, .int .i64 100, .int .i64 (-99)] from Blk.new_ x2 3 #[.int .i64 0, .int .i64 7, .int .i64 99, .int .i64 100, .int .i64 (-99)])
        have hgR3 : x2.heap.size ≠ R := by have := GR2.out.size; omega
        try go_wp2_with fail
        refine hK.out _ _ trivial (fun hHeld2 => ?_)
        clear hK K hHeld
        have hHeld := hHeld2
        clear hHeld2
        try simp only [Act.put, List.setIfInBounds_toArray, List.set_cons_zero, List.set_cons_succ]
        refine wpAnyH_ready (rs := [7]) (by kernel_rfl) (by simp) ?_
        refine AllReadyH.cons (of_drop rfl) (fun K hK => ?_) AllReadyH.nil
        go_simp
        (go_at_call 36; refine (pick_c R (p1 + 1) 5 _ RD3.out (by omega) (by omega) (by omega)).mono ?_; rintro e x4 ⟨q7, rfl, hq7, hrd4, hu4⟩)
        have hq7l := pick_lt hq7 (by omega)
        have RD4 := Lib.hid hrd4
        have GR4 := Lib.hid (grown_tr GR3.out (grown_upd hu4))
        have NV4 := Lib.hid (NV3.out.grown (grown_upd hu4) (by omega))
        have BK4 := Lib.hid (BK3.out.upd hu4 hgR3)
        clear hrd4 hu4 hq7
        try go_wp2_with fail
        refine hK.out _ _ trivial (fun hHeld2 => ?_)
        clear hK K hHeld
        have hHeld := hHeld2
        clear hHeld2
        try simp only [Act.put, List.setIfInBounds_toArray, List.set_cons_zero, List.set_cons_succ]
        refine take_yes (i := 10) (v := ?_) rfl (by kernel_rfl) (by kernel_rfl) (by kernel_rfl) (fun _ _ _ h => h) (by kernel_rfl) ?_ (by assumption) ?_
        rotate_left
        · (intro w hSw; (try dsimp only at hSw); go_simp; try with_reducible rfl)
        try simp only [Act.put, List.setIfInBounds_toArray, List.set_cons_zero, List.set_cons_succ]
        refine take_yes (i := 11) (v := ?_) rfl (by kernel_rfl) (by kernel_rfl) (by kernel_rfl) (fun _ _ _ h => h) (by kernel_rfl) ?_ (by assumption) ?_
        rotate_left
        · (intro w hSw; (try dsimp only at hSw); go_simp; try with_reducible rfl)
        try simp only [Act.put, List.setIfInBounds_toArray, List.set_cons_zero, List.set_cons_succ]
        obtain ⟨xx, hxx⟩ : ∃ xx : Int, (#[Value.int .i64 0, .int .i64 7, .int .i64 99, .int .i64 100, .int .i64 (-99)] : Array Value)[q7]? = some (.int .i64 xx) := by
          have hlt : q7 < 5 := by omega
          match q7, hlt with | 0, _ => exact ⟨0, rfl⟩ | 1, _ => exact ⟨7, rfl⟩ | 2, _ => exact ⟨99, rfl⟩ | 3, _ => exact ⟨100, rfl⟩ | 4, _ => exact ⟨-99, rfl⟩
        have hcell := (BK4.out.cell q7).trans hxx
        refine take_yes (i := 8) (v := ?_) rfl (by kernel_rfl) (by kernel_rfl) (by kernel_rfl) (fun _ _ _ h => h) (by kernel_rfl) ?_ (by assumption) ?_
        rotate_left
        · (intro w hSw; (try dsimp only at hSw); go_simp; try with_reducible rfl)
        try simp only [Act.put, List.setIfInBounds_toArray, List.set_cons_zero, List.set_cons_succ]
        refine wpAnyH_ready (rs := [9]) (by kernel_rfl) (by simp) ?_
        refine AllReadyH.cons (of_drop rfl) (fun K hK => ?_) AllReadyH.nil
        go_simp
        try go_wp2_with fail
        refine hK.out _ _ trivial (fun hHeld2 => ?_)
        clear hK K hHeld
        have hHeld := hHeld2
        clear hHeld2
        try simp only [Act.put, List.setIfInBounds_toArray, List.set_cons_zero, List.set_cons_succ]
        refine take_yes (i := 12) (v := ?_) rfl (by kernel_rfl) (by kernel_rfl) (by kernel_rfl) (fun _ _ _ h => h) (by kernel_rfl) ?_ (by assumption) ?_
        rotate_left
        · (intro w hSw; (try dsimp only at hSw); go_simp; try with_reducible rfl)
        try simp only [Act.put, List.setIfInBounds_toArray, List.set_cons_zero, List.set_cons_succ]
        refine wpAnyH_done (by kernel_rfl) ?_ _
        refine NoPanic.normal ?_
        have hGS := GR4.out.size
        go_wp2
        refine bodyPost_ret (v := .tuple #[vv, .int .i64 ((q3 : Int) - 1), .int .i64 xx]) (by simp [results, Try.results7, go_sem]) rfl ⟨vv, ys, (q3 : Int) - 1, xx, rfl, hys, by omega, NV4.out.lo (by omega), below_grown HB.out GR4.out HB.out.size HRW.out⟩
      · skip
        go_simp
        (go_at_call 36; refine (pick_c R (p1 + 1) 5 _ RD2.out (by omega) (by omega) (by omega)).mono ?_; rintro e x5 ⟨q7, rfl, hq7, hrd5, hu5⟩)
        have hq7l := pick_lt hq7 (by omega)
        have RD5 := Lib.hid hrd5
        have GR5 := Lib.hid (grown_tr GR2.out (grown_upd hu5))
        have NV5 := Lib.hid (NV2.out.grown (grown_upd hu5) (by omega))
        clear hrd5 hu5 hq7
        try go_wp2_with fail
        refine hK.out _ _ trivial (fun hHeld2 => ?_)
        clear hK K hHeld
        have hHeld := hHeld2
        clear hHeld2
        try simp only [Act.put, List.setIfInBounds_toArray, List.set_cons_zero, List.set_cons_succ]
        refine take_yes (i := 10) (v := ?_) rfl (by kernel_rfl) (by kernel_rfl) (by kernel_rfl) (fun _ _ _ h => h) (by kernel_rfl) ?_ (by assumption) ?_
        rotate_left
        · (intro w hSw; (try dsimp only at hSw); go_simp; try with_reducible rfl)
        try simp only [Act.put, List.setIfInBounds_toArray, List.set_cons_zero, List.set_cons_succ]
        refine take_yes (i := 11) (v := ?_) rfl (by kernel_rfl) (by kernel_rfl) (by kernel_rfl) (fun _ _ _ h => h) (by kernel_rfl) ?_ (by assumption) ?_
        rotate_left
        · (intro w hSw; (try dsimp only at hSw); go_simp; try with_reducible rfl)
        try simp only [Act.put, List.setIfInBounds_toArray, List.set_cons_zero, List.set_cons_succ]
        refine wpAnyH_ready (rs := [5]) (by kernel_rfl) (by simp) ?_
        refine AllReadyH.cons (of_drop rfl) (fun K hK => ?_) AllReadyH.nil
        go_simp
        have RD6 := Lib.hid (RD5.out.alloc (.cells #[.int .i64 0, .int .i64 7, .int .i64 99, .int .i64 100, .int .i64 (-99)] 3))
        have GR6 := Lib.hid (grown_alloc GR5.out (.cells #[.int .i64 0, .int .i64 7, .int .i64 99, .int .i64 100, .int .i64 (-99)] 3))
        have NV6 := Lib.hid (NV5.out.below ((Below.refl _ _).alloc (Nat.le_refl _) (.cells #[.int .i64 0, .int .i64 7, .int .i64 99, .int .i64 100, .int .i64 (-99)] 3)))
        have BK6 := Lib.hid (show Blk (x5.alloc (.cells #[.int .i64 0, .int .i64 7, .int .i64 99, .int .i64 100, .int .i64 (-99)] 3)) x5.heap.size 3 #[.int .i64 0, .int .i64 7, .int .i64 99, .int .i64 100, .int .i64 (-99)] from Blk.new_ x5 3 #[.int .i64 0, .int .i64 7, .int .i64 99, .int .i64 100, .int .i64 (-99)])
        have hgR6 : x5.heap.size ≠ R := by have := GR5.out.size; omega
        try go_wp2_with fail
        refine hK.out _ _ trivial (fun hHeld2 => ?_)
        clear hK K hHeld
        have hHeld := hHeld2
        clear hHeld2
        try simp only [Act.put, List.setIfInBounds_toArray, List.set_cons_zero, List.set_cons_succ]
        generalize (x5.alloc (.cells #[.int .i64 0, .int .i64 7, .int .i64 99, .int .i64 100, .int .i64 (-99)] 3)) = wl at *
        obtain ⟨xx, hxx⟩ : ∃ xx : Int, (#[Value.int .i64 0, .int .i64 7, .int .i64 99, .int .i64 100, .int .i64 (-99)] : Array Value)[q7]? = some (.int .i64 xx) := by
          have hlt : q7 < 5 := by omega
          match q7, hlt with | 0, _ => exact ⟨0, rfl⟩ | 1, _ => exact ⟨7, rfl⟩ | 2, _ => exact ⟨99, rfl⟩ | 3, _ => exact ⟨100, rfl⟩ | 4, _ => exact ⟨-99, rfl⟩
        have hcell := (BK6.out.cell q7).trans hxx
        refine take_yes (i := 8) (v := ?_) rfl (by kernel_rfl) (by kernel_rfl) (by kernel_rfl) (fun _ _ _ h => h) (by kernel_rfl) ?_ (by assumption) ?_
        rotate_left
        · (intro w hSw; (try dsimp only at hSw); go_simp; try with_reducible rfl)
        try simp only [Act.put, List.setIfInBounds_toArray, List.set_cons_zero, List.set_cons_succ]
        refine wpAnyH_ready (rs := [9]) (by kernel_rfl) (by simp) ?_
        refine AllReadyH.cons (of_drop rfl) (fun K hK => ?_) AllReadyH.nil
        go_simp
        try go_wp2_with fail
        refine hK.out _ _ trivial (fun hHeld2 => ?_)
        clear hK K hHeld
        have hHeld := hHeld2
        clear hHeld2
        try simp only [Act.put, List.setIfInBounds_toArray, List.set_cons_zero, List.set_cons_succ]
        refine take_yes (i := 12) (v := ?_) rfl (by kernel_rfl) (by kernel_rfl) (by kernel_rfl) (fun _ _ _ h => h) (by kernel_rfl) ?_ (by assumption) ?_
        rotate_left
        · (intro w hSw; (try dsimp only at hSw); go_simp; try with_reducible rfl)
        try simp only [Act.put, List.setIfInBounds_toArray, List.set_cons_zero, List.set_cons_succ]
        refine wpAnyH_done (by kernel_rfl) ?_ _
        refine NoPanic.normal ?_
        have hGS := GR6.out.size
        go_wp2
        refine bodyPost_ret (v := .tuple #[vv, .int .i64 ((q3 : Int) - 1), .int .i64 xx]) (by simp [results, Try.results7, go_sem]) rfl ⟨vv, ys, (q3 : Int) - 1, xx, rfl, hys, by omega, NV6.out.lo (by omega), below_grown HB.out GR6.out HB.out.size HRW.out⟩
    · skip
      go_simp
      have RD7 := Lib.hid (RD1.out.alloc (.cells #[.int .i64 0, .int .i64 7, .int .i64 99, .int .i64 100, .int .i64 (-99)] 3))
      have GR7 := Lib.hid (grown_alloc GR1.out (.cells #[.int .i64 0, .int .i64 7, .int .i64 99, .int .i64 100, .int .i64 (-99)] 3))
      have NV7 := Lib.hid (NV1.out.below ((Below.refl _ _).alloc (Nat.le_refl _) (.cells #[.int .i64 0, .int .i64 7, .int .i64 99, .int .i64 100, .int .i64 (-99)] 3)))
      have BK7 := Lib.hid (show Blk (x1.alloc (.cells #[.int .i64 0, .int .i64 7, .int .i64 99, .int .i64 100, .int .i64 (-99)] 3)) x1.heap.size 3 #[.int .i64 0, .int .i64 7, .int .i64 99, .int .i64 100, .int .i64 (-99)] from Blk.new_ x1 3 #[.int .i64 0, .int .i64 7, .int .i64 99, .int .i64 100, .int .i64 (-99)])
      have hgR7 : x1.heap.size ≠ R := by have := GR1.out.size; omega
      try go_wp2_with fail
      refine hK.out _ _ trivial (fun hHeld2 => ?_)
      clear hK K hHeld
      have hHeld := hHeld2
      clear hHeld2
      try simp only [Act.put, List.setIfInBounds_toArray, List.set_cons_zero, List.set_cons_succ]
      refine wpAnyH_ready (rs := [3]) (by kernel_rfl) (by simp) ?_
      refine AllReadyH.cons (of_drop rfl) (fun K hK => ?_) AllReadyH.nil
      go_simp
      (go_at_call 36; refine (pick_c R p1 5 _ RD7.out (by omega) (by omega) (by omega)).mono ?_; rintro e x8 ⟨q3, rfl, hq3, hrd8, hu8⟩)
      have hq3l := pick_lt hq3 (by omega)
      have hwq : IntKind.i64.wrap ((q3 : Int) - 1) = (q3 : Int) - 1 := IntWalk.i64_in _ (by omega)
      have RD8 := Lib.hid hrd8
      have GR8 := Lib.hid (grown_tr GR7.out (grown_upd hu8))
      have NV8 := Lib.hid (NV7.out.grown (grown_upd hu8) (by omega))
      have BK8 := Lib.hid (BK7.out.upd hu8 hgR7)
      clear hrd8 hu8 hq3
      try go_wp2_with fail
      refine hK.out _ _ trivial (fun hHeld2 => ?_)
      clear hK K hHeld
      have hHeld := hHeld2
      clear hHeld2
      try simp only [Act.put, List.setIfInBounds_toArray, List.set_cons_zero, List.set_cons_succ]
      refine take_yes (i := 4) (v := ?_) rfl (by kernel_rfl) (by kernel_rfl) (by kernel_rfl) (fun _ _ _ h => h) (by kernel_rfl) ?_ (by assumption) ?_
      rotate_left
      · (intro w hSw; (try dsimp only at hSw); go_simp; try with_reducible rfl)
      try simp only [Act.put, List.setIfInBounds_toArray, List.set_cons_zero, List.set_cons_succ]
      refine wpAnyH_ready (rs := [7]) (by kernel_rfl) (by simp) ?_
      refine AllReadyH.cons (of_drop rfl) (fun K hK => ?_) AllReadyH.nil
      go_simp
      (go_at_call 36; refine (pick_c R (p1 + 1) 5 _ RD8.out (by omega) (by omega) (by omega)).mono ?_; rintro e x9 ⟨q7, rfl, hq7, hrd9, hu9⟩)
      have hq7l := pick_lt hq7 (by omega)
      have RD9 := Lib.hid hrd9
      have GR9 := Lib.hid (grown_tr GR8.out (grown_upd hu9))
      have NV9 := Lib.hid (NV8.out.grown (grown_upd hu9) (by omega))
      have BK9 := Lib.hid (BK8.out.upd hu9 hgR7)
      clear hrd9 hu9 hq7
      try go_wp2_with fail
      refine hK.out _ _ trivial (fun hHeld2 => ?_)
      clear hK K hHeld
      have hHeld := hHeld2
      clear hHeld2
      try simp only [Act.put, List.setIfInBounds_toArray, List.set_cons_zero, List.set_cons_succ]
      refine take_yes (i := 10) (v := ?_) rfl (by kernel_rfl) (by kernel_rfl) (by kernel_rfl) (fun _ _ _ h => h) (by kernel_rfl) ?_ (by assumption) ?_
      rotate_left
      · (intro w hSw; (try dsimp only at hSw); go_simp; try with_reducible rfl)
      try simp only [Act.put, List.setIfInBounds_toArray, List.set_cons_zero, List.set_cons_succ]
      refine take_yes (i := 11) (v := ?_) rfl (by kernel_rfl) (by kernel_rfl) (by kernel_rfl) (fun _ _ _ h => h) (by kernel_rfl) ?_ (by assumption) ?_
      rotate_left
      · (intro w hSw; (try dsimp only at hSw); go_simp; try with_reducible rfl)
      try simp only [Act.put, List.setIfInBounds_toArray, List.set_cons_zero, List.set_cons_succ]
      obtain ⟨xx, hxx⟩ : ∃ xx : Int, (#[Value.int .i64 0, .int .i64 7, .int .i64 99, .int .i64 100, .int .i64 (-99)] : Array Value)[q7]? = some (.int .i64 xx) := by
        have hlt : q7 < 5 := by omega
        match q7, hlt with | 0, _ => exact ⟨0, rfl⟩ | 1, _ => exact ⟨7, rfl⟩ | 2, _ => exact ⟨99, rfl⟩ | 3, _ => exact ⟨100, rfl⟩ | 4, _ => exact ⟨-99, rfl⟩
      have hcell := (BK9.out.cell q7).trans hxx
      refine take_yes (i := 8) (v := ?_) rfl (by kernel_rfl) (by kernel_rfl) (by kernel_rfl) (fun _ _ _ h => h) (by kernel_rfl) ?_ (by assumption) ?_
      rotate_left
      · (intro w hSw; (try dsimp only at hSw); go_simp; try with_reducible rfl)
      try simp only [Act.put, List.setIfInBounds_toArray, List.set_cons_zero, List.set_cons_succ]
      refine wpAnyH_ready (rs := [9]) (by kernel_rfl) (by simp) ?_
      refine AllReadyH.cons (of_drop rfl) (fun K hK => ?_) AllReadyH.nil
      go_simp
      try go_wp2_with fail
      refine hK.out _ _ trivial (fun hHeld2 => ?_)
      clear hK K hHeld
      have hHeld := hHeld2
      clear hHeld2
      try simp only [Act.put, List.setIfInBounds_toArray, List.set_cons_zero, List.set_cons_succ]
      refine take_yes (i := 12) (v := ?_) rfl (by kernel_rfl) (by kernel_rfl) (by kernel_rfl) (fun _ _ _ h => h) (by kernel_rfl) ?_ (by assumption) ?_
      rotate_left
      · (intro w hSw; (try dsimp only at hSw); go_simp; try with_reducible rfl)
      try simp only [Act.put, List.setIfInBounds_toArray, List.set_cons_zero, List.set_cons_succ]
      refine wpAnyH_done (by kernel_rfl) ?_ _
      refine NoPanic.normal ?_
      have hGS := GR9.out.size
      go_wp2
      refine bodyPost_ret (v := .tuple #[vv, .int .i64 ((q3 : Int) - 1), .int .i64 xx]) (by simp [results, Try.results7, go_sem]) rfl ⟨vv, ys, (q3 : Int) - 1, xx, rfl, hys, by omega, NV9.out.lo (by omega), below_grown HB.out GR9.out HB.out.size HRW.out⟩
  · skip
    go_simp
    have RD10 := Lib.hid (RD0.out.alloc (.cells #[.int .i64 0, .int .i64 7, .int .i64 99, .int .i64 100, .int .i64 (-99)] 3))
    have GR10 := Lib.hid (grown_alloc GR0.out (.cells #[.int .i64 0, .int .i64 7, .int .i64 99, .int .i64 100, .int .i64 (-99)] 3))
    have BK10 := Lib.hid (show Blk (w1.drew.alloc (.cells #[.int .i64 0, .int .i64 7, .int .i64 99, .int .i64 100, .int .i64 (-99)] 3)) w1.heap.size 3 #[.int .i64 0, .int .i64 7, .int .i64 99, .int .i64 100, .int .i64 (-99)] from Blk.new_ w1.drew 3 #[.int .i64 0, .int .i64 7, .int .i64 99, .int .i64 100, .int .i64 (-99)])
    have hgR10 : w1.heap.size ≠ R := by have := GR0.out.size; omega
    try go_wp2_with fail
    refine hK.out _ _ trivial (fun hHeld2 => ?_)
    clear hK K hHeld
    have hHeld := hHeld2
    clear hHeld2
    try simp only [Act.put, List.setIfInBounds_toArray, List.set_cons_zero, List.set_cons_succ]
    refine wpAnyH_ready (rs := [1]) (by kernel_rfl) (by simp) ?_
    refine AllReadyH.cons (of_drop rfl) (fun K hK => ?_) AllReadyH.nil
    go_simp
    (go_at_call 35; refine (l20Data_c R 0 9 _ RD10.out (by omega) (by omega) (by omega)).mono ?_; rintro e x11 ⟨vv, ys, p1, rfl, hys, hp1, hv11, hrd11, hg11⟩)
    have RD11 := Lib.hid hrd11
    have GR11 := Lib.hid (grown_tr GR10.out hg11)
    have NV11 := Lib.hid (show NumsV x11 (w1.drew.alloc (.cells #[.int .i64 0, .int .i64 7, .int .i64 99, .int .i64 100, .int .i64 (-99)] 3)).heap.size vv ys from hv11)
    have hlo11 : w1.heap.size ≤ (w1.drew.alloc (.cells #[.int .i64 0, .int .i64 7, .int .i64 99, .int .i64 100, .int .i64 (-99)] 3)).heap.size := GR10.out.size
    have BK11 := Lib.hid (BK10.out.grown hg11 hgR10)
    clear hrd11 hg11 hv11
    try go_wp2_with fail
    refine hK.out _ _ trivial (fun hHeld2 => ?_)
    clear hK K hHeld
    have hHeld := hHeld2
    clear hHeld2
    try simp only [Act.put, List.setIfInBounds_toArray, List.set_cons_zero, List.set_cons_succ]
    refine wpAnyH_ready (rs := [3]) (by kernel_rfl) (by simp) ?_
    refine AllReadyH.cons (of_drop rfl) (fun K hK => ?_) AllReadyH.nil
    go_simp
    (go_at_call 36; refine (pick_c R p1 5 _ RD11.out (by omega) (by omega) (by omega)).mono ?_; rintro e x12 ⟨q3, rfl, hq3, hrd12, hu12⟩)
    have hq3l := pick_lt hq3 (by omega)
    have hwq : IntKind.i64.wrap ((q3 : Int) - 1) = (q3 : Int) - 1 := IntWalk.i64_in _ (by omega)
    have RD12 := Lib.hid hrd12
    have GR12 := Lib.hid (grown_tr GR11.out (grown_upd hu12))
    have NV12 := Lib.hid (NV11.out.grown (grown_upd hu12) (by omega))
    have BK12 := Lib.hid (BK11.out.upd hu12 hgR10)
    clear hrd12 hu12 hq3
    try go_wp2_with fail
    refine hK.out _ _ trivial (fun hHeld2 => ?_)
    clear hK K hHeld
    have hHeld := hHeld2
    clear hHeld2
    try simp only [Act.put, List.setIfInBounds_toArray, List.set_cons_zero, List.set_cons_succ]
    refine take_yes (i := 4) (v := ?_) rfl (by kernel_rfl) (by kernel_rfl) (by kernel_rfl) (fun _ _ _ h => h) (by kernel_rfl) ?_ (by assumption) ?_
    rotate_left
    · (intro w hSw; (try dsimp only at hSw); go_simp; try with_reducible rfl)
    try simp only [Act.put, List.setIfInBounds_toArray, List.set_cons_zero, List.set_cons_succ]
    refine wpAnyH_ready (rs := [7]) (by kernel_rfl) (by simp) ?_
    refine AllReadyH.cons (of_drop rfl) (fun K hK => ?_) AllReadyH.nil
    go_simp
    (go_at_call 36; refine (pick_c R (p1 + 1) 5 _ RD12.out (by omega) (by omega) (by omega)).mono ?_; rintro e x13 ⟨q7, rfl, hq7, hrd13, hu13⟩)
    have hq7l := pick_lt hq7 (by omega)
    have RD13 := Lib.hid hrd13
    have GR13 := Lib.hid (grown_tr GR12.out (grown_upd hu13))
    have NV13 := Lib.hid (NV12.out.grown (grown_upd hu13) (by omega))
    have BK13 := Lib.hid (BK12.out.upd hu13 hgR10)
    clear hrd13 hu13 hq7
    try go_wp2_with fail
    refine hK.out _ _ trivial (fun hHeld2 => ?_)
    clear hK K hHeld
    have hHeld := hHeld2
    clear hHeld2
    try simp only [Act.put, List.setIfInBounds_toArray, List.set_cons_zero, List.set_cons_succ]
    refine take_yes (i := 10) (v := ?_) rfl (by kernel_rfl) (by kernel_rfl) (by kernel_rfl) (fun _ _ _ h => h) (by kernel_rfl) ?_ (by assumption) ?_
    rotate_left
    · (intro w hSw; (try dsimp only at hSw); go_simp; try with_reducible rfl)
    try simp only [Act.put, List.setIfInBounds_toArray, List.set_cons_zero, List.set_cons_succ]
    refine take_yes (i := 11) (v := ?_) rfl (by kernel_rfl) (by kernel_rfl) (by kernel_rfl) (fun _ _ _ h => h) (by kernel_rfl) ?_ (by assumption) ?_
    rotate_left
    · (intro w hSw; (try dsimp only at hSw); go_simp; try with_reducible rfl)
    try simp only [Act.put, List.setIfInBounds_toArray, List.set_cons_zero, List.set_cons_succ]
    obtain ⟨xx, hxx⟩ : ∃ xx : Int, (#[Value.int .i64 0, .int .i64 7, .int .i64 99, .int .i64 100, .int .i64 (-99)] : Array Value)[q7]? = some (.int .i64 xx) := by
      have hlt : q7 < 5 := by omega
      match q7, hlt with | 0, _ => exact ⟨0, rfl⟩ | 1, _ => exact ⟨7, rfl⟩ | 2, _ => exact ⟨99, rfl⟩ | 3, _ => exact ⟨100, rfl⟩ | 4, _ => exact ⟨-99, rfl⟩
    have hcell := (BK13.out.cell q7).trans hxx
    refine take_yes (i := 8) (v := ?_) rfl (by kernel_rfl) (by kernel_rfl) (by kernel_rfl) (fun _ _ _ h => h) (by kernel_rfl) ?_ (by assumption) ?_
    rotate_left
    · (intro w hSw; (try dsimp only at hSw); go_simp; try with_reducible rfl)
    try simp only [Act.put, List.setIfInBounds_toArray, List.set_cons_zero, List.set_cons_succ]
    refine wpAnyH_ready (rs := [9]) (by kernel_rfl) (by simp) ?_
    refine AllReadyH.cons (of_drop rfl) (fun K hK => ?_) AllReadyH.nil
    go_simp
    try go_wp2_with fail
    refine hK.out _ _ trivial (fun hHeld2 => ?_)
    clear hK K hHeld
    have hHeld := hHeld2
    clear hHeld2
    try simp only [Act.put, List.setIfInBounds_toArray, List.set_cons_zero, List.set_cons_succ]
    refine take_yes (i := 12) (v := ?_) rfl (by kernel_rfl) (by kernel_rfl) (by kernel_rfl) (fun _ _ _ h => h) (by kernel_rfl) ?_ (by assumption) ?_
    rotate_left
    · (intro w hSw; (try dsimp only at hSw); go_simp; try with_reducible rfl)
    try simp only [Act.put, List.setIfInBounds_toArray, List.set_cons_zero, List.set_cons_succ]
    refine wpAnyH_done (by kernel_rfl) ?_ _
    refine NoPanic.normal ?_
    have hGS := GR13.out.size
    go_wp2
    refine bodyPost_ret (v := .tuple #[vv, .int .i64 ((q3 : Int) - 1), .int .i64 xx]) (by simp [results, Try.results7, go_sem]) rfl ⟨vv, ys, (q3 : Int) - 1, xx, rfl, hys, by omega, NV13.out.lo (by omega), below_grown HB.out GR13.out HB.out.size HRW.out⟩
end Go.Proofs.Yteedgmaeopnidaa
