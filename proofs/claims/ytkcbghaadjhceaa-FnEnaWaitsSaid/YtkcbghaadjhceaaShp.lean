/- The draw of a net of one of some shapes. -/
import Derived.Test.YtkcbghaadjhceaaShpL
import Derived.Deep.DeepCutAuto
namespace Go.Proofs.Ytkcbghaadjhceaa
open Go.RowKit
set_option linter.unusedVariables false
set_option linter.unusedSimpArgs false

set_option maxHeartbeats 4000000 in
set_option maxRecDepth 100000 in
theorem l20Shape_c (R p : Nat) (w : World) (hR : RdV w R p) (hp : p ≤ 700000) :
    Calls Try.prog 80 #[.pointer (some ⟨R, 0, none⟩)] w fun e w' => NetOut w R (p + 2000) e w' := by
  obtain ⟨i0, hi0, hz0, hz1, hz2⟩ := info_parts Try.info3
  obtain ⟨iT, hiT, hzT0, hzT1, hzT2⟩ := info_parts Try.infoTask
  go_enter Try.func80, Try.ntmps80
  go_wp2_with fail
  refine (pick_c R p 3 _ (hR.alloc _) (by omega) (by omega) (by omega)).mono ?_
  rintro e w1 ⟨r1, rfl, hr1, hrd1, hu1⟩
  have hr1' : (r1 : Int) < 3 := pick_lt hr1 (by omega)
  have H1 := Lib.hid ((ShD.start hR).upd hu1 hrd1)
  clear hrd1 hu1 hr1
  go_wp2_with fail
  refine (pick_c R (p + 1) 3 _ H1.out.rd (by omega) (by omega) (by omega)).mono ?_
  rintro e w2 ⟨r2, rfl, hr2, hrd2, hu2⟩
  have hr2' : (r2 : Int) < 3 := pick_lt hr2 (by omega)
  have H2 := Lib.hid (H1.out.upd hu2 hrd2)
  clear hrd2 hu2 hr2 H1
  go_wp2_with fail
  refine (pick_c R (p + 1 + 1) 4 _ (H2.out.alloc _).rd (by omega) (by omega) (by omega)).mono ?_
  rintro e w3 ⟨r3, rfl, hr3, hrd3, hu3⟩
  have hr3' := pick_lt hr3 (by omega)
  obtain ⟨x, hx0, hx⟩ := lit_at w2 [1 + (r1 : Int), 1 + (r1 : Int), 1 + (r1 : Int), 1 + (r2 : Int)] 3 r3 (by simp; omega)
  have hR2 := H2.out.hR
  have hl2 := H2.out.lt
  have hc3 : w3.cell? ⟨w2.heap.size, r3, none⟩ = some (.int .i64 x) := (hu3.cell (p := ⟨w2.heap.size, r3, none⟩) (by dsimp only; omega)).trans hx
  have H3 := Lib.hid ((H2.out.alloc _).upd hu3 hrd3)
  clear hrd3 hu3 hr3 hx hx0 hR2 hl2
  go_wp2_with fail
  refine (pick_c R (p + 1 + 1 + 1) 6 _ H3.out.rd (by omega) (by omega) (by omega)).mono ?_
  rintro e w4 ⟨r4, rfl, hr4, hrd4, hu4⟩
  have hr4' : (r4 : Int) < 6 := pick_lt hr4 (by omega)
  have H4 := Lib.hid (H3.out.upd hu4 hrd4)
  clear hrd4 hu4 hr4 hc3 H3 H2 hr3'
  replace hp : p + 1 + 1 + 1 + 1 ≤ 700100 := by omega
  generalize hq : p + 1 + 1 + 1 + 1 = q at H4 hp

  by_cases h0 : r4 = 0
  · have h0' : ((r4 : Int) == 0) = true := by simp [h0]
    clear h0
    go_wp2_with fail
    refine (l20Task_2 w w4 R q _ H4.out (by omega) _ _ _ (by omega) (by omega) [0] [2] 1 1 rfl rfl (by omega) (by omega) _ _ rfl rfl).mono ?_
    rintro e w5 ⟨t5, A5, n5, c5, p5, rfl, hp5, h5⟩
    have HT5 := Lib.hid h5
    clear h5 H4
    go_wp2_with fail
    refine (l20Task_2 w w5 R p5 _ HT5.out (by omega) _ _ _ (by omega) (by omega) [2] [1] 1 1 rfl rfl (by omega) (by omega) _ _ rfl rfl).mono ?_
    rintro e w6 ⟨t6, A6, n6, c6, p6, rfl, hp6, h6⟩
    have HT6 := Lib.hid h6
    clear h6 HT5
    obtain ⟨hb0, hb1, hf0, hf1⟩ := HT6.out.facts
    have hlt := HT6.out.lt
    go_wp2
    refine bodyPost_ret (v := .agg #[.int .i64 3, .slice (some ⟨w6.heap.size, 0, none⟩) 2 2]) (by simp [results, Try.results80, go_sem, hb0, hb1, hlt, Nat.ne_of_lt hlt]) rfl ?_
    have HF := HT6.out.fin 2 rfl (by unfold maxLen; omega) _ rfl 3
    exact NetOut.of 3 w6.heap.size 2 2 _ _ (by omega) (by omega) HF.1 HF.2.1 HF.2.2
  · have h0' : ((r4 : Int) == 0) = false := by simp; omega
    by_cases h1 : r4 = 1
    · have h1' : ((r4 : Int) == 1) = true := by simp [h1]
      clear h1
      go_wp2_with fail
      refine (l20Task_2 w w4 R q _ H4.out (by omega) _ _ _ (by omega) (by omega) [0] [2, 3] 1 2 rfl rfl (by omega) (by omega) _ _ rfl rfl).mono ?_
      rintro e w5 ⟨t5, A5, n5, c5, p5, rfl, hp5, h5⟩
      have HT5 := Lib.hid h5
      clear h5 H4
      go_wp2_with fail
      refine (l20Task_2 w w5 R p5 _ HT5.out (by omega) _ _ _ (by omega) (by omega) [2] [4] 1 1 rfl rfl (by omega) (by omega) _ _ rfl rfl).mono ?_
      rintro e w6 ⟨t6, A6, n6, c6, p6, rfl, hp6, h6⟩
      have HT6 := Lib.hid h6
      clear h6 HT5
      go_wp2_with fail
      refine (l20Task_2 w w6 R p6 _ HT6.out (by omega) _ _ _ (by omega) (by omega) [3] [5] 1 1 rfl rfl (by omega) (by omega) _ _ rfl rfl).mono ?_
      rintro e w7 ⟨t7, A7, n7, c7, p7, rfl, hp7, h7⟩
      have HT7 := Lib.hid h7
      clear h7 HT6
      go_wp2_with fail
      refine (l20Task_2 w w7 R p7 _ HT7.out (by omega) _ _ _ (by omega) (by omega) [4, 5] [1] 2 1 rfl rfl (by omega) (by omega) _ _ rfl rfl).mono ?_
      rintro e w8 ⟨t8, A8, n8, c8, p8, rfl, hp8, h8⟩
      have HT8 := Lib.hid h8
      clear h8 HT7
      obtain ⟨hb0, hb1, hf0, hf1⟩ := HT8.out.facts
      have hlt := HT8.out.lt
      go_wp2
      refine bodyPost_ret (v := .agg #[.int .i64 6, .slice (some ⟨w8.heap.size, 0, none⟩) 4 4]) (by simp [results, Try.results80, go_sem, hb0, hb1, hlt, Nat.ne_of_lt hlt]) rfl ?_
      have HF := HT8.out.fin 4 rfl (by unfold maxLen; omega) _ rfl 6
      exact NetOut.of 6 w8.heap.size 4 4 _ _ (by omega) (by omega) HF.1 HF.2.1 HF.2.2
    · have h1' : ((r4 : Int) == 1) = false := by simp; omega
      by_cases h2 : r4 = 2
      · have h2' : ((r4 : Int) == 2) = true := by simp [h2]
        clear h2
        go_wp2_with fail
        refine (l20Task_2 w w4 R q _ H4.out (by omega) _ _ _ (by omega) (by omega) [0] [2] 1 1 rfl rfl (by omega) (by omega) _ _ rfl rfl).mono ?_
        rintro e w5 ⟨t5, A5, n5, c5, p5, rfl, hp5, h5⟩
        have HT5 := Lib.hid h5
        clear h5 H4
        go_wp2_with fail
        refine (pick_c R p5 2 _ (HT5.out.alloc _).rd (by omega) (by omega) (by omega)).mono ?_
        rintro e wp ⟨r6, rfl, hr6, hrd6, hu6⟩
        have hr6' : (r6 : Int) < 2 := pick_lt hr6 (by omega)
        have hR5 := HT5.out.hR
        have hl5 := HT5.out.lt
        have HI := Lib.hid (((Row.new w5 #[.int .i64 2] 3).upd hu6 (.inr (by omega))).more (lo' := w.heap.size + 1) (hi' := wp.heap.size) (by omega) (by rw [hu6.size]; simp))
        have HP := Lib.hid ((HT5.out.alloc (.cells #[.int .i64 2] 3)).upd hu6 hrd6)
        have hlp := HP.out.lt
        clear hrd6 hu6 hr6 HT5
        go_wp2_with fail
        refine (l20Task_sh w _ R (p5 + 1) _ (HP.out.alloc _) (by omega) _ _ _ (by omega) (by omega) [2] [2 + (r6 : Int), 1] 1 2 rfl rfl (by omega) (by omega) _ _ _ _ _ _ _ _ ((HI.out.alloc (Nat.le_refl _) _).more (Nat.le_refl _) (by simp)) ((Row.new wp #[.int .i64 (2 + (r6 : Int)), .int .i64 1] 3).more (by omega) (by simp))).mono ?_
        rintro e w6 ⟨t6, A6, n6, c6, p6, rfl, hp6, h6⟩
        have HT6 := Lib.hid h6
        clear h6 HP HI
        go_wp2_with fail
        refine (l20Task_2 w w6 R p6 _ HT6.out (by omega) _ _ _ (by omega) (by omega) [3] [2] 1 1 rfl rfl (by omega) (by omega) _ _ rfl rfl).mono ?_
        rintro e w7 ⟨t7, A7, n7, c7, p7, rfl, hp7, h7⟩
        have HT7 := Lib.hid h7
        clear h7 HT6
        obtain ⟨hb0, hb1, hf0, hf1⟩ := HT7.out.facts
        have hlt := HT7.out.lt
        go_wp2
        refine bodyPost_ret (v := .agg #[.int .i64 4, .slice (some ⟨w7.heap.size, 0, none⟩) 3 3]) (by simp [results, Try.results80, go_sem, hb0, hb1, hlt, Nat.ne_of_lt hlt]) rfl ?_
        have HF := HT7.out.fin 3 rfl (by unfold maxLen; omega) _ rfl 4
        exact NetOut.of 4 w7.heap.size 3 3 _ _ (by omega) (by omega) HF.1 HF.2.1 HF.2.2
      · have h2' : ((r4 : Int) == 2) = false := by simp; omega
        by_cases h3 : r4 = 3
        · have h3' : ((r4 : Int) == 3) = true := by simp [h3]
          clear h3
          go_wp2_with fail
          refine (l20Task_2 w w4 R q _ H4.out (by omega) _ _ _ (by omega) (by omega) [0] [2, 3, 4] 1 3 rfl rfl (by omega) (by omega) _ _ rfl rfl).mono ?_
          rintro e w5 ⟨t5, A5, n5, c5, p5, rfl, hp5, h5⟩
          have HT5 := Lib.hid h5
          clear h5 H4
          go_wp2_with fail
          refine (l20Task_2 w w5 R p5 _ HT5.out (by omega) _ _ _ (by omega) (by omega) [2] [5] 1 1 rfl rfl (by omega) (by omega) _ _ rfl rfl).mono ?_
          rintro e w6 ⟨t6, A6, n6, c6, p6, rfl, hp6, h6⟩
          have HT6 := Lib.hid h6
          clear h6 HT5
          go_wp2_with fail
          refine (l20Task_2 w w6 R p6 _ HT6.out (by omega) _ _ _ (by omega) (by omega) [3, 4] [6] 2 1 rfl rfl (by omega) (by omega) _ _ rfl rfl).mono ?_
          rintro e w7 ⟨t7, A7, n7, c7, p7, rfl, hp7, h7⟩
          have HT7 := Lib.hid h7
          clear h7 HT6
          go_wp2_with fail
          refine (pick_c R p7 3 _ HT7.out.rd (by omega) (by omega) (by omega)).mono ?_
          rintro e wp ⟨r8, rfl, hr8, hrd8, hu8⟩
          have hr8' : (r8 : Int) < 3 := pick_lt hr8 (by omega)
          have HP := Lib.hid (HT7.out.upd hu8 hrd8)
          clear hrd8 hu8 hr8 HT7
          go_wp2_with fail
          refine (l20Task_2 w wp R (p7 + 1) _ HP.out (by omega) _ _ _ (by omega) (by omega) [5, 6] [1] 2 1 rfl rfl (by omega) (by omega) _ _ rfl rfl).mono ?_
          rintro e w8 ⟨t8, A8, n8, c8, p8, rfl, hp8, h8⟩
          have HT8 := Lib.hid h8
          clear h8 HP
          obtain ⟨hb0, hb1, hf0, hf1⟩ := HT8.out.facts
          have hlt := HT8.out.lt
          go_wp2
          refine bodyPost_ret (v := .agg #[.int .i64 7, .slice (some ⟨w8.heap.size, 0, none⟩) 4 4]) (by simp [results, Try.results80, go_sem, hb0, hb1, hlt, Nat.ne_of_lt hlt]) rfl ?_
          have HF := HT8.out.fin 4 rfl (by unfold maxLen; omega) _ rfl 7
          exact NetOut.of 7 w8.heap.size 4 4 _ _ (by omega) (by omega) HF.1 HF.2.1 HF.2.2
        · have h3' : ((r4 : Int) == 3) = false := by simp; omega
          by_cases h4 : r4 = 4
          · have h4' : ((r4 : Int) == 4) = true := by simp [h4]
            clear h4
            go_wp2_with fail
            refine (l20Task_2 w w4 R q _ H4.out (by omega) _ _ _ (by omega) (by omega) [0] [2, 3] 1 2 rfl rfl (by omega) (by omega) _ _ rfl rfl).mono ?_
            rintro e w5 ⟨t5, A5, n5, c5, p5, rfl, hp5, h5⟩
            have HT5 := Lib.hid h5
            clear h5 H4
            go_wp2_with fail
            refine (l20Task_2 w w5 R p5 _ HT5.out (by omega) _ _ _ (by omega) (by omega) [2] [4, 1] 1 2 rfl rfl (by omega) (by omega) _ _ rfl rfl).mono ?_
            rintro e w6 ⟨t6, A6, n6, c6, p6, rfl, hp6, h6⟩
            have HT6 := Lib.hid h6
            clear h6 HT5
            go_wp2_with fail
            refine (l20Task_2 w w6 R p6 _ HT6.out (by omega) _ _ _ (by omega) (by omega) [3, 4] [1] 2 1 rfl rfl (by omega) (by omega) _ _ rfl rfl).mono ?_
            rintro e w7 ⟨t7, A7, n7, c7, p7, rfl, hp7, h7⟩
            have HT7 := Lib.hid h7
            clear h7 HT6
            obtain ⟨hb0, hb1, hf0, hf1⟩ := HT7.out.facts
            have hlt := HT7.out.lt
            go_wp2
            refine bodyPost_ret (v := .agg #[.int .i64 5, .slice (some ⟨w7.heap.size, 0, none⟩) 3 3]) (by simp [results, Try.results80, go_sem, hb0, hb1, hlt, Nat.ne_of_lt hlt]) rfl ?_
            have HF := HT7.out.fin 3 rfl (by unfold maxLen; omega) _ rfl 5
            exact NetOut.of 5 w7.heap.size 3 3 _ _ (by omega) (by omega) HF.1 HF.2.1 HF.2.2
          · have h4' : ((r4 : Int) == 4) = false := by simp; omega
            go_wp2_with fail
            refine (pick_c R q 4 _ H4.out.rd (by omega) (by omega) (by omega)).mono ?_
            rintro e w5 ⟨r5, rfl, hr5, hrd5, hu5⟩
            have hr5' : (r5 : Int) < 4 := pick_lt hr5 (by omega)
            have HS5 := Lib.hid (ShL.start (H4.out.upd hu5 hrd5) (3 + (r5 : Int)))
            clear hrd5 hu5 hr5 H4
            go_wp2_with fail
            refine (pick_c R (q + 1) 4 _ HS5.out.rd (by omega) (by omega) (by omega)).mono ?_
            rintro e w6 ⟨r6, rfl, hr6, hrd6, hu6⟩
            have hr6' : (r6 : Int) < 4 := pick_lt hr6 (by omega)
            have HS6 := Lib.hid (HS5.out.upd hu6 hrd6)
            clear hrd6 hu6 hr6 HS5
            generalize hNN : w5.heap.size = N at HS6
            go_wp2
            go_loopw [7] (fun i wr => ∃ (k p' : Nat) (ms : List TaskM) (vt : Value), k ≤ 1 + r6 ∧ i = .int .i64 k ∧ ms.length = k ∧ p' ≤ q + 2 + 100 * k ∧ ShL w R p' N (3 + (r5 : Int)) ms vt wr) (fun i _ => 1 + r6 - (intOf i).toNat)
            case atStart => exact ⟨0, q + 1 + 1, [], _, Nat.zero_le _, rfl, rfl, by omega, HS6.out⟩
            case round =>
              clear HS6
              obtain ⟨k, p', ms, vt, hk, rfl, hml, hp', hS⟩ := hrel
              have HS := Lib.hid hS
              have HML := Lib.hid hml
              clear hS hml
              have hNl := HS.out.lt
              by_cases hlt : k < 1 + r6
              · have hlt1 : (k : Int) < 1 + (r6 : Int) := by omega
                have hNR : R < N := by have := HS.out.hN; have := HS.out.hR; omega
                obtain ⟨_, hc0, hc1, hf0, hf1⟩ := HS.out.facts
                go_wp2_with fail
                refine (pick_c R p' (3 + (r5 : Int) - 2) _ HS.out.rd (by omega) (by omega) (by omega)).mono ?_
                rintro e w7 ⟨r7, rfl, hr7, hrd7, hu7⟩
                have hr7' : (r7 : Int) < 1000 := by rcases hr7 with h | h <;> omega
                have HS7 := Lib.hid (HS.out.upd hu7 hrd7)
                have hs7 : wr.heap.size = w7.heap.size := hu7.size.symm
                have HG7 := Lib.hid (grown_upd hu7)
                clear hrd7 hu7 hr7 hc0 hc1 hf0 hf1
                go_wp2_with fail
                refine (pick_c R (p' + 1) 4 _ (HS7.out.alloc _).rd (by omega) (by omega) (by omega)).mono ?_
                rintro e w8 ⟨r8, rfl, hr8, hrd8, hu8⟩
                have hr8' := pick_lt hr8 (by omega)
                obtain ⟨x, hx0, hx⟩ := lit_at w7 [0, 2, 2, 2 + (r7 : Int)] 3 r8 (by simp; omega)
                have hc8 : w8.cell? ⟨w7.heap.size, r8, none⟩ = some (.int .i64 x) := (hu8.cell (p := ⟨w7.heap.size, r8, none⟩) (by dsimp only; omega)).trans hx
                have HS8 := Lib.hid ((HS7.out.alloc _).upd hu8 hrd8)
                have HS78 := Lib.hid (grown_tr (grown_alloc HG7.out (.cells #[.int .i64 0, .int .i64 2, .int .i64 2, .int .i64 (2 + (r7 : Int))] 3)) (grown_upd hu8))
                have hs8 : wr.heap.size + 1 = w8.heap.size := by have := hu8.size; simp at this; omega
                clear hrd8 hu8 hr8 hx hx0 HS7
                have hN8 := HS8.out.lt
                have hN8' := Nat.ne_of_lt hN8
                obtain ⟨_, hc0, hc1, hf0, hf1⟩ := HS8.out.facts
                go_wp2_with fail
                refine (pick_c R (p' + 1 + 1) (3 + (r5 : Int) - 1) _ (HS8.out.alloc _).rd (by omega) (by omega) (by omega)).mono ?_
                rintro e w9 ⟨r9, rfl, hr9, hrd9, hu9⟩
                have hr9' : (r9 : Int) < 1000 := by rcases hr9 with h | h <;> omega
                have HS9 := Lib.hid ((HS8.out.alloc _).upd hu9 hrd9)
                have hs9 : wr.heap.size + 1 + 1 = w9.heap.size := by have := hu9.size; simp at this; omega
                have HI9 := Lib.hid ((Row.new w8 #[.int .i64 x] 3).upd hu9 (.inr (by omega)))
                have hbi9 : w8.heap.size < w9.heap.size := by omega
                have hL8 : wr.heap.size ≤ w8.heap.size := by omega
                generalize hbi : w8.heap.size = bi at HI9 hbi9 hL8
                have HRg9 := Lib.hid (grown_tr (grown_tr HS78.out (World.grownBy_alloc _ (.cells #[.int .i64 x] 3) _)) (grown_upd hu9))
                have HRd9 := Lib.hid hrd9
                clear hrd9 hu9 hr9 hc0 hc1 hf0 hf1 hc8 HS8 HS78 hN8 hN8'
                have hRL : R < wr.heap.size := by omega
                go_upto_region 21 with fail
                go_cut [162] (fun s wc => ∃ bb : Bool, s = .bool bb ∧ ShR wr R (p' + 4) bi x wc ∧ wc.ownsRow wr.heap.size 3 1 (.slice (some ⟨w9.heap.size, 0, none⟩) 1 1) 1 (ints [1 + (r9 : Int)]))
                case first =>
                  have HO9 := Lib.hid (own_lit1 w9 3 (.int .i64 (1 + (r9 : Int))) wr.heap.size (by omega))
                  have HRdA := Lib.hid (HRd9.out.alloc (.cells #[.int .i64 (1 + (r9 : Int))] 3))
                  go_wp2_with fail
                  refine (pick_c R (p' + 1 + 1 + 1) 2 _ HRdA.out (by omega) (by omega) (by omega)).mono ?_
                  rintro e w10 ⟨r10, rfl, hr10, hrd10, hu10⟩
                  have HO10 := Lib.hid (own_upd HO9.out hu10 (by omega))
                  have HI10 := Lib.hid ((HI9.out.alloc (by omega) (.cells #[.int .i64 (1 + (r9 : Int))] 3)).upd hu10 (.inr (by omega)))
                  have hs10 : w9.heap.size + 1 = w10.heap.size := by have := hu10.size; simp at this; omega
                  have hcy : w10.cell? ⟨w9.heap.size, 0, none⟩ = some (.int .i64 (1 + (r9 : Int))) := HO10.out.cellAt 0 (by omega)
                  have HFIN := Lib.hid (And.intro (show ShR wr R (p' + 4) bi x w10 from ⟨p' + 1 + 1 + 1 + 1, by omega, hrd10, grown_tr (grown_alloc HRg9.out _) (grown_upd hu10), HI10.out, by omega⟩) HO10.out)
                  clear hrd10 hu10 hr10 HRdA HO9 HI9 HRg9 HRd9 HI10 HO10
                  by_cases h10 : r10 = 0
                  · have h10' : ((r10 : Int) == 0) = true := by simp [h10]
                    clear h10
                    by_cases h9 : (1 + (r9 : Int)) = 2
                    · have h9' : ((1 + (r9 : Int)) == 2) = true := by simp; omega
                      clear h9
                      go_wp2
                      go_meet
                      exact ⟨_, rfl, HFIN.out⟩
                    · have h9' : ((1 + (r9 : Int)) == 2) = false := by simp; omega
                      clear h9
                      go_wp2
                      go_meet
                      exact ⟨_, rfl, HFIN.out⟩
                  · have h10' : ((r10 : Int) == 0) = false := by simp [h10]
                    clear h10
                    go_wp2
                    go_meet
                    exact ⟨_, rfl, HFIN.out⟩
                case rest =>
                  clear HI9 HRg9 HRd9
                  obtain ⟨bb, rfl, hsr, hown⟩ := hcut
                  have HSR := Lib.hid hsr
                  have HO := Lib.hid hown
                  clear hsr hown
                  go_upto_if 162 with fail
                  go_cut [9] (fun s9 wd => ∃ (A : Option Addr) (b off nt c : Nat) (tos : List Int), s9 = .slice A nt c ∧ tos.length = nt ∧ nt ≤ 2 ∧ ShR wr R (p' + 4) bi x wd ∧ Row wd wr.heap.size wd.heap.size A b off (ints tos))
                  case first =>
                    have hsc : wr.heap.size ≤ wc.heap.size := by obtain ⟨_, _, _, h, _⟩ := HSR.out; exact h.size
                    cases bb with
                    | true =>
                      go_wp2_with (at_builtin; refine wpList_append_own _ rfl _ _ 26 rfl wr.heap.size 3 i0 _ 1 8 Try.underlying26 hi0 hz0 hz1 hz2 rfl (by omega) _ 1 (ints [1 + (r9 : Int)]) rfl (HO.out.alloc _) ⟨wc.heap.size, 0, none⟩ 1 1 [.int .i64 2] rfl rfl (one_cell _ _ _) (by intro u hu; simp at hu; subst hu; rfl) (by unfold maxLen; omega) (by omega) (by simp; omega) ?_; intro v' w3 hown3 hg3 _)
                      have HFIN : Hid (∃ (A : Option Addr) (b off nt c : Nat) (tos : List Int), v' = .slice A nt c ∧ tos.length = nt ∧ nt ≤ 2 ∧ ShR wr R (p' + 4) bi x w3 ∧ Row w3 wr.heap.size w3.heap.size A b off (ints tos)) := by
                        refine Lib.hid ?_
                        obtain ⟨A, b, o, c, hv, _, hrow⟩ := draw_row (zs := [1 + (r9 : Int), 2]) hown3
                        obtain ⟨p0, hp0, hrd0, hg0, hr0, hb0⟩ := HSR.out
                        have hoa := HO.out.alloc (.cells #[.int .i64 2] 3)
                        refine ⟨A, b, o, 2, c, [1 + (r9 : Int), 2], hv, rfl, Nat.le_refl _, ⟨p0, hp0, (hrd0.alloc _).own hg3 hoa (by omega), grown_own (grown_alloc hg0 _) hg3 hoa (Nat.le_refl _), (hr0.alloc (by omega) _).keep (fun g h1 h2 => hg3.block g (by simp; omega) (fun e => by have e' : some g = some w9.heap.size := e; injection e' with e'; omega)), by have := hg3.size; simp at this; omega⟩, hrow⟩
                      clear hown3 hg3
                      go_wp2
                      go_meet
                      exact HFIN.out
                    | false =>
                      go_wp2
                      go_meet
                      obtain ⟨A, b, o, c, hv, _, hrow⟩ := draw_row (zs := [1 + (r9 : Int)]) HO.out
                      exact ⟨A, b, o, 1, c, [1 + (r9 : Int)], hv, rfl, by omega, HSR.out, hrow⟩
                  case rest =>
                    clear HSR HO
                    obtain ⟨A, b, off, nt, c, tos, rfl, hnt, hnt2, hsr, hto⟩ := hcut
                    obtain ⟨p0, hp0, hrd0, hg0, hr0, hb0⟩ := hsr
                    have HSd := Lib.hid ((HS.out.grown hg0 hrd0).drew)
                    have HI := Lib.hid (show Row wc.drew wr.heap.size wc.heap.size (some ⟨bi, 0, none⟩) bi 0 (ints [x]) from hr0.more (by omega) (by omega))
                    have HT := Lib.hid (show Row wc.drew wr.heap.size wc.heap.size A b off (ints tos) from hto)
                    have hLd : wr.heap.size ≤ wc.heap.size := hg0.size
                    clear hrd0 hg0 hr0 hto
                    have hown0 : ∀ g, vt.ownBlock = some g → g < wr.heap.size := fun g hg => HS.out.away hg
                    have HOW := Lib.hid hown0
                    clear hown0
                    go_wp2
                    refine wp_region_noPanic ?_
                    refine wp_region_held_drew (S := fun _ => True) (by kernel_rfl) trivial (fun hHeld => ?_)
                    refine take_yes (i := 0) (v := ?_) rfl (by kernel_rfl) (by kernel_rfl) (by kernel_rfl) (fun _ _ _ h => h) (by kernel_rfl) ?_ (by assumption) ?_
                    rotate_left
                    · (intro w hSw; (try dsimp only at hSw); go_simp; try with_reducible rfl)
                    try simp only [Act.put, List.setIfInBounds_toArray, List.set_cons_zero, List.set_cons_succ]
                    refine take_yes (i := 2) (v := ?_) rfl (by kernel_rfl) (by kernel_rfl) (by kernel_rfl) (fun _ _ _ h => h) (by kernel_rfl) ?_ (by assumption) ?_
                    rotate_left
                    · (intro w hSw; (try dsimp only at hSw); go_simp; try with_reducible rfl)
                    try simp only [Act.put, List.setIfInBounds_toArray, List.set_cons_zero, List.set_cons_succ]
                    refine take_yes (i := 3) (v := ?_) rfl (by kernel_rfl) (by kernel_rfl) (by kernel_rfl) (fun _ _ _ h => h) (by kernel_rfl) ?_ (by assumption) ?_
                    rotate_left
                    · (intro w hSw; (try dsimp only at hSw); go_simp; try with_reducible rfl)
                    try simp only [Act.put, List.setIfInBounds_toArray, List.set_cons_zero, List.set_cons_succ]
                    refine take_yes (i := 6) (v := ?_) rfl (by kernel_rfl) (by kernel_rfl) (by kernel_rfl) (fun _ _ _ h => h) (by kernel_rfl) ?_ (by assumption) ?_
                    rotate_left
                    · (intro w hSw; (try dsimp only at hSw); go_simp; try with_reducible rfl)
                    try simp only [Act.put, List.setIfInBounds_toArray, List.set_cons_zero, List.set_cons_succ]
                    refine take_yes (i := 9) (v := ?_) rfl (by kernel_rfl) (by kernel_rfl) (by kernel_rfl) (fun _ _ _ h => h) (by kernel_rfl) ?_ (by assumption) ?_
                    rotate_left
                    · (intro w hSw; (try dsimp only at hSw); go_simp; try with_reducible rfl)
                    try simp only [Act.put, List.setIfInBounds_toArray, List.set_cons_zero, List.set_cons_succ]
                    refine take_yes (i := 10) (v := ?_) rfl (by kernel_rfl) (by kernel_rfl) (by kernel_rfl) (fun _ _ _ h => h) (by kernel_rfl) ?_ (by assumption) ?_
                    rotate_left
                    · (intro w hSw; (try dsimp only at hSw); go_simp; try with_reducible rfl)
                    try simp only [Act.put, List.setIfInBounds_toArray, List.set_cons_zero, List.set_cons_succ]
                    refine take_yes (i := 11) (v := ?_) rfl (by kernel_rfl) (by kernel_rfl) (by kernel_rfl) (fun _ _ _ h => h) (by kernel_rfl) ?_ (by assumption) ?_
                    rotate_left
                    · (intro w hSw; (try dsimp only at hSw); go_simp; try with_reducible rfl)
                    try simp only [Act.put, List.setIfInBounds_toArray, List.set_cons_zero, List.set_cons_succ]
                    refine wpAnyH_ready (rs := [1, 4]) (by kernel_rfl) (by simp) ?_
                    refine AllReadyH.cons (of_drop rfl) (fun K hK => ?_) (AllReadyH.cons (of_drop rfl) (fun K hK => ?_) AllReadyH.nil)
                    · skip
                      obtain ⟨_, _, hcL, _, _⟩ := HSd.out.facts
                      go_simp
                      try go_wp2_with fail
                      refine hK.out _ _ trivial (fun hHeld2 => ?_)
                      clear hK K hHeld
                      have hHeld := hHeld2
                      clear hHeld2
                      try simp only [Act.put, List.setIfInBounds_toArray, List.set_cons_zero, List.set_cons_succ]
                      refine wpAnyH_ready (rs := [4]) (by kernel_rfl) (by simp) ?_
                      refine AllReadyH.cons (of_drop rfl) (fun K hK => ?_) AllReadyH.nil
                      go_simp
                      (go_at_call 43; refine (pick_c R p0 3 _ HSd.out.rd (by omega) (by omega) (by omega)).mono ?_; rintro e x2 ⟨q4, rfl, hq4, hrd2, hu2⟩)
                      have hq4l := pick_lt hq4 (by omega)
                      have HS2 := Lib.hid (HSd.out.upd hu2 hrd2)
                      have HI2 := Lib.hid (by have := HI.out.upd hu2 (.inr (by omega)); have h2 := hu2.size; exact this.more (hi' := x2.heap.size) (Nat.le_refl _) (by rw [h2]; exact Nat.le_refl _))
                      have HT2 := Lib.hid (by have := HT.out.upd hu2 (.inr (by omega)); have h2 := hu2.size; exact this.more (hi' := x2.heap.size) (Nat.le_refl _) (by rw [h2]; exact Nat.le_refl _))
                      have hl2 : wr.heap.size ≤ x2.heap.size := by rw [hu2.size]; exact hLd
                      clear hrd2 hu2 hq4
                      try go_wp2_with fail
                      refine hK.out _ _ trivial (fun hHeld2 => ?_)
                      clear hK K hHeld
                      have hHeld := hHeld2
                      clear hHeld2
                      try simp only [Act.put, List.setIfInBounds_toArray, List.set_cons_zero, List.set_cons_succ]
                      refine take_yes (i := 5) (v := ?_) rfl (by kernel_rfl) (by kernel_rfl) (by kernel_rfl) (fun _ _ _ h => h) (by kernel_rfl) ?_ (by assumption) ?_
                      rotate_left
                      · (intro w hSw; (try dsimp only at hSw); go_simp; try with_reducible rfl)
                      try simp only [Act.put, List.setIfInBounds_toArray, List.set_cons_zero, List.set_cons_succ]
                      refine wpAnyH_ready (rs := [7]) (by kernel_rfl) (by simp) ?_
                      refine AllReadyH.cons (of_drop rfl) (fun K hK => ?_) AllReadyH.nil
                      go_simp
                      (go_at_call 43; refine (pick_c R (p0 + 1) 3 _ HS2.out.rd (by omega) (by omega) (by omega)).mono ?_; rintro e x3 ⟨q7, rfl, hq7, hrd3, hu3⟩)
                      have hq7l := pick_lt hq7 (by omega)
                      have HS3 := Lib.hid (HS2.out.upd hu3 hrd3)
                      have HI3 := Lib.hid (by have := HI2.out.upd hu3 (.inr (by omega)); have h2 := hu3.size; exact this.more (hi' := x3.heap.size) (Nat.le_refl _) (by rw [h2]; exact Nat.le_refl _))
                      have HT3 := Lib.hid (by have := HT2.out.upd hu3 (.inr (by omega)); have h2 := hu3.size; exact this.more (hi' := x3.heap.size) (Nat.le_refl _) (by rw [h2]; exact Nat.le_refl _))
                      have hl3 : wr.heap.size ≤ x3.heap.size := by rw [hu3.size]; exact hl2
                      clear hrd3 hu3 hq7
                      try go_wp2_with fail
                      refine hK.out _ _ trivial (fun hHeld2 => ?_)
                      clear hK K hHeld
                      have hHeld := hHeld2
                      clear hHeld2
                      try simp only [Act.put, List.setIfInBounds_toArray, List.set_cons_zero, List.set_cons_succ]
                      refine take_yes (i := 8) (v := ?_) rfl (by kernel_rfl) (by kernel_rfl) (by kernel_rfl) (fun _ _ _ h => h) (by kernel_rfl) ?_ (by assumption) ?_
                      rotate_left
                      · (intro w hSw; (try dsimp only at hSw); go_simp; try with_reducible rfl)
                      try simp only [Act.put, List.setIfInBounds_toArray, List.set_cons_zero, List.set_cons_succ]
                      refine wpAnyH_ready (rs := [12]) (by kernel_rfl) (by simp) ?_
                      refine AllReadyH.cons (of_drop rfl) (fun K hK => ?_) AllReadyH.nil
                      go_simp
                      (go_at_call 90; refine (l20Task_v _ R ((p0 + 1) + 1) wr.heap.size HS3.out.rd (by omega) _ _ _ (by omega) (by omega) [x] tos 1 nt rfl hnt (by omega) (by omega) _ _ _ _ _ _ _ _ HI3.out HT3.out hRL hl3).mono ?_; rintro e x4 ⟨t, Ao, no, co, p4, rfl, hp4, htv4, hrd4, hg4⟩)
                      have HS4 := Lib.hid (HS3.out.grown hg4 hrd4)
                      have TV4 := Lib.hid htv4
                      have hl4 : wr.heap.size ≤ x4.heap.size := Nat.le_trans hl3 hg4.size
                      clear hrd4 hg4 htv4
                      try go_wp2_with fail
                      refine hK.out _ _ trivial (fun hHeld2 => ?_)
                      clear hK K hHeld
                      have hHeld := hHeld2
                      clear hHeld2
                      try simp only [Act.put, List.setIfInBounds_toArray, List.set_cons_zero, List.set_cons_succ]
                      refine wpAnyH_ready (rs := [13]) (by kernel_rfl) (by simp) ?_
                      refine AllReadyH.cons (of_drop rfl) (fun K hK => ?_) AllReadyH.nil
                      go_simp
                      have HS5 := Lib.hid (HS4.out.alloc (.cells #[.int .i64 t.join, .int .i64 t.split, .slice (some ⟨bi, 0, none⟩) 1 1, .slice Ao no co, .slice none 0 0, .int .i64 t.role, .int .i64 t.apart, .int .i64 t.all, .int .i64 t.need] 36))
                      have TV5 := Lib.hid ((TaskV.keep (w' := x4.alloc (.cells #[.int .i64 t.join, .int .i64 t.split, .slice (some ⟨bi, 0, none⟩) 1 1, .slice Ao no co, .slice none 0 0, .int .i64 t.role, .int .i64 t.apart, .int .i64 t.all, .int .i64 t.need] 36)) TV4.out fun g _ h2 => Below.heap_alloc x4 (.cells #[.int .i64 t.join, .int .i64 t.split, .slice (some ⟨bi, 0, none⟩) 1 1, .slice Ao no co, .slice none 0 0, .int .i64 t.role, .int .i64 t.apart, .int .i64 t.all, .int .i64 t.need] 36) g h2).more (hi' := (x4.alloc (.cells #[.int .i64 t.join, .int .i64 t.split, .slice (some ⟨bi, 0, none⟩) 1 1, .slice Ao no co, .slice none 0 0, .int .i64 t.role, .int .i64 t.apart, .int .i64 t.all, .int .i64 t.need] 36)).heap.size) (Nat.le_refl _) (by simp))
                      have LC5 := Lib.hid (lit_cells x4 #[.int .i64 t.join, .int .i64 t.split, .slice (some ⟨bi, 0, none⟩) 1 1, .slice Ao no co, .slice none 0 0, .int .i64 t.role, .int .i64 t.apart, .int .i64 t.all, .int .i64 t.need] 36)
                      have hl5 : wr.heap.size ≤ (x4.alloc (.cells #[.int .i64 t.join, .int .i64 t.split, .slice (some ⟨bi, 0, none⟩) 1 1, .slice Ao no co, .slice none 0 0, .int .i64 t.role, .int .i64 t.apart, .int .i64 t.all, .int .i64 t.need] 36)).heap.size := by have := hl4; simp; omega
                      try go_wp2_with fail
                      refine hK.out _ _ trivial (fun hHeld2 => ?_)
                      clear hK K hHeld
                      have hHeld := hHeld2
                      clear hHeld2
                      try simp only [Act.put, List.setIfInBounds_toArray, List.set_cons_zero, List.set_cons_succ]
                      generalize hy5 : (x4.alloc (.cells #[.int .i64 t.join, .int .i64 t.split, .slice (some ⟨bi, 0, none⟩) 1 1, .slice Ao no co, .slice none 0 0, .int .i64 t.role, .int .i64 t.apart, .int .i64 t.all, .int .i64 t.need] 36)) = y5 at HS5 TV5 LC5 hl5 ⊢
                      have hgy5 : x4.heap.size ≤ y5.heap.size := by rw [← hy5]; simp
                      clear hy5
                      refine wpAnyH_ready (rs := [14]) (by kernel_rfl) (by simp) ?_
                      refine AllReadyH.cons (of_drop rfl) (fun K hK => ?_) AllReadyH.nil
                      refine Eq.mpr (if_pos (by rfl)) ?_
                      refine wp_append_at _ _ _ 23 rfl (N + 1) 36 iT _ 9 120 Try.underlying23 hiT hzT0 hzT1 hzT2 rfl (by omega) vt ms.length (taskCells ms) rfl HS5.out.own ⟨x4.heap.size, 0, none⟩ 1 1 [.int .i64 t.join, .int .i64 t.split, .slice (some ⟨bi, 0, none⟩) 1 1, .slice Ao no co, .slice none 0 0, .int .i64 t.role, .int .i64 t.apart, .int .i64 t.all, .int .i64 t.need] rfl rfl LC5.out (by intro u hu; simp at hu; rcases hu with rfl | rfl | rfl | rfl | rfl | rfl | rfl | rfl | rfl <;> rfl) (by have := HML.out; unfold maxLen; omega) (by have := HML.out; omega) (by have := HS5.out.lt; omega) ?_
                      intro v' z hown hg hat
                      have hz := hg.block N HS5.out.lt (fun e => by have := (HS5.out.own.lt N e.symm).1; omega)
                      obtain ⟨_, _, hcN, _, hfN⟩ := HS5.out.facts
                      have hcz := (World.cell?_of_block (a := ⟨N, 1, none⟩) hz).trans hcN
                      have hfz := (World.frozen?_of_block (a := ⟨N, 1, none⟩) hz).trans hfN
                      obtain ⟨Az, cz, rfl⟩ := own_any hown
                      have HM := Lib.hid (HS5.out.more (m := ⟨t, .slice (some ⟨bi, 0, none⟩) 1 1, .slice Ao no co, .slice none 0 0⟩) TV5.out HOW.out (by omega) hg hown hat)
                      clear hown hg hat hz hcN hfN
                      refine hK.out _ _ trivial (fun hHeld2 => ?_)
                      clear hK K hHeld
                      have hHeld := hHeld2
                      clear hHeld2
                      try simp only [Act.put, List.setIfInBounds_toArray, List.set_cons_zero, List.set_cons_succ]
                      refine take_yes (i := 15) (v := ?_) rfl (by kernel_rfl) (by kernel_rfl) (by kernel_rfl) (fun _ _ _ h => h) (by kernel_rfl) ?_ (by assumption) ?_
                      rotate_left
                      · (intro w hSw; (try dsimp only at hSw); go_simp; try with_reducible rfl)
                      try simp only [Act.put, List.setIfInBounds_toArray, List.set_cons_zero, List.set_cons_succ]
                      refine wpAnyH_ready (rs := [16]) (by kernel_rfl) (by simp) ?_
                      refine AllReadyH.cons (of_drop rfl) (fun K hK => ?_) AllReadyH.nil
                      go_simp
                      try go_wp2_with fail
                      refine hK.out _ _ trivial (fun hHeld2 => ?_)
                      clear hK K hHeld
                      have hHeld := hHeld2
                      clear hHeld2
                      try simp only [Act.put, List.setIfInBounds_toArray, List.set_cons_zero, List.set_cons_succ]
                      refine wpAnyH_done (by kernel_rfl) ?_ _
                      refine NoPanic.normal ?_
                      go_wp2
                      go_roundw
                      case rel => exact ⟨k + 1, p4, _, _, by omega, by go_num, by simp [HML.out], by omega, HM.out⟩
                      case measure => simp [intOf]; omega
                    · skip
                      go_simp
                      (go_at_call 43; refine (pick_c R p0 3 _ HSd.out.rd (by omega) (by omega) (by omega)).mono ?_; rintro e x7 ⟨q4, rfl, hq4, hrd7, hu7⟩)
                      have hq4l := pick_lt hq4 (by omega)
                      have HS7 := Lib.hid (HSd.out.upd hu7 hrd7)
                      have HI7 := Lib.hid (by have := HI.out.upd hu7 (.inr (by omega)); have h2 := hu7.size; exact this.more (hi' := x7.heap.size) (Nat.le_refl _) (by rw [h2]; exact Nat.le_refl _))
                      have HT7 := Lib.hid (by have := HT.out.upd hu7 (.inr (by omega)); have h2 := hu7.size; exact this.more (hi' := x7.heap.size) (Nat.le_refl _) (by rw [h2]; exact Nat.le_refl _))
                      have hl7 : wr.heap.size ≤ x7.heap.size := by rw [hu7.size]; exact hLd
                      clear hrd7 hu7 hq4
                      try go_wp2_with fail
                      refine hK.out _ _ trivial (fun hHeld2 => ?_)
                      clear hK K hHeld
                      have hHeld := hHeld2
                      clear hHeld2
                      try simp only [Act.put, List.setIfInBounds_toArray, List.set_cons_zero, List.set_cons_succ]
                      refine take_yes (i := 5) (v := ?_) rfl (by kernel_rfl) (by kernel_rfl) (by kernel_rfl) (fun _ _ _ h => h) (by kernel_rfl) ?_ (by assumption) ?_
                      rotate_left
                      · (intro w hSw; (try dsimp only at hSw); go_simp; try with_reducible rfl)
                      try simp only [Act.put, List.setIfInBounds_toArray, List.set_cons_zero, List.set_cons_succ]
                      refine wpAnyH_ready (rs := [1, 7]) (by kernel_rfl) (by simp) ?_
                      refine AllReadyH.cons (of_drop rfl) (fun K hK => ?_) (AllReadyH.cons (of_drop rfl) (fun K hK => ?_) AllReadyH.nil)
                      · skip
                        obtain ⟨_, _, hcL, _, _⟩ := HS7.out.facts
                        go_simp
                        try go_wp2_with fail
                        refine hK.out _ _ trivial (fun hHeld2 => ?_)
                        clear hK K hHeld
                        have hHeld := hHeld2
                        clear hHeld2
                        try simp only [Act.put, List.setIfInBounds_toArray, List.set_cons_zero, List.set_cons_succ]
                        refine wpAnyH_ready (rs := [7]) (by kernel_rfl) (by simp) ?_
                        refine AllReadyH.cons (of_drop rfl) (fun K hK => ?_) AllReadyH.nil
                        go_simp
                        (go_at_call 43; refine (pick_c R (p0 + 1) 3 _ HS7.out.rd (by omega) (by omega) (by omega)).mono ?_; rintro e x9 ⟨q7, rfl, hq7, hrd9, hu9⟩)
                        have hq7l := pick_lt hq7 (by omega)
                        have HS9 := Lib.hid (HS7.out.upd hu9 hrd9)
                        have HI9 := Lib.hid (by have := HI7.out.upd hu9 (.inr (by omega)); have h2 := hu9.size; exact this.more (hi' := x9.heap.size) (Nat.le_refl _) (by rw [h2]; exact Nat.le_refl _))
                        have HT9 := Lib.hid (by have := HT7.out.upd hu9 (.inr (by omega)); have h2 := hu9.size; exact this.more (hi' := x9.heap.size) (Nat.le_refl _) (by rw [h2]; exact Nat.le_refl _))
                        have hl9 : wr.heap.size ≤ x9.heap.size := by rw [hu9.size]; exact hl7
                        clear hrd9 hu9 hq7
                        try go_wp2_with fail
                        refine hK.out _ _ trivial (fun hHeld2 => ?_)
                        clear hK K hHeld
                        have hHeld := hHeld2
                        clear hHeld2
                        try simp only [Act.put, List.setIfInBounds_toArray, List.set_cons_zero, List.set_cons_succ]
                        refine take_yes (i := 8) (v := ?_) rfl (by kernel_rfl) (by kernel_rfl) (by kernel_rfl) (fun _ _ _ h => h) (by kernel_rfl) ?_ (by assumption) ?_
                        rotate_left
                        · (intro w hSw; (try dsimp only at hSw); go_simp; try with_reducible rfl)
                        try simp only [Act.put, List.setIfInBounds_toArray, List.set_cons_zero, List.set_cons_succ]
                        refine wpAnyH_ready (rs := [12]) (by kernel_rfl) (by simp) ?_
                        refine AllReadyH.cons (of_drop rfl) (fun K hK => ?_) AllReadyH.nil
                        go_simp
                        (go_at_call 90; refine (l20Task_v _ R ((p0 + 1) + 1) wr.heap.size HS9.out.rd (by omega) _ _ _ (by omega) (by omega) [x] tos 1 nt rfl hnt (by omega) (by omega) _ _ _ _ _ _ _ _ HI9.out HT9.out hRL hl9).mono ?_; rintro e x10 ⟨t, Ao, no, co, p10, rfl, hp10, htv10, hrd10, hg10⟩)
                        have HS10 := Lib.hid (HS9.out.grown hg10 hrd10)
                        have TV10 := Lib.hid htv10
                        have hl10 : wr.heap.size ≤ x10.heap.size := Nat.le_trans hl9 hg10.size
                        clear hrd10 hg10 htv10
                        try go_wp2_with fail
                        refine hK.out _ _ trivial (fun hHeld2 => ?_)
                        clear hK K hHeld
                        have hHeld := hHeld2
                        clear hHeld2
                        try simp only [Act.put, List.setIfInBounds_toArray, List.set_cons_zero, List.set_cons_succ]
                        refine wpAnyH_ready (rs := [13]) (by kernel_rfl) (by simp) ?_
                        refine AllReadyH.cons (of_drop rfl) (fun K hK => ?_) AllReadyH.nil
                        go_simp
                        have HS11 := Lib.hid (HS10.out.alloc (.cells #[.int .i64 t.join, .int .i64 t.split, .slice (some ⟨bi, 0, none⟩) 1 1, .slice Ao no co, .slice none 0 0, .int .i64 t.role, .int .i64 t.apart, .int .i64 t.all, .int .i64 t.need] 36))
                        have TV11 := Lib.hid ((TaskV.keep (w' := x10.alloc (.cells #[.int .i64 t.join, .int .i64 t.split, .slice (some ⟨bi, 0, none⟩) 1 1, .slice Ao no co, .slice none 0 0, .int .i64 t.role, .int .i64 t.apart, .int .i64 t.all, .int .i64 t.need] 36)) TV10.out fun g _ h2 => Below.heap_alloc x10 (.cells #[.int .i64 t.join, .int .i64 t.split, .slice (some ⟨bi, 0, none⟩) 1 1, .slice Ao no co, .slice none 0 0, .int .i64 t.role, .int .i64 t.apart, .int .i64 t.all, .int .i64 t.need] 36) g h2).more (hi' := (x10.alloc (.cells #[.int .i64 t.join, .int .i64 t.split, .slice (some ⟨bi, 0, none⟩) 1 1, .slice Ao no co, .slice none 0 0, .int .i64 t.role, .int .i64 t.apart, .int .i64 t.all, .int .i64 t.need] 36)).heap.size) (Nat.le_refl _) (by simp))
                        have LC11 := Lib.hid (lit_cells x10 #[.int .i64 t.join, .int .i64 t.split, .slice (some ⟨bi, 0, none⟩) 1 1, .slice Ao no co, .slice none 0 0, .int .i64 t.role, .int .i64 t.apart, .int .i64 t.all, .int .i64 t.need] 36)
                        have hl11 : wr.heap.size ≤ (x10.alloc (.cells #[.int .i64 t.join, .int .i64 t.split, .slice (some ⟨bi, 0, none⟩) 1 1, .slice Ao no co, .slice none 0 0, .int .i64 t.role, .int .i64 t.apart, .int .i64 t.all, .int .i64 t.need] 36)).heap.size := by have := hl10; simp; omega
                        try go_wp2_with fail
                        refine hK.out _ _ trivial (fun hHeld2 => ?_)
                        clear hK K hHeld
                        have hHeld := hHeld2
                        clear hHeld2
                        try simp only [Act.put, List.setIfInBounds_toArray, List.set_cons_zero, List.set_cons_succ]
                        generalize hy11 : (x10.alloc (.cells #[.int .i64 t.join, .int .i64 t.split, .slice (some ⟨bi, 0, none⟩) 1 1, .slice Ao no co, .slice none 0 0, .int .i64 t.role, .int .i64 t.apart, .int .i64 t.all, .int .i64 t.need] 36)) = y11 at HS11 TV11 LC11 hl11 ⊢
                        have hgy11 : x10.heap.size ≤ y11.heap.size := by rw [← hy11]; simp
                        clear hy11
                        refine wpAnyH_ready (rs := [14]) (by kernel_rfl) (by simp) ?_
                        refine AllReadyH.cons (of_drop rfl) (fun K hK => ?_) AllReadyH.nil
                        refine Eq.mpr (if_pos (by rfl)) ?_
                        refine wp_append_at _ _ _ 23 rfl (N + 1) 36 iT _ 9 120 Try.underlying23 hiT hzT0 hzT1 hzT2 rfl (by omega) vt ms.length (taskCells ms) rfl HS11.out.own ⟨x10.heap.size, 0, none⟩ 1 1 [.int .i64 t.join, .int .i64 t.split, .slice (some ⟨bi, 0, none⟩) 1 1, .slice Ao no co, .slice none 0 0, .int .i64 t.role, .int .i64 t.apart, .int .i64 t.all, .int .i64 t.need] rfl rfl LC11.out (by intro u hu; simp at hu; rcases hu with rfl | rfl | rfl | rfl | rfl | rfl | rfl | rfl | rfl <;> rfl) (by have := HML.out; unfold maxLen; omega) (by have := HML.out; omega) (by have := HS11.out.lt; omega) ?_
                        intro v' z hown hg hat
                        have hz := hg.block N HS11.out.lt (fun e => by have := (HS11.out.own.lt N e.symm).1; omega)
                        obtain ⟨_, _, hcN, _, hfN⟩ := HS11.out.facts
                        have hcz := (World.cell?_of_block (a := ⟨N, 1, none⟩) hz).trans hcN
                        have hfz := (World.frozen?_of_block (a := ⟨N, 1, none⟩) hz).trans hfN
                        obtain ⟨Az, cz, rfl⟩ := own_any hown
                        have HM := Lib.hid (HS11.out.more (m := ⟨t, .slice (some ⟨bi, 0, none⟩) 1 1, .slice Ao no co, .slice none 0 0⟩) TV11.out HOW.out (by omega) hg hown hat)
                        clear hown hg hat hz hcN hfN
                        refine hK.out _ _ trivial (fun hHeld2 => ?_)
                        clear hK K hHeld
                        have hHeld := hHeld2
                        clear hHeld2
                        try simp only [Act.put, List.setIfInBounds_toArray, List.set_cons_zero, List.set_cons_succ]
                        refine take_yes (i := 15) (v := ?_) rfl (by kernel_rfl) (by kernel_rfl) (by kernel_rfl) (fun _ _ _ h => h) (by kernel_rfl) ?_ (by assumption) ?_
                        rotate_left
                        · (intro w hSw; (try dsimp only at hSw); go_simp; try with_reducible rfl)
                        try simp only [Act.put, List.setIfInBounds_toArray, List.set_cons_zero, List.set_cons_succ]
                        refine wpAnyH_ready (rs := [16]) (by kernel_rfl) (by simp) ?_
                        refine AllReadyH.cons (of_drop rfl) (fun K hK => ?_) AllReadyH.nil
                        go_simp
                        try go_wp2_with fail
                        refine hK.out _ _ trivial (fun hHeld2 => ?_)
                        clear hK K hHeld
                        have hHeld := hHeld2
                        clear hHeld2
                        try simp only [Act.put, List.setIfInBounds_toArray, List.set_cons_zero, List.set_cons_succ]
                        refine wpAnyH_done (by kernel_rfl) ?_ _
                        refine NoPanic.normal ?_
                        go_wp2
                        go_roundw
                        case rel => exact ⟨k + 1, p10, _, _, by omega, by go_num, by simp [HML.out], by omega, HM.out⟩
                        case measure => simp [intOf]; omega
                      · skip
                        go_simp
                        (go_at_call 43; refine (pick_c R (p0 + 1) 3 _ HS7.out.rd (by omega) (by omega) (by omega)).mono ?_; rintro e x13 ⟨q7, rfl, hq7, hrd13, hu13⟩)
                        have hq7l := pick_lt hq7 (by omega)
                        have HS13 := Lib.hid (HS7.out.upd hu13 hrd13)
                        have HI13 := Lib.hid (by have := HI7.out.upd hu13 (.inr (by omega)); have h2 := hu13.size; exact this.more (hi' := x13.heap.size) (Nat.le_refl _) (by rw [h2]; exact Nat.le_refl _))
                        have HT13 := Lib.hid (by have := HT7.out.upd hu13 (.inr (by omega)); have h2 := hu13.size; exact this.more (hi' := x13.heap.size) (Nat.le_refl _) (by rw [h2]; exact Nat.le_refl _))
                        have hl13 : wr.heap.size ≤ x13.heap.size := by rw [hu13.size]; exact hl7
                        clear hrd13 hu13 hq7
                        try go_wp2_with fail
                        refine hK.out _ _ trivial (fun hHeld2 => ?_)
                        clear hK K hHeld
                        have hHeld := hHeld2
                        clear hHeld2
                        try simp only [Act.put, List.setIfInBounds_toArray, List.set_cons_zero, List.set_cons_succ]
                        refine take_yes (i := 8) (v := ?_) rfl (by kernel_rfl) (by kernel_rfl) (by kernel_rfl) (fun _ _ _ h => h) (by kernel_rfl) ?_ (by assumption) ?_
                        rotate_left
                        · (intro w hSw; (try dsimp only at hSw); go_simp; try with_reducible rfl)
                        try simp only [Act.put, List.setIfInBounds_toArray, List.set_cons_zero, List.set_cons_succ]
                        refine wpAnyH_ready (rs := [1, 12]) (by kernel_rfl) (by simp) ?_
                        refine AllReadyH.cons (of_drop rfl) (fun K hK => ?_) (AllReadyH.cons (of_drop rfl) (fun K hK => ?_) AllReadyH.nil)
                        · skip
                          obtain ⟨_, _, hcL, _, _⟩ := HS13.out.facts
                          go_simp
                          try go_wp2_with fail
                          refine hK.out _ _ trivial (fun hHeld2 => ?_)
                          clear hK K hHeld
                          have hHeld := hHeld2
                          clear hHeld2
                          try simp only [Act.put, List.setIfInBounds_toArray, List.set_cons_zero, List.set_cons_succ]
                          refine wpAnyH_ready (rs := [12]) (by kernel_rfl) (by simp) ?_
                          refine AllReadyH.cons (of_drop rfl) (fun K hK => ?_) AllReadyH.nil
                          go_simp
                          (go_at_call 90; refine (l20Task_v _ R ((p0 + 1) + 1) wr.heap.size HS13.out.rd (by omega) _ _ _ (by omega) (by omega) [x] tos 1 nt rfl hnt (by omega) (by omega) _ _ _ _ _ _ _ _ HI13.out HT13.out hRL hl13).mono ?_; rintro e x15 ⟨t, Ao, no, co, p15, rfl, hp15, htv15, hrd15, hg15⟩)
                          have HS15 := Lib.hid (HS13.out.grown hg15 hrd15)
                          have TV15 := Lib.hid htv15
                          have hl15 : wr.heap.size ≤ x15.heap.size := Nat.le_trans hl13 hg15.size
                          clear hrd15 hg15 htv15
                          try go_wp2_with fail
                          refine hK.out _ _ trivial (fun hHeld2 => ?_)
                          clear hK K hHeld
                          have hHeld := hHeld2
                          clear hHeld2
                          try simp only [Act.put, List.setIfInBounds_toArray, List.set_cons_zero, List.set_cons_succ]
                          refine wpAnyH_ready (rs := [13]) (by kernel_rfl) (by simp) ?_
                          refine AllReadyH.cons (of_drop rfl) (fun K hK => ?_) AllReadyH.nil
                          go_simp
                          have HS16 := Lib.hid (HS15.out.alloc (.cells #[.int .i64 t.join, .int .i64 t.split, .slice (some ⟨bi, 0, none⟩) 1 1, .slice Ao no co, .slice none 0 0, .int .i64 t.role, .int .i64 t.apart, .int .i64 t.all, .int .i64 t.need] 36))
                          have TV16 := Lib.hid ((TaskV.keep (w' := x15.alloc (.cells #[.int .i64 t.join, .int .i64 t.split, .slice (some ⟨bi, 0, none⟩) 1 1, .slice Ao no co, .slice none 0 0, .int .i64 t.role, .int .i64 t.apart, .int .i64 t.all, .int .i64 t.need] 36)) TV15.out fun g _ h2 => Below.heap_alloc x15 (.cells #[.int .i64 t.join, .int .i64 t.split, .slice (some ⟨bi, 0, none⟩) 1 1, .slice Ao no co, .slice none 0 0, .int .i64 t.role, .int .i64 t.apart, .int .i64 t.all, .int .i64 t.need] 36) g h2).more (hi' := (x15.alloc (.cells #[.int .i64 t.join, .int .i64 t.split, .slice (some ⟨bi, 0, none⟩) 1 1, .slice Ao no co, .slice none 0 0, .int .i64 t.role, .int .i64 t.apart, .int .i64 t.all, .int .i64 t.need] 36)).heap.size) (Nat.le_refl _) (by simp))
                          have LC16 := Lib.hid (lit_cells x15 #[.int .i64 t.join, .int .i64 t.split, .slice (some ⟨bi, 0, none⟩) 1 1, .slice Ao no co, .slice none 0 0, .int .i64 t.role, .int .i64 t.apart, .int .i64 t.all, .int .i64 t.need] 36)
                          have hl16 : wr.heap.size ≤ (x15.alloc (.cells #[.int .i64 t.join, .int .i64 t.split, .slice (some ⟨bi, 0, none⟩) 1 1, .slice Ao no co, .slice none 0 0, .int .i64 t.role, .int .i64 t.apart, .int .i64 t.all, .int .i64 t.need] 36)).heap.size := by have := hl15; simp; omega
                          try go_wp2_with fail
                          refine hK.out _ _ trivial (fun hHeld2 => ?_)
                          clear hK K hHeld
                          have hHeld := hHeld2
                          clear hHeld2
                          try simp only [Act.put, List.setIfInBounds_toArray, List.set_cons_zero, List.set_cons_succ]
                          generalize hy16 : (x15.alloc (.cells #[.int .i64 t.join, .int .i64 t.split, .slice (some ⟨bi, 0, none⟩) 1 1, .slice Ao no co, .slice none 0 0, .int .i64 t.role, .int .i64 t.apart, .int .i64 t.all, .int .i64 t.need] 36)) = y16 at HS16 TV16 LC16 hl16 ⊢
                          have hgy16 : x15.heap.size ≤ y16.heap.size := by rw [← hy16]; simp
                          clear hy16
                          refine wpAnyH_ready (rs := [14]) (by kernel_rfl) (by simp) ?_
                          refine AllReadyH.cons (of_drop rfl) (fun K hK => ?_) AllReadyH.nil
                          refine Eq.mpr (if_pos (by rfl)) ?_
                          refine wp_append_at _ _ _ 23 rfl (N + 1) 36 iT _ 9 120 Try.underlying23 hiT hzT0 hzT1 hzT2 rfl (by omega) vt ms.length (taskCells ms) rfl HS16.out.own ⟨x15.heap.size, 0, none⟩ 1 1 [.int .i64 t.join, .int .i64 t.split, .slice (some ⟨bi, 0, none⟩) 1 1, .slice Ao no co, .slice none 0 0, .int .i64 t.role, .int .i64 t.apart, .int .i64 t.all, .int .i64 t.need] rfl rfl LC16.out (by intro u hu; simp at hu; rcases hu with rfl | rfl | rfl | rfl | rfl | rfl | rfl | rfl | rfl <;> rfl) (by have := HML.out; unfold maxLen; omega) (by have := HML.out; omega) (by have := HS16.out.lt; omega) ?_
                          intro v' z hown hg hat
                          have hz := hg.block N HS16.out.lt (fun e => by have := (HS16.out.own.lt N e.symm).1; omega)
                          obtain ⟨_, _, hcN, _, hfN⟩ := HS16.out.facts
                          have hcz := (World.cell?_of_block (a := ⟨N, 1, none⟩) hz).trans hcN
                          have hfz := (World.frozen?_of_block (a := ⟨N, 1, none⟩) hz).trans hfN
                          obtain ⟨Az, cz, rfl⟩ := own_any hown
                          have HM := Lib.hid (HS16.out.more (m := ⟨t, .slice (some ⟨bi, 0, none⟩) 1 1, .slice Ao no co, .slice none 0 0⟩) TV16.out HOW.out (by omega) hg hown hat)
                          clear hown hg hat hz hcN hfN
                          refine hK.out _ _ trivial (fun hHeld2 => ?_)
                          clear hK K hHeld
                          have hHeld := hHeld2
                          clear hHeld2
                          try simp only [Act.put, List.setIfInBounds_toArray, List.set_cons_zero, List.set_cons_succ]
                          refine take_yes (i := 15) (v := ?_) rfl (by kernel_rfl) (by kernel_rfl) (by kernel_rfl) (fun _ _ _ h => h) (by kernel_rfl) ?_ (by assumption) ?_
                          rotate_left
                          · (intro w hSw; (try dsimp only at hSw); go_simp; try with_reducible rfl)
                          try simp only [Act.put, List.setIfInBounds_toArray, List.set_cons_zero, List.set_cons_succ]
                          refine wpAnyH_ready (rs := [16]) (by kernel_rfl) (by simp) ?_
                          refine AllReadyH.cons (of_drop rfl) (fun K hK => ?_) AllReadyH.nil
                          go_simp
                          try go_wp2_with fail
                          refine hK.out _ _ trivial (fun hHeld2 => ?_)
                          clear hK K hHeld
                          have hHeld := hHeld2
                          clear hHeld2
                          try simp only [Act.put, List.setIfInBounds_toArray, List.set_cons_zero, List.set_cons_succ]
                          refine wpAnyH_done (by kernel_rfl) ?_ _
                          refine NoPanic.normal ?_
                          go_wp2
                          go_roundw
                          case rel => exact ⟨k + 1, p15, _, _, by omega, by go_num, by simp [HML.out], by omega, HM.out⟩
                          case measure => simp [intOf]; omega
                        · skip
                          go_simp
                          (go_at_call 90; refine (l20Task_v _ R ((p0 + 1) + 1) wr.heap.size HS13.out.rd (by omega) _ _ _ (by omega) (by omega) [x] tos 1 nt rfl hnt (by omega) (by omega) _ _ _ _ _ _ _ _ HI13.out HT13.out hRL hl13).mono ?_; rintro e x18 ⟨t, Ao, no, co, p18, rfl, hp18, htv18, hrd18, hg18⟩)
                          have HS18 := Lib.hid (HS13.out.grown hg18 hrd18)
                          have TV18 := Lib.hid htv18
                          have hl18 : wr.heap.size ≤ x18.heap.size := Nat.le_trans hl13 hg18.size
                          clear hrd18 hg18 htv18
                          try go_wp2_with fail
                          refine hK.out _ _ trivial (fun hHeld2 => ?_)
                          clear hK K hHeld
                          have hHeld := hHeld2
                          clear hHeld2
                          try simp only [Act.put, List.setIfInBounds_toArray, List.set_cons_zero, List.set_cons_succ]
                          refine wpAnyH_ready (rs := [1, 13]) (by kernel_rfl) (by simp) ?_
                          refine AllReadyH.cons (of_drop rfl) (fun K hK => ?_) (AllReadyH.cons (of_drop rfl) (fun K hK => ?_) AllReadyH.nil)
                          · skip
                            obtain ⟨_, _, hcL, _, _⟩ := HS18.out.facts
                            go_simp
                            try go_wp2_with fail
                            refine hK.out _ _ trivial (fun hHeld2 => ?_)
                            clear hK K hHeld
                            have hHeld := hHeld2
                            clear hHeld2
                            try simp only [Act.put, List.setIfInBounds_toArray, List.set_cons_zero, List.set_cons_succ]
                            refine wpAnyH_ready (rs := [13]) (by kernel_rfl) (by simp) ?_
                            refine AllReadyH.cons (of_drop rfl) (fun K hK => ?_) AllReadyH.nil
                            go_simp
                            have HS20 := Lib.hid (HS18.out.alloc (.cells #[.int .i64 t.join, .int .i64 t.split, .slice (some ⟨bi, 0, none⟩) 1 1, .slice Ao no co, .slice none 0 0, .int .i64 t.role, .int .i64 t.apart, .int .i64 t.all, .int .i64 t.need] 36))
                            have TV20 := Lib.hid ((TaskV.keep (w' := x18.alloc (.cells #[.int .i64 t.join, .int .i64 t.split, .slice (some ⟨bi, 0, none⟩) 1 1, .slice Ao no co, .slice none 0 0, .int .i64 t.role, .int .i64 t.apart, .int .i64 t.all, .int .i64 t.need] 36)) TV18.out fun g _ h2 => Below.heap_alloc x18 (.cells #[.int .i64 t.join, .int .i64 t.split, .slice (some ⟨bi, 0, none⟩) 1 1, .slice Ao no co, .slice none 0 0, .int .i64 t.role, .int .i64 t.apart, .int .i64 t.all, .int .i64 t.need] 36) g h2).more (hi' := (x18.alloc (.cells #[.int .i64 t.join, .int .i64 t.split, .slice (some ⟨bi, 0, none⟩) 1 1, .slice Ao no co, .slice none 0 0, .int .i64 t.role, .int .i64 t.apart, .int .i64 t.all, .int .i64 t.need] 36)).heap.size) (Nat.le_refl _) (by simp))
                            have LC20 := Lib.hid (lit_cells x18 #[.int .i64 t.join, .int .i64 t.split, .slice (some ⟨bi, 0, none⟩) 1 1, .slice Ao no co, .slice none 0 0, .int .i64 t.role, .int .i64 t.apart, .int .i64 t.all, .int .i64 t.need] 36)
                            have hl20 : wr.heap.size ≤ (x18.alloc (.cells #[.int .i64 t.join, .int .i64 t.split, .slice (some ⟨bi, 0, none⟩) 1 1, .slice Ao no co, .slice none 0 0, .int .i64 t.role, .int .i64 t.apart, .int .i64 t.all, .int .i64 t.need] 36)).heap.size := by have := hl18; simp; omega
                            try go_wp2_with fail
                            refine hK.out _ _ trivial (fun hHeld2 => ?_)
                            clear hK K hHeld
                            have hHeld := hHeld2
                            clear hHeld2
                            try simp only [Act.put, List.setIfInBounds_toArray, List.set_cons_zero, List.set_cons_succ]
                            generalize hy20 : (x18.alloc (.cells #[.int .i64 t.join, .int .i64 t.split, .slice (some ⟨bi, 0, none⟩) 1 1, .slice Ao no co, .slice none 0 0, .int .i64 t.role, .int .i64 t.apart, .int .i64 t.all, .int .i64 t.need] 36)) = y20 at HS20 TV20 LC20 hl20 ⊢
                            have hgy20 : x18.heap.size ≤ y20.heap.size := by rw [← hy20]; simp
                            clear hy20
                            refine wpAnyH_ready (rs := [14]) (by kernel_rfl) (by simp) ?_
                            refine AllReadyH.cons (of_drop rfl) (fun K hK => ?_) AllReadyH.nil
                            refine Eq.mpr (if_pos (by rfl)) ?_
                            refine wp_append_at _ _ _ 23 rfl (N + 1) 36 iT _ 9 120 Try.underlying23 hiT hzT0 hzT1 hzT2 rfl (by omega) vt ms.length (taskCells ms) rfl HS20.out.own ⟨x18.heap.size, 0, none⟩ 1 1 [.int .i64 t.join, .int .i64 t.split, .slice (some ⟨bi, 0, none⟩) 1 1, .slice Ao no co, .slice none 0 0, .int .i64 t.role, .int .i64 t.apart, .int .i64 t.all, .int .i64 t.need] rfl rfl LC20.out (by intro u hu; simp at hu; rcases hu with rfl | rfl | rfl | rfl | rfl | rfl | rfl | rfl | rfl <;> rfl) (by have := HML.out; unfold maxLen; omega) (by have := HML.out; omega) (by have := HS20.out.lt; omega) ?_
                            intro v' z hown hg hat
                            have hz := hg.block N HS20.out.lt (fun e => by have := (HS20.out.own.lt N e.symm).1; omega)
                            obtain ⟨_, _, hcN, _, hfN⟩ := HS20.out.facts
                            have hcz := (World.cell?_of_block (a := ⟨N, 1, none⟩) hz).trans hcN
                            have hfz := (World.frozen?_of_block (a := ⟨N, 1, none⟩) hz).trans hfN
                            obtain ⟨Az, cz, rfl⟩ := own_any hown
                            have HM := Lib.hid (HS20.out.more (m := ⟨t, .slice (some ⟨bi, 0, none⟩) 1 1, .slice Ao no co, .slice none 0 0⟩) TV20.out HOW.out (by omega) hg hown hat)
                            clear hown hg hat hz hcN hfN
                            refine hK.out _ _ trivial (fun hHeld2 => ?_)
                            clear hK K hHeld
                            have hHeld := hHeld2
                            clear hHeld2
                            try simp only [Act.put, List.setIfInBounds_toArray, List.set_cons_zero, List.set_cons_succ]
                            refine take_yes (i := 15) (v := ?_) rfl (by kernel_rfl) (by kernel_rfl) (by kernel_rfl) (fun _ _ _ h => h) (by kernel_rfl) ?_ (by assumption) ?_
                            rotate_left
                            · (intro w hSw; (try dsimp only at hSw); go_simp; try with_reducible rfl)
                            try simp only [Act.put, List.setIfInBounds_toArray, List.set_cons_zero, List.set_cons_succ]
                            refine wpAnyH_ready (rs := [16]) (by kernel_rfl) (by simp) ?_
                            refine AllReadyH.cons (of_drop rfl) (fun K hK => ?_) AllReadyH.nil
                            go_simp
                            try go_wp2_with fail
                            refine hK.out _ _ trivial (fun hHeld2 => ?_)
                            clear hK K hHeld
                            have hHeld := hHeld2
                            clear hHeld2
                            try simp only [Act.put, List.setIfInBounds_toArray, List.set_cons_zero, List.set_cons_succ]
                            refine wpAnyH_done (by kernel_rfl) ?_ _
                            refine NoPanic.normal ?_
                            go_wp2
                            go_roundw
                            case rel => exact ⟨k + 1, p18, _, _, by omega, by go_num, by simp [HML.out], by omega, HM.out⟩
                            case measure => simp [intOf]; omega
                          · skip
                            go_simp
                            have HS22 := Lib.hid (HS18.out.alloc (.cells #[.int .i64 t.join, .int .i64 t.split, .slice (some ⟨bi, 0, none⟩) 1 1, .slice Ao no co, .slice none 0 0, .int .i64 t.role, .int .i64 t.apart, .int .i64 t.all, .int .i64 t.need] 36))
                            have TV22 := Lib.hid ((TaskV.keep (w' := x18.alloc (.cells #[.int .i64 t.join, .int .i64 t.split, .slice (some ⟨bi, 0, none⟩) 1 1, .slice Ao no co, .slice none 0 0, .int .i64 t.role, .int .i64 t.apart, .int .i64 t.all, .int .i64 t.need] 36)) TV18.out fun g _ h2 => Below.heap_alloc x18 (.cells #[.int .i64 t.join, .int .i64 t.split, .slice (some ⟨bi, 0, none⟩) 1 1, .slice Ao no co, .slice none 0 0, .int .i64 t.role, .int .i64 t.apart, .int .i64 t.all, .int .i64 t.need] 36) g h2).more (hi' := (x18.alloc (.cells #[.int .i64 t.join, .int .i64 t.split, .slice (some ⟨bi, 0, none⟩) 1 1, .slice Ao no co, .slice none 0 0, .int .i64 t.role, .int .i64 t.apart, .int .i64 t.all, .int .i64 t.need] 36)).heap.size) (Nat.le_refl _) (by simp))
                            have LC22 := Lib.hid (lit_cells x18 #[.int .i64 t.join, .int .i64 t.split, .slice (some ⟨bi, 0, none⟩) 1 1, .slice Ao no co, .slice none 0 0, .int .i64 t.role, .int .i64 t.apart, .int .i64 t.all, .int .i64 t.need] 36)
                            have hl22 : wr.heap.size ≤ (x18.alloc (.cells #[.int .i64 t.join, .int .i64 t.split, .slice (some ⟨bi, 0, none⟩) 1 1, .slice Ao no co, .slice none 0 0, .int .i64 t.role, .int .i64 t.apart, .int .i64 t.all, .int .i64 t.need] 36)).heap.size := by have := hl18; simp; omega
                            try go_wp2_with fail
                            refine hK.out _ _ trivial (fun hHeld2 => ?_)
                            clear hK K hHeld
                            have hHeld := hHeld2
                            clear hHeld2
                            try simp only [Act.put, List.setIfInBounds_toArray, List.set_cons_zero, List.set_cons_succ]
                            generalize hy22 : (x18.alloc (.cells #[.int .i64 t.join, .int .i64 t.split, .slice (some ⟨bi, 0, none⟩) 1 1, .slice Ao no co, .slice none 0 0, .int .i64 t.role, .int .i64 t.apart, .int .i64 t.all, .int .i64 t.need] 36)) = y22 at HS22 TV22 LC22 hl22 ⊢
                            have hgy22 : x18.heap.size ≤ y22.heap.size := by rw [← hy22]; simp
                            clear hy22
                            refine wpAnyH_ready (rs := [1]) (by kernel_rfl) (by simp) ?_
                            refine AllReadyH.cons (of_drop rfl) (fun K hK => ?_) AllReadyH.nil
                            obtain ⟨_, _, hcL, _, _⟩ := HS22.out.facts
                            go_simp
                            try go_wp2_with fail
                            refine hK.out _ _ trivial (fun hHeld2 => ?_)
                            clear hK K hHeld
                            have hHeld := hHeld2
                            clear hHeld2
                            try simp only [Act.put, List.setIfInBounds_toArray, List.set_cons_zero, List.set_cons_succ]
                            refine wpAnyH_ready (rs := [14]) (by kernel_rfl) (by simp) ?_
                            refine AllReadyH.cons (of_drop rfl) (fun K hK => ?_) AllReadyH.nil
                            refine Eq.mpr (if_pos (by rfl)) ?_
                            refine wp_append_at _ _ _ 23 rfl (N + 1) 36 iT _ 9 120 Try.underlying23 hiT hzT0 hzT1 hzT2 rfl (by omega) vt ms.length (taskCells ms) rfl HS22.out.own ⟨x18.heap.size, 0, none⟩ 1 1 [.int .i64 t.join, .int .i64 t.split, .slice (some ⟨bi, 0, none⟩) 1 1, .slice Ao no co, .slice none 0 0, .int .i64 t.role, .int .i64 t.apart, .int .i64 t.all, .int .i64 t.need] rfl rfl LC22.out (by intro u hu; simp at hu; rcases hu with rfl | rfl | rfl | rfl | rfl | rfl | rfl | rfl | rfl <;> rfl) (by have := HML.out; unfold maxLen; omega) (by have := HML.out; omega) (by have := HS22.out.lt; omega) ?_
                            intro v' z hown hg hat
                            have hz := hg.block N HS22.out.lt (fun e => by have := (HS22.out.own.lt N e.symm).1; omega)
                            obtain ⟨_, _, hcN, _, hfN⟩ := HS22.out.facts
                            have hcz := (World.cell?_of_block (a := ⟨N, 1, none⟩) hz).trans hcN
                            have hfz := (World.frozen?_of_block (a := ⟨N, 1, none⟩) hz).trans hfN
                            obtain ⟨Az, cz, rfl⟩ := own_any hown
                            have HM := Lib.hid (HS22.out.more (m := ⟨t, .slice (some ⟨bi, 0, none⟩) 1 1, .slice Ao no co, .slice none 0 0⟩) TV22.out HOW.out (by omega) hg hown hat)
                            clear hown hg hat hz hcN hfN
                            refine hK.out _ _ trivial (fun hHeld2 => ?_)
                            clear hK K hHeld
                            have hHeld := hHeld2
                            clear hHeld2
                            try simp only [Act.put, List.setIfInBounds_toArray, List.set_cons_zero, List.set_cons_succ]
                            refine take_yes (i := 15) (v := ?_) rfl (by kernel_rfl) (by kernel_rfl) (by kernel_rfl) (fun _ _ _ h => h) (by kernel_rfl) ?_ (by assumption) ?_
                            rotate_left
                            · (intro w hSw; (try dsimp only at hSw); go_simp; try with_reducible rfl)
                            try simp only [Act.put, List.setIfInBounds_toArray, List.set_cons_zero, List.set_cons_succ]
                            refine wpAnyH_ready (rs := [16]) (by kernel_rfl) (by simp) ?_
                            refine AllReadyH.cons (of_drop rfl) (fun K hK => ?_) AllReadyH.nil
                            go_simp
                            try go_wp2_with fail
                            refine hK.out _ _ trivial (fun hHeld2 => ?_)
                            clear hK K hHeld
                            have hHeld := hHeld2
                            clear hHeld2
                            try simp only [Act.put, List.setIfInBounds_toArray, List.set_cons_zero, List.set_cons_succ]
                            refine wpAnyH_done (by kernel_rfl) ?_ _
                            refine NoPanic.normal ?_
                            go_wp2
                            go_roundw
                            case rel => exact ⟨k + 1, p18, _, _, by omega, by go_num, by simp [HML.out], by omega, HM.out⟩
                            case measure => simp [intOf]; omega
              · have hkk : ¬ ((k : Int) < 1 + (r6 : Int)) := by omega
                obtain ⟨g, cg, hvt, hkm⟩ := own_formN HS.out.own (by have := HML.out; omega)
                subst hvt
                obtain ⟨⟨hb0, hb1, hf0, hf1⟩, hc0, hc1, _, _⟩ := HS.out.facts
                have hN0 := HS.out.hN
                go_wp2
                refine bodyPost_ret (v := .agg #[.int .i64 (3 + (r5 : Int)), .slice (some ⟨g, 0, none⟩) ms.length cg]) (by simp [results, Try.results80, go_sem, hb0, hb1]) rfl ?_
                have HF := HS.out.fin rfl hkm
                exact NetOut.of _ _ _ _ _ _ (by have := HML.out; omega) (by omega) HF.1 HF.2.1 HF.2.2
end Go.Proofs.Ytkcbghaadjhceaa
