/- A law over what is drawn of a code: what a task clears is clear, and where it leads to there is one more. -/
import Derived.Test.YtkcbghaadjhceaaDrawF
import Derived.Test.YtkcbghaadjhceaaNBT
import Derived.Test.YtkcbghaadjhceaaFirI
import Derived.Test.YtkcbghaadjhceaaFirS
import Derived.Test.YtkcbghaadjhceaaReader
import Derived.BigQuiet
import Derived.Deep.DeepCutAuto
namespace Go.Proofs.Ytkcbghaadjhceaa
open Go.RowKit
set_option linter.unusedVariables false
set_option linter.unusedSimpArgs false

theorem fir_facts {n : NNet} {ys ds : List Int} (hok : mrkOk n ys = true) {tn : Nat} {t : NTask} (ht : n.tasks[tn]? = some t) (hd : datOk ds = true) :
    firB n ys (tn : Int) ds = fitN ys t.clear (splL t ds) ys.length ∧ (firB n ys (tn : Int) ds = true → (firL n ys (tn : Int) ds).length = ys.length ∧ ∀ p : Nat, (firL n ys (tn : Int) ds).getD p 0 = giveAt ys t.clear (splL t ds) p) ∧ (firB n ys (tn : Int) ds = false → firL n ys (tn : Int) ds = []) := by
  have hp := mrkOk_parts hok
  have hlt := lt_of_some ht
  have ha := ask_yes hok (inB_iff.2 ⟨by omega, by omega⟩ : inB (tn : Int) 0 ((n.tasks.length : Int) - 1) = true) hd
  refine ⟨?_, fun h => ⟨by rw [firL_yes h, gaveL_length], fun p => by rw [firL_yes h, gave_at hok ht ds p]⟩, fun h => firL_no h⟩
  rw [fit_fir ha hok ht, ← hp.2.1]; simp

set_option maxRecDepth 100000 in
set_option maxHeartbeats 4000000 in
theorem firGive_walk {zs : List Int} {A : Option Addr} {b off c : Nat} (w : World) (hV : Row w 0 w.heap.size A b off (bytesC zs)) (hz : ∀ x ∈ zs, 0 ≤ x ∧ x ≤ 255) (hm : zs.length ≤ maxLen) (hcap : zs.length ≤ c) :
    Calls Try.prog 4 #[.slice A zs.length c] w fun e w' => e = .returned (.bool true) ∧ Below w.heap.size w w' := by
  have hm0 := hm
  have HZ := Lib.hid hz
  clear hz
  unfold maxLen at hm
  go_enter Try.func4, Try.ntmps4
  by_cases hbig : 1048576 < zs.length
  · go_wp2; go_ret; exact ⟨rfl, Below.refl _ _⟩
  · go_wp2_with fail
    refine (drawFirGive_c zs A b off c w hV HZ.out hm0 hcap).mono ?_
    rintro e w1 ⟨P, b1, k, c1, n, A9, b9, o9, c9, ys, x, Ad, bd, od, cd, ds, rfl, hyl, hyc, hyb, hx1, hx2, hdl, hrow, hrowd, hg, hb⟩
    have HN1 := Lib.hid (NB.start hg hb)
    have HY1 := Lib.hid (hrow.alloc (Nat.le_refl _) (.cells #[.int .i64 P, .slice (some ⟨b1, 0, none⟩) k c1] 25))
    have HE1 := Lib.hid (hrowd.alloc (Nat.le_refl _) (.cells #[.int .i64 P, .slice (some ⟨b1, 0, none⟩) k c1] 25))
    have HSM := Lib.hid hg.1
    have HPK := Lib.hid (And.intro hg.2.1 hg.2.2.1)
    clear hg hb hrow hrowd hyb hyc
    generalize hBB : w1.heap.size = B at HN1 HY1 HE1
    have hym : ys.length ≤ maxLen := by unfold maxLen; omega
    have hdm : ds.length ≤ maxLen := by unfold maxLen; omega
    have cB0 := HN1.out.cell0
    have cB1 := HN1.out.cell1
    go_wp2_with fail
    refine (implFirGive_c n _ ys ds _ _ _ _ _ _ _ _ _ _ _ _ _ _ x _ HN1.out.nv (Nat.le_of_lt HN1.out.lt) (small_out HSM.out) HY1.out (Nat.le_of_lt HN1.out.lt) hym HE1.out (Nat.le_of_lt HN1.out.lt) hdm).mono ?_
    rintro e w2 ⟨v2, rfl, hM2, hb2⟩
    have HN2 := Lib.hid (HN1.out.below hb2)
    have HY2 := Lib.hid (HY1.out.below hb2 (Nat.le_of_lt HN1.out.lt))
    have HE2 := Lib.hid (HE1.out.below hb2 (Nat.le_of_lt HN1.out.lt))
    obtain ⟨A3, b3, c3, rfl, hr3⟩ := hM2.row
    have HX2 := Lib.hid (hr3.more (Nat.zero_le _) (Nat.le_refl _))
    clear hb2 hM2 hr3 cB0 cB1
    have cC0 := HN2.out.cell0
    have cC1 := HN2.out.cell1
    go_wp2_with fail
    refine (specFirGive_c n _ ys ds _ _ _ _ _ _ _ _ _ _ _ _ _ _ x w2 HN2.out.nv (Nat.le_of_lt HN2.out.lt) (small_out HSM.out) HY2.out (Nat.le_of_lt HN2.out.lt) hym HE2.out (Nat.le_of_lt HN2.out.lt) hdm).mono ?_
    rintro e w3 ⟨v3, rfl, hM3, hb3⟩
    have HN3 := Lib.hid (HN2.out.below hb3)
    have HY3 := Lib.hid (HY2.out.below hb3 (Nat.le_of_lt HN2.out.lt))
    have HE3 := Lib.hid (HE2.out.below hb3 (Nat.le_of_lt HN2.out.lt))
    have HX3 := Lib.hid (HX2.out.below hb3 (Nat.le_refl _))
    obtain ⟨A4, b4, c4, rfl, hr4⟩ := hM3.row
    have hxl := firL_len n ys x ds
    have hxm : (firL n ys x ds).length ≤ maxLen := by unfold maxLen; omega
    have HGB := guInts_c (firL n ys x ds) (firL n ys x ds) _ _ _ _ A3 A4 b3 0 c3 b4 0 c4 w3 HX3.out hr4 hxm hxm
    rw [decide_eq_true rfl] at HGB
    replace HGB := Lib.hid HGB
    have hs23 := hb3.size
    clear hb3 hM3 hr4 cC0 cC1
    generalize hFB : firB n ys x ds = okb
    generalize hFL : firL n ys x ds = xs at *
    have HFB := Lib.hid hFB
    have HFL := Lib.hid hFL
    clear hFB hFL
    have hoo : (okb != okb) = false := by simp
    go_wp2_with fail
    refine HGB.out.mono ?_
    rintro e w4 ⟨rfl, hb4⟩
    have HN4 := Lib.hid (HN3.out.below hb4)
    have HY4 := Lib.hid (HY3.out.below hb4 (Nat.le_of_lt HN3.out.lt))
    have HE4 := Lib.hid (HE3.out.below hb4 (Nat.le_of_lt HN3.out.lt))
    have HX4 := Lib.hid (HX3.out.below hb4 hs23)
    have hs34 := hb4.size
    clear hb4 HGB
    have cD0 := HN4.out.cell0
    have cD1 := HN4.out.cell1
    go_wp2_with fail
    refine (specMrkOk_c n _ ys _ _ _ _ _ _ _ _ w4 HN4.out.nv (Nat.le_of_lt HN4.out.lt) HY4.out (Nat.le_of_lt HN4.out.lt) hym).mono ?_
    rintro e w5 ⟨rfl, hb5⟩
    have HN5 := Lib.hid (HN4.out.below hb5)
    have HY5 := Lib.hid (HY4.out.below hb5 (Nat.le_of_lt HN4.out.lt))
    have HE5 := Lib.hid (HE4.out.below hb5 (Nat.le_of_lt HN4.out.lt))
    have HX5 := Lib.hid (HX4.out.below hb5 (by omega))
    have hs45 := hb5.size
    clear hb5 cD0 cD1 HN1 HN2 HN3 HY1 HY2 HY3 HX2 HX3 HE1 HE2 HE3
    have cE0 := HN5.out.cell0
    have cE1 := HN5.out.cell1
    have noask : firAsk n ys x ds = false → okb = false ∧ xs = [] := fun h => ⟨by rw [← HFB.out]; exact firB_no h, by rw [← HFL.out]; exact firL_no (firB_no h)⟩
    have NOASK := Lib.hid noask
    clear noask
    generalize hok : mrkOk n ys = ok
    cases ok with
    | false =>
      obtain ⟨rfl, rfl⟩ := NOASK.out (ask_no1 hok)
      clear hok
      go_wp2_with fail
      refine (guOk_c w5).mono ?_
      rintro e w9 ⟨rfl, hbk⟩
      have HBX := Lib.hid (HN5.out.below hbk).bl
      clear hbk
      go_wp2
      go_ret
      exact ⟨rfl, HBX.out⟩
    | true =>
      have HOK := Lib.hid hok
      clear hok
      by_cases hx0 : x < 0
      · obtain ⟨rfl, rfl⟩ := NOASK.out (ask_no2 (Bool.eq_false_iff.2 fun h => by have := (inB_iff.1 h).1; omega))
        go_wp2_with fail
        refine (guOk_c w5).mono ?_
        rintro e w9 ⟨rfl, hbk⟩
        have HBX := Lib.hid (HN5.out.below hbk).bl
        clear hbk
        go_wp2
        go_ret
        exact ⟨rfl, HBX.out⟩
      · obtain ⟨tn, rfl⟩ := Int.eq_ofNat_of_zero_le (show 0 ≤ x by omega)
        have hx0a : decide ((tn : Int) < 0) = false := decide_eq_false hx0
        have hbg1 : decide ((1048576 : Int) < (zs.length : Int)) = false := decide_eq_false (by omega)
        by_cases hxk : tn < k
        · have hxk1 : ¬ ((k : Int) ≤ (tn : Int)) := by omega
          have hx0b : decide (k ≤ tn) = false := decide_eq_false (by omega)
          have hxk2 : (tn : Int) < (k : Int) := by omega
          go_wp2_with fail
          refine (specDatOk_c ds _ _ _ _ _ _ w5 HE5.out hdm).mono ?_
          rintro e w6 ⟨rfl, rfl⟩
          generalize hdo : datOk ds = dd
          cases dd with
          | false =>
            obtain ⟨rfl, rfl⟩ := NOASK.out (ask_no3 hdo)
            clear hdo
            go_wp2_with fail
            refine (guOk_c w5).mono ?_
            rintro e w9 ⟨rfl, hbk⟩
            have HBX := Lib.hid (HN5.out.below hbk).bl
            clear hbk
            go_wp2
            go_ret
            exact ⟨rfl, HBX.out⟩
          | true =>
            obtain ⟨t, Ai, bi, oi, ci, Ao, bo, oo, co, Ac, bc, oc, cc, ht, hri, hro, hrc, htv, d0, d1, d2, d3, d4, d5, d6, d7, d8⟩ := HN5.out.task (i := tn) (by rw [HPK.out.2]; exact hxk)
            obtain ⟨hFI, hYES, hNO⟩ := fir_facts HOK.out ht hdo
            rw [HFB.out] at hFI hYES hNO
            rw [HFL.out] at hYES hNO
            have hPN : (ys.length : Int) = P := by rw [(mrkOk_parts HOK.out).2.1, HPK.out.1]
            have hfew := (mrkOk_parts HOK.out).2.2
            have hcm : t.clear.length ≤ maxLen := by have := (HSM.out.2.2.2.2 t (List.mem_of_getElem? ht)).1.2.2; unfold maxLen; omega
            have hol : t.out.length ≤ 1048576 := small_out HSM.out t (List.mem_of_getElem? ht)
            have HFI := Lib.hid hFI
            have HYES := Lib.hid hYES
            have HNO := Lib.hid hNO
            have HFEW := Lib.hid hfew
            have HRC := Lib.hid hrc
            have HTV := Lib.hid htv
            subst hPN
            clear hFI hYES hNO hfew ht hri hro hrc htv hdo
            go_wp2_with fail
            refine (implSplTo_c t _ _ _ ds _ _ _ _ Ad bd od cd w5 HTV.out (Nat.le_of_lt HN5.out.lt) hol HE5.out (Nat.le_of_lt HN5.out.lt) hdm).mono ?_
            rintro e w7 ⟨v7, rfl, hM7, hb7⟩
            obtain ⟨A7, b7, c7, rfl, hr7⟩ := hM7.row
            have HT7 := Lib.hid hr7
            have HN7 := Lib.hid (HN5.out.below hb7)
            have HY7 := Lib.hid (HY5.out.below hb7 (Nat.le_of_lt HN5.out.lt))
            have HX7 := Lib.hid (HX5.out.below hb7 (by omega))
            have HC7 := Lib.hid (HRC.out.below hb7 (Nat.le_of_lt HN5.out.lt))
            have e4 : w7.cell? ⟨b1, tn * 9 + 4, none⟩ = some (.slice Ac t.clear.length cc) := (hb7.cell (p := ⟨b1, tn * 9 + 4, none⟩) (World.block_lt_of_cell? w5 ⟨b1, tn * 9 + 4, none⟩ d4)).trans d4
            have htm : (splL t ds).length ≤ maxLen := by have := splL_len t ds hol; unfold maxLen; omega
            clear hb7 hM7 hr7 d0 d1 d2 d3 d4 d5 d6 d7 d8 cE0 cE1
            have g0 := HN7.out.cell0
            have g1 := HN7.out.cell1
            generalize splL t ds = qs at *
            have hend : True := trivial
            cases okb with
            | true =>
              have HXL := Lib.hid (HYES.out rfl).1
              have HXP := Lib.hid (HYES.out rfl).2
              go_wp2
              go_loop [12, 13] (fun a i => ∃ p : Nat, p ≤ ys.length ∧ i = .int .i64 p ∧ a = .bool (fitN ys t.clear qs p)) (fun _ i => ys.length - (intOf i).toNat)
              case atStart => exact ⟨0, Nat.zero_le _, rfl, rfl⟩
              case round =>
                obtain ⟨p, hp, rfl, rfl⟩ := hrel
                have HFS := Lib.hid (fitN_succ ys t.clear qs p)
                have hgu : giveAt ys t.clear qs p = (if (p : Int) ∈ t.clear then 0 else ys.getD p 0) + (if (p : Int) ∈ qs then 1 else 0) := rfl
                have HGU := Lib.hid hgu
                clear hgu
                by_cases hlt : p < ys.length
                · have hlt1 : (p : Int) < (ys.length : Int) := by omega
                  obtain ⟨rfl, _, _, y, hy, hcy, _⟩ := HY7.out.int hlt
                  have hfy := few_getD HFEW.out p
                  rw [getD_of hy] at hfy
                  obtain ⟨hy0, hy4⟩ := hfy
                  have HYE := Lib.hid (getD_of (d := 0) hy)
                  clear hy
                  have hlx : p < xs.length := by rw [HXL.out]; exact hlt
                  have hlx1 : (p : Int) < (xs.length : Int) := by omega
                  obtain ⟨rfl, _, _, z, hz, hcz, _⟩ := HX7.out.int hlx
                  rw [Nat.zero_add] at hcz
                  have hzg := HXP.out p
                  rw [getD_of hz] at hzg
                  have HZG := Lib.hid hzg
                  clear hz hzg
                  generalize hfb : fitN ys t.clear qs p = fb at HFS ⊢
                  clear hfb
                  by_cases hcl : (p : Int) ∈ t.clear
                  · skip
                    by_cases hqs : (p : Int) ∈ qs
                    · have HGA := Lib.hid (show giveAt ys t.clear qs p = 1 by rw [HGU.out, if_pos hcl, if_pos hqs]; rfl)
                      obtain rfl : z = 1 := by rw [HZG.out, HGA.out]
                      have hcd : decide ((p : Int) ∈ t.clear) = true := decide_eq_true hcl
                      have hqd : decide ((p : Int) ∈ qs) = true := decide_eq_true hqs
                      have HC9 := guHas_c t.clear _ _ Ac bc oc cc (p : Int) w7 HC7.out hcm
                      rw [hcd] at HC9
                      replace HC9 := Lib.hid HC9
                      have HQ9 := guHas_c qs _ _ A7 b7 0 c7 (p : Int) w7 HT7.out htm
                      rw [hqd] at HQ9
                      replace HQ9 := Lib.hid HQ9
                      clear hcd hqd hcl hqs
                      have HD := Lib.hid (show decide ((1 : Int) ≤ 4) = true from rfl)
                      cases fb with
                      | true =>
                        go_wp2_with fail
                        refine HC9.out.mono ?_
                        rintro e w' ⟨rfl, rfl⟩
                        go_wp2_with fail
                        refine HQ9.out.mono ?_
                        rintro e w' ⟨rfl, rfl⟩
                        go_wp2
                        go_round
                        case rel => exact ⟨p + 1, by omega, by go_num, by rw [HFS.out, HGA.out, HD.out]; rfl⟩
                        case measure => simp [intOf]; omega
                      | false =>
                        go_wp2_with fail
                        refine HC9.out.mono ?_
                        rintro e w' ⟨rfl, rfl⟩
                        go_wp2_with fail
                        refine HQ9.out.mono ?_
                        rintro e w' ⟨rfl, rfl⟩
                        go_wp2
                        go_round
                        case rel => exact ⟨p + 1, by omega, by go_num, by rw [HFS.out, HGA.out, HD.out]; rfl⟩
                        case measure => simp [intOf]; omega
                    · have HGA := Lib.hid (show giveAt ys t.clear qs p = 0 by rw [HGU.out, if_pos hcl, if_neg hqs]; rfl)
                      obtain rfl : z = 0 := by rw [HZG.out, HGA.out]
                      have hcd : decide ((p : Int) ∈ t.clear) = true := decide_eq_true hcl
                      have hqd : decide ((p : Int) ∈ qs) = false := decide_eq_false hqs
                      have HC9 := guHas_c t.clear _ _ Ac bc oc cc (p : Int) w7 HC7.out hcm
                      rw [hcd] at HC9
                      replace HC9 := Lib.hid HC9
                      have HQ9 := guHas_c qs _ _ A7 b7 0 c7 (p : Int) w7 HT7.out htm
                      rw [hqd] at HQ9
                      replace HQ9 := Lib.hid HQ9
                      clear hcd hqd hcl hqs
                      have HD := Lib.hid (show decide ((0 : Int) ≤ 4) = true from rfl)
                      cases fb with
                      | true =>
                        go_wp2_with fail
                        refine HC9.out.mono ?_
                        rintro e w' ⟨rfl, rfl⟩
                        go_wp2_with fail
                        refine HQ9.out.mono ?_
                        rintro e w' ⟨rfl, rfl⟩
                        go_wp2
                        go_round
                        case rel => exact ⟨p + 1, by omega, by go_num, by rw [HFS.out, HGA.out, HD.out]; rfl⟩
                        case measure => simp [intOf]; omega
                      | false =>
                        go_wp2_with fail
                        refine HC9.out.mono ?_
                        rintro e w' ⟨rfl, rfl⟩
                        go_wp2_with fail
                        refine HQ9.out.mono ?_
                        rintro e w' ⟨rfl, rfl⟩
                        go_wp2
                        go_round
                        case rel => exact ⟨p + 1, by omega, by go_num, by rw [HFS.out, HGA.out, HD.out]; rfl⟩
                        case measure => simp [intOf]; omega
                  · skip
                    by_cases hqs : (p : Int) ∈ qs
                    · have HGA := Lib.hid (show giveAt ys t.clear qs p = y + 1 by rw [HGU.out, if_neg hcl, if_pos hqs, HYE.out])
                      obtain rfl : z = y + 1 := by rw [HZG.out, HGA.out]
                      have hcd : decide ((p : Int) ∈ t.clear) = false := decide_eq_false hcl
                      have hqd : decide ((p : Int) ∈ qs) = true := decide_eq_true hqs
                      have HC9 := guHas_c t.clear _ _ Ac bc oc cc (p : Int) w7 HC7.out hcm
                      rw [hcd] at HC9
                      replace HC9 := Lib.hid HC9
                      have HQ9 := guHas_c qs _ _ A7 b7 0 c7 (p : Int) w7 HT7.out htm
                      rw [hqd] at HQ9
                      replace HQ9 := Lib.hid HQ9
                      clear hcd hqd hcl hqs
                      by_cases hy3 : y ≤ 3
                      · have hd4 : decide (y + 1 ≤ 4) = true := decide_eq_true (by omega)
                        have hd3 : decide (y ≤ 3) = true := decide_eq_true hy3
                        have hq4 : y + 1 ≤ 4 := by omega
                        have HD := Lib.hid hd4
                        cases fb with
                        | true =>
                          go_wp2_with fail
                          refine HC9.out.mono ?_
                          rintro e w' ⟨rfl, rfl⟩
                          go_wp2_with fail
                          refine HQ9.out.mono ?_
                          rintro e w' ⟨rfl, rfl⟩
                          go_wp2
                          go_round
                          case rel => exact ⟨p + 1, by omega, by go_num, by rw [HFS.out, HGA.out, HD.out]; rfl⟩
                          case measure => simp [intOf]; omega
                        | false =>
                          go_wp2_with fail
                          refine HC9.out.mono ?_
                          rintro e w' ⟨rfl, rfl⟩
                          go_wp2_with fail
                          refine HQ9.out.mono ?_
                          rintro e w' ⟨rfl, rfl⟩
                          go_wp2
                          go_round
                          case rel => exact ⟨p + 1, by omega, by go_num, by rw [HFS.out, HGA.out, HD.out]; rfl⟩
                          case measure => simp [intOf]; omega
                      · have hd4 : decide (y + 1 ≤ 4) = false := decide_eq_false (by omega)
                        have hd3 : decide (y ≤ 3) = false := decide_eq_false hy3
                        have hq4 : ¬ y + 1 ≤ 4 := by omega
                        have HD := Lib.hid hd4
                        cases fb with
                        | true =>
                          go_wp2_with fail
                          refine HC9.out.mono ?_
                          rintro e w' ⟨rfl, rfl⟩
                          go_wp2_with fail
                          refine HQ9.out.mono ?_
                          rintro e w' ⟨rfl, rfl⟩
                          go_wp2
                          go_round
                          case rel => exact ⟨p + 1, by omega, by go_num, by rw [HFS.out, HGA.out, HD.out]; rfl⟩
                          case measure => simp [intOf]; omega
                        | false =>
                          go_wp2_with fail
                          refine HC9.out.mono ?_
                          rintro e w' ⟨rfl, rfl⟩
                          go_wp2_with fail
                          refine HQ9.out.mono ?_
                          rintro e w' ⟨rfl, rfl⟩
                          go_wp2
                          go_round
                          case rel => exact ⟨p + 1, by omega, by go_num, by rw [HFS.out, HGA.out, HD.out]; rfl⟩
                          case measure => simp [intOf]; omega
                    · have HGA := Lib.hid (show giveAt ys t.clear qs p = y by rw [HGU.out, if_neg hcl, if_neg hqs, HYE.out]; omega)
                      obtain rfl : y = z := by rw [HZG.out, HGA.out]
                      have hcd : decide ((p : Int) ∈ t.clear) = false := decide_eq_false hcl
                      have hqd : decide ((p : Int) ∈ qs) = false := decide_eq_false hqs
                      have HC9 := guHas_c t.clear _ _ Ac bc oc cc (p : Int) w7 HC7.out hcm
                      rw [hcd] at HC9
                      replace HC9 := Lib.hid HC9
                      have HQ9 := guHas_c qs _ _ A7 b7 0 c7 (p : Int) w7 HT7.out htm
                      rw [hqd] at HQ9
                      replace HQ9 := Lib.hid HQ9
                      clear hcd hqd hcl hqs
                      have hd4 : decide (y ≤ 4) = true := decide_eq_true hy4
                      have HD := Lib.hid hd4
                      cases fb with
                      | true =>
                        go_wp2_with fail
                        refine HC9.out.mono ?_
                        rintro e w' ⟨rfl, rfl⟩
                        go_wp2_with fail
                        refine HQ9.out.mono ?_
                        rintro e w' ⟨rfl, rfl⟩
                        go_wp2
                        go_round
                        case rel => exact ⟨p + 1, by omega, by go_num, by rw [HFS.out, HGA.out, HD.out]; rfl⟩
                        case measure => simp [intOf]; omega
                      | false =>
                        go_wp2_with fail
                        refine HC9.out.mono ?_
                        rintro e w' ⟨rfl, rfl⟩
                        go_wp2_with fail
                        refine HQ9.out.mono ?_
                        rintro e w' ⟨rfl, rfl⟩
                        go_wp2
                        go_round
                        case rel => exact ⟨p + 1, by omega, by go_num, by rw [HFS.out, HGA.out, HD.out]; rfl⟩
                        case measure => simp [intOf]; omega
                · have hlt1 : ¬ ((p : Int) < (ys.length : Int)) := by omega
                  obtain rfl : p = ys.length := by omega
                  have hfe : fitN ys t.clear qs ys.length = true := HFI.out.symm
                  rw [hfe]
                  clear hfe
                  have HBW := Lib.hid HN7.out.bl
                  have hl0 : ((([] : List Int).length : Int) == 0) = true := rfl
                  go_wp2
                  go_ret
                  exact ⟨rfl, HBW.out⟩
            | false =>
              have hxs := HNO.out rfl
              subst hxs
              go_wp2
              go_loop [12, 13] (fun a i => ∃ p : Nat, p ≤ ys.length ∧ i = .int .i64 p ∧ a = .bool (fitN ys t.clear qs p)) (fun _ i => ys.length - (intOf i).toNat)
              case atStart => exact ⟨0, Nat.zero_le _, rfl, rfl⟩
              case round =>
                obtain ⟨p, hp, rfl, rfl⟩ := hrel
                have HFS := Lib.hid (fitN_succ ys t.clear qs p)
                have hgu : giveAt ys t.clear qs p = (if (p : Int) ∈ t.clear then 0 else ys.getD p 0) + (if (p : Int) ∈ qs then 1 else 0) := rfl
                have HGU := Lib.hid hgu
                clear hgu
                by_cases hlt : p < ys.length
                · have hlt1 : (p : Int) < (ys.length : Int) := by omega
                  obtain ⟨rfl, _, _, y, hy, hcy, _⟩ := HY7.out.int hlt
                  have hfy := few_getD HFEW.out p
                  rw [getD_of hy] at hfy
                  obtain ⟨hy0, hy4⟩ := hfy
                  have HYE := Lib.hid (getD_of (d := 0) hy)
                  clear hy
                  generalize hfb : fitN ys t.clear qs p = fb at HFS ⊢
                  clear hfb
                  by_cases hcl : (p : Int) ∈ t.clear
                  · skip
                    by_cases hqs : (p : Int) ∈ qs
                    · have HGA := Lib.hid (show giveAt ys t.clear qs p = 1 by rw [HGU.out, if_pos hcl, if_pos hqs]; rfl)
                      have hcd : decide ((p : Int) ∈ t.clear) = true := decide_eq_true hcl
                      have hqd : decide ((p : Int) ∈ qs) = true := decide_eq_true hqs
                      have HC9 := guHas_c t.clear _ _ Ac bc oc cc (p : Int) w7 HC7.out hcm
                      rw [hcd] at HC9
                      replace HC9 := Lib.hid HC9
                      have HQ9 := guHas_c qs _ _ A7 b7 0 c7 (p : Int) w7 HT7.out htm
                      rw [hqd] at HQ9
                      replace HQ9 := Lib.hid HQ9
                      clear hcd hqd hcl hqs
                      have HD := Lib.hid (show decide ((1 : Int) ≤ 4) = true from rfl)
                      cases fb with
                      | true =>
                        go_wp2_with fail
                        refine HC9.out.mono ?_
                        rintro e w' ⟨rfl, rfl⟩
                        go_wp2_with fail
                        refine HQ9.out.mono ?_
                        rintro e w' ⟨rfl, rfl⟩
                        go_wp2
                        go_round
                        case rel => exact ⟨p + 1, by omega, by go_num, by rw [HFS.out, HGA.out, HD.out]; rfl⟩
                        case measure => simp [intOf]; omega
                      | false =>
                        go_wp2_with fail
                        refine HC9.out.mono ?_
                        rintro e w' ⟨rfl, rfl⟩
                        go_wp2_with fail
                        refine HQ9.out.mono ?_
                        rintro e w' ⟨rfl, rfl⟩
                        go_wp2
                        go_round
                        case rel => exact ⟨p + 1, by omega, by go_num, by rw [HFS.out, HGA.out, HD.out]; rfl⟩
                        case measure => simp [intOf]; omega
                    · have HGA := Lib.hid (show giveAt ys t.clear qs p = 0 by rw [HGU.out, if_pos hcl, if_neg hqs]; rfl)
                      have hcd : decide ((p : Int) ∈ t.clear) = true := decide_eq_true hcl
                      have hqd : decide ((p : Int) ∈ qs) = false := decide_eq_false hqs
                      have HC9 := guHas_c t.clear _ _ Ac bc oc cc (p : Int) w7 HC7.out hcm
                      rw [hcd] at HC9
                      replace HC9 := Lib.hid HC9
                      have HQ9 := guHas_c qs _ _ A7 b7 0 c7 (p : Int) w7 HT7.out htm
                      rw [hqd] at HQ9
                      replace HQ9 := Lib.hid HQ9
                      clear hcd hqd hcl hqs
                      have HD := Lib.hid (show decide ((0 : Int) ≤ 4) = true from rfl)
                      cases fb with
                      | true =>
                        go_wp2_with fail
                        refine HC9.out.mono ?_
                        rintro e w' ⟨rfl, rfl⟩
                        go_wp2_with fail
                        refine HQ9.out.mono ?_
                        rintro e w' ⟨rfl, rfl⟩
                        go_wp2
                        go_round
                        case rel => exact ⟨p + 1, by omega, by go_num, by rw [HFS.out, HGA.out, HD.out]; rfl⟩
                        case measure => simp [intOf]; omega
                      | false =>
                        go_wp2_with fail
                        refine HC9.out.mono ?_
                        rintro e w' ⟨rfl, rfl⟩
                        go_wp2_with fail
                        refine HQ9.out.mono ?_
                        rintro e w' ⟨rfl, rfl⟩
                        go_wp2
                        go_round
                        case rel => exact ⟨p + 1, by omega, by go_num, by rw [HFS.out, HGA.out, HD.out]; rfl⟩
                        case measure => simp [intOf]; omega
                  · skip
                    by_cases hqs : (p : Int) ∈ qs
                    · have HGA := Lib.hid (show giveAt ys t.clear qs p = y + 1 by rw [HGU.out, if_neg hcl, if_pos hqs, HYE.out])
                      have hcd : decide ((p : Int) ∈ t.clear) = false := decide_eq_false hcl
                      have hqd : decide ((p : Int) ∈ qs) = true := decide_eq_true hqs
                      have HC9 := guHas_c t.clear _ _ Ac bc oc cc (p : Int) w7 HC7.out hcm
                      rw [hcd] at HC9
                      replace HC9 := Lib.hid HC9
                      have HQ9 := guHas_c qs _ _ A7 b7 0 c7 (p : Int) w7 HT7.out htm
                      rw [hqd] at HQ9
                      replace HQ9 := Lib.hid HQ9
                      clear hcd hqd hcl hqs
                      by_cases hy3 : y ≤ 3
                      · have hd4 : decide (y + 1 ≤ 4) = true := decide_eq_true (by omega)
                        have hd3 : decide (y ≤ 3) = true := decide_eq_true hy3
                        have hq4 : y + 1 ≤ 4 := by omega
                        have HD := Lib.hid hd4
                        cases fb with
                        | true =>
                          go_wp2_with fail
                          refine HC9.out.mono ?_
                          rintro e w' ⟨rfl, rfl⟩
                          go_wp2_with fail
                          refine HQ9.out.mono ?_
                          rintro e w' ⟨rfl, rfl⟩
                          go_wp2
                          go_round
                          case rel => exact ⟨p + 1, by omega, by go_num, by rw [HFS.out, HGA.out, HD.out]; rfl⟩
                          case measure => simp [intOf]; omega
                        | false =>
                          go_wp2_with fail
                          refine HC9.out.mono ?_
                          rintro e w' ⟨rfl, rfl⟩
                          go_wp2_with fail
                          refine HQ9.out.mono ?_
                          rintro e w' ⟨rfl, rfl⟩
                          go_wp2
                          go_round
                          case rel => exact ⟨p + 1, by omega, by go_num, by rw [HFS.out, HGA.out, HD.out]; rfl⟩
                          case measure => simp [intOf]; omega
                      · have hd4 : decide (y + 1 ≤ 4) = false := decide_eq_false (by omega)
                        have hd3 : decide (y ≤ 3) = false := decide_eq_false hy3
                        have hq4 : ¬ y + 1 ≤ 4 := by omega
                        have HD := Lib.hid hd4
                        cases fb with
                        | true =>
                          go_wp2_with fail
                          refine HC9.out.mono ?_
                          rintro e w' ⟨rfl, rfl⟩
                          go_wp2_with fail
                          refine HQ9.out.mono ?_
                          rintro e w' ⟨rfl, rfl⟩
                          go_wp2
                          go_round
                          case rel => exact ⟨p + 1, by omega, by go_num, by rw [HFS.out, HGA.out, HD.out]; rfl⟩
                          case measure => simp [intOf]; omega
                        | false =>
                          go_wp2_with fail
                          refine HC9.out.mono ?_
                          rintro e w' ⟨rfl, rfl⟩
                          go_wp2_with fail
                          refine HQ9.out.mono ?_
                          rintro e w' ⟨rfl, rfl⟩
                          go_wp2
                          go_round
                          case rel => exact ⟨p + 1, by omega, by go_num, by rw [HFS.out, HGA.out, HD.out]; rfl⟩
                          case measure => simp [intOf]; omega
                    · have HGA := Lib.hid (show giveAt ys t.clear qs p = y by rw [HGU.out, if_neg hcl, if_neg hqs, HYE.out]; omega)
                      have hcd : decide ((p : Int) ∈ t.clear) = false := decide_eq_false hcl
                      have hqd : decide ((p : Int) ∈ qs) = false := decide_eq_false hqs
                      have HC9 := guHas_c t.clear _ _ Ac bc oc cc (p : Int) w7 HC7.out hcm
                      rw [hcd] at HC9
                      replace HC9 := Lib.hid HC9
                      have HQ9 := guHas_c qs _ _ A7 b7 0 c7 (p : Int) w7 HT7.out htm
                      rw [hqd] at HQ9
                      replace HQ9 := Lib.hid HQ9
                      clear hcd hqd hcl hqs
                      have hd4 : decide (y ≤ 4) = true := decide_eq_true hy4
                      have HD := Lib.hid hd4
                      cases fb with
                      | true =>
                        go_wp2_with fail
                        refine HC9.out.mono ?_
                        rintro e w' ⟨rfl, rfl⟩
                        go_wp2_with fail
                        refine HQ9.out.mono ?_
                        rintro e w' ⟨rfl, rfl⟩
                        go_wp2
                        go_round
                        case rel => exact ⟨p + 1, by omega, by go_num, by rw [HFS.out, HGA.out, HD.out]; rfl⟩
                        case measure => simp [intOf]; omega
                      | false =>
                        go_wp2_with fail
                        refine HC9.out.mono ?_
                        rintro e w' ⟨rfl, rfl⟩
                        go_wp2_with fail
                        refine HQ9.out.mono ?_
                        rintro e w' ⟨rfl, rfl⟩
                        go_wp2
                        go_round
                        case rel => exact ⟨p + 1, by omega, by go_num, by rw [HFS.out, HGA.out, HD.out]; rfl⟩
                        case measure => simp [intOf]; omega
                · have hlt1 : ¬ ((p : Int) < (ys.length : Int)) := by omega
                  obtain rfl : p = ys.length := by omega
                  have hfe : fitN ys t.clear qs ys.length = false := HFI.out.symm
                  rw [hfe]
                  clear hfe
                  have HBW := Lib.hid HN7.out.bl
                  have hl0 : ((([] : List Int).length : Int) == 0) = true := rfl
                  go_wp2
                  go_ret
                  exact ⟨rfl, HBW.out⟩
        · have hxk1 : ((k : Int) ≤ (tn : Int)) := by omega
          have hx0b : decide (k ≤ tn) = true := decide_eq_true (by omega)
          obtain ⟨rfl, rfl⟩ := NOASK.out (ask_no2 (Bool.eq_false_iff.2 fun h => by have := (inB_iff.1 h).2; have := HPK.out.2; omega))
          go_wp2_with fail
          refine (guOk_c w5).mono ?_
          rintro e w9 ⟨rfl, hbk⟩
          have HBX := Lib.hid (HN5.out.below hbk).bl
          clear hbk
          go_wp2
          go_ret
          exact ⟨rfl, HBX.out⟩
end Go.Proofs.Ytkcbghaadjhceaa
