/- A law over what is drawn of a code: a task takes what it joins. -/
import Derived.Test.YtkcbghaadjhceaaDrawE
import Derived.Test.YtkcbghaadjhceaaNBT
import Derived.Test.YtkcbghaadjhceaaEnaTake
import Derived.Test.YtkcbghaadjhceaaTakeL
import Derived.Test.YtkcbghaadjhceaaReader
import Derived.BigQuiet
import Derived.Deep.DeepCutAuto
namespace Go.Proofs.Ytkcbghaadjhceaa
open Go.RowKit
set_option linter.unusedVariables false
set_option linter.unusedSimpArgs false

theorem take_facts {n : NNet} {ys : List Int} (hok : mrkOk n ys = true) {tn : Nat} {t : NTask} (ht : n.tasks[tn]? = some t) :
    TookOk ys (takeN n ys (tn : Int)) t.ins ∧ (takeN n ys (tn : Int)).length = ys.length ∧ tookN ys (takeN n ys (tn : Int)) ys.length = (if t.join = 2 then min (hadN ys t.ins ys.length) 1 else hadN ys t.ins ys.length) := by
  obtain ⟨h1, h2, h3⟩ := mrkOk_parts hok
  have hm := List.mem_of_getElem? ht
  have hlt := lt_of_some ht
  obtain ⟨_, _, h6, _⟩ := taskOk_parts ((netOk_parts h1).2.2.2.2 t hm)
  have hb := fun x hx => ins_bound h1 hm (x := x) hx
  have hnd := rises_nodup h6
  rw [takeN_yes hok (inB_iff.2 ⟨by omega, by omega⟩) ht]
  refine ⟨took_ok (fun x hx => (hb x hx).1) hnd, takeL_length _ _ _, ?_⟩
  split
  · next hj => exact took_xor hj (fun x hx => (hb x hx).1) (fun x hx => by have := hb x hx; omega)
  · next hj => exact took_and hj (fun x hx => (hb x hx).1) hnd _

set_option maxRecDepth 100000 in
set_option maxHeartbeats 4000000 in
theorem enaTake_walk {zs : List Int} {A : Option Addr} {b off c : Nat} (w : World) (hV : Row w 0 w.heap.size A b off (bytesC zs)) (hz : ∀ x ∈ zs, 0 ≤ x ∧ x ≤ 255) (hm : zs.length ≤ maxLen) (hcap : zs.length ≤ c) :
    Calls Try.prog 3 #[.slice A zs.length c] w fun e w' => e = .returned (.bool true) ∧ Below w.heap.size w w' := by
  have hm0 := hm
  have HZ := Lib.hid hz
  clear hz
  unfold maxLen at hm
  go_enter Try.func3, Try.ntmps3
  by_cases hbig : 1048576 < zs.length
  · go_wp2; go_ret; exact ⟨rfl, Below.refl _ _⟩
  · go_wp2_with fail
    refine (drawEnaTake_c zs A b off c w hV HZ.out hm0 hcap).mono ?_
    rintro e w1 ⟨P, b1, k, c1, n, A9, b9, o9, c9, ys, x, rfl, hyl, hyc, hyb, hx1, hx2, hrow, hg, hb⟩
    have HN1 := Lib.hid (NB.start hg hb)
    have HY1 := Lib.hid (hrow.alloc (Nat.le_refl _) (.cells #[.int .i64 P, .slice (some ⟨b1, 0, none⟩) k c1] 25))
    have HSM := Lib.hid hg.1
    have HPK := Lib.hid (And.intro hg.2.1 hg.2.2.1)
    clear hg hb hrow hyb hyc
    generalize hBB : w1.heap.size = B at HN1 HY1
    have hym : ys.length ≤ maxLen := by unfold maxLen; omega
    have cB0 := HN1.out.cell0
    have cB1 := HN1.out.cell1
    go_wp2_with fail
    refine (implEnaTake_c n _ ys _ _ _ _ _ _ _ _ x _ HN1.out.nv (Nat.le_of_lt HN1.out.lt) (small_out HSM.out) HY1.out (Nat.le_of_lt HN1.out.lt) hym).mono ?_
    rintro e w2 ⟨v2, rfl, hM2, hb2⟩
    have HN2 := Lib.hid (HN1.out.below hb2)
    have HY2 := Lib.hid (HY1.out.below hb2 (Nat.le_of_lt HN1.out.lt))
    obtain ⟨A3, b3, c3, rfl, hr3⟩ := hM2.row
    have HX2 := Lib.hid hr3
    clear hb2 hM2 hr3 cB0 cB1
    have cC0 := HN2.out.cell0
    have cC1 := HN2.out.cell1
    go_wp2_with fail
    refine (specEnaTake_c n _ ys _ _ _ _ _ _ _ _ x w2 HN2.out.nv (Nat.le_of_lt HN2.out.lt) HY2.out (Nat.le_of_lt HN2.out.lt) hym).mono ?_
    rintro e w3 ⟨v3, rfl, hM3, hb3⟩
    have HN3 := Lib.hid (HN2.out.below hb3)
    have HY3 := Lib.hid (HY2.out.below hb3 (Nat.le_of_lt HN2.out.lt))
    have HX3 := Lib.hid (HX2.out.below hb3 (Nat.le_refl _))
    obtain ⟨A4, b4, c4, rfl, hr4⟩ := hM3.row
    have hxl := takeN_len n ys x
    have hxm : (takeN n ys x).length ≤ maxLen := by unfold maxLen; omega
    have HGB := guInts_c (takeN n ys x) (takeN n ys x) _ _ _ _ A3 A4 b3 0 c3 b4 0 c4 w3 HX3.out hr4 hxm hxm
    rw [decide_eq_true rfl] at HGB
    replace HGB := Lib.hid HGB
    have hs23 := hb3.size
    clear hb3 hM3 hr4 cC0 cC1
    go_wp2_with fail
    refine HGB.out.mono ?_
    rintro e w4 ⟨rfl, hb4⟩
    have HN4 := Lib.hid (HN3.out.below hb4)
    have HY4 := Lib.hid (HY3.out.below hb4 (Nat.le_of_lt HN3.out.lt))
    have HX4 := Lib.hid (HX3.out.below hb4 hs23)
    have hs34 := hb4.size
    clear hb4 HGB
    have cD0 := HN4.out.cell0
    have cD1 := HN4.out.cell1
    go_wp2_with fail
    refine (specMrkOk_c n _ ys _ _ _ _ _ _ _ _ w4 HN4.out.nv (Nat.le_of_lt HN4.out.lt) HY4.out (Nat.le_of_lt HN4.out.lt) hym).mono ?_
    rintro e w5 ⟨rfl, hb5⟩
    have HN5 := Lib.hid (HN4.out.below hb5)
    have HY5 := Lib.hid (HY4.out.below hb5 (Nat.le_of_lt HN4.out.lt))
    have HX5 := Lib.hid (HX4.out.below hb5 (by omega))
    clear hb5 cD0 cD1 HN1 HN2 HN3 HY1 HY2 HY3 HX2 HX3
    have cE0 := HN5.out.cell0
    have cE1 := HN5.out.cell1
    generalize hok : mrkOk n ys = ok
    cases ok with
    | false =>
      have hlen0 : (((takeN n ys x).length : Int) == 0) = true := by rw [takeN_no1 hok]; rfl
      clear hok
      go_wp2_with fail
      refine (guOk_c w5).mono ?_
      rintro e w9 ⟨rfl, hbk⟩
      have HBX := Lib.hid (HN5.out.below hbk).bl
      clear hbk
      go_wp2
      go_ret
      exact ⟨rfl, HBX.out⟩
    | true =>
      have HOK := Lib.hid hok
      clear hok
      by_cases hx0 : x < 0
      · have hlen0 : (((takeN n ys x).length : Int) == 0) = true := by rw [takeN_no2 HOK.out (Bool.eq_false_iff.2 fun h => by have := (inB_iff.1 h).1; omega)]; rfl
        go_wp2_with fail
        refine (guOk_c w5).mono ?_
        rintro e w9 ⟨rfl, hbk⟩
        have HBX := Lib.hid (HN5.out.below hbk).bl
        clear hbk
        go_wp2
        go_ret
        exact ⟨rfl, HBX.out⟩
      · obtain ⟨tn, rfl⟩ := Int.eq_ofNat_of_zero_le (show 0 ≤ x by omega)
        by_cases hxk : tn < k
        · have hxk1 : ¬ ((k : Int) ≤ (tn : Int)) := by omega
          have hx0a : decide ((tn : Int) < 0) = false := decide_eq_false hx0
          have hx0b : decide (k ≤ tn) = false := decide_eq_false (by omega)
          have hbg1 : decide ((1048576 : Int) < (zs.length : Int)) = false := decide_eq_false (by omega)
          have hxk2 : (tn : Int) < (k : Int) := by omega
          obtain ⟨t, Ai, bi, oi, ci, Ao, bo, oo, co, Ac, bc, oc, cc, ht, hri, _, _, _, d0, _, d2, _⟩ := HN5.out.task (i := tn) (by rw [HPK.out.2]; exact hxk)
          obtain ⟨hTK, hXL, hSUM⟩ := take_facts HOK.out ht
          have hM := took_more hTK hXL
          have hPN : (ys.length : Int) = P := by rw [(mrkOk_parts HOK.out).2.1, HPK.out.1]
          have hfew := (mrkOk_parts HOK.out).2.2
          have him : t.ins.length ≤ maxLen := by have := (HSM.out.2.2.2.2 t (List.mem_of_getElem? ht)).1.1; unfold maxLen; omega
          generalize takeN n ys (tn : Int) = xs at *
          have HTK := Lib.hid hTK
          have HSUM := Lib.hid hSUM
          have HMORE := Lib.hid hM
          have HXL := Lib.hid hXL
          have HFEW := Lib.hid hfew
          have HRI := Lib.hid hri
          have HD0 := Lib.hid d0
          have HD2 := Lib.hid d2
          subst hPN
          clear hTK hSUM hM hXL hfew ht hri d0 d2
          go_wp2
          go_loopw [7, 8, 9] (fun a b i wr => ∃ p d : Nat, p ≤ ys.length ∧ i = .int .i64 p ∧ a = .int .i64 (tookN ys xs p) ∧ b = .int .i64 (hadN ys t.ins p) ∧ wr = w5.drewN d) (fun _ _ i _ => ys.length - (intOf i).toNat)
          case atStart => exact ⟨0, 0, Nat.zero_le _, rfl, rfl, rfl, rfl⟩
          case round =>
            obtain ⟨p, d, hp, rfl, rfl, rfl, hw⟩ := hrel
            have HW := Lib.hid hw
            replace cE0 : wr.cell? ⟨B, 0, none⟩ = some (.int .i64 (ys.length : Int)) := by rw [hw]; exact cE0
            replace cE1 : wr.cell? ⟨B, 1, none⟩ = some (.slice (some ⟨b1, 0, none⟩) k c1) := by rw [hw]; exact cE1
            have d0 : wr.cell? ⟨b1, tn * 9, none⟩ = some (.int .i64 t.join) := by rw [hw]; exact HD0.out
            have d2 : wr.cell? ⟨b1, tn * 9 + 2, none⟩ = some (.slice Ai t.ins.length ci) := by rw [hw]; exact HD2.out
            have htb := tookN_bound HTK.out p
            have hhb := hadN_bound ys t.ins p
            have HRX := Lib.hid (show Row wr w2.heap.size w2.heap.size A3 b3 0 (ints xs) ∨ True from .inr trivial)
            clear hw HRX
            have HTS := Lib.hid (show tookN ys xs (p + 1) = tookN ys xs p + ys.getD p 0 - xs.getD p 0 from rfl)
            have HHS := Lib.hid (show hadN ys t.ins (p + 1) = if hadAt ys t.ins p = true then hadN ys t.ins p + 1 else hadN ys t.ins p from rfl)
            have HTE := Lib.hid (show tookN ys xs p = tookN ys xs p from rfl)
            by_cases hlt : p < ys.length
            · have hlt1 : (p : Int) < (ys.length : Int) := by omega
              have hlx : p < xs.length := by rw [HXL.out]; exact hlt
              have hlx1 : (p : Int) < (xs.length : Int) := by omega
              obtain ⟨rfl, _, _, y, hy, hcy, _⟩ := HY5.out.int hlt
              obtain ⟨rfl, _, _, z, hz, hcz, _⟩ := HX5.out.int hlx
              rw [Nat.zero_add] at hcz
              replace hcy : wr.cell? ⟨b9, o9 + p, none⟩ = some (.int .i64 y) := by rw [HW.out]; exact hcy
              replace hcz : wr.cell? ⟨b3, p, none⟩ = some (.int .i64 z) := by rw [HW.out]; exact hcz
              have hTP := HTK.out p
              have hfy := few_getD HFEW.out p
              rw [getD_of hy, getD_of hz] at hTP
              rw [getD_of hy] at hfy
              have HYE := Lib.hid (getD_of (d := 0) hy)
              have HZE := Lib.hid (getD_of (d := 0) hz)
              obtain ⟨ht1, ht2, ht3⟩ := hTP
              have HT3 := Lib.hid ht3
              have HQH := Lib.hid (show ∀ q, Calls Try.prog 16 #[.slice Ai t.ins.length ci, .int .i64 (p : Int)] (wr.drewN q) fun e w'' => e = .returned (.bool (decide ((p : Int) ∈ t.ins))) ∧ ∃ m', w'' = wr.drewN m' from fun q => by rw [HW.out]; exact quiet_w (guHas_c t.ins _ _ Ai bi oi ci (p : Int) _ ((HRI.out.drewN d).drewN q) him))
              clear hy hz ht3
              generalize htk : tookN ys xs p = tk at htb
              generalize hhd : hadN ys t.ins p = hd at hhb
              have hpl : (p : Int) ≤ 10 := by omega
              have e1 : IntKind.i64.wrap (y - z) = y - z := IntWalk.i64_in _ (by omega)
              have e2 : IntKind.i64.wrap (tk + y) = tk + y := IntWalk.i64_in _ (by omega)
              have e3 : IntKind.i64.wrap (tk + y - z) = tk + y - z := IntWalk.i64_in _ (by omega)
              have f1 : ¬ (y - z < 0) := by omega
              have f2 : ¬ (1 < y - z) := by omega
              have f1a : decide (y - z < 0) = false := decide_eq_false f1
              have f1b : decide (y < z) = false := decide_eq_false (by omega)
              have f2a : decide (1 < y - z) = false := decide_eq_false f2
              have HTKE := Lib.hid htk
              have HHDE := Lib.hid hhd
              clear htk hhd
              have HRW := Lib.hid (fun q : Nat => show Row (wr.drewN q) w.heap.size B Ai bi oi (ints t.ins) by rw [HW.out]; exact (HRI.out.drewN d).drewN q)
              cases hin : decide ((p : Int) ∈ t.ins) with
              | true =>
                rw [hin] at HQH
                have HIN := Lib.hid hin
                clear hin
                by_cases hpos : 0 < y
                · have HA := Lib.hid (show hadAt ys t.ins p = true by rw [hadAt, HIN.out, HYE.out, decide_eq_true hpos]; rfl)
                  go_wp2
                  go_quiet (first | (go_at_call 16; with_reducible exact HQH.out _))
                  go_wp2
                  go_quiet (fail)
                  go_wp2_with fail
                  refine (guHas_c t.ins _ _ Ai bi oi ci (p : Int) _ (HRW.out _) him).mono ?_
                  rintro e w' ⟨rfl, rfl⟩
                  rw [HIN.out]
                  go_wp2
                  go_roundw
                  case rel => exact ⟨p + 1, _, by omega, by go_num, by rw [HTS.out, HTKE.out, HYE.out, HZE.out], by rw [HHS.out, HHDE.out, if_pos HA.out], by rw [HW.out]; first | rw [World.drewN_drewN, World.drewN_drewN] | rw [World.drewN_drewN]⟩
                  case measure => simp [intOf]; omega
                · have HA := Lib.hid (show ¬ hadAt ys t.ins p = true by rw [hadAt, HIN.out, HYE.out, decide_eq_false hpos]; simp)
                  go_wp2
                  go_quiet (first | (go_at_call 16; with_reducible exact HQH.out _))
                  go_wp2
                  go_quiet (fail)
                  go_wp2_with fail
                  refine (guHas_c t.ins _ _ Ai bi oi ci (p : Int) _ (HRW.out _) him).mono ?_
                  rintro e w' ⟨rfl, rfl⟩
                  rw [HIN.out]
                  go_wp2
                  go_roundw
                  case rel => exact ⟨p + 1, _, by omega, by go_num, by rw [HTS.out, HTKE.out, HYE.out, HZE.out], by rw [HHS.out, HHDE.out, if_neg HA.out], by rw [HW.out]; first | rw [World.drewN_drewN, World.drewN_drewN] | rw [World.drewN_drewN]⟩
                  case measure => simp [intOf]; omega
              | false =>
                rw [hin] at HQH
                have HIN := Lib.hid hin
                have hyz : y = z := HT3.out (of_decide_eq_false hin)
                have f3 : (y != z) = false := by simp [hyz]
                have HA := Lib.hid (show ¬ hadAt ys t.ins p = true by rw [hadAt, HIN.out]; simp)
                clear hin hyz
                go_wp2
                go_quiet (first | (go_at_call 16; with_reducible exact HQH.out _))
                go_wp2
                go_quiet (fail)
                go_wp2_with fail
                refine (guHas_c t.ins _ _ Ai bi oi ci (p : Int) _ (HRW.out _) him).mono ?_
                rintro e w' ⟨rfl, rfl⟩
                rw [HIN.out]
                go_wp2
                go_roundw
                case rel => exact ⟨p + 1, _, by omega, by go_num, by rw [HTS.out, HTKE.out, HYE.out, HZE.out], by rw [HHS.out, HHDE.out, if_neg HA.out], by rw [HW.out]; first | rw [World.drewN_drewN, World.drewN_drewN] | rw [World.drewN_drewN]⟩
                case measure => simp [intOf]; omega
            · have hlt1 : ¬ ((p : Int) < (ys.length : Int)) := by omega
              obtain rfl : p = ys.length := by omega
              have HYW := Lib.hid (show Row wr w.heap.size B A9 b9 o9 (ints ys) by rw [HW.out]; exact HY5.out.drewN d)
              have HXW := Lib.hid (show Row wr 0 w2.heap.size A3 b3 0 (ints xs) by rw [HW.out]; exact (HX5.out.drewN d).more (Nat.zero_le _) (Nat.le_refl _))
              have hxm2 : xs.length ≤ maxLen := by rw [HXL.out]; exact hym
              have HBW := Lib.hid (show Below w.heap.size w wr by rw [HW.out]; exact below_drewN HN5.out.bl d)
              have HMM := Lib.hid (implMrkMore_c ys xs _ _ _ _ _ _ _ _ c9 _ _ c3 wr HYW.out HXW.out hym hxm2)
              rw [HMORE.out] at HMM
              generalize htk : tookN ys xs ys.length = tk at htb
              generalize hhd : hadN ys t.ins ys.length = hd at hhb
              have HTKE := Lib.hid htk
              have HHDE := Lib.hid hhd
              clear htk hhd
              by_cases hj : t.join = 2
              · have hj1 : (t.join == 2) = true := by simpa using hj
                have HE := HSUM.out
                rw [HTKE.out, HHDE.out, if_pos hj] at HE
                clear hj
                by_cases hh0 : hd = 0
                · subst hh0
                  obtain rfl : tk = 0 := by omega
                  clear HE
                  go_wp2_with fail
                  refine HMM.out.mono ?_
                  rintro e w' ⟨rfl, hbm⟩
                  have HBM := Lib.hid (HBW.out.trans (hbm.mono HBW.out.size))
                  clear hbm
                  go_wp2
                  go_ret
                  exact ⟨rfl, HBM.out⟩
                · obtain rfl : tk = 1 := by omega
                  by_cases hh1 : hd = 1
                  · subst hh1
                    clear HE hh0 hhb
                    go_wp2_with fail
                    refine HMM.out.mono ?_
                    rintro e w' ⟨rfl, hbm⟩
                    have HBM := Lib.hid (HBW.out.trans (hbm.mono HBW.out.size))
                    clear hbm
                    go_wp2
                    go_ret
                    exact ⟨rfl, HBM.out⟩
                  · have hm2 : ¬ hd ≤ 1 := by omega
                    have hm3 : decide (hd ≤ 1) = false := decide_eq_false hm2
                    clear HE hh0 hh1
                    go_wp2_with fail
                    refine HMM.out.mono ?_
                    rintro e w' ⟨rfl, hbm⟩
                    have HBM := Lib.hid (HBW.out.trans (hbm.mono HBW.out.size))
                    clear hbm
                    go_wp2
                    go_ret
                    exact ⟨rfl, HBM.out⟩
              · have hj1 : (t.join == 2) = false := by simpa using hj
                have HE := HSUM.out
                rw [HTKE.out, HHDE.out, if_neg hj] at HE
                clear hj
                subst HE
                have hte : (tk == tk) = true := by simp
                clear hhb
                go_wp2_with fail
                refine HMM.out.mono ?_
                rintro e w' ⟨rfl, hbm⟩
                have HBM := Lib.hid (HBW.out.trans (hbm.mono HBW.out.size))
                clear hbm
                go_wp2
                go_ret
                exact ⟨rfl, HBM.out⟩
        · have hxk1 : ((k : Int) ≤ (tn : Int)) := by omega
          have hlen0 : (((takeN n ys (tn : Int)).length : Int) == 0) = true := by rw [takeN_no2 HOK.out (Bool.eq_false_iff.2 fun h => by have := (inB_iff.1 h).2; have := HPK.out.2; omega)]; rfl
          go_wp2_with fail
          refine (guOk_c w5).mono ?_
          rintro e w9 ⟨rfl, hbk⟩
          have HBX := Lib.hid (HN5.out.below hbk).bl
          clear hbk
          go_wp2
          go_ret
          exact ⟨rfl, HBX.out⟩
end Go.Proofs.Ytkcbghaadjhceaa
