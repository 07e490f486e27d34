/- A law over what is drawn of a code: what can be come to is come to step by step. -/
import Derived.Test.YtoggdhbnkbdilaaNBT
import Derived.Test.YtoggdhbnkbdilaaLC3
import Derived.Test.YtoggdhbnkbdilaaSpecWhole
import Derived.Test.YtoggdhbnkbdilaaReader
import Derived.BigQuiet
import Derived.Deep.DeepCutAuto
namespace Go.Proofs.Ytoggdhbnkbdilaa
open Go.RowKit
set_option linter.unusedVariables false
set_option linter.unusedSimpArgs false

theorem reach_but {n : NNet} {x y : Int} (h : 0 < (reachN n x y).length) {k : Nat} (hk : (reachN n x y).getD k false = true) : (reachN n x (-1)).getD k false = true := by
  obtain ⟨h1, h2, h3, e⟩ := reachN_parts h
  rw [e] at hk
  rw [reachN_yes h1 (by rw [inB_iff]; omega)]
  have hc := reach_closed n (-1) x
  have hc' : Closed y n.tasks (reachAll n (-1) (single n.places.toNat x)) := fun k t ht _ => hc k t ht (by omega)
  have hl : (reachAll n (-1) (single n.places.toNat x)).length = n.places.toNat := by rw [reachAll_length, single_length]
  exact spread_sub hc' n.places.toNat (s := single n.places.toNat x) (by rw [single_length, hl]) (spread_mono (-1) n.tasks n.places.toNat (single n.places.toNat x)) k hk
theorem reach_self {n : NNet} {x : Nat} {y : Int} (h : 0 < (reachN n (x : Int) y).length) : (reachN n (x : Int) y).getD x false = true := by
  obtain ⟨h1, h2, h3, e⟩ := reachN_parts h
  rw [e]
  refine spread_mono y n.tasks n.places.toNat (single n.places.toNat (x : Int)) x ?_
  rw [single_at, Int.toNat_natCast]
  exact decide_eq_true ⟨rfl, by omega⟩
theorem reach_step {n : NNet} {x y : Int} (h : 0 < (reachN n x y).length) {k : Nat} {t : NTask} (ht : n.tasks[k]? = some t) (hy : (k : Int) ≠ y) (hf : t.ins.any (bit (reachN n x y)) = true) {f : NFlow} (hm : f ∈ t.out) : bit (reachN n x y) f.to = true := by
  obtain ⟨h1, h2, h3, e⟩ := reachN_parts h
  obtain ⟨z, hz, hz2⟩ := List.any_eq_true.1 hf
  have hb := out_bound h1 (List.mem_of_getElem? ht) hm
  rw [e] at hz2 ⊢
  exact reach_closed n y x k t ht hy z hz hz2 f hm (by rw [reachAll_length, single_length]; omega)
theorem bit_of {s : List Bool} {k : Nat} {x : Bool} (h : s[k]? = some x) : bit s (k : Int) = x := getD_some h

set_option maxRecDepth 100000 in
set_option maxHeartbeats 4000000 in
theorem netReach_walk {zs : List Int} {A : Option Addr} {b off c : Nat} (w : World) (hV : Row w 0 w.heap.size A b off (bytesC zs)) (hz : ∀ x ∈ zs, 0 ≤ x ∧ x ≤ 255) (hm : zs.length ≤ maxLen) (hcap : zs.length ≤ c) :
    Calls Try.prog 6 #[.slice A zs.length c] w fun e w' => e = .returned (.bool true) ∧ Below w.heap.size w w' := by
  have hm0 := hm
  have HZ := Lib.hid hz
  clear hz
  unfold maxLen at hm
  go_enter Try.func6, Try.ntmps6
  by_cases hbig : 1048576 < zs.length
  · go_wp2; go_ret; exact ⟨rfl, Below.refl _ _⟩
  · go_wp2_with fail
    refine (drawNetReach_c zs A b off c w hV HZ.out hm0 hcap).mono ?_
    rintro e w1 ⟨P, b1, k1, c1, n, x, y, rfl, hx1, hx2, hy1, hy2, hg, hb⟩
    have HN1 := Lib.hid (NB.start hg hb)
    have HSM := Lib.hid hg.1
    have HPK := Lib.hid (And.intro hg.2.1 hg.2.2.1)
    clear hg hb
    generalize hBB : w1.heap.size = B at HN1
    have cB0 := HN1.out.cell0
    have cB1 := HN1.out.cell1
    go_wp2_with fail
    refine (implNetReach_c n _ _ _ x y _ HN1.out.nv (Nat.le_of_lt HN1.out.lt) (small_out HSM.out)).mono ?_
    rintro e w2 ⟨v2, rfl, hM2, hb2⟩
    have HN2 := Lib.hid (HN1.out.below hb2)
    obtain ⟨A2, b2, c2, rfl, hr2⟩ := hM2.row
    have HR2 := Lib.hid hr2
    have dB0 := HN2.out.cell0
    have dB1 := HN2.out.cell1
    clear hb2 hM2 hr2
    go_wp2_with fail
    refine (specNetReach_c n _ _ _ x y w2 HN2.out.nv (Nat.le_of_lt HN2.out.lt)).mono ?_
    rintro e w3 ⟨v3, rfl, hM3, hb3⟩
    have HN3 := Lib.hid (HN2.out.below hb3)
    obtain ⟨A3, b3, c3, rfl, hr3⟩ := hM3.row
    have HR3 := Lib.hid hr3
    have HR23 := Lib.hid (HR2.out.below hb3 (Nat.le_refl _))
    have hl8 := reachN_len n x y
    have HGB := guBools_c (reachN n x y) (reachN n x y) _ _ _ _ A2 A3 b2 0 c2 b3 0 c3 w3 HR23.out HR3.out (by unfold maxLen; omega) (by unfold maxLen; omega)
    rw [decide_eq_true rfl] at HGB
    have HGB := Lib.hid HGB
    have hs23 := hb3.size
    clear hb3 hM3 hr3 HR2
    have HL0 := Lib.hid (fun (h : 0 < (reachN n x y).length) => reachN_length h)
    have HE0 := Lib.hid (fun (h : 0 < (reachN n x y).length) => @reachN_parts n x y h)
    have HBU := Lib.hid (fun (k : Nat) (h : 0 < (reachN n x y).length) => @reach_but n x y h k)
    have HSL := Lib.hid (fun (xn : Nat) (hx : x = (xn : Int)) (h : 0 < (reachN n x y).length) => show (reachN n x y).getD xn false = true by subst hx; exact reach_self h)
    have HST := Lib.hid (fun (h : 0 < (reachN n x y).length) (k : Nat) (t : NTask) (ht : n.tasks[k]? = some t) (hy : (k : Int) ≠ y) (hf : t.ins.any (bit (reachN n x y)) = true) (f : NFlow) (hm : f ∈ t.out) => reach_step h ht hy hf hm)
    have HNO := Lib.hid (fun (h1 : netOk n = true) (h2 : 0 ≤ x) (h3 : x < n.places) => show (reachN n x y).length = n.places.toNat by rw [reachN_yes h1 (by rw [inB_iff]; omega), reachAll_length, single_length])
    have HNN := Lib.hid (fun (h : ¬ (netOk n = true ∧ 0 ≤ x ∧ x < n.places)) => show (reachN n x y).length = 0 by
      rcases Nat.eq_zero_or_pos (reachN n x y).length with h0 | h0
      · exact h0
      · obtain ⟨a1, a2, a3, _⟩ := reachN_parts h0; exact absurd ⟨a1, a2, a3⟩ h)
    generalize hrs : reachN n x y = rs at HR23 HR3 HGB hl8 HL0 HBU HSL HST HNO HNN HE0 ⊢
    clear hrs HE0
    go_wp2_with fail
    refine HGB.out.mono ?_
    rintro e w4 ⟨rfl, hb4⟩
    have HN4 := Lib.hid (HN3.out.below hb4)
    have HR4 := Lib.hid (HR23.out.below hb4 hs23)
    have hs4 := hb4.size
    have cC0 := HN4.out.cell0
    have cC1 := HN4.out.cell1
    clear hb4 HGB HR23 HR3 HN3 HN2
    have hsz24 : w2.heap.size ≤ w4.heap.size := by omega
    go_upto_region 7 with fail
    go_cut [45] (fun s wc => s = .bool (!(netOk n && (decide (0 ≤ x) && decide (x < P)))) ∧ NB w B P b1 k1 c1 n wc ∧ Row wc _ w2.heap.size A2 b2 0 (bools rs) ∧ w2.heap.size ≤ wc.heap.size)
    case first =>
      go_wp2_with fail
      refine (specNetOk_c n _ _ _ w4 HN4.out.nv (Nat.le_of_lt HN4.out.lt)).mono ?_
      rintro e w5 ⟨rfl, hb5⟩
      have HN5 := Lib.hid (HN4.out.below hb5)
      have HFIN := Lib.hid (And.intro HN5.out (And.intro (HR4.out.below hb5 hsz24) (show w2.heap.size ≤ w5.heap.size by have := hb5.size; omega)))
      have dC0 := HN5.out.cell0
      clear hb5
      cases hok : netOk n with
      | false =>
        have HOK := Lib.hid hok
        clear hok
        go_wp2
        go_meet
        exact ⟨by rw [HOK.out]; rfl, HFIN.out⟩
      | true =>
        have HOK := Lib.hid hok
        clear hok
        by_cases h0 : 0 ≤ x
        · by_cases hP : x < P
          · go_wp2
            go_meet
            exact ⟨by rw [HOK.out]; simp [h0, hP], HFIN.out⟩
          · go_wp2
            go_meet
            exact ⟨by rw [HOK.out]; simp [hP], HFIN.out⟩
        · go_wp2
          go_meet
          exact ⟨by rw [HOK.out]; simp [h0], HFIN.out⟩
    case rest =>
      clear HN4 HR4 cC0 cC1 hs4 hsz24
      obtain ⟨rfl, hn, hr, hsz⟩ := hcut
      have HN := Lib.hid hn
      have HR := Lib.hid hr
      clear hn hr
      have gB0 := HN.out.cell0
      have gB1 := HN.out.cell1
      by_cases hall : netOk n = true ∧ 0 ≤ x ∧ x < P
      · obtain ⟨hok, h0, hP⟩ := hall
        have e1 : (!(netOk n && (decide (0 ≤ x) && decide (x < P)))) = false := by simp [hok, h0, hP]
        rw [e1]
        obtain ⟨xn, rfl⟩ := Int.eq_ofNat_of_zero_le h0
        have hnp := HPK.out.1
        have hlen : rs.length = P.toNat := by rw [HNO.out hok h0 (by rw [hnp]; exact hP), hnp]
        obtain ⟨pn, rfl⟩ := Int.eq_ofNat_of_zero_le (show 0 ≤ P by omega)
        rw [Int.toNat_natCast] at hlen
        have hnk := HPK.out.2
        have h6 : n.tasks.length ≤ 6 := (netOk_parts hok).2.2.2.1
        have hpos : 0 < rs.length := by omega
        have hk6 : k1 ≤ 6 := by omega
        have HLEN := Lib.hid hlen
        have HNK := Lib.hid hnk
        have HOK := Lib.hid hok
        have HNP := Lib.hid hnp
        clear e1 hok hlen hnk hnp
        go_wp2_with fail
        refine (implNetReach_c n _ _ _ (xn : Int) (-1) wc HN.out.nv (Nat.le_of_lt HN.out.lt) (small_out HSM.out)).mono ?_
        rintro e w6 ⟨v6, rfl, hM6, hb6⟩
        have HN6 := Lib.hid (HN.out.below hb6)
        have HR6 := Lib.hid (HR.out.below hb6 hsz)
        obtain ⟨A6, b6, c6, rfl, hr6⟩ := hM6.row
        have HS6 := Lib.hid hr6
        have HBV := Lib.hid (fun k => HBU.out k hpos)
        have HSLN := Lib.hid (show (reachN n (xn : Int) (-1)).length = pn by rw [reachN_yes HOK.out (by rw [inB_iff, HNP.out]; omega), reachAll_length, single_length, HNP.out, Int.toNat_natCast])
        clear hb6 hM6 hr6 HBU
        generalize hss : reachN n (xn : Int) (-1) = ss at HS6 HBV HSLN ⊢
        clear hss
        have jB0 := HN6.out.cell0
        have jB1 := HN6.out.cell1
        clear gB0 gB1
        go_wp2
        go_loop [8] (fun i => ∃ q : Nat, q ≤ pn ∧ i = .int .i64 q) (fun i => pn - (intOf i).toNat)
        case atStart => exact ⟨0, Nat.zero_le _, rfl⟩
        case round =>
          obtain ⟨q, hq, rfl⟩ := hrel
          by_cases hlt : q < pn
          · have hlt1 : (q : Int) < (pn : Int) := by omega
            obtain ⟨rfl, _, _, rq, hrq, hcq, _⟩ := HR6.out.bool (k := q) (by rw [HLEN.out]; exact hlt)
            obtain ⟨rfl, _, _, sq, hsq, hcs, _⟩ := HS6.out.bool (k := q) (by rw [HSLN.out]; exact hlt)
            rw [Nat.zero_add] at hcq hcs
            have hqr : (q : Int) < (rs.length : Int) := by rw [HLEN.out]; omega
            have hqs : (q : Int) < (ss.length : Int) := by rw [HSLN.out]; omega
            cases rq with
            | true =>
              have hst : sq = true := by rw [← getD_some hsq]; exact HBV.out q (getD_some hrq)
              subst hst
              clear hrq hsq
              go_wp2
              go_round
              case rel => exact ⟨q + 1, by omega, by go_num⟩
              case measure => simp [intOf]; omega
            | false =>
              clear hrq hsq
              go_wp2
              go_round
              case rel => exact ⟨q + 1, by omega, by go_num⟩
              case measure => simp [intOf]; omega
          · have hlt1 : ¬ ((q : Int) < (pn : Int)) := by omega
            go_wp2
            go_loop [9] (fun i => ∃ tn : Nat, tn ≤ k1 ∧ i = .int .i64 tn) (fun i => k1 - (intOf i).toNat)
            case atStart => exact ⟨0, Nat.zero_le _, rfl⟩
            case round =>
              obtain ⟨tn, htn, rfl⟩ := hrel
              by_cases htl : tn < k1
              · have htl1 : (tn : Int) < (k1 : Int) := by omega
                obtain ⟨t, Ai, bi, oi, ci, Ao, bo, oo, co, Ac, bc, oc, cc, ht, hri, hro, _, _, _, _, hq2, hq3, _⟩ := HN6.out.task (i := tn) (by rw [HNK.out]; exact htl)
                have HRI := Lib.hid hri
                have HRO := Lib.hid hro
                have HTT := Lib.hid ht
                have hil : t.ins.length ≤ 16 ∧ t.out.length ≤ 16 := by
                  have := (HSM.out.2.2.2.2 t (List.mem_of_getElem? ht)).1; exact ⟨this.1, this.2.1⟩
                have hil1 := hil.1
                have hil2 := hil.2
                clear hri hro ht hil
                go_wp2
                go_loop [10, 11] (fun f i => ∃ j : Nat, j ≤ t.ins.length ∧ i = .int .i64 j ∧ f = .bool ((t.ins.take j).any (bit rs))) (fun _ i => t.ins.length - (intOf i).toNat)
                case atStart => exact ⟨0, Nat.zero_le _, rfl, rfl⟩
                case round =>
                  obtain ⟨j, hj, rfl, rfl⟩ := hrel
                  by_cases hjl : j < t.ins.length
                  · have hjl1 : (j : Int) < (t.ins.length : Int) := by omega
                    obtain ⟨rfl, _, _, z, hz, hcz, _⟩ := HRI.out.int hjl
                    have hzb := ins_bound HOK.out (List.mem_of_getElem? HTT.out) (List.mem_of_getElem? hz)
                    rw [HNP.out] at hzb
                    have hzb1 := hzb.1
                    obtain ⟨zn, rfl⟩ := Int.eq_ofNat_of_zero_le hzb1
                    have hzr : zn < rs.length := by rw [HLEN.out]; omega
                    have hzr1 : (zn : Int) < (rs.length : Int) := by omega
                    obtain ⟨rfl, _, _, rz, hrz, hcr, _⟩ := HR6.out.bool hzr
                    rw [Nat.zero_add] at hcr
                    have HSN := Lib.hid (any_snoc (bit rs) hz)
                    have HBZ := Lib.hid (bit_of hrz)
                    clear hz hrz hzb hzb1
                    cases hfr : (t.ins.take j).any (bit rs) with
                    | true =>
                      have HFR := Lib.hid hfr
                      clear hfr
                      go_wp2
                      go_round
                      case rel => exact ⟨j + 1, by omega, by go_num, by rw [HSN.out, HFR.out]; rfl⟩
                      case measure => simp [intOf]; omega
                    | false =>
                      have HFR := Lib.hid hfr
                      clear hfr
                      go_wp2
                      go_round
                      case rel => exact ⟨j + 1, by omega, by go_num, by rw [HSN.out, HFR.out, HBZ.out]; rfl⟩
                      case measure => simp [intOf]; omega
                  · have hjl1 : ¬ ((j : Int) < (t.ins.length : Int)) := by omega
                    have hj2 : (t.ins.take j).any (bit rs) = t.ins.any (bit rs) := by rw [List.take_of_length_le (by omega)]
                    rw [hj2]
                    clear hj2
                    generalize hff : t.ins.any (bit rs) = ff
                    have HFF := Lib.hid hff
                    clear hff
                    go_wp2
                    go_loop [12] (fun i => ∃ j : Nat, j ≤ t.out.length ∧ i = .int .i64 j) (fun i => t.out.length - (intOf i).toNat)
                    case atStart => exact ⟨0, Nat.zero_le _, rfl⟩
                    case round =>
                      obtain ⟨j, hj, rfl⟩ := hrel
                      by_cases hjo : j < t.out.length
                      · have hjo1 : (j : Int) < (t.out.length : Int) := by omega
                        obtain ⟨rfl, _, _, f, hf, ⟨hcf, _⟩, _⟩ := HRO.out.flow hjo
                        have hfb := out_bound HOK.out (List.mem_of_getElem? HTT.out) (List.mem_of_getElem? hf)
                        rw [HNP.out] at hfb
                        obtain ⟨fo, hfo⟩ := Int.eq_ofNat_of_zero_le (show 0 ≤ f.to by omega)
                        rw [hfo] at hcf hfb
                        have hfr : fo < rs.length := by rw [HLEN.out]; omega
                        have hfr1 : (fo : Int) < (rs.length : Int) := by omega
                        obtain ⟨rfl, _, _, rf, hrf, hcr, _⟩ := HR6.out.bool hfr
                        rw [Nat.zero_add] at hcr
                        by_cases hty : (tn : Int) = y
                        · have hty1 : ((tn : Int) != y) = false := by simp [hty]
                          have HTY := Lib.hid hty
                          clear hty hf hrf hfo hfb
                          go_wp2
                          go_round
                          case rel => exact ⟨j + 1, by omega, by go_num⟩
                          case measure => simp [intOf]; omega
                        · have hty1 : ((tn : Int) != y) = true := by simp [hty]
                          cases ff with
                          | false =>
                            clear hty hf hrf hfo hfb
                            go_wp2
                            go_round
                            case rel => exact ⟨j + 1, by omega, by go_num⟩
                            case measure => simp [intOf]; omega
                          | true =>
                            have hrt : rf = true := by
                              rw [← bit_of hrf, ← hfo]
                              exact HST.out hpos tn t HTT.out hty HFF.out f (List.mem_of_getElem? hf)
                            subst hrt
                            clear hty hf hrf hfo hfb
                            go_wp2
                            go_round
                            case rel => exact ⟨j + 1, by omega, by go_num⟩
                            case measure => simp [intOf]; omega
                      · have hjo1 : ¬ ((j : Int) < (t.out.length : Int)) := by omega
                        go_wp2
                        go_round
                        case rel => exact ⟨tn + 1, by omega, by go_num⟩
                        case measure => simp [intOf]; omega
              · have htl1 : ¬ ((tn : Int) < (k1 : Int)) := by omega
                have hxr : xn < rs.length := by rw [HLEN.out]; omega
                have hxr1 : (xn : Int) < (rs.length : Int) := by omega
                obtain ⟨rfl, _, _, rx, hrx, hcx, _⟩ := HR6.out.bool hxr
                rw [Nat.zero_add] at hcx
                have hrt : rx = true := by rw [← getD_some hrx]; exact HSL.out xn rfl hpos
                subst hrt
                have hlp : ((rs.length : Int) == (pn : Int)) = true := by rw [HLEN.out]; simp
                clear hrx
                go_wp2
                go_ret
                exact ⟨rfl, HN6.out.bl⟩
      · have e1 : (!(netOk n && (decide (0 ≤ x) && decide (x < P)))) = true := by
          cases hh : (netOk n && (decide (0 ≤ x) && decide (x < P))) with
          | false => rfl
          | true => simp at hh; exact absurd ⟨hh.1, hh.2.1, hh.2.2⟩ hall
        have hl0 : rs.length = 0 := HNN.out (by rw [HPK.out.1]; exact hall)
        have hl1 : ((rs.length : Int) == 0) = true := by simp [hl0]
        rw [e1]
        clear e1 hall hl0
        go_wp2_with fail
        refine (guOk_c wc).mono ?_
        rintro e w8 ⟨rfl, hb8⟩
        have HB8 := Lib.hid (HN.out.below hb8).bl
        clear hb8
        go_wp2
        go_ret
        exact ⟨rfl, HB8.out⟩
end Go.Proofs.Ytoggdhbnkbdilaa
