/- A law over what is drawn of a code: who has a mark begins or waits. -/
import Derived.Test.YtkcbghaadjhceaaDrawE
import Derived.Test.YtkcbghaadjhceaaEB
import Derived.Test.YtkcbghaadjhceaaUnder
import Derived.Test.YtkcbghaadjhceaaLE3
import Derived.Test.YtkcbghaadjhceaaReader
import Derived.BigQuiet
import Derived.Deep.DeepCutAuto
namespace Go.Proofs.Ytkcbghaadjhceaa
open Go.RowKit
set_option linter.unusedVariables false
set_option linter.unusedSimpArgs false

def markedN (n : NNet) (ys : List Int) : Nat → Nat
  | 0 => 0
  | m + 1 => markedN n ys m + (if someB ys (taskOf n (m : Int)).ins = true then 1 else 0)
theorem markedN_le (n : NNet) (ys : List Int) : ∀ m, markedN n ys m ≤ m
  | 0 => Nat.le_refl _
  | m + 1 => by have := markedN_le n ys m; unfold markedN; split <;> omega
theorem marked_sum {n : NNet} {ys : List Int} {bs : List NItem} (h : ∀ m, m < n.tasks.length → canAt n ys bs m = true → someB ys (taskOf n (m : Int)).ins = true) :
    ∀ m, m ≤ n.tasks.length → (atsN (waitAt n ys bs) m).length + (atsN (canAt n ys bs) m).length = markedN n ys m
  | 0, _ => rfl
  | m + 1, hm => by
    have ih := marked_sum h m (by omega)
    have hh := h m (by omega)
    unfold markedN atsN
    rw [List.length_append, List.length_append]
    unfold waitAt at *
    cases hs : someB ys (taskOf n (m : Int)).ins with
    | true =>
      cases hc : canB n ys bs (m : Int) with
      | true => have hc' : canAt n ys bs m = true := hc; simp only [hc']; simp [hc]; omega
      | false => have hc' : canAt n ys bs m = false := hc; simp only [hc']; simp [hc]; omega
    | false =>
      have hc : canAt n ys bs m = false := Bool.eq_false_iff.2 fun h' => by have := hh h'; rw [hs] at this; cases this
      simp only [hc]; simp; omega
theorem wait_mem {n : NNet} {ys : List Int} {bs : List NItem} {m : Nat} {x : Int} (h : x ∈ atsN (waitAt n ys bs) m) : ∃ j : Nat, j < m ∧ x = (j : Int) ∧ someB ys (taskOf n (j : Int)).ins = true ∧ canB n ys bs (j : Int) = false := by
  obtain ⟨j, h1, h2, h3⟩ := mem_atsN.1 h
  unfold waitAt at h2
  rw [Bool.and_eq_true, Bool.not_eq_true'] at h2
  exact ⟨j, h1, h3, h2.1, h2.2⟩
/-- What the two lists say of marks that are ok. -/
theorem waits_facts {n : NNet} {ys : List Int} (bs : List NItem) (hok : mrkOk n ys = true) :
    (∀ x ∈ waitL n ys bs, ∃ (j : Nat) (t : NTask), x = (j : Int) ∧ n.tasks[j]? = some t ∧ ¬ t.join = 2 ∧ x ∉ enaL n ys bs) ∧
    (busyB n bs = true → (waitL n ys bs).length + (enaL n ys bs).length = markedN n ys n.tasks.length) ∧
    (busyB n bs = false → waitL n ys bs = [] ∧ enaL n ys bs = []) := by
  obtain ⟨h1, _, _⟩ := mrkOk_parts hok
  have hcs : ∀ m, m < n.tasks.length → canAt n ys bs m = true → someB ys (taskOf n (m : Int)).ins = true := by
    intro m hm hc
    have ht := List.getElem?_eq_getElem hm
    rw [taskOf_at ht]
    unfold canAt at hc
    have htk := (netOk_parts h1).2.2.2.2 _ (List.mem_of_getElem? ht)
    have hl := taskOk_lens htk
    by_cases j1 : n.tasks[m].join = 1
    · rw [canB_1 ht j1] at hc; exact some_of_all (by omega) hc
    · by_cases j2 : n.tasks[m].join = 2
      · rw [canB_2 ht j2] at hc; exact hc
      · rw [canB_3 ht j1 j2, Bool.and_eq_true] at hc; exact hc.1
  refine ⟨fun x hx => ?_, fun hb => ?_, fun hb => ⟨waitL_no2 hb, enaL_no2 hb⟩⟩
  · by_cases hb : busyB n bs = true
    · rw [waitL_yes hok hb] at hx
      obtain ⟨j, hj, rfl, hs, hc⟩ := wait_mem hx
      have ht := List.getElem?_eq_getElem hj
      refine ⟨j, _, rfl, ht, fun h2 => ?_, fun hm => ?_⟩
      · rw [canB_2 ht h2] at hc
        rw [taskOf_at ht, hc] at hs; cases hs
      · rw [enaL_yes hok hb] at hm
        obtain ⟨j', _, h2, h3⟩ := mem_atsN.1 hm
        obtain rfl : j = j' := by omega
        unfold canAt at h2
        rw [hc] at h2; cases h2
    · rw [waitL_no2 (by simpa using hb)] at hx; cases hx
  · rw [waitL_yes hok hb, enaL_yes hok hb]; exact marked_sum hcs _ (Nat.le_refl _)

set_option maxRecDepth 100000 in
set_option maxHeartbeats 4000000 in
theorem enaWaitsAll_walk {zs : List Int} {A : Option Addr} {b off c : Nat} (w : World) (hV : Row w 0 w.heap.size A b off (bytesC zs)) (hz : ∀ x ∈ zs, 0 ≤ x ∧ x ≤ 255) (hm : zs.length ≤ maxLen) (hcap : zs.length ≤ c) :
    Calls Try.prog 9 #[.slice A zs.length c] w fun e w' => e = .returned (.bool true) ∧ Below w.heap.size w w' := by
  have hm0 := hm
  have HZ := Lib.hid hz
  clear hz
  unfold maxLen at hm
  go_enter Try.func9, Try.ntmps9
  by_cases hbig : 1048576 < zs.length
  · go_wp2; go_ret; exact ⟨rfl, Below.refl _ _⟩
  · go_wp2_with fail
    refine (drawEnaWaits_c zs A b off c w hV HZ.out hm0 hcap).mono ?_
    rintro e w1 ⟨P, b1, k, c1, n, A9, b9, o9, c9, ys, Ai, bi, oi, ci, bs, rfl, hyl, hyc, hyb, hbl, hrow, hrowi, hg, hb⟩
    have HE1 := Lib.hid (EB.start hg hb hrow hrowi)
    have HSM := Lib.hid hg.1
    have HPK := Lib.hid (And.intro hg.2.1 hg.2.2.1)
    clear hg hb hrow hrowi hyb hyc
    generalize hBB : w1.heap.size = B at HE1
    have hym : ys.length ≤ maxLen := by unfold maxLen; omega
    have hbm : bs.length ≤ maxLen := by unfold maxLen; omega
    have hbg1 : decide ((1048576 : Int) < (zs.length : Int)) = false := decide_eq_false (by omega)
    have cA0 := HE1.out.cell0
    have cA1 := HE1.out.cell1
    go_wp2_with fail
    refine (HE1.out.implWaits HSM.out hym hbm).mono ?_
    rintro e w2 ⟨v2, rfl, hM2, hb2⟩
    have HE2 := Lib.hid (HE1.out.below hb2)
    obtain ⟨A3, b3, c3, rfl, hr3⟩ := hM2.row
    have HX2 := Lib.hid (hr3.more (Nat.zero_le _) (Nat.le_refl _))
    clear hb2 hM2 hr3 cA0 cA1
    have cB0 := HE2.out.cell0
    have cB1 := HE2.out.cell1
    go_wp2_with fail
    refine (HE2.out.specWaits HSM.out hym hbm).mono ?_
    rintro e w3 ⟨v3, rfl, hM3, hb3⟩
    have HE3 := Lib.hid (HE2.out.below hb3)
    have HX3 := Lib.hid (HX2.out.below hb3 (Nat.le_refl _))
    obtain ⟨A4, b4, c4, rfl, hr4⟩ := hM3.row
    have hxl := waitL_len n ys bs
    have hxm : (waitL n ys bs).length ≤ maxLen := by unfold maxLen; omega
    have HGB := guInts_c (waitL n ys bs) (waitL n ys bs) _ _ _ _ A3 A4 b3 0 c3 b4 0 c4 w3 HX3.out hr4 hxm hxm
    rw [decide_eq_true rfl] at HGB
    replace HGB := Lib.hid HGB
    have hs23 := hb3.size
    clear hb3 hM3 hr4 cB0 cB1
    go_wp2_with fail
    refine HGB.out.mono ?_
    rintro e w4 ⟨rfl, hb4⟩
    have HE4 := Lib.hid (HE3.out.below hb4)
    have HX4 := Lib.hid (HX3.out.below hb4 hs23)
    have hs34 := hb4.size
    clear hb4 HGB
    have cD0 := HE4.out.cell0
    have cD1 := HE4.out.cell1
    go_wp2_with fail
    refine (HE4.out.implTasks HSM.out hym hbm).mono ?_
    rintro e w5 ⟨v5, rfl, hM5, hb5⟩
    have HE5 := Lib.hid (HE4.out.below hb5)
    have HX5 := Lib.hid (HX4.out.below hb5 (by omega))
    obtain ⟨A6, b6, c6, rfl, hr6⟩ := hM5.row
    have HC5 := Lib.hid (hr6.more (Nat.zero_le _) (Nat.le_refl _))
    have hel := enaL_len n ys bs
    have hem : (enaL n ys bs).length ≤ maxLen := by unfold maxLen; omega
    have hs45 := hb5.size
    clear hb5 hM5 hr6 cD0 cD1
    have cE0 := HE5.out.cell0
    have cE1 := HE5.out.cell1
    go_wp2_with fail
    refine (HE5.out.mrk hym).mono ?_
    rintro e w6 ⟨rfl, hb6⟩
    have HE6 := Lib.hid (HE5.out.below hb6)
    have HX6 := Lib.hid (HX5.out.below hb6 (by omega))
    have HC6 := Lib.hid (HC5.out.below hb6 (Nat.le_refl _))
    have hs56 := hb6.size
    clear hb6 cE0 cE1
    have cF0 := HE6.out.cell0
    have cF1 := HE6.out.cell1
    generalize hok : mrkOk n ys = ok
    cases ok with
    | false =>
      have hl0 : (((waitL n ys bs).length : Int) == 0) = true := by rw [waitL_no1 hok]; rfl
      clear hok
      go_wp2_with fail
      refine (guOk_c _).mono ?_
      rintro e wz ⟨rfl, hbk⟩
      have HBX := Lib.hid (HE6.out.below hbk).bl
      clear hbk
      go_wp2
      go_ret
      exact ⟨rfl, HBX.out⟩
    | true =>
      obtain ⟨hW, hBY, hBN⟩ := waits_facts bs hok
      have HOK := Lib.hid hok
      have hPN : (ys.length : Int) = n.places := (mrkOk_parts hok).2.1
      have HPN := Lib.hid hPN
      have hk6 : k ≤ 6 := by have := HSM.out.2.2.2.1; have := HPK.out.2; omega
      have HW := Lib.hid hW
      have HBY := Lib.hid hBY
      have HBN := Lib.hid hBN
      clear hok hW hBY hBN hPN
      generalize waitL n ys bs = W at *
      generalize enaL n ys bs = C at *
      go_wp2
      go_loopw [8] (fun i wr => ∃ j d : Nat, j ≤ W.length ∧ i = .int .i64 j ∧ wr = w6.drewN d) (fun i _ => W.length - (intOf i).toNat)
      case atStart => exact ⟨0, 0, Nat.zero_le _, rfl, rfl⟩
      case round =>
        obtain ⟨j, d, hj, rfl, hw⟩ := hrel
        have HWW := Lib.hid hw
        replace cF0 : wr.cell? ⟨B, 0, none⟩ = some (.int .i64 P) := by rw [hw]; exact cF0
        replace cF1 : wr.cell? ⟨B, 1, none⟩ = some (.slice (some ⟨b1, 0, none⟩) k c1) := by rw [hw]; exact cF1
        clear hw
        by_cases hlt : j < W.length
        · have hlt1 : (j : Int) < (W.length : Int) := by omega
          obtain ⟨rfl, _, _, x, hx, hcx, _⟩ := HX6.out.int hlt
          rw [Nat.zero_add] at hcx
          replace hcx : wr.cell? ⟨b3, j, none⟩ = some (.int .i64 x) := by rw [HWW.out]; exact hcx
          obtain ⟨tn, t, rfl, ht, hj2, hno⟩ := HW.out x (List.mem_of_getElem? hx)
          have htn : tn < k := by rw [← HPK.out.2]; exact lt_of_some ht
          have htn1 : (tn : Int) < (k : Int) := by omega
          obtain ⟨t', _, _, _, _, _, _, _, _, _, _, _, _, ht', _, _, _, _, d0, _, _, _⟩ := HE6.out.nb.task (i := tn) (by rw [HPK.out.2]; exact htn)
          obtain rfl : t' = t := by rw [ht] at ht'; injection ht' with ht'; exact ht'.symm
          replace d0 : wr.cell? ⟨b1, tn * 9, none⟩ = some (.int .i64 t'.join) := by rw [HWW.out]; exact d0
          have hjj : (t'.join == 2) = false := by simpa using hj2
          have HQH := Lib.hid (show ∀ q, Calls Try.prog 16 #[.slice A6 C.length c6, .int .i64 (tn : Int)] (wr.drewN q) fun e w'' => e = .returned (.bool false) ∧ ∃ m', w'' = wr.drewN m' from fun q => by
            have := quiet_w (guHas_c C _ _ A6 b6 0 c6 (tn : Int) (wr.drewN q) (by rw [HWW.out]; exact (HC6.out.drewN d).drewN q) hem)
            rw [decide_eq_false hno] at this; exact this)
          clear hx ht ht' hno hj2
          go_wp2
          go_quiet (first | (go_at_call 16; with_reducible exact HQH.out _))
          go_wp2
          go_roundw
          case rel => exact ⟨j + 1, _, by omega, by go_num, by rw [HWW.out, World.drewN_drewN]⟩
          case measure => simp [intOf]; omega
        · have hlt1 : ¬ ((j : Int) < (W.length : Int)) := by omega
          have HEr := Lib.hid (show EB w B P b1 k c1 n A9 b9 o9 ys Ai bi oi bs wr by rw [HWW.out]; exact HE6.out.drewN d)
          clear HWW
          obtain ⟨wo, rfl⟩ : ∃ wo, wo = wr := ⟨_, rfl⟩
          go_wp2
          go_loop [9, 10] (fun a i => ∃ m : Nat, m ≤ k ∧ i = .int .i64 m ∧ a = .int .i64 (markedN n ys m : Nat)) (fun _ i => k - (intOf i).toNat)
          case atStart => exact ⟨0, Nat.zero_le _, rfl, rfl⟩
          case round =>
            obtain ⟨m, hm, rfl, rfl⟩ := hrel
            have hml := markedN_le n ys m
            by_cases hmt : m < k
            · have hmt1 : (m : Int) < (k : Int) := by omega
              obtain ⟨t, A7, b7, o7, c7, _, _, _, _, _, _, _, _, ht, hri, _, _, _, _, _, d2, _⟩ := HEr.out.nb.task (i := m) (by rw [HPK.out.2]; exact hmt)
              have HIN := Lib.hid (fun (z : Int) (hz' : z ∈ t.ins) => ins_bound (mrkOk_parts HOK.out).1 (List.mem_of_getElem? ht) hz')
              have hil : t.ins.length ≤ 16 := (HSM.out.2.2.2.2 t (List.mem_of_getElem? ht)).1.1
              have HRI := Lib.hid hri
              have HMS := Lib.hid (show markedN n ys (m + 1) = markedN n ys m + (if someB ys t.ins = true then 1 else 0) by rw [markedN, taskOf_at ht])
              clear ht hri
              generalize hmk : markedN n ys m = mk at HMS hml ⊢
              have HMK := Lib.hid hmk
              clear hmk
              go_wp2
              go_loop [11, 12] (fun a i => ∃ p : Nat, p ≤ t.ins.length ∧ i = .int .i64 p ∧ a = .bool (someB ys (t.ins.take p))) (fun _ i => t.ins.length - (intOf i).toNat)
              case atStart => exact ⟨0, Nat.zero_le _, rfl, rfl⟩
              case round =>
                obtain ⟨p, hp, rfl, rfl⟩ := hrel
                by_cases hpt : p < t.ins.length
                · have hpt1 : (p : Int) < (t.ins.length : Int) := by omega
                  obtain ⟨rfl, _, _, q, hq, hcq, _⟩ := HRI.out.int hpt
                  obtain ⟨hq0, hq1⟩ := HIN.out q (List.mem_of_getElem? hq)
                  obtain ⟨qn, rfl⟩ := Int.eq_ofNat_of_zero_le hq0
                  have hqn : qn < ys.length := by have := HPN.out; omega
                  have hqn1 : (qn : Int) < (ys.length : Int) := by omega
                  obtain ⟨rfl, _, _, y, hy, hcy, _⟩ := HEr.out.ms.int hqn
                  have HS := someB_take (ms := ys) hq
                  rw [Int.toNat_natCast, getD_of hy] at HS
                  replace HS := Lib.hid HS
                  clear hq hy
                  generalize hsb : someB ys (t.ins.take p) = sb at HS ⊢
                  clear hsb
                  by_cases hpos : 0 < y
                  · have hpd : decide (0 < y) = true := decide_eq_true hpos
                    have HPD := Lib.hid hpd
                    cases sb with
                    | true =>
                      go_wp2
                      go_round
                      case rel => exact ⟨p + 1, by omega, by go_num, by rw [HS.out]; rfl⟩
                      case measure => simp [intOf]; omega
                    | false =>
                      go_wp2
                      go_round
                      case rel => exact ⟨p + 1, by omega, by go_num, by rw [HS.out, HPD.out]; rfl⟩
                      case measure => simp [intOf]; omega
                  · have hpd : decide (0 < y) = false := decide_eq_false hpos
                    have HPD := Lib.hid hpd
                    cases sb with
                    | true =>
                      go_wp2
                      go_round
                      case rel => exact ⟨p + 1, by omega, by go_num, by rw [HS.out]; rfl⟩
                      case measure => simp [intOf]; omega
                    | false =>
                      go_wp2
                      go_round
                      case rel => exact ⟨p + 1, by omega, by go_num, by rw [HS.out, HPD.out]; rfl⟩
                      case measure => simp [intOf]; omega
                · have hpt1 : ¬ ((p : Int) < (t.ins.length : Int)) := by omega
                  have htk : t.ins.take p = t.ins := List.take_of_length_le (by omega)
                  rw [htk]
                  clear htk
                  generalize hsb : someB ys t.ins = sb at HMS ⊢
                  clear hsb
                  cases sb with
                  | true =>
                    go_wp2
                    go_round
                    case rel => exact ⟨m + 1, by omega, by go_num, by rw [HMS.out]; go_num⟩
                    case measure => simp [intOf]; omega
                  | false =>
                    go_wp2
                    go_round
                    case rel => exact ⟨m + 1, by omega, by go_num, by rw [HMS.out]; go_num⟩
                    case measure => simp [intOf]; omega
            · have hmt1 : ¬ ((m : Int) < (k : Int)) := by omega
              obtain rfl : m = k := by omega
              have HBW := Lib.hid HEr.out.bl
              generalize hbu : busyB n bs = bu at HBY HBN
              cases bu with
              | true =>
                have hsum := HBY.out rfl
                rw [HPK.out.2] at hsum
                generalize markedN n ys m = mk at hsum hml ⊢
                subst hsum
                have hww : IntKind.i64.wrap ((W.length : Int) + (C.length : Int)) = (W.length : Int) + (C.length : Int) := IntWalk.i64_in _ (by omega)
                go_wp2_with fail
                refine (guOk_c _).mono ?_
                rintro e wz ⟨rfl, hbk⟩
                have HBX := Lib.hid (HEr.out.below hbk).bl
                clear hbk
                go_wp2
                go_ret
                exact ⟨rfl, HBX.out⟩
              | false =>
                obtain ⟨rfl, rfl⟩ := HBN.out rfl
                generalize markedN n ys m = mk at hml ⊢
                by_cases hm0 : mk = 0
                · subst hm0
                  go_wp2_with fail
                  refine (guOk_c _).mono ?_
                  rintro e wz ⟨rfl, hbk⟩
                  have HBX := Lib.hid (HEr.out.below hbk).bl
                  clear hbk
                  go_wp2
                  go_ret
                  exact ⟨rfl, HBX.out⟩
                · have hm1 : ((0 : Int) == (mk : Int)) = false := by simp; omega
                  have hm2 : ((mk : Int) == 0) = false := by simp; omega
                  have HGU := guUnderWay_c (ci := ci) HEr.out HSM.out HPK.out.2 (by omega)
                  rw [hbu] at HGU
                  replace HGU := Lib.hid HGU
                  go_wp2_with fail
                  refine HGU.out.mono ?_
                  rintro e wy ⟨rfl, hby⟩
                  have HEy := Lib.hid (HEr.out.below hby)
                  clear hby
                  go_wp2_with fail
                  refine (guOk_c _).mono ?_
                  rintro e wz ⟨rfl, hbk⟩
                  have HBX := Lib.hid (HEy.out.below hbk).bl
                  clear hbk
                  go_wp2
                  go_ret
                  exact ⟨rfl, HBX.out⟩
end Go.Proofs.Ytkcbghaadjhceaa
