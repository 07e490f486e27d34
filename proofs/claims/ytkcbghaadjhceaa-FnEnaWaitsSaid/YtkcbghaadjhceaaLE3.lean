/- A law over what is drawn of a code: a task begins by how it joins. -/
import Derived.Test.YtkcbghaadjhceaaDrawE
import Derived.Test.YtkcbghaadjhceaaEB
import Derived.Test.YtkcbghaadjhceaaReader
import Derived.BigQuiet
import Derived.Deep.DeepCutAuto
namespace Go.Proofs.Ytkcbghaadjhceaa
open Go.RowKit
set_option linter.unusedVariables false
set_option linter.unusedSimpArgs false

theorem someB_take {ms ins : List Int} {p : Nat} {x : Int} (h : ins[p]? = some x) : someB ms (ins.take (p + 1)) = (someB ms (ins.take p) || decide (0 < ms.getD x.toNat 0)) := by
  unfold someB; exact any_snoc _ h
theorem allB_take {ms ins : List Int} {p : Nat} {x : Int} (h : ins[p]? = some x) : allB ms (ins.take (p + 1)) = (allB ms (ins.take p) && decide (0 < ms.getD x.toNat 0)) := by
  unfold allB; exact all_snoc _ h
theorem some_of_all {ms ins : List Int} (h0 : 0 < ins.length) (h : allB ms ins = true) : someB ms ins = true := by
  unfold allB at h
  unfold someB
  rw [List.all_eq_true] at h
  rw [List.any_eq_true]
  exact ⟨ins[0], List.getElem_mem h0, h _ (List.getElem_mem h0)⟩
/-- When a task can begin: what its way of joining says. -/
theorem can_facts {n : NNet} {ys : List Int} {bs : List NItem} (hok : mrkOk n ys = true) {tn : Nat} {t : NTask} (ht : n.tasks[tn]? = some t) :
    (t.join = 1 ∨ t.join = 2 ∨ t.join = 3) ∧ (allB ys t.ins = true → someB ys t.ins = true) ∧
    (enaB n ys bs (tn : Int) = true → someB ys t.ins = true ∧ (t.join = 1 → allB ys t.ins = true)) ∧
    (enaB n ys bs (tn : Int) = false → bs = [] → (t.join = 1 → allB ys t.ins = false) ∧ (t.join = 2 → someB ys t.ins = false) ∧ (t.join = 3 → allB ys t.ins = false)) := by
  obtain ⟨h1, _, _⟩ := mrkOk_parts hok
  have hm := List.mem_of_getElem? ht
  have hlt := lt_of_some ht
  have htk := (netOk_parts h1).2.2.2.2 t hm
  obtain ⟨hj, _⟩ := taskOk_parts htk
  have hl := taskOk_lens htk
  rw [inB_iff] at hj
  have hsa : allB ys t.ins = true → someB ys t.ins = true := some_of_all (by omega)
  have hin : inB (tn : Int) 0 ((n.tasks.length : Int) - 1) = true := inB_iff.2 ⟨by omega, by omega⟩
  refine ⟨by omega, hsa, fun h => ?_, fun h hb => ?_⟩
  · rw [enaB, hok, hin, Bool.true_and, Bool.true_and, Bool.and_eq_true] at h
    have hc := h.2
    by_cases h1 : t.join = 1
    · rw [canB_1 ht h1] at hc; exact ⟨hsa hc, fun _ => hc⟩
    · by_cases h2 : t.join = 2
      · rw [canB_2 ht h2] at hc; exact ⟨hc, fun h => absurd h h1⟩
      · rw [canB_3 ht h1 h2, Bool.and_eq_true] at hc; exact ⟨hc.1, fun h => absurd h h1⟩
  · have hbu : busyB n bs = true := by rw [hb]; rfl
    rw [enaB, hok, hin, hbu, Bool.true_and, Bool.true_and, Bool.true_and] at h
    refine ⟨fun h1 => by rw [canB_1 ht h1] at h; exact h, fun h2 => by rw [canB_2 ht h2] at h; exact h, fun h3 => ?_⟩
    rw [canB_3 ht (by omega) (by omega)] at h
    refine Bool.eq_false_iff.2 fun ha => ?_
    rw [hsa ha, ha] at h
    simp at h

set_option maxRecDepth 100000 in
set_option maxHeartbeats 4000000 in
theorem enaCan_walk {zs : List Int} {A : Option Addr} {b off c : Nat} (w : World) (hV : Row w 0 w.heap.size A b off (bytesC zs)) (hz : ∀ x ∈ zs, 0 ≤ x ∧ x ≤ 255) (hm : zs.length ≤ maxLen) (hcap : zs.length ≤ c) :
    Calls Try.prog 5 #[.slice A zs.length c] w fun e w' => e = .returned (.bool true) ∧ Below w.heap.size w w' := by
  have hm0 := hm
  have HZ := Lib.hid hz
  clear hz
  unfold maxLen at hm
  go_enter Try.func5, Try.ntmps5
  by_cases hbig : 1048576 < zs.length
  · go_wp2; go_ret; exact ⟨rfl, Below.refl _ _⟩
  · go_wp2_with fail
    refine (drawEnaCan_c zs A b off c w hV HZ.out hm0 hcap).mono ?_
    rintro e w1 ⟨P, b1, k, c1, n, A9, b9, o9, c9, ys, Ai, bi, oi, ci, bs, x, rfl, hyl, hyc, hyb, hbl, hx1, hx2, hrow, hrowi, hg, hb⟩
    have HE1 := Lib.hid (EB.start hg hb hrow hrowi)
    have HSM := Lib.hid hg.1
    have HPK := Lib.hid (And.intro hg.2.1 hg.2.2.1)
    clear hg hb hrow hrowi hyb hyc
    generalize hBB : w1.heap.size = B at HE1
    have hym : ys.length ≤ maxLen := by unfold maxLen; omega
    have hbm : bs.length ≤ maxLen := by unfold maxLen; omega
    have hbg1 : decide ((1048576 : Int) < (zs.length : Int)) = false := decide_eq_false (by omega)
    have cA0 := HE1.out.cell0
    have cA1 := HE1.out.cell1
    go_wp2_with fail
    refine (HE1.out.implCan HSM.out hym hbm x).mono ?_
    rintro e w2 ⟨rfl, hb2⟩
    have HE2 := Lib.hid (HE1.out.below hb2)
    clear hb2 cA0 cA1
    have cB0 := HE2.out.cell0
    have cB1 := HE2.out.cell1
    go_wp2_with fail
    refine (HE2.out.specCan HSM.out hym hbm x).mono ?_
    rintro e w3 ⟨rfl, hb3⟩
    have HE3 := Lib.hid (HE2.out.below hb3)
    clear hb3 cB0 cB1
    generalize hcan : enaB n ys bs x = can
    have HCAN := Lib.hid hcan
    clear hcan
    have hcc : (can != can) = false := by simp
    have cC0 := HE3.out.cell0
    have cC1 := HE3.out.cell1
    go_wp2_with fail
    refine (HE3.out.mrk hym).mono ?_
    rintro e w4 ⟨rfl, hb4⟩
    have HE4 := Lib.hid (HE3.out.below hb4)
    clear hb4 cC0 cC1
    have cD0 := HE4.out.cell0
    have cD1 := HE4.out.cell1
    generalize hok : mrkOk n ys = ok
    cases ok with
    | false =>
      obtain rfl : can = false := by rw [← HCAN.out, enaB, hok]; rfl
      clear hok
      go_wp2_with fail
      refine (guOk_c _).mono ?_
      rintro e wz ⟨rfl, hbk⟩
      have HBX := Lib.hid (HE4.out.below hbk).bl
      clear hbk
      go_wp2
      go_ret
      exact ⟨rfl, HBX.out⟩
    | true =>
      have HOK := Lib.hid hok
      clear hok
      by_cases hx0 : x < 0
      · obtain rfl : can = false := by rw [← HCAN.out, enaB, Bool.eq_false_iff.2 (fun h => by have := (inB_iff.1 h).1; omega : ¬ inB x 0 ((n.tasks.length : Int) - 1) = true)]; simp
        go_wp2_with fail
        refine (guOk_c _).mono ?_
        rintro e wz ⟨rfl, hbk⟩
        have HBX := Lib.hid (HE4.out.below hbk).bl
        clear hbk
        go_wp2
        go_ret
        exact ⟨rfl, HBX.out⟩
      · obtain ⟨tn, rfl⟩ := Int.eq_ofNat_of_zero_le (show 0 ≤ x by omega)
        have hx0a : decide ((tn : Int) < 0) = false := decide_eq_false hx0
        by_cases hxk : tn < k
        · have hxk1 : ¬ ((k : Int) ≤ (tn : Int)) := by omega
          have hx0b : decide (k ≤ tn) = false := decide_eq_false (by omega)
          have hxk2 : (tn : Int) < (k : Int) := by omega
          obtain ⟨t, A7, b7, o7, c7, _, _, _, _, _, _, _, _, ht, hri, _, _, _, d0, _, d2, _⟩ := HE4.out.nb.task (i := tn) (by rw [HPK.out.2]; exact hxk)
          obtain ⟨hJ, hSA, hY, hNC⟩ := can_facts (bs := bs) HOK.out ht
          rw [HCAN.out] at hY hNC
          have hPN : (ys.length : Int) = n.places := (mrkOk_parts HOK.out).2.1
          have HIN := Lib.hid (fun (z : Int) (hz' : z ∈ t.ins) => ins_bound (mrkOk_parts HOK.out).1 (List.mem_of_getElem? ht) hz')
          have hil : t.ins.length ≤ 16 := (HSM.out.2.2.2.2 t (List.mem_of_getElem? ht)).1.1
          have HJ := Lib.hid hJ
          have HSA := Lib.hid hSA
          have HY := Lib.hid hY
          have HNC := Lib.hid hNC
          have HRI := Lib.hid hri
          have HPN := Lib.hid hPN
          clear hJ hSA hY hNC ht hri hPN
          go_wp2
          go_loop [8, 9, 10] (fun a b i => ∃ p : Nat, p ≤ t.ins.length ∧ i = .int .i64 p ∧ a = .bool (someB ys (t.ins.take p)) ∧ b = .bool (allB ys (t.ins.take p))) (fun _ _ i => t.ins.length - (intOf i).toNat)
          case atStart => exact ⟨0, Nat.zero_le _, rfl, rfl, rfl⟩
          case round =>
            obtain ⟨p, hp, rfl, rfl, rfl⟩ := hrel
            by_cases hlt : p < t.ins.length
            · have hlt1 : (p : Int) < (t.ins.length : Int) := by omega
              obtain ⟨rfl, _, _, q, hq, hcq, _⟩ := HRI.out.int hlt
              obtain ⟨hq0, hq1⟩ := HIN.out q (List.mem_of_getElem? hq)
              obtain ⟨qn, rfl⟩ := Int.eq_ofNat_of_zero_le hq0
              have hqn : qn < ys.length := by have := HPN.out; omega
              have hqn1 : (qn : Int) < (ys.length : Int) := by omega
              obtain ⟨rfl, _, _, y, hy, hcy, _⟩ := HE4.out.ms.int hqn
              have HS := someB_take (ms := ys) hq
              have HA := allB_take (ms := ys) hq
              rw [Int.toNat_natCast, getD_of hy] at HS HA
              replace HS := Lib.hid HS
              replace HA := Lib.hid HA
              clear hq hy
              generalize hsb : someB ys (t.ins.take p) = sb at HS ⊢
              generalize hab : allB ys (t.ins.take p) = ab at HA ⊢
              clear hsb hab
              by_cases hpos : 0 < y
              · have hpd : decide (0 < y) = true := decide_eq_true hpos
                have HPD := Lib.hid hpd
                cases sb with
                | true =>
                  cases ab with
                  | true =>
                    go_wp2
                    go_round
                    case rel => exact ⟨p + 1, by omega, by go_num, by rw [HS.out]; rfl, by rw [HA.out, HPD.out]; rfl⟩
                    case measure => simp [intOf]; omega
                  | false =>
                    go_wp2
                    go_round
                    case rel => exact ⟨p + 1, by omega, by go_num, by rw [HS.out]; rfl, by rw [HA.out]; rfl⟩
                    case measure => simp [intOf]; omega
                | false =>
                  cases ab with
                  | true =>
                    go_wp2
                    go_round
                    case rel => exact ⟨p + 1, by omega, by go_num, by rw [HS.out, HPD.out]; rfl, by rw [HA.out, HPD.out]; rfl⟩
                    case measure => simp [intOf]; omega
                  | false =>
                    go_wp2
                    go_round
                    case rel => exact ⟨p + 1, by omega, by go_num, by rw [HS.out, HPD.out]; rfl, by rw [HA.out]; rfl⟩
                    case measure => simp [intOf]; omega
              · have hpd : decide (0 < y) = false := decide_eq_false hpos
                have HPD := Lib.hid hpd
                cases sb with
                | true =>
                  cases ab with
                  | true =>
                    go_wp2
                    go_round
                    case rel => exact ⟨p + 1, by omega, by go_num, by rw [HS.out]; rfl, by rw [HA.out, HPD.out]; rfl⟩
                    case measure => simp [intOf]; omega
                  | false =>
                    go_wp2
                    go_round
                    case rel => exact ⟨p + 1, by omega, by go_num, by rw [HS.out]; rfl, by rw [HA.out]; rfl⟩
                    case measure => simp [intOf]; omega
                | false =>
                  cases ab with
                  | true =>
                    go_wp2
                    go_round
                    case rel => exact ⟨p + 1, by omega, by go_num, by rw [HS.out, HPD.out]; rfl, by rw [HA.out, HPD.out]; rfl⟩
                    case measure => simp [intOf]; omega
                  | false =>
                    go_wp2
                    go_round
                    case rel => exact ⟨p + 1, by omega, by go_num, by rw [HS.out, HPD.out]; rfl, by rw [HA.out]; rfl⟩
                    case measure => simp [intOf]; omega
            · have hlt1 : ¬ ((p : Int) < (t.ins.length : Int)) := by omega
              have htk : t.ins.take p = t.ins := List.take_of_length_le (by omega)
              rw [htk]
              clear htk
              have HBW := Lib.hid HE4.out.bl
              generalize hsb : someB ys t.ins = sb at HSA HY HNC ⊢
              generalize hab : allB ys t.ins = ab at HSA HY HNC ⊢
              clear hsb hab
              cases can with
              | true =>
                obtain ⟨h1, h2⟩ := HY.out rfl
                subst h1
                by_cases hj : t.join = 1
                · have hab := h2 hj
                  subst hab
                  have hj1 : (t.join != 1) = false := by simp [hj]
                  clear h2 hj
                  go_wp2
                  go_ret
                  exact ⟨rfl, HBW.out⟩
                · have hj1 : (t.join != 1) = true := by simpa using hj
                  clear h2 hj
                  go_wp2
                  go_ret
                  exact ⟨rfl, HBW.out⟩
              | false =>
                by_cases hb0 : 0 < bs.length
                · have hb1 : (0 : Int) < (bs.length : Int) := by omega
                  have hb2 : decide ((0 : Int) < (bs.length : Int)) = true := decide_eq_true hb1
                  rcases HJ.out with hj | hj | hj
                  · have hj1 : (t.join == 1) = true := by simp [hj]
                    have hj2 : (t.join == 2) = false := by simp [hj]
                    have hj3 : (t.join == 3) = false := by simp [hj]
                    clear hj
                    cases sb with
                    | true =>
                      cases ab with
                      | true =>
                        go_wp2_with fail
                        refine (guOk_c _).mono ?_
                        rintro e wz ⟨rfl, hbk⟩
                        have HBX := Lib.hid (HE4.out.below hbk).bl
                        clear hbk
                        go_wp2
                        go_ret
                        exact ⟨rfl, HBX.out⟩
                      | false =>
                        go_wp2_with fail
                        refine (guOk_c _).mono ?_
                        rintro e wz ⟨rfl, hbk⟩
                        have HBX := Lib.hid (HE4.out.below hbk).bl
                        clear hbk
                        go_wp2
                        go_ret
                        exact ⟨rfl, HBX.out⟩
                    | false =>
                      cases ab with
                      | true =>
                        go_wp2_with fail
                        refine (guOk_c _).mono ?_
                        rintro e wz ⟨rfl, hbk⟩
                        have HBX := Lib.hid (HE4.out.below hbk).bl
                        clear hbk
                        go_wp2
                        go_ret
                        exact ⟨rfl, HBX.out⟩
                      | false =>
                        go_wp2_with fail
                        refine (guOk_c _).mono ?_
                        rintro e wz ⟨rfl, hbk⟩
                        have HBX := Lib.hid (HE4.out.below hbk).bl
                        clear hbk
                        go_wp2
                        go_ret
                        exact ⟨rfl, HBX.out⟩
                  · have hj1 : (t.join == 1) = false := by simp [hj]
                    have hj2 : (t.join == 2) = true := by simp [hj]
                    have hj3 : (t.join == 3) = false := by simp [hj]
                    clear hj
                    cases sb with
                    | true =>
                      cases ab with
                      | true =>
                        go_wp2_with fail
                        refine (guOk_c _).mono ?_
                        rintro e wz ⟨rfl, hbk⟩
                        have HBX := Lib.hid (HE4.out.below hbk).bl
                        clear hbk
                        go_wp2
                        go_ret
                        exact ⟨rfl, HBX.out⟩
                      | false =>
                        go_wp2_with fail
                        refine (guOk_c _).mono ?_
                        rintro e wz ⟨rfl, hbk⟩
                        have HBX := Lib.hid (HE4.out.below hbk).bl
                        clear hbk
                        go_wp2
                        go_ret
                        exact ⟨rfl, HBX.out⟩
                    | false =>
                      cases ab with
                      | true =>
                        go_wp2_with fail
                        refine (guOk_c _).mono ?_
                        rintro e wz ⟨rfl, hbk⟩
                        have HBX := Lib.hid (HE4.out.below hbk).bl
                        clear hbk
                        go_wp2
                        go_ret
                        exact ⟨rfl, HBX.out⟩
                      | false =>
                        go_wp2_with fail
                        refine (guOk_c _).mono ?_
                        rintro e wz ⟨rfl, hbk⟩
                        have HBX := Lib.hid (HE4.out.below hbk).bl
                        clear hbk
                        go_wp2
                        go_ret
                        exact ⟨rfl, HBX.out⟩
                  · have hj1 : (t.join == 1) = false := by simp [hj]
                    have hj2 : (t.join == 2) = false := by simp [hj]
                    have hj3 : (t.join == 3) = true := by simp [hj]
                    clear hj
                    cases sb with
                    | true =>
                      cases ab with
                      | true =>
                        go_wp2_with fail
                        refine (guOk_c _).mono ?_
                        rintro e wz ⟨rfl, hbk⟩
                        have HBX := Lib.hid (HE4.out.below hbk).bl
                        clear hbk
                        go_wp2
                        go_ret
                        exact ⟨rfl, HBX.out⟩
                      | false =>
                        go_wp2_with fail
                        refine (guOk_c _).mono ?_
                        rintro e wz ⟨rfl, hbk⟩
                        have HBX := Lib.hid (HE4.out.below hbk).bl
                        clear hbk
                        go_wp2
                        go_ret
                        exact ⟨rfl, HBX.out⟩
                    | false =>
                      cases ab with
                      | true =>
                        go_wp2_with fail
                        refine (guOk_c _).mono ?_
                        rintro e wz ⟨rfl, hbk⟩
                        have HBX := Lib.hid (HE4.out.below hbk).bl
                        clear hbk
                        go_wp2
                        go_ret
                        exact ⟨rfl, HBX.out⟩
                      | false =>
                        go_wp2_with fail
                        refine (guOk_c _).mono ?_
                        rintro e wz ⟨rfl, hbk⟩
                        have HBX := Lib.hid (HE4.out.below hbk).bl
                        clear hbk
                        go_wp2
                        go_ret
                        exact ⟨rfl, HBX.out⟩
                · have hb1 : ¬ ((0 : Int) < (bs.length : Int)) := by omega
                  have hb2 : decide ((0 : Int) < (bs.length : Int)) = false := decide_eq_false hb1
                  obtain ⟨n1, n2, n3⟩ := HNC.out rfl (by cases bs with | nil => rfl | cons _ _ => simp at hb0)
                  rcases HJ.out with hj | hj | hj
                  · have hj1 : (t.join == 1) = true := by simp [hj]
                    have hj2 : (t.join == 2) = false := by simp [hj]
                    have hj3 : (t.join == 3) = false := by simp [hj]
                    have hz := n1 hj
                    subst hz
                    clear n1 n2 n3 hj
                    cases sb with
                    | true =>
                      go_wp2_with fail
                      refine (guOk_c _).mono ?_
                      rintro e wz ⟨rfl, hbk⟩
                      have HBX := Lib.hid (HE4.out.below hbk).bl
                      clear hbk
                      go_wp2
                      go_ret
                      exact ⟨rfl, HBX.out⟩
                    | false =>
                      go_wp2_with fail
                      refine (guOk_c _).mono ?_
                      rintro e wz ⟨rfl, hbk⟩
                      have HBX := Lib.hid (HE4.out.below hbk).bl
                      clear hbk
                      go_wp2
                      go_ret
                      exact ⟨rfl, HBX.out⟩
                  · have hj1 : (t.join == 1) = false := by simp [hj]
                    have hj2 : (t.join == 2) = true := by simp [hj]
                    have hj3 : (t.join == 3) = false := by simp [hj]
                    have hz := n2 hj
                    subst hz
                    clear n1 n2 n3 hj
                    cases ab with
                    | true =>
                      go_wp2_with fail
                      refine (guOk_c _).mono ?_
                      rintro e wz ⟨rfl, hbk⟩
                      have HBX := Lib.hid (HE4.out.below hbk).bl
                      clear hbk
                      go_wp2
                      go_ret
                      exact ⟨rfl, HBX.out⟩
                    | false =>
                      go_wp2_with fail
                      refine (guOk_c _).mono ?_
                      rintro e wz ⟨rfl, hbk⟩
                      have HBX := Lib.hid (HE4.out.below hbk).bl
                      clear hbk
                      go_wp2
                      go_ret
                      exact ⟨rfl, HBX.out⟩
                  · have hj1 : (t.join == 1) = false := by simp [hj]
                    have hj2 : (t.join == 2) = false := by simp [hj]
                    have hj3 : (t.join == 3) = true := by simp [hj]
                    have hz := n3 hj
                    subst hz
                    clear n1 n2 n3 hj
                    cases sb with
                    | true =>
                      go_wp2_with fail
                      refine (guOk_c _).mono ?_
                      rintro e wz ⟨rfl, hbk⟩
                      have HBX := Lib.hid (HE4.out.below hbk).bl
                      clear hbk
                      go_wp2
                      go_ret
                      exact ⟨rfl, HBX.out⟩
                    | false =>
                      go_wp2_with fail
                      refine (guOk_c _).mono ?_
                      rintro e wz ⟨rfl, hbk⟩
                      have HBX := Lib.hid (HE4.out.below hbk).bl
                      clear hbk
                      go_wp2
                      go_ret
                      exact ⟨rfl, HBX.out⟩
        · have hxk1 : ((k : Int) ≤ (tn : Int)) := by omega
          have hx0b : decide (k ≤ tn) = true := decide_eq_true (by omega)
          obtain rfl : can = false := by rw [← HCAN.out, enaB, Bool.eq_false_iff.2 (fun h => by have := (inB_iff.1 h).2; have := HPK.out.2; omega : ¬ inB (tn : Int) 0 ((n.tasks.length : Int) - 1) = true)]; simp
          go_wp2_with fail
          refine (guOk_c _).mono ?_
          rintro e wz ⟨rfl, hbk⟩
          have HBX := Lib.hid (HE4.out.below hbk).bl
          clear hbk
          go_wp2
          go_ret
          exact ⟨rfl, HBX.out⟩
end Go.Proofs.Ytkcbghaadjhceaa
