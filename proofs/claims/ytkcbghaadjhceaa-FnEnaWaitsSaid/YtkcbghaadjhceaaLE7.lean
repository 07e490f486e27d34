/- A law over what is drawn of a code: who waits for some waits for all that may still come. -/
import Derived.Test.YtkcbghaadjhceaaDrawE
import Derived.Test.YtkcbghaadjhceaaEB
import Derived.Test.YtkcbghaadjhceaaUnder
import Derived.Test.YtkcbghaadjhceaaLE3
import Derived.Test.YtkcbghaadjhceaaReader
import Derived.Test.YtkcbghaadjhceaaNetReach
import Derived.BigQuiet
import Derived.Deep.DeepCutAuto
namespace Go.Proofs.Ytkcbghaadjhceaa
open Go.RowKit
set_option linter.unusedVariables false
set_option linter.unusedSimpArgs false

/-- From place p, by tasks but t, place x can be come to. -/
def hitB (n : NNet) (t x p : Int) : Bool := bit (reachAll n t (single n.places.toNat p)) x
def placeN (n : NNet) (ys ins : List Int) (t x : Int) (m : Nat) : Bool := (List.range m).any fun j => awayAt ys ins j && hitB n t x (j : Int)
def outH (n : NNet) (t x : Int) (l : List NFlow) : Bool := l.any fun f => hitB n t x f.to
def comAt (n : NNet) (ys : List Int) (bs : List NItem) (ins : List Int) (t x : Int) : Bool := decide (ys.getD x.toNat 0 = 0) && (placeN n ys ins t x n.places.toNat || outH n t x (outsOf n bs))
def comN (n : NNet) (ys : List Int) (bs : List NItem) (ins : List Int) (t : Int) (j : Nat) : Bool := (ins.take j).any (comAt n ys bs ins t)
theorem placeN_succ (n : NNet) (ys ins : List Int) (t x : Int) (m : Nat) : placeN n ys ins t x (m + 1) = (placeN n ys ins t x m || (awayAt ys ins m && hitB n t x (m : Int))) := by
  unfold placeN; rw [List.range_succ, List.any_append]; simp
theorem outH_snoc {n : NNet} {t x : Int} {l : List NFlow} {q : Nat} {f : NFlow} (h : l[q]? = some f) : outH n t x (l.take (q + 1)) = (outH n t x (l.take q) || hitB n t x f.to) := any_snoc _ h
theorem outs_snoc {n : NNet} {bs : List NItem} {k : Nat} {b : NItem} (h : bs[k]? = some b) : outsOf n (bs.take (k + 1)) = outsOf n (bs.take k) ++ (taskOf n b.task).out := by
  unfold outsOf; rw [take_succ_of h, List.flatMap_append]; simp
theorem outH_append (n : NNet) (t x : Int) (a b : List NFlow) : outH n t x (a ++ b) = (outH n t x a || outH n t x b) := List.any_append
theorem com_coming {n : NNet} (h : netOk n = true) {ys : List Int} {bs : List NItem} (hb : busyB n bs = true) (t : Int) (ht0 : 0 ≤ t) (ht1 : t < (n.tasks.length : Int)) : (taskOf n t).ins.any (comAt n ys bs (taskOf n t).ins t) = comingB n ys bs t := by
  rw [← arrives_coming h hb t ht0 ht1, arrivesB]
  refine Bool.eq_iff_iff.2 ⟨fun h1 => ?_, fun h1 => ?_⟩
  · obtain ⟨x, hx, h2⟩ := List.any_eq_true.1 h1
    rw [comAt, Bool.and_eq_true, Bool.or_eq_true] at h2
    rcases h2.2 with h3 | h3
    · obtain ⟨j, hj, h4⟩ := List.any_eq_true.1 h3
      rw [Bool.and_eq_true] at h4
      exact List.any_eq_true.2 ⟨(j : Int), by rw [fromL, List.mem_append, mem_atsN]; exact .inl ⟨j, List.mem_range.1 hj, h4.1, rfl⟩, List.any_eq_true.2 ⟨x, hx, by rw [wantsB, Bool.and_eq_true]; exact ⟨h2.1, h4.2⟩⟩⟩
    · obtain ⟨f, hf, h4⟩ := List.any_eq_true.1 h3
      exact List.any_eq_true.2 ⟨f.to, by rw [fromL, List.mem_append]; exact .inr (List.mem_map.2 ⟨f, hf, rfl⟩), List.any_eq_true.2 ⟨x, hx, by rw [wantsB, Bool.and_eq_true]; exact ⟨h2.1, h4⟩⟩⟩
  · obtain ⟨p, hp, h2⟩ := List.any_eq_true.1 h1
    obtain ⟨x, hx, h3⟩ := List.any_eq_true.1 h2
    rw [wantsB, Bool.and_eq_true] at h3
    refine List.any_eq_true.2 ⟨x, hx, ?_⟩
    rw [comAt, Bool.and_eq_true, Bool.or_eq_true]
    refine ⟨h3.1, ?_⟩
    rw [fromL, List.mem_append, mem_atsN, List.mem_map] at hp
    rcases hp with ⟨j, hj, h4, h5⟩ | ⟨f, hf, h5⟩
    · left
      refine List.any_eq_true.2 ⟨j, List.mem_range.2 hj, ?_⟩
      rw [Bool.and_eq_true]
      exact ⟨h4, by rw [← h5]; exact h3.2⟩
    · right
      refine List.any_eq_true.2 ⟨f, hf, ?_⟩
      show bit (reachAll n t (single n.places.toNat f.to)) x = true
      rw [h5]; exact h3.2
theorem waits_law {n : NNet} {ys : List Int} {bs : List NItem} (hok : mrkOk n ys = true) {tn : Nat} {t : NTask} (ht : n.tasks[tn]? = some t) (hj : t.join = 3) :
    (busyB n bs = false → enaB n ys bs (tn : Int) = false) ∧ (busyB n bs = true → enaB n ys bs (tn : Int) = (someB ys t.ins && (allB ys t.ins || !comN n ys bs t.ins (tn : Int) t.ins.length))) := by
  have hlt := lt_of_some ht
  have hin : inB (tn : Int) 0 ((n.tasks.length : Int) - 1) = true := inB_iff.2 ⟨by omega, by omega⟩
  refine ⟨fun h => by rw [enaB, h]; simp, fun h => ?_⟩
  rw [enaB, hok, h, hin, canB_3 ht (by omega) (by omega), ← com_coming (mrkOk_parts hok).1 h (tn : Int) (by omega) (by omega), taskOf_at ht, comN, List.take_of_length_le (Nat.le_refl _)]
  rfl
theorem comN_snoc {n : NNet} {ys : List Int} {bs : List NItem} {ins : List Int} {t : Int} {j : Nat} {x : Int} (h : ins[j]? = some x) : comN n ys bs ins t (j + 1) = (comN n ys bs ins t j || comAt n ys bs ins t x) := any_snoc _ h
/-- What the row of a place's reach says. -/
theorem hit_row {n : NNet} (h : netOk n = true) {p : Int} (hp0 : 0 ≤ p) (hp1 : p < n.places) (t : Int) : ∃ rs : List Bool, reachN n p t = rs ∧ rs.length = n.places.toNat ∧ ∀ x : Nat, rs.getD x false = hitB n t (x : Int) p :=
  ⟨_, reachN_yes h (inB_iff.2 ⟨hp0, by omega⟩), by rw [reachAll_length, single_length], fun x => rfl⟩

set_option maxRecDepth 100000 in
set_option maxHeartbeats 4000000 in
theorem enaWaits_walk {zs : List Int} {A : Option Addr} {b off c : Nat} (w : World) (hV : Row w 0 w.heap.size A b off (bytesC zs)) (hz : ∀ x ∈ zs, 0 ≤ x ∧ x ≤ 255) (hm : zs.length ≤ maxLen) (hcap : zs.length ≤ c) :
    Calls Try.prog 7 #[.slice A zs.length c] w fun e w' => e = .returned (.bool true) ∧ Below w.heap.size w w' := by
  have hm0 := hm
  have HZ := Lib.hid hz
  clear hz
  unfold maxLen at hm
  go_enter Try.func7, Try.ntmps7
  by_cases hbig : 1048576 < zs.length
  · go_wp2; go_ret; exact ⟨rfl, Below.refl _ _⟩
  · go_wp2_with fail
    refine (drawEnaCan_c zs A b off c w hV HZ.out hm0 hcap).mono ?_
    rintro e w1 ⟨P, b1, k, c1, n, A9, b9, o9, c9, ys, Ai, bi, oi, ci, bs, x, rfl, hyl, hyc, hyb, hbl, hx1, hx2, hrow, hrowi, hg, hb⟩
    have HE1 := Lib.hid (EB.start hg hb hrow hrowi)
    have HSM := Lib.hid hg.1
    have HPK := Lib.hid (And.intro hg.2.1 hg.2.2.1)
    clear hg hb hrow hrowi hyb hyc
    generalize hBB : w1.heap.size = B at HE1
    have hym : ys.length ≤ maxLen := by unfold maxLen; omega
    have hbm : bs.length ≤ maxLen := by unfold maxLen; omega
    have hbg1 : decide ((1048576 : Int) < (zs.length : Int)) = false := decide_eq_false (by omega)
    have cA0 := HE1.out.cell0
    have cA1 := HE1.out.cell1
    go_wp2_with fail
    refine (HE1.out.implCan HSM.out hym hbm x).mono ?_
    rintro e w2 ⟨rfl, hb2⟩
    have HE2 := Lib.hid (HE1.out.below hb2)
    clear hb2 cA0 cA1
    have cB0 := HE2.out.cell0
    have cB1 := HE2.out.cell1
    go_wp2_with fail
    refine (HE2.out.specCan HSM.out hym hbm x).mono ?_
    rintro e w3 ⟨rfl, hb3⟩
    have HE3 := Lib.hid (HE2.out.below hb3)
    clear hb3 cB0 cB1
    generalize hcan : enaB n ys bs x = can
    have HCAN := Lib.hid hcan
    clear hcan
    have hcc : (can != can) = false := by simp
    have cC0 := HE3.out.cell0
    have cC1 := HE3.out.cell1
    go_wp2_with fail
    refine (HE3.out.mrk hym).mono ?_
    rintro e w4 ⟨rfl, hb4⟩
    have HE4 := Lib.hid (HE3.out.below hb4)
    clear hb4 cC0 cC1
    have cD0 := HE4.out.cell0
    have cD1 := HE4.out.cell1
    generalize hok : mrkOk n ys = ok
    cases ok with
    | false =>
      clear hok
      go_wp2_with fail
      refine (guOk_c _).mono ?_
      rintro e wz ⟨rfl, hbk⟩
      have HBX := Lib.hid (HE4.out.below hbk).bl
      clear hbk
      go_wp2
      go_ret
      exact ⟨rfl, HBX.out⟩
    | true =>
      have HOK := Lib.hid hok
      clear hok
      by_cases hx0 : x < 0
      · go_wp2_with fail
        refine (guOk_c _).mono ?_
        rintro e wz ⟨rfl, hbk⟩
        have HBX := Lib.hid (HE4.out.below hbk).bl
        clear hbk
        go_wp2
        go_ret
        exact ⟨rfl, HBX.out⟩
      · obtain ⟨tn, rfl⟩ := Int.eq_ofNat_of_zero_le (show 0 ≤ x by omega)
        have hx0a : decide ((tn : Int) < 0) = false := decide_eq_false hx0
        by_cases hxk : tn < k
        · have hxk1 : ¬ ((k : Int) ≤ (tn : Int)) := by omega
          have hx0b : decide (k ≤ tn) = false := decide_eq_false (by omega)
          have hxk2 : (tn : Int) < (k : Int) := by omega
          obtain ⟨t, A7, b7, o7, c7, _, _, _, _, _, _, _, _, ht, hri, _, _, _, d0, _, d2, _⟩ := HE4.out.nb.task (i := tn) (by rw [HPK.out.2]; exact hxk)
          have HTT := Lib.hid ht
          have HRI4 := Lib.hid hri
          have HD2 := Lib.hid d2
          clear ht hri d2
          by_cases hj3 : t.join = 3
          · have hj4 : (t.join != 3) = false := by simp [hj3]
            have HJ3 := Lib.hid hj3
            clear hj3
            obtain ⟨hl1, hl2⟩ := waits_law (bs := bs) HOK.out HTT.out HJ3.out
            rw [HCAN.out] at hl1 hl2
            have HL1 := Lib.hid hl1
            have HL2 := Lib.hid hl2
            clear hl1 hl2
            have HGU := guUnderWay_c (ci := ci) HE4.out HSM.out HPK.out.2 (by omega)
            generalize hbu : busyB n bs = bu at HGU
            replace HGU := Lib.hid HGU
            have HBU := Lib.hid hbu
            clear hbu
            go_wp2_with fail
            refine HGU.out.mono ?_
            rintro e w5 ⟨rfl, hb5⟩
            have HE5 := Lib.hid (HE4.out.below hb5)
            have HRI := Lib.hid (HRI4.out.below hb5 (Nat.le_of_lt HE4.out.lt))
            have d2 := (hb5.cell (p := ⟨b1, tn * 9 + 2, none⟩) (World.block_lt_of_cell? w4 ⟨b1, tn * 9 + 2, none⟩ HD2.out)).trans HD2.out
            clear hb5 cD0 cD1 d0 HGU
            have cE0 := HE5.out.cell0
            have cE1 := HE5.out.cell1
            cases bu with
            | false =>
              obtain rfl : can = false := HL1.out HBU.out
              have HBX := Lib.hid HE5.out.bl
              go_wp2
              go_ret
              exact ⟨rfl, HBX.out⟩
            | true =>
              have hl2 := HL2.out HBU.out
              have HCE := Lib.hid hl2
              have hnok := (mrkOk_parts HOK.out).1
              have HNOK := Lib.hid hnok
              have hPN : (ys.length : Int) = P := by rw [(mrkOk_parts HOK.out).2.1, HPK.out.1]
              have HIN := Lib.hid (fun (z : Int) (hz' : z ∈ t.ins) => ins_bound hnok (List.mem_of_getElem? HTT.out) hz')
              have hil : t.ins.length ≤ 16 := (HSM.out.2.2.2.2 t (List.mem_of_getElem? HTT.out)).1.1
              have him : t.ins.length ≤ maxLen := by unfold maxLen; omega
              subst hPN
              clear hl2 hnok
              go_wp2
              clear cE0 cE1 d2
              go_loopw [9, 10, 11, 12] (fun s c a i wr => ∃ j : Nat, j ≤ t.ins.length ∧ i = .int .i64 j ∧ s = .bool (someB ys (t.ins.take j)) ∧ c = .bool (comN n ys bs t.ins (tn : Int) j) ∧ a = .bool (allB ys (t.ins.take j)) ∧ Below w5.heap.size w5 wr) (fun _ _ _ i _ => t.ins.length - (intOf i).toNat)
              case atStart => exact ⟨0, Nat.zero_le _, rfl, rfl, rfl, rfl, Below.refl _ _⟩
              case round =>
                obtain ⟨j, hj, rfl, rfl, rfl, rfl, hbr⟩ := hrel
                have HBq := Lib.hid hbr
                have HEq := Lib.hid (HE5.out.below hbr)
                have HRq := Lib.hid (HRI.out.below hbr (Nat.le_of_lt HE5.out.lt))
                clear hbr
                obtain ⟨wq, rfl⟩ : ∃ wq, wq = wr := ⟨_, rfl⟩
                by_cases hlt : j < t.ins.length
                · have hlt1 : (j : Int) < (t.ins.length : Int) := by omega
                  obtain ⟨rfl, _, _, q, hq, hcq, _⟩ := HRq.out.int hlt
                  obtain ⟨hq0, hq1⟩ := HIN.out q (List.mem_of_getElem? hq)
                  obtain ⟨qn, rfl⟩ := Int.eq_ofNat_of_zero_le hq0
                  have hqn : qn < ys.length := by have := HPK.out.1; omega
                  have hqn1 : (qn : Int) < (ys.length : Int) := by omega
                  obtain ⟨rfl, _, _, y, hy, hcy, _⟩ := HEq.out.ms.int hqn
                  have HS := someB_take (ms := ys) hq
                  have HA := allB_take (ms := ys) hq
                  have HC := comN_snoc (n := n) (ys := ys) (bs := bs) (t := (tn : Int)) hq
                  rw [Int.toNat_natCast, getD_of hy] at HS HA
                  rw [comAt, Int.toNat_natCast, getD_of hy] at HC
                  replace HS := Lib.hid HS
                  replace HA := Lib.hid HA
                  replace HC := Lib.hid HC
                  have HYQ := Lib.hid hy
                  have HTJ := Lib.hid hq
                  clear hq hy
                  generalize hsb : someB ys (t.ins.take j) = sb at HS ⊢
                  generalize hab : allB ys (t.ins.take j) = ab at HA ⊢
                  clear hsb hab
                  go_upto_region 18 with fail
                  go_cut [9] (fun s wc => s = .bool (someB ys (t.ins.take (j + 1))) ∧ wc = wq)
                  case first =>
                    by_cases hpos : 0 < y
                    · have hpd : decide (0 < y) = true := decide_eq_true hpos
                      have HPD := Lib.hid hpd
                      cases sb with
                      | true =>
                        go_wp2
                        go_meet
                        exact ⟨by rw [HS.out, HPD.out]; rfl, rfl⟩
                      | false =>
                        go_wp2
                        go_meet
                        exact ⟨by rw [HS.out, HPD.out]; rfl, rfl⟩
                    · have hpd : decide (0 < y) = false := decide_eq_false hpos
                      have HPD := Lib.hid hpd
                      cases sb with
                      | true =>
                        go_wp2
                        go_meet
                        exact ⟨by rw [HS.out, HPD.out]; rfl, rfl⟩
                      | false =>
                        go_wp2
                        go_meet
                        exact ⟨by rw [HS.out, HPD.out]; rfl, rfl⟩
                  case rest =>
                    obtain ⟨rfl, hwc⟩ := hcut
                    obtain rfl : wq = wc := hwc.symm
                    go_upto_region 19 with fail
                    go_cut [11] (fun a wc => a = .bool (allB ys (t.ins.take (j + 1))) ∧ wc = wq)
                    case first =>
                      by_cases hpos : 0 < y
                      · have hpd : decide (0 < y) = true := decide_eq_true hpos
                        have HPD := Lib.hid hpd
                        cases ab with
                        | true =>
                          go_wp2
                          go_meet
                          exact ⟨by rw [HA.out, HPD.out]; rfl, rfl⟩
                        | false =>
                          go_wp2
                          go_meet
                          exact ⟨by rw [HA.out, HPD.out]; rfl, rfl⟩
                      · have hpd : decide (0 < y) = false := decide_eq_false hpos
                        have HPD := Lib.hid hpd
                        cases ab with
                        | true =>
                          go_wp2
                          go_meet
                          exact ⟨by rw [HA.out, HPD.out]; rfl, rfl⟩
                        | false =>
                          go_wp2
                          go_meet
                          exact ⟨by rw [HA.out, HPD.out]; rfl, rfl⟩
                    case rest =>
                      obtain ⟨rfl, hwc⟩ := hcut
                      obtain rfl : wq = wc := hwc.symm
                      generalize hsb2 : someB ys (t.ins.take (j + 1)) = sb'
                      generalize hab2 : allB ys (t.ins.take (j + 1)) = ab'
                      have HSB := Lib.hid hsb2
                      have HAB := Lib.hid hab2
                      clear HS HA hsb2 hab2
                      by_cases hy0 : y = 0
                      · have hy1 : (y == 0) = true := by simpa using hy0
                        have hys0 : (0 : Int) < (ys.length : Int) := by omega
                        replace HC := Lib.hid (show comN n ys bs t.ins (tn : Int) (j + 1) = (comN n ys bs t.ins (tn : Int) j || (placeN n ys t.ins (tn : Int) (qn : Int) ys.length || outH n (tn : Int) (qn : Int) (outsOf n bs))) by rw [HC.out, decide_eq_true hy0, show n.places.toNat = ys.length by have := HPK.out.1; omega, Bool.true_and])
                        clear hy0
                        generalize comN n ys bs t.ins (tn : Int) j = cj at HC ⊢
                        have HC0 := Lib.hid (show (cj || placeN n ys t.ins (tn : Int) (qn : Int) 0) = cj by simp [placeN])
                        have HBc := HBq
                        go_wp2
                        clear hcq hcy
                        go_loopw [10, 13] (fun c i wr => ∃ p : Nat, p ≤ ys.length ∧ i = .int .i64 p ∧ c = .bool (cj || placeN n ys t.ins (tn : Int) (qn : Int) p) ∧ Below w5.heap.size w5 wr) (fun _ i _ => ys.length - (intOf i).toNat)
                        case atStart => exact ⟨0, Nat.zero_le _, rfl, by rw [HC0.out], HBc.out⟩
                        case round =>
                          clear HBq HEq HRq
                          obtain ⟨p, hp, rfl, rfl, hbr⟩ := hrel
                          have HBq := Lib.hid hbr
                          have HEq := Lib.hid (HE5.out.below hbr)
                          have HRq := Lib.hid (HRI.out.below hbr (Nat.le_of_lt HE5.out.lt))
                          clear hbr
                          obtain ⟨wq, rfl⟩ : ∃ wq, wq = wr := ⟨_, rfl⟩
                          have cq0 := HEq.out.cell0
                          have cq1 := HEq.out.cell1
                          have cqq : wq.cell? ⟨b7, o7 + j, none⟩ = some (.int .i64 (qn : Int)) := by obtain ⟨_, _, _, q', h1, h2, _⟩ := HRq.out.int hlt; rw [HTJ.out] at h1; injection h1 with h1; rw [h1]; exact h2
                          have cqy : wq.cell? ⟨b9, o9 + qn, none⟩ = some (.int .i64 y) := by obtain ⟨_, _, _, y', h1, h2, _⟩ := HEq.out.ms.int hqn; rw [HYQ.out] at h1; injection h1 with h1; rw [h1]; exact h2
                          by_cases hpl : p < ys.length
                          · have hpl1 : (p : Int) < (ys.length : Int) := by omega
                            obtain ⟨_, _, _, u, hu, cqu, _⟩ := HEq.out.ms.int hpl
                            have HUE := Lib.hid (getD_of (d := 0) hu)
                            have HPS := placeN_succ n ys t.ins (tn : Int) (qn : Int) p
                            have HPS : (cj || placeN n ys t.ins (tn : Int) (qn : Int) (p + 1)) = ((cj || placeN n ys t.ins (tn : Int) (qn : Int) p) || (awayAt ys t.ins p && hitB n (tn : Int) (qn : Int) (p : Int))) := by rw [HPS, Bool.or_assoc]
                            replace HPS := Lib.hid HPS
                            clear hu
                            generalize (cj || placeN n ys t.ins (tn : Int) (qn : Int) p) = cb at HPS ⊢
                            cases cb with
                            | true =>
                              go_wp2
                              go_quiet (fail)
                              go_wp2
                              go_roundw
                              case rel => exact ⟨p + 1, by omega, by go_num, by rw [HPS.out]; simp, (below_drewN HBq.out _)⟩
                              case measure => simp [intOf]; omega
                            | false =>
                              by_cases hu : 0 < u
                              · have hu1 : decide (0 < u) = true := decide_eq_true hu
                                have HQH := guHas_c t.ins _ _ _ b7 o7 c7 (p : Int) wq.drew (HRq.out.drew) him
                                cases hin : decide ((p : Int) ∈ t.ins) with
                                | true =>
                                  have HQ2 := Lib.hid (show ∀ z, Calls Try.prog 16 #[.slice (some ⟨b7, o7, none⟩) t.ins.length c7, .int .i64 (p : Int)] (wq.drewN z) fun e w'' => e = .returned (.bool true) ∧ ∃ m', w'' = wq.drewN m' from fun z => by rw [← hin]; exact quiet_w (guHas_c t.ins _ _ _ b7 o7 c7 (p : Int) _ (HRq.out.drewN z) him))
                                  have HAW := Lib.hid (show awayAt ys t.ins p = false by rw [awayAt, hin]; simp)
                                  clear HQH hin
                                  go_wp2
                                  go_quiet (first | (go_at_call 16; with_reducible exact HQ2.out _))
                                  go_wp2
                                  go_roundw
                                  case rel => exact ⟨p + 1, by omega, by go_num, by rw [HPS.out, HAW.out]; simp, (below_drewN HBq.out _)⟩
                                  case measure => simp [intOf]; omega
                                | false =>
                                  rw [hin] at HQH
                                  replace HQH := Lib.hid HQH
                                  have HAW := Lib.hid (show awayAt ys t.ins p = true by rw [awayAt, hin, HUE.out, hu1]; rfl)
                                  clear hin
                                  go_wp2
                                  refine wp_region_noPanic ?_
                                  refine wp_region_held_drew (S := fun w' => (w'.cell? ⟨B, 0, none⟩ = some (.int .i64 (ys.length : Int)) ∧ w'.cell? ⟨B, 1, none⟩ = some (.slice (some ⟨b1, 0, none⟩) k c1) ∧ w'.cell? ⟨b7, o7 + j, none⟩ = some (.int .i64 (qn : Int)) ∧ w'.cell? ⟨b9, o9 + p, none⟩ = some (.int .i64 u))) (by kernel_rfl) ?_ (fun hHeld => ?_)
                                  · exact ⟨cq0, cq1, cqq, cqu⟩
                                  refine take_yes (i := 0) (v := ?_) rfl (by kernel_rfl) (by kernel_rfl) (by kernel_rfl) (fun _ _ _ h => h) (by kernel_rfl) ?_ (by assumption) ?_
                                  rotate_left
                                  · (intro w hSw; (try dsimp only at hSw); go_simp; try with_reducible rfl)
                                  try simp only [Act.put, List.setIfInBounds_toArray, List.set_cons_zero, List.set_cons_succ]
                                  refine take_yes (i := 1) (v := ?_) rfl (by kernel_rfl) (by kernel_rfl) (by kernel_rfl) (fun _ _ _ h => h) (by kernel_rfl) ?_ (by assumption) ?_
                                  rotate_left
                                  · (intro w hSw; (try dsimp only at hSw); go_simp; try with_reducible rfl)
                                  try simp only [Act.put, List.setIfInBounds_toArray, List.set_cons_zero, List.set_cons_succ]
                                  refine take_yes (i := 2) (v := ?_) rfl (by kernel_rfl) (by kernel_rfl) (by kernel_rfl) (fun _ _ _ h => h) (by kernel_rfl) ?_ (by assumption) ?_
                                  rotate_left
                                  · (intro w hSw; (try dsimp only at hSw); go_simp; try with_reducible rfl)
                                  try simp only [Act.put, List.setIfInBounds_toArray, List.set_cons_zero, List.set_cons_succ]
                                  refine take_yes (i := 3) (v := ?_) rfl (by kernel_rfl) (by kernel_rfl) (by kernel_rfl) (fun _ _ _ h => h) (by kernel_rfl) ?_ (by assumption) ?_
                                  rotate_left
                                  · (intro w hSw; (try dsimp only at hSw); go_simp; try with_reducible rfl)
                                  try simp only [Act.put, List.setIfInBounds_toArray, List.set_cons_zero, List.set_cons_succ]
                                  refine take_yes (i := 4) (v := ?_) rfl (by kernel_rfl) (by kernel_rfl) (by kernel_rfl) (fun _ _ _ h => h) (by kernel_rfl) ?_ (by assumption) ?_
                                  rotate_left
                                  · (intro w hSw; (try dsimp only at hSw); go_simp; try with_reducible rfl)
                                  try simp only [Act.put, List.setIfInBounds_toArray, List.set_cons_zero, List.set_cons_succ]
                                  refine take_yes (i := 5) (v := ?_) rfl (by kernel_rfl) (by kernel_rfl) (by kernel_rfl) (fun _ _ _ h => h) (by kernel_rfl) ?_ (by assumption) ?_
                                  rotate_left
                                  · (intro w hSw; (try dsimp only at hSw); go_simp; try with_reducible rfl)
                                  try simp only [Act.put, List.setIfInBounds_toArray, List.set_cons_zero, List.set_cons_succ]
                                  refine take_yes (i := 6) (v := ?_) rfl (by kernel_rfl) (by kernel_rfl) (by kernel_rfl) (fun _ _ _ h => h) (by kernel_rfl) ?_ (by assumption) ?_
                                  rotate_left
                                  · (intro w hSw; (try dsimp only at hSw); go_simp; try with_reducible rfl)
                                  try simp only [Act.put, List.setIfInBounds_toArray, List.set_cons_zero, List.set_cons_succ]
                                  refine take_yes (i := 7) (v := ?_) rfl (by kernel_rfl) (by kernel_rfl) (by kernel_rfl) (fun _ _ _ h => h) (by kernel_rfl) ?_ (by assumption) ?_
                                  rotate_left
                                  · (intro w hSw; (try dsimp only at hSw); go_simp; try with_reducible rfl)
                                  try simp only [Act.put, List.setIfInBounds_toArray, List.set_cons_zero, List.set_cons_succ]
                                  refine take_yes (i := 8) (v := ?_) rfl (by kernel_rfl) (by kernel_rfl) (by kernel_rfl) (fun _ _ _ h => h) (by kernel_rfl) ?_ (by assumption) ?_
                                  rotate_left
                                  · (intro w hSw; (try dsimp only at hSw); go_simp; try with_reducible rfl)
                                  try simp only [Act.put, List.setIfInBounds_toArray, List.set_cons_zero, List.set_cons_succ]
                                  refine take_yes (i := 9) (v := ?_) rfl (by kernel_rfl) (by kernel_rfl) (by kernel_rfl) (fun _ _ _ h => h) (by kernel_rfl) ?_ (by assumption) ?_
                                  rotate_left
                                  · (intro w hSw; (try dsimp only at hSw); go_simp; try with_reducible rfl)
                                  try simp only [Act.put, List.setIfInBounds_toArray, List.set_cons_zero, List.set_cons_succ]
                                  refine wpAnyH_ready (rs := [10]) (by kernel_rfl) (by simp) ?_
                                  refine AllReadyH.cons (of_drop rfl) (fun K hK => ?_) AllReadyH.nil
                                  go_simp
                                  (go_at_call 16; refine HQH.out.mono ?_; rintro e wy ⟨rfl, rfl⟩)
                                  go_wp2_with fail
                                  refine hK.out _ _ ?_ (fun hHeld2 => ?_)
                                  · exact ⟨cq0, cq1, cqq, cqu⟩
                                  clear hK K hHeld
                                  have hHeld := hHeld2
                                  clear hHeld2
                                  try simp only [Act.put, List.setIfInBounds_toArray, List.set_cons_zero, List.set_cons_succ]
                                  refine take_yes (i := 11) (v := ?_) rfl (by kernel_rfl) (by kernel_rfl) (by kernel_rfl) (fun _ _ _ h => h) (by kernel_rfl) ?_ (by assumption) ?_
                                  rotate_left
                                  · (intro w hSw; (try dsimp only at hSw); go_simp; try with_reducible rfl)
                                  try simp only [Act.put, List.setIfInBounds_toArray, List.set_cons_zero, List.set_cons_succ]
                                  refine take_yes (i := 12) (v := ?_) rfl (by kernel_rfl) (by kernel_rfl) (by kernel_rfl) (fun _ _ _ h => h) (by kernel_rfl) ?_ (by assumption) ?_
                                  rotate_left
                                  · (intro w hSw; (try dsimp only at hSw); go_simp; try with_reducible rfl)
                                  try simp only [Act.put, List.setIfInBounds_toArray, List.set_cons_zero, List.set_cons_succ]
                                  refine take_yes (i := 13) (v := ?_) rfl (by kernel_rfl) (by kernel_rfl) (by kernel_rfl) (fun _ _ _ h => h) (by kernel_rfl) ?_ (by assumption) ?_
                                  rotate_left
                                  · (intro w hSw; (try dsimp only at hSw); go_simp; try with_reducible rfl)
                                  try simp only [Act.put, List.setIfInBounds_toArray, List.set_cons_zero, List.set_cons_succ]
                                  refine take_yes (i := 14) (v := ?_) rfl (by kernel_rfl) (by kernel_rfl) (by kernel_rfl) (fun _ _ _ h => h) (by kernel_rfl) ?_ (by assumption) ?_
                                  rotate_left
                                  · (intro w hSw; (try dsimp only at hSw); go_simp; try with_reducible rfl)
                                  try simp only [Act.put, List.setIfInBounds_toArray, List.set_cons_zero, List.set_cons_succ]
                                  refine take_yes (i := 15) (v := ?_) rfl (by kernel_rfl) (by kernel_rfl) (by kernel_rfl) (fun _ _ _ h => h) (by kernel_rfl) ?_ (by assumption) ?_
                                  rotate_left
                                  · (intro w hSw; (try dsimp only at hSw); go_simp; try with_reducible rfl)
                                  try simp only [Act.put, List.setIfInBounds_toArray, List.set_cons_zero, List.set_cons_succ]
                                  refine take_yes (i := 16) (v := ?_) rfl (by kernel_rfl) (by kernel_rfl) (by kernel_rfl) (fun _ _ _ h => h) (by kernel_rfl) ?_ (by assumption) ?_
                                  rotate_left
                                  · (intro w hSw; (try dsimp only at hSw); go_simp; try with_reducible rfl)
                                  try simp only [Act.put, List.setIfInBounds_toArray, List.set_cons_zero, List.set_cons_succ]
                                  refine take_yes (i := 18) (v := ?_) rfl (by kernel_rfl) (by kernel_rfl) (by kernel_rfl) (fun _ _ _ h => h) (by kernel_rfl) ?_ (by assumption) ?_
                                  rotate_left
                                  · (intro w hSw; (try dsimp only at hSw); go_simp; try with_reducible rfl)
                                  try simp only [Act.put, List.setIfInBounds_toArray, List.set_cons_zero, List.set_cons_succ]
                                  refine take_yes (i := 19) (v := ?_) rfl (by kernel_rfl) (by kernel_rfl) (by kernel_rfl) (fun _ _ _ h => h) (by kernel_rfl) ?_ (by assumption) ?_
                                  rotate_left
                                  · (intro w hSw; (try dsimp only at hSw); go_simp; try with_reducible rfl)
                                  try simp only [Act.put, List.setIfInBounds_toArray, List.set_cons_zero, List.set_cons_succ]
                                  refine take_yes (i := 20) (v := ?_) rfl (by kernel_rfl) (by kernel_rfl) (by kernel_rfl) (fun _ _ _ h => h) (by kernel_rfl) ?_ (by assumption) ?_
                                  rotate_left
                                  · (intro w hSw; (try dsimp only at hSw); go_simp; try with_reducible rfl)
                                  try simp only [Act.put, List.setIfInBounds_toArray, List.set_cons_zero, List.set_cons_succ]
                                  refine take_yes (i := 21) (v := ?_) rfl (by kernel_rfl) (by kernel_rfl) (by kernel_rfl) (fun _ _ _ h => h) (by kernel_rfl) ?_ (by assumption) ?_
                                  rotate_left
                                  · (intro w hSw; (try dsimp only at hSw); go_simp; try with_reducible rfl)
                                  try simp only [Act.put, List.setIfInBounds_toArray, List.set_cons_zero, List.set_cons_succ]
                                  refine wpAnyH_ready (rs := [17]) (by kernel_rfl) (by simp) ?_
                                  refine AllReadyH.cons (of_drop rfl) (fun K hK => ?_) AllReadyH.nil
                                  go_simp
                                  (go_at_call 27; refine (implNetReach_c n _ _ _ (p : Int) (tn : Int) wq.drew (EB.drew HEq.out).nb.nv (Nat.le_of_lt (EB.drew HEq.out).lt) (small_out HSM.out)).mono ?_; rintro e wz ⟨v8, rfl, hM8, hb8⟩)
                                  obtain ⟨rs, hr1, hr2, hr3⟩ := hit_row (p := (p : Int)) HNOK.out (by omega) (by have := HPK.out.1; omega) (tn : Int)
                                  rw [hr1] at hM8
                                  have hr4 : rs.length = ys.length := by rw [hr2]; have := HPK.out.1; omega
                                  obtain ⟨g8, c8, rfl, hg1, hg2⟩ := hM8.len (by omega)
                                  have cz := (hM8.at_ rfl (k := qn) (by omega)).1
                                  rw [hr3 qn] at cz
                                  have hql : (qn : Int) < (rs.length : Int) := by omega
                                  have HBz := Lib.hid ((HBq.out.drew).trans (hb8.mono HBq.out.size))
                                  have HEz := Lib.hid (HE5.out.below HBz.out)
                                  have HRz := Lib.hid (HRI.out.below HBz.out (Nat.le_of_lt HE5.out.lt))
                                  have cz0 := HEz.out.cell0
                                  have cz1 := HEz.out.cell1
                                  have czq : wz.cell? ⟨b7, o7 + j, none⟩ = some (.int .i64 (qn : Int)) := (hb8.cell (p := ⟨b7, o7 + j, none⟩) (World.block_lt_of_cell? wq.drew ⟨b7, o7 + j, none⟩ cqq)).trans cqq
                                  have czu : wz.cell? ⟨b9, o9 + p, none⟩ = some (.int .i64 u) := (hb8.cell (p := ⟨b9, o9 + p, none⟩) (World.block_lt_of_cell? wq.drew ⟨b9, o9 + p, none⟩ cqu)).trans cqu
                                  clear hM8 hb8 hr1 hr2 hr3 hr4 hg1 hg2
                                  go_wp2_with fail
                                  refine hK.out _ _ ?_ (fun hHeld2 => ?_)
                                  · exact ⟨cz0, cz1, czq, czu⟩
                                  clear hK K hHeld
                                  have hHeld := hHeld2
                                  clear hHeld2
                                  try simp only [Act.put, List.setIfInBounds_toArray, List.set_cons_zero, List.set_cons_succ]
                                  refine take_yes (i := 22) (v := ?_) rfl (by kernel_rfl) (by kernel_rfl) (by kernel_rfl) (fun _ _ _ h => h) (by kernel_rfl) ?_ (by assumption) ?_
                                  rotate_left
                                  · (intro w hSw; (try dsimp only at hSw); go_simp; try with_reducible rfl)
                                  try simp only [Act.put, List.setIfInBounds_toArray, List.set_cons_zero, List.set_cons_succ]
                                  refine wpAnyH_ready (rs := [23]) (by kernel_rfl) (by simp) ?_
                                  refine AllReadyH.cons (of_drop rfl) (fun K hK => ?_) AllReadyH.nil
                                  go_simp
                                  skip
                                  go_wp2_with fail
                                  refine hK.out _ _ ?_ (fun hHeld2 => ?_)
                                  · exact ⟨cz0, cz1, czq, czu⟩
                                  clear hK K hHeld
                                  have hHeld := hHeld2
                                  clear hHeld2
                                  try simp only [Act.put, List.setIfInBounds_toArray, List.set_cons_zero, List.set_cons_succ]
                                  refine take_yes (i := 24) (v := ?_) rfl (by kernel_rfl) (by kernel_rfl) (by kernel_rfl) (fun _ _ _ h => h) (by kernel_rfl) ?_ (by assumption) ?_
                                  rotate_left
                                  · (intro w hSw; (try dsimp only at hSw); go_simp; try with_reducible rfl)
                                  try simp only [Act.put, List.setIfInBounds_toArray, List.set_cons_zero, List.set_cons_succ]
                                  refine take_yes (i := 25) (v := ?_) rfl (by kernel_rfl) (by kernel_rfl) (by kernel_rfl) (fun _ _ _ h => h) (by kernel_rfl) ?_ (by assumption) ?_
                                  rotate_left
                                  · (intro w hSw; (try dsimp only at hSw); go_simp; try with_reducible rfl)
                                  try simp only [Act.put, List.setIfInBounds_toArray, List.set_cons_zero, List.set_cons_succ]
                                  refine take_yes (i := 26) (v := ?_) rfl (by kernel_rfl) (by kernel_rfl) (by kernel_rfl) (fun _ _ _ h => h) (by kernel_rfl) ?_ (by assumption) ?_
                                  rotate_left
                                  · (intro w hSw; (try dsimp only at hSw); go_simp; try with_reducible rfl)
                                  try simp only [Act.put, List.setIfInBounds_toArray, List.set_cons_zero, List.set_cons_succ]
                                  refine wpAnyH_done (by kernel_rfl) ?_ _
                                  refine NoPanic.normal ?_
                                  clear cq0 cq1 cqq cqu
                                  go_wp2
                                  go_roundw
                                  case rel => exact ⟨p + 1, by omega, by go_num, by rw [HPS.out, HAW.out]; simp, HBz.out⟩
                                  case measure => simp [intOf]; omega
                              · have hu1 : decide (0 < u) = false := decide_eq_false hu
                                have HAW := Lib.hid (show awayAt ys t.ins p = false by rw [awayAt, HUE.out, hu1]; rfl)
                                go_wp2
                                go_quiet (fail)
                                go_wp2
                                go_roundw
                                case rel => exact ⟨p + 1, by omega, by go_num, by rw [HPS.out, HAW.out]; simp, (below_drewN HBq.out _)⟩
                                case measure => simp [intOf]; omega
                          · have hpl1 : ¬ ((p : Int) < (ys.length : Int)) := by omega
                            obtain rfl : p = ys.length := by omega
                            have HC1 := Lib.hid (show comN n ys bs t.ins (tn : Int) (j + 1) = ((cj || placeN n ys t.ins (tn : Int) (qn : Int) ys.length) || outH n (tn : Int) (qn : Int) (outsOf n bs)) by rw [HC.out, Bool.or_assoc])
                            generalize (cj || placeN n ys t.ins (tn : Int) (qn : Int) ys.length) = ck at HC1 ⊢
                            have HD0 := Lib.hid (show (ck || outH n (tn : Int) (qn : Int) (outsOf n (bs.take 0))) = ck by simp [outH, outsOf])
                            have HBd := HBq
                            go_wp2
                            clear cq0 cq1 cqq cqy
                            go_loopw [10, 14] (fun c i wr => ∃ m : Nat, m ≤ bs.length ∧ i = .int .i64 m ∧ c = .bool (ck || outH n (tn : Int) (qn : Int) (outsOf n (bs.take m))) ∧ Below w5.heap.size w5 wr) (fun _ i _ => bs.length - (intOf i).toNat)
                            case atStart => exact ⟨0, Nat.zero_le _, rfl, by rw [HD0.out], HBd.out⟩
                            case round =>
                              clear HBq HEq HRq
                              obtain ⟨m, hm, rfl, rfl, hbr⟩ := hrel
                              have HBq := Lib.hid hbr
                              have HEq := Lib.hid (HE5.out.below hbr)
                              have HRq := Lib.hid (HRI.out.below hbr (Nat.le_of_lt HE5.out.lt))
                              clear hbr
                              obtain ⟨wq, rfl⟩ : ∃ wq, wq = wr := ⟨_, rfl⟩
                              have cq0 := HEq.out.cell0
                              have cq1 := HEq.out.cell1
                              have cqq : wq.cell? ⟨b7, o7 + j, none⟩ = some (.int .i64 (qn : Int)) := by obtain ⟨_, _, _, q', h1, h2, _⟩ := HRq.out.int hlt; rw [HTJ.out] at h1; injection h1 with h1; rw [h1]; exact h2
                              have cqy : wq.cell? ⟨b9, o9 + qn, none⟩ = some (.int .i64 y) := by obtain ⟨_, _, _, y', h1, h2, _⟩ := HEq.out.ms.int hqn; rw [HYQ.out] at h1; injection h1 with h1; rw [h1]; exact h2
                              by_cases hml : m < bs.length
                              · have hml1 : (m : Int) < (bs.length : Int) := by omega
                                obtain ⟨rfl, _, _, it, hit, ⟨i0, _, _⟩, _⟩ := HEq.out.is.item hml
                                obtain ⟨bt0, bt1⟩ := itemOk_task ((busyB_parts HBU.out).2 it (List.mem_of_getElem? hit))
                                obtain ⟨bn, hbn⟩ := Int.eq_ofNat_of_zero_le bt0
                                rw [hbn] at i0 bt1
                                rw [HPK.out.2] at bt1
                                have hbk : bn < k := by omega
                                obtain ⟨tb, _, _, _, _, Ao, bo, oo, co, _, _, _, _, htb, _, hro, _, _, _, _, _, d3, _⟩ := HEq.out.nb.task (i := bn) (by rw [HPK.out.2]; exact hbk)
                                have HOS := Lib.hid (show outsOf n (bs.take (m + 1)) = outsOf n (bs.take m) ++ tb.out by rw [outs_snoc hit, hbn, taskOf_at htb])
                                have HFO := Lib.hid (fun (f : NFlow) (hf : f ∈ tb.out) => out_bound HNOK.out (List.mem_of_getElem? htb) hf)
                                have hol : tb.out.length ≤ 16 := (HSM.out.2.2.2.2 tb (List.mem_of_getElem? htb)).1.2.1
                                have HDS : ∀ q : Nat, q = tb.out.length → (ck || outH n (tn : Int) (qn : Int) (outsOf n (bs.take (m + 1)))) = ((ck || outH n (tn : Int) (qn : Int) (outsOf n (bs.take m))) || outH n (tn : Int) (qn : Int) (tb.out.take q)) := fun q hq => by rw [HOS.out, outH_append, hq, List.take_of_length_le (Nat.le_refl _), Bool.or_assoc]
                                replace HDS := Lib.hid (HDS _ rfl)
                                have HRO := Lib.hid hro
                                have HBm := HBq
                                have hBm := HEq.out.lt
                                clear hit htb hbn bt0 hro HOS
                                generalize (ck || outH n (tn : Int) (qn : Int) (outsOf n (bs.take m))) = cm at HDS ⊢
                                have HF0 := Lib.hid (show (cm || outH n (tn : Int) (qn : Int) (tb.out.take 0)) = cm by simp [outH])
                                obtain ⟨wm, rfl⟩ : ∃ wm, wm = wq := ⟨_, rfl⟩
                                go_wp2
                                go_quiet (fail)
                                go_wp2
                                clear cq0 cq1 cqq cqy i0 d3
                                go_loopw [10, 16] (fun c i wr => ∃ q : Nat, q ≤ tb.out.length ∧ i = .int .i64 q ∧ c = .bool (cm || outH n (tn : Int) (qn : Int) (tb.out.take q)) ∧ Below wm.heap.size wm wr) (fun _ i _ => tb.out.length - (intOf i).toNat)
                                case atStart => exact ⟨0, Nat.zero_le _, rfl, by rw [HF0.out], below_draws _ _ _⟩
                                case round =>
                                  clear HBq HEq HRq
                                  obtain ⟨q, hqq, rfl, rfl, hbr⟩ := hrel
                                  have HBq := Lib.hid (HBm.out.trans (hbr.mono HBm.out.size))
                                  have HEq := Lib.hid (HE5.out.below HBq.out)
                                  have HRq := Lib.hid (HRI.out.below HBq.out (Nat.le_of_lt HE5.out.lt))
                                  have HROq := Lib.hid (HRO.out.below hbr (Nat.le_of_lt hBm))
                                  have HBqm := Lib.hid hbr
                                  clear hbr
                                  obtain ⟨wq, rfl⟩ : ∃ wq, wq = wr := ⟨_, rfl⟩
                                  have cq0 := HEq.out.cell0
                                  have cq1 := HEq.out.cell1
                                  have cqq : wq.cell? ⟨b7, o7 + j, none⟩ = some (.int .i64 (qn : Int)) := by obtain ⟨_, _, _, q', h1, h2, _⟩ := HRq.out.int hlt; rw [HTJ.out] at h1; injection h1 with h1; rw [h1]; exact h2
                                  by_cases hql : q < tb.out.length
                                  · have hql1 : (q : Int) < (tb.out.length : Int) := by omega
                                    obtain ⟨rfl, _, _, f, hf, ⟨cqf, _, _, _⟩, _⟩ := HROq.out.flow hql
                                    have HFB := Lib.hid (HFO.out f (List.mem_of_getElem? hf))
                                    have HFS := Lib.hid (show (cm || outH n (tn : Int) (qn : Int) (tb.out.take (q + 1))) = ((cm || outH n (tn : Int) (qn : Int) (tb.out.take q)) || hitB n (tn : Int) (qn : Int) f.to) by rw [outH_snoc hf, Bool.or_assoc])
                                    clear hf
                                    generalize (cm || outH n (tn : Int) (qn : Int) (tb.out.take q)) = cb at HFS ⊢
                                    cases cb with
                                    | true =>
                                      go_wp2
                                      go_quiet (fail)
                                      go_wp2
                                      go_roundw
                                      case rel => exact ⟨q + 1, by omega, by go_num, by rw [HFS.out]; simp, (below_drewN HBqm.out _)⟩
                                      case measure => simp [intOf]; omega
                                    | false =>
                                      go_wp2
                                      refine wp_region_noPanic ?_
                                      refine wp_region_held_drew (S := fun w' => (w'.cell? ⟨B, 0, none⟩ = some (.int .i64 (ys.length : Int)) ∧ w'.cell? ⟨B, 1, none⟩ = some (.slice (some ⟨b1, 0, none⟩) k c1) ∧ w'.cell? ⟨b7, o7 + j, none⟩ = some (.int .i64 (qn : Int)) ∧ w'.cell? ⟨bo, oo + q * 4, none⟩ = some (.int .i64 f.to))) (by kernel_rfl) ?_ (fun hHeld => ?_)
                                      · exact ⟨cq0, cq1, cqq, cqf⟩
                                      refine take_yes (i := 0) (v := ?_) rfl (by kernel_rfl) (by kernel_rfl) (by kernel_rfl) (fun _ _ _ h => h) (by kernel_rfl) ?_ (by assumption) ?_
                                      rotate_left
                                      · (intro w hSw; (try dsimp only at hSw); go_simp; try with_reducible rfl)
                                      try simp only [Act.put, List.setIfInBounds_toArray, List.set_cons_zero, List.set_cons_succ]
                                      refine take_yes (i := 1) (v := ?_) rfl (by kernel_rfl) (by kernel_rfl) (by kernel_rfl) (fun _ _ _ h => h) (by kernel_rfl) ?_ (by assumption) ?_
                                      rotate_left
                                      · (intro w hSw; (try dsimp only at hSw); go_simp; try with_reducible rfl)
                                      try simp only [Act.put, List.setIfInBounds_toArray, List.set_cons_zero, List.set_cons_succ]
                                      refine take_yes (i := 2) (v := ?_) rfl (by kernel_rfl) (by kernel_rfl) (by kernel_rfl) (fun _ _ _ h => h) (by kernel_rfl) ?_ (by assumption) ?_
                                      rotate_left
                                      · (intro w hSw; (try dsimp only at hSw); go_simp; try with_reducible rfl)
                                      try simp only [Act.put, List.setIfInBounds_toArray, List.set_cons_zero, List.set_cons_succ]
                                      refine take_yes (i := 3) (v := ?_) rfl (by kernel_rfl) (by kernel_rfl) (by kernel_rfl) (fun _ _ _ h => h) (by kernel_rfl) ?_ (by assumption) ?_
                                      rotate_left
                                      · (intro w hSw; (try dsimp only at hSw); go_simp; try with_reducible rfl)
                                      try simp only [Act.put, List.setIfInBounds_toArray, List.set_cons_zero, List.set_cons_succ]
                                      refine take_yes (i := 4) (v := ?_) rfl (by kernel_rfl) (by kernel_rfl) (by kernel_rfl) (fun _ _ _ h => h) (by kernel_rfl) ?_ (by assumption) ?_
                                      rotate_left
                                      · (intro w hSw; (try dsimp only at hSw); go_simp; try with_reducible rfl)
                                      try simp only [Act.put, List.setIfInBounds_toArray, List.set_cons_zero, List.set_cons_succ]
                                      refine take_yes (i := 5) (v := ?_) rfl (by kernel_rfl) (by kernel_rfl) (by kernel_rfl) (fun _ _ _ h => h) (by kernel_rfl) ?_ (by assumption) ?_
                                      rotate_left
                                      · (intro w hSw; (try dsimp only at hSw); go_simp; try with_reducible rfl)
                                      try simp only [Act.put, List.setIfInBounds_toArray, List.set_cons_zero, List.set_cons_succ]
                                      refine take_yes (i := 6) (v := ?_) rfl (by kernel_rfl) (by kernel_rfl) (by kernel_rfl) (fun _ _ _ h => h) (by kernel_rfl) ?_ (by assumption) ?_
                                      rotate_left
                                      · (intro w hSw; (try dsimp only at hSw); go_simp; try with_reducible rfl)
                                      try simp only [Act.put, List.setIfInBounds_toArray, List.set_cons_zero, List.set_cons_succ]
                                      refine take_yes (i := 7) (v := ?_) rfl (by kernel_rfl) (by kernel_rfl) (by kernel_rfl) (fun _ _ _ h => h) (by kernel_rfl) ?_ (by assumption) ?_
                                      rotate_left
                                      · (intro w hSw; (try dsimp only at hSw); go_simp; try with_reducible rfl)
                                      try simp only [Act.put, List.setIfInBounds_toArray, List.set_cons_zero, List.set_cons_succ]
                                      refine take_yes (i := 8) (v := ?_) rfl (by kernel_rfl) (by kernel_rfl) (by kernel_rfl) (fun _ _ _ h => h) (by kernel_rfl) ?_ (by assumption) ?_
                                      rotate_left
                                      · (intro w hSw; (try dsimp only at hSw); go_simp; try with_reducible rfl)
                                      try simp only [Act.put, List.setIfInBounds_toArray, List.set_cons_zero, List.set_cons_succ]
                                      refine take_yes (i := 10) (v := ?_) rfl (by kernel_rfl) (by kernel_rfl) (by kernel_rfl) (fun _ _ _ h => h) (by kernel_rfl) ?_ (by assumption) ?_
                                      rotate_left
                                      · (intro w hSw; (try dsimp only at hSw); go_simp; try with_reducible rfl)
                                      try simp only [Act.put, List.setIfInBounds_toArray, List.set_cons_zero, List.set_cons_succ]
                                      refine take_yes (i := 11) (v := ?_) rfl (by kernel_rfl) (by kernel_rfl) (by kernel_rfl) (fun _ _ _ h => h) (by kernel_rfl) ?_ (by assumption) ?_
                                      rotate_left
                                      · (intro w hSw; (try dsimp only at hSw); go_simp; try with_reducible rfl)
                                      try simp only [Act.put, List.setIfInBounds_toArray, List.set_cons_zero, List.set_cons_succ]
                                      refine take_yes (i := 12) (v := ?_) rfl (by kernel_rfl) (by kernel_rfl) (by kernel_rfl) (fun _ _ _ h => h) (by kernel_rfl) ?_ (by assumption) ?_
                                      rotate_left
                                      · (intro w hSw; (try dsimp only at hSw); go_simp; try with_reducible rfl)
                                      try simp only [Act.put, List.setIfInBounds_toArray, List.set_cons_zero, List.set_cons_succ]
                                      refine take_yes (i := 13) (v := ?_) rfl (by kernel_rfl) (by kernel_rfl) (by kernel_rfl) (fun _ _ _ h => h) (by kernel_rfl) ?_ (by assumption) ?_
                                      rotate_left
                                      · (intro w hSw; (try dsimp only at hSw); go_simp; try with_reducible rfl)
                                      try simp only [Act.put, List.setIfInBounds_toArray, List.set_cons_zero, List.set_cons_succ]
                                      refine wpAnyH_ready (rs := [9]) (by kernel_rfl) (by simp) ?_
                                      refine AllReadyH.cons (of_drop rfl) (fun K hK => ?_) AllReadyH.nil
                                      go_simp
                                      (go_at_call 27; refine (implNetReach_c n _ _ _ f.to (tn : Int) wq.drew (EB.drew HEq.out).nb.nv (Nat.le_of_lt (EB.drew HEq.out).lt) (small_out HSM.out)).mono ?_; rintro e wz ⟨v8, rfl, hM8, hb8⟩)
                                      obtain ⟨rs, hr1, hr2, hr3⟩ := hit_row (p := f.to) HNOK.out (by have := HFB.out; omega) (by have := HFB.out; omega) (tn : Int)
                                      rw [hr1] at hM8
                                      have hr4 : rs.length = ys.length := by rw [hr2]; have := HPK.out.1; omega
                                      obtain ⟨g8, c8, rfl, hg1, hg2⟩ := hM8.len (by omega)
                                      have cz := (hM8.at_ rfl (k := qn) (by omega)).1
                                      rw [hr3 qn] at cz
                                      have hql : (qn : Int) < (rs.length : Int) := by omega
                                      have HBzm := Lib.hid ((HBqm.out.drew).trans (hb8.mono HBqm.out.size))
                                      have HBz := Lib.hid ((HBq.out.drew).trans (hb8.mono HBq.out.size))
                                      have HEz := Lib.hid (HE5.out.below HBz.out)
                                      have HRz := Lib.hid (HRI.out.below HBz.out (Nat.le_of_lt HE5.out.lt))
                                      have cz0 := HEz.out.cell0
                                      have cz1 := HEz.out.cell1
                                      have czq : wz.cell? ⟨b7, o7 + j, none⟩ = some (.int .i64 (qn : Int)) := (hb8.cell (p := ⟨b7, o7 + j, none⟩) (World.block_lt_of_cell? wq.drew ⟨b7, o7 + j, none⟩ cqq)).trans cqq
                                      have czf : wz.cell? ⟨bo, oo + q * 4, none⟩ = some (.int .i64 f.to) := (hb8.cell (p := ⟨bo, oo + q * 4, none⟩) (World.block_lt_of_cell? wq.drew ⟨bo, oo + q * 4, none⟩ cqf)).trans cqf
                                      clear hM8 hb8 hr1 hr2 hr3 hr4 hg1 hg2
                                      go_wp2_with fail
                                      refine hK.out _ _ ?_ (fun hHeld2 => ?_)
                                      · exact ⟨cz0, cz1, czq, czf⟩
                                      clear hK K hHeld
                                      have hHeld := hHeld2
                                      clear hHeld2
                                      try simp only [Act.put, List.setIfInBounds_toArray, List.set_cons_zero, List.set_cons_succ]
                                      refine take_yes (i := 14) (v := ?_) rfl (by kernel_rfl) (by kernel_rfl) (by kernel_rfl) (fun _ _ _ h => h) (by kernel_rfl) ?_ (by assumption) ?_
                                      rotate_left
                                      · (intro w hSw; (try dsimp only at hSw); go_simp; try with_reducible rfl)
                                      try simp only [Act.put, List.setIfInBounds_toArray, List.set_cons_zero, List.set_cons_succ]
                                      refine wpAnyH_ready (rs := [15]) (by kernel_rfl) (by simp) ?_
                                      refine AllReadyH.cons (of_drop rfl) (fun K hK => ?_) AllReadyH.nil
                                      go_simp
                                      skip
                                      go_wp2_with fail
                                      refine hK.out _ _ ?_ (fun hHeld2 => ?_)
                                      · exact ⟨cz0, cz1, czq, czf⟩
                                      clear hK K hHeld
                                      have hHeld := hHeld2
                                      clear hHeld2
                                      try simp only [Act.put, List.setIfInBounds_toArray, List.set_cons_zero, List.set_cons_succ]
                                      refine take_yes (i := 16) (v := ?_) rfl (by kernel_rfl) (by kernel_rfl) (by kernel_rfl) (fun _ _ _ h => h) (by kernel_rfl) ?_ (by assumption) ?_
                                      rotate_left
                                      · (intro w hSw; (try dsimp only at hSw); go_simp; try with_reducible rfl)
                                      try simp only [Act.put, List.setIfInBounds_toArray, List.set_cons_zero, List.set_cons_succ]
                                      refine take_yes (i := 17) (v := ?_) rfl (by kernel_rfl) (by kernel_rfl) (by kernel_rfl) (fun _ _ _ h => h) (by kernel_rfl) ?_ (by assumption) ?_
                                      rotate_left
                                      · (intro w hSw; (try dsimp only at hSw); go_simp; try with_reducible rfl)
                                      try simp only [Act.put, List.setIfInBounds_toArray, List.set_cons_zero, List.set_cons_succ]
                                      refine wpAnyH_done (by kernel_rfl) ?_ _
                                      refine NoPanic.normal ?_
                                      clear cq0 cq1 cqq cqf
                                      go_wp2
                                      go_roundw
                                      case rel => exact ⟨q + 1, by omega, by go_num, by rw [HFS.out]; simp, HBzm.out⟩
                                      case measure => simp [intOf]; omega
                                  · have hql1 : ¬ ((q : Int) < (tb.out.length : Int)) := by omega
                                    obtain rfl : q = tb.out.length := by omega
                                    go_wp2
                                    go_roundw
                                    case rel => exact ⟨m + 1, by omega, by go_num, by rw [HDS.out], HBq.out⟩
                                    case measure => simp [intOf]; omega
                              · have hml1 : ¬ ((m : Int) < (bs.length : Int)) := by omega
                                obtain rfl : m = bs.length := by omega
                                go_wp2
                                go_roundw
                                case rel => exact ⟨j + 1, by omega, by go_num, by rw [HSB.out], by rw [HC1.out, List.take_of_length_le (Nat.le_refl _)], by rw [HAB.out], HBq.out⟩
                                case measure => simp [intOf]; omega
                      · have hy1 : (y == 0) = false := by simpa using hy0
                        have HC0 := Lib.hid (show comN n ys bs t.ins (tn : Int) (j + 1) = comN n ys bs t.ins (tn : Int) j by rw [HC.out, decide_eq_false hy0]; simp)
                        clear hy0 HC
                        have cq0 := HEq.out.cell0
                        have hys0 : (0 : Int) < (ys.length : Int) := by omega
                        go_wp2
                        go_loopw [10, 13] (fun c i wr => c = .bool (comN n ys bs t.ins (tn : Int) j) ∧ i = .int .i64 0 ∧ wr = wq) (fun _ _ _ => 0)
                        case atStart => exact ⟨rfl, rfl, rfl⟩
                        case round =>
                          obtain ⟨rfl, rfl, hw2⟩ := hrel
                          obtain rfl : wq = wr := hw2.symm
                          go_wp2
                          go_loopw [10, 14] (fun c i wr => c = .bool (comN n ys bs t.ins (tn : Int) j) ∧ i = .int .i64 0 ∧ wr = wq) (fun _ _ _ => 0)
                          case atStart => exact ⟨rfl, rfl, rfl⟩
                          case round =>
                            obtain ⟨rfl, rfl, hw3⟩ := hrel
                            obtain rfl : wq = wr := hw3.symm
                            by_cases hb0 : 0 < bs.length
                            · have hb1 : (0 : Int) < (bs.length : Int) := by omega
                              go_wp2
                              go_roundw
                              case rel => exact ⟨j + 1, by omega, by go_num, by rw [HSB.out], by rw [HC0.out], by rw [HAB.out], HBq.out⟩
                              case measure => simp [intOf]; omega
                            · have hb1 : ¬ (0 : Int) < (bs.length : Int) := by omega
                              go_wp2
                              go_roundw
                              case rel => exact ⟨j + 1, by omega, by go_num, by rw [HSB.out], by rw [HC0.out], by rw [HAB.out], HBq.out⟩
                              case measure => simp [intOf]; omega
                · have hlt1 : ¬ ((j : Int) < (t.ins.length : Int)) := by omega
                  obtain rfl : j = t.ins.length := by omega
                  have HCX := HCE.out
                  rw [List.take_of_length_le (Nat.le_refl _)]
                  generalize someB ys t.ins = sb at HCX ⊢
                  generalize allB ys t.ins = ab at HCX ⊢
                  generalize comN n ys bs t.ins (tn : Int) t.ins.length = cb at HCX ⊢
                  subst HCX
                  have HBX := Lib.hid HEq.out.bl
                  cases sb with
                  | true =>
                    cases ab with
                    | true =>
                      go_wp2
                      go_ret
                      exact ⟨rfl, HBX.out⟩
                    | false =>
                      cases cb with
                      | true =>
                        go_wp2
                        go_ret
                        exact ⟨rfl, HBX.out⟩
                      | false =>
                        go_wp2
                        go_ret
                        exact ⟨rfl, HBX.out⟩
                  | false =>
                    go_wp2
                    go_ret
                    exact ⟨rfl, HBX.out⟩
          · have hj4 : (t.join != 3) = true := by simpa using hj3
            clear hj3
            go_wp2_with fail
            refine (guOk_c _).mono ?_
            rintro e wz ⟨rfl, hbk⟩
            have HBX := Lib.hid (HE4.out.below hbk).bl
            clear hbk
            go_wp2
            go_ret
            exact ⟨rfl, HBX.out⟩
        · have hxk1 : ((k : Int) ≤ (tn : Int)) := by omega
          have hx0b : decide (k ≤ tn) = true := decide_eq_true (by omega)
          go_wp2_with fail
          refine (guOk_c _).mono ?_
          rintro e wz ⟨rfl, hbk⟩
          have HBX := Lib.hid (HE4.out.below hbk).bl
          clear hbk
          go_wp2
          go_ret
          exact ⟨rfl, HBX.out⟩
end Go.Proofs.Ytkcbghaadjhceaa
