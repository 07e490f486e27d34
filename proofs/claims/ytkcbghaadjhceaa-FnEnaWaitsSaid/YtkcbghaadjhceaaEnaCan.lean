/- Whether a task can begin: the program and the reference. -/
import Derived.Test.YtkcbghaadjhceaaArrives
import Derived.Test.YtkcbghaadjhceaaComing
import Derived.Test.YtkcbghaadjhceaaBusyOk
namespace Go.Proofs.Ytkcbghaadjhceaa
open Go.RowKit
set_option linter.unusedVariables false
set_option linter.unusedSimpArgs false

theorem canB_1 {n : NNet} {zs : List Int} {bs : List NItem} {tn : Nat} {t : NTask} (ht : n.tasks[tn]? = some t) (h : t.join = 1) : canB n zs bs (tn : Int) = allB zs t.ins := by
  rw [canB, taskOf_at ht, if_pos h]
theorem canB_2 {n : NNet} {zs : List Int} {bs : List NItem} {tn : Nat} {t : NTask} (ht : n.tasks[tn]? = some t) (h : t.join = 2) : canB n zs bs (tn : Int) = someB zs t.ins := by
  rw [canB, taskOf_at ht, if_neg (by omega), if_pos h]
theorem canB_3 {n : NNet} {zs : List Int} {bs : List NItem} {tn : Nat} {t : NTask} (ht : n.tasks[tn]? = some t) (h1 : ¬ t.join = 1) (h2 : ¬ t.join = 2) : canB n zs bs (tn : Int) = (someB zs t.ins && (allB zs t.ins || !comingB n zs bs (tn : Int))) := by
  rw [canB, taskOf_at ht, if_neg h1, if_neg h2]

set_option maxRecDepth 10000 in
set_option maxHeartbeats 2000000 in
theorem l3Can_c (n : NNet) (v : Value) (zs : List Int) (bs : List NItem) (lo0 hi0 lo hi lo2 hi2 : Nat) (A1 : Option Addr) (b1 off1 c1 : Nat) (Ai : Option Addr) (bi oi ci : Nat) (tn : Nat) (w : World) (hN : NetV w lo0 hi0 v n) (hhi0 : hi0 ≤ w.heap.size)
    (hV : Row w lo hi A1 b1 off1 (ints zs)) (hhi : hi ≤ w.heap.size) (hI : Row w lo2 hi2 Ai bi oi (itemCells bs)) (hhi2 : hi2 ≤ w.heap.size) (hok : mrkOk n zs = true) (hbok : busyB n bs = true) (htn : tn < n.tasks.length) :
    Calls Try.prog 53 #[v, .slice A1 zs.length c1, .slice Ai bs.length ci, .int .i64 (tn : Int)] w fun e w' => e = .returned (.bool (canB n zs bs (tn : Int))) ∧ Below w.heap.size w w' := by
  obtain ⟨hnok, hzl, hfew⟩ := mrkOk_parts hok
  obtain ⟨p1, p2, p3, p4, p5⟩ := netOk_parts hnok
  have HBOK := Lib.hid hbok
  have HOK := Lib.hid hok
  have htn1 : (tn : Int) < (n.tasks.length : Int) := by omega
  have hz8 : zs.length ≤ 8 := by omega
  have HZL := Lib.hid hzl
  have HN := Lib.hid hN
  obtain ⟨A, b, off, c, ms, rfl, hm, hT⟩ := hN
  unfold maxLen at hm
  generalize hob : Obj.cells #[.int .i64 n.places, .slice A n.tasks.length c] 25 = ob
  have hR := (Row.newAt w #[.int .i64 n.places, .slice A n.tasks.length c] 25 _ rfl)
  rw [hob] at hR
  have HR := Lib.hid hR
  have HB := Lib.hid ((Below.refl w.heap.size w).alloc (Nat.le_refl _) ob)
  have HNA := Lib.hid (HN.out.keep (w' := w.alloc ob) fun g _ h => Below.heap_alloc w _ g (by omega))
  have HT := Lib.hid (hT.keep (w' := w.alloc ob) (fun g _ h => Below.heap_alloc w _ g (by omega)) (fun g _ h => Below.heap_alloc w _ g (by omega)))
  have HV := Lib.hid (hV.alloc hhi ob)
  have HI := Lib.hid (hI.alloc hhi2 ob)
  have s0 := (hR.cell (j := 0) rfl).1
  have s1 := (hR.cell (j := 1) rfl).1
  obtain ⟨rfl, _, h3, t, vi, vo, vc, hx, _, hTV, ⟨d0, _, d2, _⟩, _⟩ := HT.out.task htn
  obtain ⟨A2, q1, A3, q2, A4, q3, rfl, rfl, rfl⟩ := hTV.forms
  obtain ⟨_, b2, o2, _, e2, hmi, hRi⟩ := hTV.ins
  cases e2
  have HMI := Lib.hid hmi
  have HX := Lib.hid hx
  have HIN := Lib.hid (fun (x : Int) (hx' : x ∈ t.ins) => ins_bound hnok (List.mem_of_getElem? hx) hx')
  have hil := (taskOk_lens (p5 t (List.mem_of_getElem? hx))).2.1
  have HRi := Lib.hid hRi
  have HO := Lib.hid hob
  clear hR hT hV hI hob hnok hfew hok hbok hTV hx hRi hmi hzl p5
  go_enter Try.func53, Try.ntmps53
  go_upto_region 1 with fail
  rw [HO.out]
  go_wp2_with fail
  refine (l3Some_c zs t.ins lo hi lo0 hi0 A1 b1 off1 c1 A2 b2 o2 q1 _ HV.out HRi.out (by unfold maxLen; omega) HMI.out (fun x hx => by have := HIN.out x hx; have := HZL.out; omega)).mono ?_
  rintro e w' ⟨rfl, rfl⟩
  generalize hs : someB zs t.ins = s1b
  generalize ha : allB zs t.ins = a1b
  have HS := Lib.hid hs
  have HA := Lib.hid ha
  clear hs ha
  by_cases hj1 : t.join = 1
  · have e1 : (t.join == 1) = true := by simpa using hj1
    have HJ := Lib.hid hj1
    clear hj1
    go_wp2
    go_ret
    exact ⟨ret_bool (by rw [canB_1 HX.out HJ.out, HA.out]), HB.out⟩
  · have e1 : (t.join == 1) = false := by simpa using hj1
    have HJ1 := Lib.hid hj1
    clear hj1
    by_cases hj2 : t.join = 2
    · have e2 : (t.join == 2) = true := by simpa using hj2
      have HJ := Lib.hid hj2
      clear hj2
      go_wp2
      go_ret
      exact ⟨ret_bool (by rw [canB_2 HX.out HJ.out, HS.out]), HB.out⟩
    · have e2 : (t.join == 2) = false := by simpa using hj2
      have HJ2 := Lib.hid hj2
      clear hj2
      have HC3 := Lib.hid (canB_3 (zs := zs) (bs := bs) HX.out HJ1.out HJ2.out)
      cases s1b with
      | false =>
        go_wp2
        go_ret
        exact ⟨ret_bool (by rw [HC3.out, HS.out]; rfl), HB.out⟩
      | true =>
        cases a1b with
        | true =>
          go_wp2
          go_ret
          exact ⟨ret_bool (by rw [HC3.out, HS.out, HA.out]; rfl), HB.out⟩
        | false =>
          go_wp2_with fail
          refine (l3Coming_c n _ zs bs lo0 hi0 lo hi lo2 hi2 A1 b1 off1 c1 Ai bi oi ci tn _ (HNA.out) (by simp; omega) (HV.out) (by simp; omega) (HI.out) (by simp; omega) HOK.out HBOK.out htn).mono ?_
          rintro e w5 ⟨rfl, hb5⟩
          have HB5 := Lib.hid (HB.out.trans (hb5.mono (by simp)))
          clear hb5
          generalize hcm : comingB n zs bs (tn : Int) = cm
          have HCM := Lib.hid hcm
          clear hcm
          go_wp2
          go_ret
          exact ⟨ret_bool (by rw [HC3.out, HS.out, HA.out, HCM.out]; rfl), HB5.out⟩

set_option maxRecDepth 10000 in
set_option maxHeartbeats 2000000 in
theorem can_c (n : NNet) (v : Value) (zs : List Int) (bs : List NItem) (lo0 hi0 lo hi lo2 hi2 : Nat) (A1 : Option Addr) (b1 off1 c1 : Nat) (Ai : Option Addr) (bi oi ci : Nat) (tn : Nat) (w : World) (hN : NetV w lo0 hi0 v n) (hhi0 : hi0 ≤ w.heap.size)
    (hV : Row w lo hi A1 b1 off1 (ints zs)) (hhi : hi ≤ w.heap.size) (hI : Row w lo2 hi2 Ai bi oi (itemCells bs)) (hhi2 : hi2 ≤ w.heap.size) (hok : mrkOk n zs = true) (hbok : busyB n bs = true) (htn : tn < n.tasks.length) :
    Calls Try.prog 51 #[v, .slice A1 zs.length c1, .slice Ai bs.length ci, .int .i64 (tn : Int)] w fun e w' => e = .returned (.bool (canB n zs bs (tn : Int))) ∧ Below w.heap.size w w' := by
  obtain ⟨hnok, hzl, hfew⟩ := mrkOk_parts hok
  obtain ⟨p1, p2, p3, p4, p5⟩ := netOk_parts hnok
  have HBOK := Lib.hid hbok
  have HOK := Lib.hid hok
  have htn1 : (tn : Int) < (n.tasks.length : Int) := by omega
  have hz8 : zs.length ≤ 8 := by omega
  have HZL := Lib.hid hzl
  have HN := Lib.hid hN
  obtain ⟨A, b, off, c, ms, rfl, hm, hT⟩ := hN
  unfold maxLen at hm
  generalize hob : Obj.cells #[.int .i64 n.places, .slice A n.tasks.length c] 25 = ob
  have hR := (Row.newAt w #[.int .i64 n.places, .slice A n.tasks.length c] 25 _ rfl)
  rw [hob] at hR
  have HR := Lib.hid hR
  have HB := Lib.hid ((Below.refl w.heap.size w).alloc (Nat.le_refl _) ob)
  have HNA := Lib.hid (HN.out.keep (w' := w.alloc ob) fun g _ h => Below.heap_alloc w _ g (by omega))
  have HT := Lib.hid (hT.keep (w' := w.alloc ob) (fun g _ h => Below.heap_alloc w _ g (by omega)) (fun g _ h => Below.heap_alloc w _ g (by omega)))
  have HV := Lib.hid (hV.alloc hhi ob)
  have HI := Lib.hid (hI.alloc hhi2 ob)
  have s0 := (hR.cell (j := 0) rfl).1
  have s1 := (hR.cell (j := 1) rfl).1
  obtain ⟨rfl, _, h3, t, vi, vo, vc, hx, _, hTV, ⟨d0, _, d2, _⟩, _⟩ := HT.out.task htn
  obtain ⟨A2, q1, A3, q2, A4, q3, rfl, rfl, rfl⟩ := hTV.forms
  obtain ⟨_, b2, o2, _, e2, hmi, hRi⟩ := hTV.ins
  cases e2
  have HMI := Lib.hid hmi
  have HX := Lib.hid hx
  have HIN := Lib.hid (fun (x : Int) (hx' : x ∈ t.ins) => ins_bound hnok (List.mem_of_getElem? hx) hx')
  have hil := (taskOk_lens (p5 t (List.mem_of_getElem? hx))).2.1
  have HRi := Lib.hid hRi
  have HO := Lib.hid hob
  clear hR hT hV hI hob hnok hfew hok hbok hTV hx hRi hmi hzl p5
  go_enter Try.func51, Try.ntmps51
  go_upto_region 1 with fail
  rw [HO.out]
  go_wp2
  go_loopw [9, 10, 20] (fun s a i wr => ∃ k d : Nat, k ≤ t.ins.length ∧ i = .int .i64 k ∧ s = .bool (someB zs (t.ins.take k)) ∧ a = .bool (allB zs (t.ins.take k)) ∧ wr = (w.alloc ob).drewN d) (fun _ _ i _ => t.ins.length - (intOf i).toNat)
  case atStart => exact ⟨0, 0, Nat.zero_le _, rfl, rfl, rfl, rfl⟩
  case round =>
    obtain ⟨k, d, hk, rfl, rfl, rfl, hw⟩ := hrel
    have HW := Lib.hid hw
    replace s0 : wr.cell? ⟨w.heap.size, 0, none⟩ = some (.int .i64 n.places) := by rw [hw]; exact s0
    replace s1 : wr.cell? ⟨w.heap.size, 1, none⟩ = some (.slice (some ⟨b, off, none⟩) n.tasks.length c) := by rw [hw]; exact s1
    replace d0 : wr.cell? ⟨b, off + tn * 9, none⟩ = some (.int .i64 t.join) := by rw [hw]; exact d0
    clear hw d2
    generalize hs : someB zs (t.ins.take k) = s1b
    generalize ha : allB zs (t.ins.take k) = a1b
    have HS := Lib.hid hs
    have HA := Lib.hid ha
    clear hs ha
    by_cases hlt : k < t.ins.length
    · obtain ⟨rfl, _, _, x, hx, hcx, _⟩ := HRi.out.int hlt
      replace hcx : wr.cell? ⟨b2, o2 + k, none⟩ = some (.int .i64 x) := by rw [HW.out]; exact hcx
      obtain ⟨hx0, hx1⟩ := HIN.out x (List.mem_of_getElem? hx)
      obtain ⟨xn, rfl⟩ := Int.eq_ofNat_of_zero_le hx0
      have hxz : xn < zs.length := by have := HZL.out; omega
      have hxz1 : (xn : Int) < (zs.length : Int) := by omega
      obtain ⟨rfl, _, _, y, hy, hcy, _⟩ := HV.out.int (k := xn) hxz
      replace hcy : wr.cell? ⟨b1, off1 + xn, none⟩ = some (.int .i64 y) := by rw [HW.out]; exact hcy
      have HS1 := Lib.hid (show someB zs (t.ins.take (k + 1)) = (s1b || decide (0 < y)) by rw [someB, any_snoc _ hx, ← HS.out, someB]; simp [hy])
      have HA1 := Lib.hid (show allB zs (t.ins.take (k + 1)) = (a1b && decide (0 < y)) by rw [allB, all_snoc _ hx, ← HA.out, allB]; simp [hy])
      clear hx hy
      by_cases hp : 0 < y
      · have HP := Lib.hid hp
        cases s1b with
        | true =>
              cases a1b with
              | true =>
                go_wp2
                go_roundw
                case rel => exact ⟨k + 1, d, by omega, by go_num, by rw [HS1.out]; simp [HP.out], by rw [HA1.out]; simp [HP.out], HW.out⟩
                case measure => simp [intOf]; omega
              | false =>
                go_wp2
                go_roundw
                case rel => exact ⟨k + 1, d, by omega, by go_num, by rw [HS1.out]; simp [HP.out], by rw [HA1.out]; simp [HP.out], HW.out⟩
                case measure => simp [intOf]; omega
        | false =>
              cases a1b with
              | true =>
                go_wp2
                go_roundw
                case rel => exact ⟨k + 1, d, by omega, by go_num, by rw [HS1.out]; simp [HP.out], by rw [HA1.out]; simp [HP.out], HW.out⟩
                case measure => simp [intOf]; omega
              | false =>
                go_wp2
                go_roundw
                case rel => exact ⟨k + 1, d, by omega, by go_num, by rw [HS1.out]; simp [HP.out], by rw [HA1.out]; simp [HP.out], HW.out⟩
                case measure => simp [intOf]; omega
      · have HP := Lib.hid hp
        cases s1b with
        | true =>
              cases a1b with
              | true =>
                go_wp2
                go_roundw
                case rel => exact ⟨k + 1, d, by omega, by go_num, by rw [HS1.out]; simp [HP.out], by rw [HA1.out]; simp [HP.out], HW.out⟩
                case measure => simp [intOf]; omega
              | false =>
                go_wp2
                go_roundw
                case rel => exact ⟨k + 1, d, by omega, by go_num, by rw [HS1.out]; simp [HP.out], by rw [HA1.out]; simp [HP.out], HW.out⟩
                case measure => simp [intOf]; omega
        | false =>
              cases a1b with
              | true =>
                go_wp2
                go_roundw
                case rel => exact ⟨k + 1, d, by omega, by go_num, by rw [HS1.out]; simp [HP.out], by rw [HA1.out]; simp [HP.out], HW.out⟩
                case measure => simp [intOf]; omega
              | false =>
                go_wp2
                go_roundw
                case rel => exact ⟨k + 1, d, by omega, by go_num, by rw [HS1.out]; simp [HP.out], by rw [HA1.out]; simp [HP.out], HW.out⟩
                case measure => simp [intOf]; omega
    · have hkl : k = t.ins.length := by omega
      rw [hkl, List.take_length] at HS HA
      have HBw := Lib.hid (show Below w.heap.size w wr by rw [HW.out]; exact below_drewN HB.out d)
      have hzw : wr.heap.size = w.heap.size + 1 := by rw [HW.out]; show (w.alloc ob).heap.size = _; simp
      clear hkl
      by_cases hj1 : t.join = 1
      · have e1 : (t.join == 1) = true := by simpa using hj1
        have HJ := Lib.hid hj1
        clear hj1
        go_wp2
        go_ret
        exact ⟨ret_bool (by rw [canB_1 HX.out HJ.out, HA.out]), HBw.out⟩
      · have e1 : (t.join == 1) = false := by simpa using hj1
        have HJ1 := Lib.hid hj1
        clear hj1
        by_cases hj2 : t.join = 2
        · have e2 : (t.join == 2) = true := by simpa using hj2
          have HJ := Lib.hid hj2
          clear hj2
          go_wp2
          go_ret
          exact ⟨ret_bool (by rw [canB_2 HX.out HJ.out, HS.out]), HBw.out⟩
        · have e2 : (t.join == 2) = false := by simpa using hj2
          have HJ2 := Lib.hid hj2
          clear hj2
          have HC3 := Lib.hid (canB_3 (zs := zs) (bs := bs) HX.out HJ1.out HJ2.out)
          cases s1b with
          | false =>
            go_wp2
            go_ret
            exact ⟨ret_bool (by rw [HC3.out, HS.out]; rfl), HBw.out⟩
          | true =>
            cases a1b with
            | true =>
              go_wp2
              go_ret
              exact ⟨ret_bool (by rw [HC3.out, HS.out, HA.out]; rfl), HBw.out⟩
            | false =>
              go_wp2_with fail
              refine (arrives_c n _ zs bs lo0 hi0 lo hi lo2 hi2 A1 b1 off1 c1 Ai bi oi ci tn _ (by rw [HW.out]; exact HNA.out.keep fun _ _ _ => rfl) (by omega) (by rw [HW.out]; exact HV.out.drewN d) (by omega) (by rw [HW.out]; exact HI.out.drewN d) (by omega) HOK.out HBOK.out htn).mono ?_
              rintro e w5 ⟨rfl, hb5⟩
              have HB5 := Lib.hid (HBw.out.trans (hb5.mono (by omega)))
              clear hb5
              generalize hcm : comingB n zs bs (tn : Int) = cm
              have HCM := Lib.hid hcm
              clear hcm
              go_wp2
              go_ret
              exact ⟨ret_bool (by rw [HC3.out, HS.out, HA.out, HCM.out]; rfl), HB5.out⟩
end Go.Proofs.Ytkcbghaadjhceaa

/- EnaCan: the program and the reference. -/
namespace Go.Proofs.Ytkcbghaadjhceaa
open Go.RowKit
set_option linter.unusedVariables false
set_option linter.unusedSimpArgs false

set_option maxRecDepth 10000 in
set_option maxHeartbeats 2000000 in
theorem implEnaCan_c (n : NNet) (v : Value) (zs : List Int) (bs : List NItem) (lo0 hi0 lo hi lo2 hi2 : Nat) (A1 : Option Addr) (b1 off1 c1 : Nat) (Ai : Option Addr) (bi oi ci : Nat) (t : Int) (w : World) (hN : NetV w lo0 hi0 v n) (hhi0 : hi0 ≤ w.heap.size) (hlen : ∀ t ∈ n.tasks, t.out.length ≤ 1048576)
    (hV : Row w lo hi A1 b1 off1 (ints zs)) (hhi : hi ≤ w.heap.size) (hI : Row w lo2 hi2 Ai bi oi (itemCells bs)) (hhi2 : hi2 ≤ w.heap.size) (hm1 : zs.length ≤ maxLen) (hm2 : bs.length ≤ maxLen) :
    Calls Try.prog 24 #[v, .slice A1 zs.length c1, .slice Ai bs.length ci, .int .i64 t] w fun e w' => e = .returned (.bool (enaB n zs bs t)) ∧ Below w.heap.size w w' := by
  have HN := Lib.hid hN
  obtain ⟨A, b, off, c, ms, rfl, hm, hT⟩ := hN
  unfold maxLen at hm
  clear hT
  generalize hob : Obj.cells #[.int .i64 n.places, .slice A n.tasks.length c] 25 = ob
  have hR := (Row.newAt w #[.int .i64 n.places, .slice A n.tasks.length c] 25 _ rfl)
  rw [hob] at hR
  have HR := Lib.hid hR
  have HB := Lib.hid ((Below.refl w.heap.size w).alloc (Nat.le_refl _) ob)
  have HNA := Lib.hid (HN.out.keep (w' := w.alloc ob) fun g _ h => Below.heap_alloc w _ g (by omega))
  have HV := Lib.hid (hV.alloc hhi ob)
  have HI := Lib.hid (hI.alloc hhi2 ob)
  have HC := Lib.hid (implMrkOk_c n _ zs lo0 hi0 lo hi A1 b1 off1 c1 (w.alloc ob) HNA.out (by simp; omega) hlen (hV.alloc hhi ob) (by simp; omega) hm1)
  have HM2 := Lib.hid hm2
  have HO := Lib.hid hob
  clear hR hob hV hI hlen hm1 hm2
  go_enter Try.func24, Try.ntmps24
  go_wp2_with fail
  rw [HO.out]
  refine HC.out.mono ?_
  rintro e w1 ⟨rfl, hb1⟩
  have hR1 := HR.out.below hb1 (by simp)
  have s0 := (hR1.cell (j := 0) rfl).1
  have s1 := (hR1.cell (j := 1) rfl).1
  have hz1 : w.heap.size + 1 ≤ w1.heap.size := by simpa using hb1.size
  have HB1 := Lib.hid (hb1.mono (by simp : w.heap.size + 1 ≤ _))
  clear hb1 hR1
  by_cases h1 : mrkOk n zs = true
  · have H1 := Lib.hid h1
    have hnok := (mrkOk_parts h1).1
    have HNOK := Lib.hid hnok
    rw [h1]
    clear h1 hnok
    go_wp2_with fail
    refine (busyOk_c n _ bs lo0 hi0 lo2 hi2 Ai bi oi ci w1 (HNA.out.below HB1.out (by omega)) (by omega) HNOK.out (HI.out.below HB1.out (by omega)) (by omega) HM2.out).mono ?_
    rintro e w2 ⟨rfl, hb2⟩
    have hz2 : w1.heap.size ≤ w2.heap.size := hb2.size
    have hb02 := HB1.out.trans (hb2.mono (by omega))
    have hR2 := HR.out.below hb02 (by simp)
    clear s0 s1
    have s0 := (hR2.cell (j := 0) rfl).1
    have s1 := (hR2.cell (j := 1) rfl).1
    have HB2 := Lib.hid hb02
    clear hb2 hb02 hR2
    by_cases h2 : busyB n bs = true
    · have H2 := Lib.hid h2
      rw [h2]
      clear h2
      go_wp2_with fail
      refine (hasTask_c n _ t lo0 hi0 w2 (HNA.out.below HB2.out (by omega))).mono ?_
      rintro e w3 ⟨rfl, hb3⟩
      have hz3 : w2.heap.size ≤ w3.heap.size := hb3.size
      have hb03 := HB2.out.trans (hb3.mono (by omega))
      have hR3 := HR.out.below hb03 (by simp)
      clear s0 s1
      have s0 := (hR3.cell (j := 0) rfl).1
      have s1 := (hR3.cell (j := 1) rfl).1
      have HB3 := Lib.hid hb03
      clear hb3 hb03 hR3
      by_cases h3 : inB t 0 ((n.tasks.length : Int) - 1) = true
      · have H3 := Lib.hid h3
        rw [h3]
        have hpl := inB_iff.1 h3
        obtain ⟨tn, rfl⟩ := Int.eq_ofNat_of_zero_le hpl.1
        have htn : tn < n.tasks.length := by omega
        clear h3
        go_wp2_with fail
        refine (can_c n _ zs bs lo0 hi0 lo hi lo2 hi2 A1 b1 off1 c1 Ai bi oi ci tn w3 (HNA.out.below HB3.out (by omega)) (by omega) (HV.out.below HB3.out (by omega)) (by omega) (HI.out.below HB3.out (by omega)) (by omega) H1.out H2.out htn).mono ?_
        rintro e w4 ⟨rfl, hb4⟩
        have HB4 := Lib.hid (HB3.out.trans (hb4.mono (by omega)))
        clear hb4 s0 s1
        generalize hcb : canB n zs bs (tn : Int) = cb
        have HCB := Lib.hid hcb
        clear hcb
        go_wp2
        go_ret
        exact ⟨ret_bool (by rw [enaB, H1.out, H2.out, H3.out, HCB.out]; rfl), HB.out.trans (HB4.out.mono (by omega))⟩
      · have h3' : inB t 0 ((n.tasks.length : Int) - 1) = false := by simpa using h3
        have H3 := Lib.hid h3'
        rw [h3']
        clear h3 h3'
        go_wp2
        go_ret
        exact ⟨ret_bool (by rw [enaB, H1.out, H2.out, H3.out]; rfl), HB.out.trans (HB3.out.mono (by omega))⟩
    · have h2' : busyB n bs = false := by simpa using h2
      have H2 := Lib.hid h2'
      rw [h2']
      clear h2 h2'
      go_wp2
      go_ret
      exact ⟨ret_bool (by rw [enaB, H1.out, H2.out]; rfl), HB.out.trans (HB2.out.mono (by omega))⟩
  · have h1' : mrkOk n zs = false := by simpa using h1
    have H1 := Lib.hid h1'
    rw [h1']
    clear h1 h1'
    go_wp2
    go_ret
    exact ⟨ret_bool (by rw [enaB, H1.out]; rfl), HB.out.trans (HB1.out.mono (by omega))⟩

set_option maxRecDepth 10000 in
set_option maxHeartbeats 2000000 in
theorem specEnaCan_c (n : NNet) (v : Value) (zs : List Int) (bs : List NItem) (lo0 hi0 lo hi lo2 hi2 : Nat) (A1 : Option Addr) (b1 off1 c1 : Nat) (Ai : Option Addr) (bi oi ci : Nat) (t : Int) (w : World) (hN : NetV w lo0 hi0 v n) (hhi0 : hi0 ≤ w.heap.size)
    (hV : Row w lo hi A1 b1 off1 (ints zs)) (hhi : hi ≤ w.heap.size) (hI : Row w lo2 hi2 Ai bi oi (itemCells bs)) (hhi2 : hi2 ≤ w.heap.size) (hm1 : zs.length ≤ maxLen) (hm2 : bs.length ≤ maxLen) :
    Calls Try.prog 25 #[v, .slice A1 zs.length c1, .slice Ai bs.length ci, .int .i64 t] w fun e w' => e = .returned (.bool (enaB n zs bs t)) ∧ Below w.heap.size w w' := by
  have HN := Lib.hid hN
  obtain ⟨A, b, off, c, ms, rfl, hm, hT⟩ := hN
  unfold maxLen at hm
  clear hT
  generalize hob : Obj.cells #[.int .i64 n.places, .slice A n.tasks.length c] 25 = ob
  have hR := (Row.newAt w #[.int .i64 n.places, .slice A n.tasks.length c] 25 _ rfl)
  rw [hob] at hR
  have HR := Lib.hid hR
  have HB := Lib.hid ((Below.refl w.heap.size w).alloc (Nat.le_refl _) ob)
  have HNA := Lib.hid (HN.out.keep (w' := w.alloc ob) fun g _ h => Below.heap_alloc w _ g (by omega))
  have HV := Lib.hid (hV.alloc hhi ob)
  have HI := Lib.hid (hI.alloc hhi2 ob)
  have HC := Lib.hid (specMrkOk_c n _ zs lo0 hi0 lo hi A1 b1 off1 c1 (w.alloc ob) HNA.out (by simp; omega) (hV.alloc hhi ob) (by simp; omega) hm1)
  have HM2 := Lib.hid hm2
  have HO := Lib.hid hob
  clear hR hob hV hI hm1 hm2
  go_enter Try.func25, Try.ntmps25
  go_wp2_with fail
  rw [HO.out]
  refine HC.out.mono ?_
  rintro e w1 ⟨rfl, hb1⟩
  have hR1 := HR.out.below hb1 (by simp)
  have s0 := (hR1.cell (j := 0) rfl).1
  have s1 := (hR1.cell (j := 1) rfl).1
  have hz1 : w.heap.size + 1 ≤ w1.heap.size := by simpa using hb1.size
  have HB1 := Lib.hid (hb1.mono (by simp : w.heap.size + 1 ≤ _))
  clear hb1 hR1
  by_cases h1 : mrkOk n zs = true
  · have H1 := Lib.hid h1
    have hnok := (mrkOk_parts h1).1
    have HNOK := Lib.hid hnok
    rw [h1]
    clear h1 hnok
    go_wp2_with fail
    refine (l3Busy_c n _ bs lo0 hi0 lo2 hi2 Ai bi oi ci w1 (HNA.out.below HB1.out (by omega)) (by omega) HNOK.out (HI.out.below HB1.out (by omega)) (by omega) HM2.out).mono ?_
    rintro e w2 ⟨rfl, hb2⟩
    have hz2 : w1.heap.size ≤ w2.heap.size := hb2.size
    have hb02 := HB1.out.trans (hb2.mono (by omega))
    have hR2 := HR.out.below hb02 (by simp)
    clear s0 s1
    have s0 := (hR2.cell (j := 0) rfl).1
    have s1 := (hR2.cell (j := 1) rfl).1
    have HB2 := Lib.hid hb02
    clear hb2 hb02 hR2
    by_cases h2 : busyB n bs = true
    · have H2 := Lib.hid h2
      rw [h2]
      clear h2
      go_wp2_with fail
      refine (l1In_c _ _ _ _).mono ?_
      rintro e w3 ⟨rfl, hw3⟩
      have hz3 : w2.heap.size ≤ w3.heap.size := by rw [hw3]; exact Nat.le_refl _
      have HB3 := Lib.hid (show Below (w.heap.size + 1) (w.alloc ob) w3 by rw [← hw3]; exact HB2.out)
      rw [hw3] at s0 s1
      clear hw3
      by_cases h3 : inB t 0 ((n.tasks.length : Int) - 1) = true
      · have H3 := Lib.hid h3
        rw [h3]
        have hpl := inB_iff.1 h3
        obtain ⟨tn, rfl⟩ := Int.eq_ofNat_of_zero_le hpl.1
        have htn : tn < n.tasks.length := by omega
        clear h3
        go_wp2_with fail
        refine (l3Can_c n _ zs bs lo0 hi0 lo hi lo2 hi2 A1 b1 off1 c1 Ai bi oi ci tn w3 (HNA.out.below HB3.out (by omega)) (by omega) (HV.out.below HB3.out (by omega)) (by omega) (HI.out.below HB3.out (by omega)) (by omega) H1.out H2.out htn).mono ?_
        rintro e w4 ⟨rfl, hb4⟩
        have HB4 := Lib.hid (HB3.out.trans (hb4.mono (by omega)))
        clear hb4 s0 s1
        generalize hcb : canB n zs bs (tn : Int) = cb
        have HCB := Lib.hid hcb
        clear hcb
        go_wp2
        go_ret
        exact ⟨ret_bool (by rw [enaB, H1.out, H2.out, H3.out, HCB.out]; rfl), HB.out.trans (HB4.out.mono (by omega))⟩
      · have h3' : inB t 0 ((n.tasks.length : Int) - 1) = false := by simpa using h3
        have H3 := Lib.hid h3'
        rw [h3']
        clear h3 h3'
        go_wp2
        go_ret
        exact ⟨ret_bool (by rw [enaB, H1.out, H2.out, H3.out]; rfl), HB.out.trans (HB3.out.mono (by omega))⟩
    · have h2' : busyB n bs = false := by simpa using h2
      have H2 := Lib.hid h2'
      rw [h2']
      clear h2 h2'
      go_wp2
      go_ret
      exact ⟨ret_bool (by rw [enaB, H1.out, H2.out]; rfl), HB.out.trans (HB2.out.mono (by omega))⟩
  · have h1' : mrkOk n zs = false := by simpa using h1
    have H1 := Lib.hid h1'
    rw [h1']
    clear h1 h1'
    go_wp2
    go_ret
    exact ⟨ret_bool (by rw [enaB, H1.out]; rfl), HB.out.trans (HB1.out.mono (by omega))⟩
end Go.Proofs.Ytkcbghaadjhceaa
