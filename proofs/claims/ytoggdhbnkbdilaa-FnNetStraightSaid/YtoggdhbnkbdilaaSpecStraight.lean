/- Whether no task can come again: the reference. -/
import Derived.Test.YtoggdhbnkbdilaaStraight
import Derived.StillTailTactics
namespace Go.Proofs.Ytoggdhbnkbdilaa
open Go.RowKit
set_option linter.unusedVariables false
set_option linter.unusedSimpArgs false

set_option maxRecDepth 10000 in
set_option maxHeartbeats 2000000 in
theorem specNetStraight_c (n : NNet) (v : Value) (lo hi : Nat) (w : World) (hN : NetV w lo hi v n) (hhi : hi ≤ w.heap.size) :
    Calls Try.prog 41 #[v] w fun e w' => e = .returned (.bool (straightB n)) ∧ Below w.heap.size w w' := by
  have HN := Lib.hid hN
  obtain ⟨A, b, off, c, ms, rfl, hm, hT⟩ := hN
  unfold maxLen at hm
  generalize hob : Obj.cells #[.int .i64 n.places, .slice A n.tasks.length c] 25 = ob
  have hR := (Row.newAt w #[.int .i64 n.places, .slice A n.tasks.length c] 25 _ rfl)
  rw [hob] at hR
  have HR := Lib.hid hR
  have HB := Lib.hid ((Below.refl w.heap.size w).alloc (Nat.le_refl _) ob)
  have HNA := Lib.hid (HN.out.keep (w' := w.alloc ob) fun g _ h => Below.heap_alloc w _ g (by omega))
  have HT := Lib.hid (hT.keep (w' := w.alloc ob) (fun g _ h => Below.heap_alloc w _ g (by omega)) (fun g _ h => Below.heap_alloc w _ g (by omega)))
  have HC := Lib.hid (specNetOk_c n _ lo hi (w.alloc ob) HNA.out (by simp; omega))
  have HO := Lib.hid hob
  clear hR hT hob
  go_enter Try.func41, Try.ntmps41
  go_wp2_with fail
  rw [HO.out]
  refine HC.out.mono ?_
  rintro e w1 ⟨rfl, hb1⟩
  have hR1 := HR.out.below hb1 (by simp)
  have s0 := (hR1.cell (j := 0) rfl).1
  have s1 := (hR1.cell (j := 1) rfl).1
  have hz1' : w.heap.size + 1 ≤ w1.heap.size := by simpa using hb1.size
  have HB1 := Lib.hid (hb1.mono (by simp : w.heap.size + 1 ≤ _))
  clear hb1 hR1
  by_cases h1 : netOk n = true
  · have H1 := Lib.hid h1
    have hp := netOk_parts h1
    have hp1 : n.places ≤ 8 := hp.2.1
    have hp2 : 2 ≤ n.places := hp.1
    rw [h1]
    clear h1 hp
    go_wp2
    go_loopw [3] (fun i wr => ∃ k : Nat, k ≤ n.tasks.length ∧ i = .int .i64 k ∧ (∀ j t, j < k → n.tasks[j]? = some t → t.out.all (awayB n t) = true) ∧ Below (w.heap.size + 1) (w.alloc ob) wr) (fun i _ => n.tasks.length - (intOf i).toNat)
    case atStart => exact ⟨0, Nat.zero_le _, rfl, fun j t hj => absurd hj (Nat.not_lt_zero _), HB1.out⟩
    case round =>
      obtain ⟨k, hk, rfl, hn, hb⟩ := hrel
      obtain ⟨wp, rfl⟩ : ∃ wp, wp = wr := ⟨_, rfl⟩
      have hzp : w.heap.size + 1 ≤ wp.heap.size := by simpa using hb.size
      have HNN := Lib.hid hn
      have HBp := Lib.hid hb
      clear s0 s1
      have hRp := HR.out.below hb (by simp)
      have s0 := (hRp.cell (j := 0) rfl).1
      have s1 := (hRp.cell (j := 1) rfl).1
      clear hn hb hRp
      by_cases hkt : k < n.tasks.length
      · have hkt1 : (k : Int) < (n.tasks.length : Int) := by omega
        obtain ⟨rfl, _, h3, t, vi, vo, vc, hx, _, hTV, ⟨_, _, c2, c3, _⟩, _⟩ := HT.out.task hkt
        obtain ⟨A2, q1, A3, q2, A4, q3, rfl, rfl, rfl⟩ := hTV.forms
        obtain ⟨_, b2, o2, _, e2, hmi, hRi⟩ := hTV.ins
        cases e2
        obtain ⟨_, b3, o3, _, e3, hmo, hRo⟩ := hTV.out
        cases e3
        unfold maxLen at hmo hmi
        have HC2 := Lib.hid c2
        have HC3 := Lib.hid c3
        have HX := Lib.hid hx
        have HIN := Lib.hid (fun (x : Int) (hx' : x ∈ t.ins) => ins_bound H1.out (List.mem_of_getElem? hx) hx')
        have HOUT := Lib.hid (fun (f : NFlow) (hf' : f ∈ t.out) => out_bound H1.out (List.mem_of_getElem? hx) hf')
        have HRi := Lib.hid hRi
        have HRo := Lib.hid hRo
        clear hTV hx hRi hRo c2 c3
        go_wp2
        go_loopw [4] (fun i wr => ∃ r : Nat, r ≤ t.out.length ∧ i = .int .i64 r ∧ (∀ j f, j < r → t.out[j]? = some f → awayB n t f = true) ∧ Below (w.heap.size + 1) (w.alloc ob) wr) (fun i _ => t.out.length - (intOf i).toNat)
        case atStart => exact ⟨0, Nat.zero_le _, rfl, fun j f hj => absurd hj (Nat.not_lt_zero _), HBp.out⟩
        case round =>
          obtain ⟨r, hr, rfl, hn, hb⟩ := hrel
          obtain ⟨wz, rfl⟩ : ∃ wz, wz = wr := ⟨_, rfl⟩
          have hzz : w.heap.size + 1 ≤ wz.heap.size := by simpa using hb.size
          have HNF := Lib.hid hn
          have HBz := Lib.hid hb
          clear s0 s1
          have hRz := HR.out.below hb (by simp)
          have s0 := (hRz.cell (j := 0) rfl).1
          have s1 := (hRz.cell (j := 1) rfl).1
          have d2 := (hb.cell (p := ⟨b, off + k * 9 + 2, none⟩) (by show b < _; omega)).trans HC2.out
          have d3 := (hb.cell (p := ⟨b, off + k * 9 + 3, none⟩) (by show b < _; omega)).trans HC3.out
          clear hn hb hRz
          by_cases hrt : r < t.out.length
          · have hrt1 : (r : Int) < (t.out.length : Int) := by omega
            obtain ⟨rfl, _, h3', f, hf, ⟨f0, _⟩, _⟩ := HRo.out.flow hrt
            obtain ⟨hf0, hf1⟩ := HOUT.out f (List.mem_of_getElem? hf)
            obtain ⟨fn, hfn⟩ := Int.eq_ofNat_of_zero_le (show 0 ≤ f.to by omega)
            have hfnp : (fn : Int) < n.places := by omega
            have f0' := (HBz.out.cell (p := ⟨b3, o3 + r * 4, none⟩) (by show b3 < _; omega)).trans f0
            rw [hfn] at f0'
            have HFX := Lib.hid hf
            have HFN := Lib.hid hfn
            clear hf f0 hf0 hf1 hfn
            go_wp2
            go_still_tail 11, (by kernel_rfl)
            change wpList _ _ _ _ _ wz.drew
            go_wp2_with fail
            have HQ := specNetReach_c n (.agg #[.int .i64 n.places, .slice (some ⟨b, off, none⟩) n.tasks.length c]) lo hi fn (-1) wz.drew (HNA.out.below HBz.out.drew (by omega)) (by show _ ≤ wz.heap.size; omega)
            rw [fromP_reachN H1.out hfnp] at HQ
            refine HQ.mono ?_
            rintro e w5 ⟨v', rfl, hM, hb5⟩
            have hz5 : wz.heap.size ≤ w5.heap.size := hb5.size
            have hlenF := fromP_length n fn
            obtain ⟨g5, c5', rfl, hg3, hg4⟩ := MadeB.len (zs := fromP n fn) hM (by omega)
            have HM5 := Lib.hid (show MadeB w5 wz.heap.size 4 (fromP n fn) _ from hM)
            have hb50 := HBz.out.drew.trans (hb5.mono (show w.heap.size + 1 ≤ wz.heap.size from hzz))
            have HB5 := Lib.hid hb50
            have HLF := Lib.hid hlenF
            clear hM hb5 s0 s1 d2 d3 f0' HQ hlenF
            have hR5 := HR.out.below hb50 (by simp)
            have s0 := (hR5.cell (j := 0) rfl).1
            have s1 := (hR5.cell (j := 1) rfl).1
            have d2 := (hb50.cell (p := ⟨b, off + k * 9 + 2, none⟩) (by show b < _; omega)).trans HC2.out
            generalize hm5 : (fromP n fn).length = m5 at *
            have HM5L := Lib.hid hm5
            clear hR5 hb50 hm5
            go_wp2
            go_loopw [6] (fun i wr => ∃ q d : Nat, q ≤ t.ins.length ∧ i = .int .i64 q ∧ (∀ j y, j < q → t.ins[j]? = some y → bit (fromP n fn) y = false) ∧ wr = w5.drewN d) (fun i _ => t.ins.length - (intOf i).toNat)
            case atStart => exact ⟨0, 0, Nat.zero_le _, rfl, fun j f hj => absurd hj (Nat.not_lt_zero _), rfl⟩
            case round =>
              obtain ⟨q, d, hq, rfl, hn, hw⟩ := hrel
              obtain ⟨wq, rfl⟩ : ∃ wq, wq = wr := ⟨_, rfl⟩
              have HNQ := Lib.hid hn
              have HW := Lib.hid hw
              replace s0 : wq.cell? ⟨w.heap.size, 0, none⟩ = some (.int .i64 n.places) := by rw [hw]; exact s0
              replace s1 : wq.cell? ⟨w.heap.size, 1, none⟩ = some (.slice (some ⟨b, off, none⟩) n.tasks.length c) := by rw [hw]; exact s1
              replace d2 : wq.cell? ⟨b, off + k * 9 + 2, none⟩ = some (.slice A2 t.ins.length q1) := by rw [hw]; exact d2
              clear hn hw
              by_cases hqi : q < t.ins.length
              · have hqi1 : (q : Int) < (t.ins.length : Int) := by omega
                obtain ⟨rfl, _, _, x, hx, hcx, _⟩ := HRi.out.int hqi
                obtain ⟨hx0, hx1⟩ := HIN.out x (List.mem_of_getElem? hx)
                obtain ⟨xn, rfl⟩ := Int.eq_ofNat_of_zero_le hx0
                have hxn : xn < m5 := by have := HLF.out; omega
                have hxn1 : (xn : Int) < (m5 : Int) := by omega
                obtain ⟨e1, _, _⟩ := MadeB.at_ (zs := fromP n fn) HM5.out HM5L.out (k := xn) (by rw [HM5L.out]; exact hxn)
                replace e1 : wq.cell? ⟨g5, xn, none⟩ = some (.bool (bit (fromP n fn) (xn : Int))) := by rw [HW.out]; exact e1
                have hcx1 : wq.cell? ⟨b2, o2 + q, none⟩ = some (.int .i64 (xn : Int)) := by rw [HW.out]; exact (HB5.out.cell (p := ⟨b2, o2 + q, none⟩) (by show b2 < _; omega)).trans hcx
                have HXX := Lib.hid hx
                clear hx hcx
                by_cases hy : bit (fromP n fn) (xn : Int) = true
                · have HY := Lib.hid hy
                  rw [hy] at e1
                  clear hy
                  go_wp2
                  go_ret
                  refine ⟨ret_bool (straight_no1 (List.mem_of_getElem? HX.out) (List.mem_of_getElem? HFX.out) ?_).symm, HB.out.trans ((by rw [HW.out]; exact below_drewN HB5.out d : Below (w.heap.size + 1) (w.alloc ob) _).mono (by omega))⟩
                  rw [awayB, HFN.out]
                  simp only [Int.toNat_natCast]
                  rw [List.any_eq_true.2 ⟨_, List.mem_of_getElem? HXX.out, HY.out⟩]; rfl
                · have hy' : bit (fromP n fn) (xn : Int) = false := by simpa using hy
                  have HY := Lib.hid hy'
                  rw [hy'] at e1
                  clear hy hy'
                  go_wp2
                  go_roundw
                  case rel =>
                    refine ⟨q + 1, d, by omega, by go_num, fun j y hj hy => ?_, HW.out⟩
                    by_cases hjq : j = q
                    · rw [hjq] at hy
                      have e := HXX.out.symm.trans hy
                      injection e with e; rw [← e]; exact HY.out
                    · exact HNQ.out j y (by omega) hy
                  case measure => simp [intOf]; omega
              · have hqi1 : ¬ ((q : Int) < (t.ins.length : Int)) := by omega
                go_wp2
                go_roundw
                case rel =>
                  refine ⟨r + 1, by omega, by go_num, fun j f' hj hf' => ?_, by rw [HW.out]; exact below_drewN HB5.out d⟩
                  by_cases hjr : j = r
                  · rw [hjr] at hf'
                    have e := HFX.out.symm.trans hf'
                    injection e with e; rw [← e, awayB, HFN.out]
                    simp only [Int.toNat_natCast]
                    have : t.ins.any (bit (fromP n fn)) = false := by
                      rw [List.any_eq_false]
                      intro y hy
                      obtain ⟨j, hj⟩ := List.getElem?_of_mem hy
                      rw [HNQ.out j y (by have := lt_of_some hj; omega) hj]; simp
                    rw [this]; rfl
                  · exact HNF.out j f' (by omega) hf'
                case measure => simp [intOf]; omega
          · have hrt1 : ¬ ((r : Int) < (t.out.length : Int)) := by omega
            have hrl : r = t.out.length := by omega
            have HRL := Lib.hid hrl
            clear hrl
            go_wp2
            go_roundw
            case rel =>
              refine ⟨k + 1, by omega, by go_num, fun j t' hj ht' => ?_, HBz.out⟩
              by_cases hjk : j = k
              · rw [hjk] at ht'
                have e := HX.out.symm.trans ht'
                injection e with e; rw [← e]
                exact all_of fun j f hj hf => HNF.out j f (by have := HRL.out; omega) hf
              · exact HNN.out j t' (by omega) ht'
            case measure => simp [intOf]; omega
      · have hkt1 : ¬ ((k : Int) < (n.tasks.length : Int)) := by omega
        go_wp2
        go_ret
        exact ⟨ret_bool (straight_yes H1.out (fun j t hj ht => HNN.out j t (by omega) ht)).symm, HB.out.trans (HBp.out.mono (by omega))⟩
  · have h1' : netOk n = false := by simpa using h1
    have H1 := Lib.hid h1'
    rw [h1']
    clear h1 h1'
    go_wp2
    go_ret
    exact ⟨ret_bool (straight_no H1.out).symm, HB.out.trans (HB1.out.mono (by omega))⟩
end Go.Proofs.Ytoggdhbnkbdilaa
