/- Whether no task can come again: the program. -/
import Derived.Test.YtoggdhbnkbdilaaWhole
namespace Go.Proofs.Ytoggdhbnkbdilaa
open Go.RowKit
set_option linter.unusedVariables false
set_option linter.unusedSimpArgs false

/-- From where a flow leads no input place of its task can be come to. -/
def awayB (n : NNet) (t : NTask) (f : NFlow) : Bool := !(t.ins.any (bit (fromP n f.to.toNat)))
def straightB (n : NNet) : Bool := netOk n && n.tasks.all fun t => t.out.all (awayB n t)
theorem straight_no {n : NNet} (h : netOk n = false) : straightB n = false := by rw [straightB, h]; rfl
theorem straight_no1 {n : NNet} {t : NTask} {f : NFlow} (ht : t ∈ n.tasks) (hf : f ∈ t.out) (h : awayB n t f = false) : straightB n = false := by
  have : (n.tasks.all fun t => t.out.all (awayB n t)) = false := by
    rw [List.all_eq_false]
    exact ⟨t, ht, by simp only [Bool.not_eq_true]; rw [List.all_eq_false]; exact ⟨f, hf, by simp [h]⟩⟩
  rw [straightB, this]; simp
theorem straight_yes {n : NNet} (h : netOk n = true) (h2 : ∀ j t, j < n.tasks.length → n.tasks[j]? = some t → t.out.all (awayB n t) = true) : straightB n = true := by
  rw [straightB, h, all_of h2]; rfl

theorem straight1_c (x : Nat) (base bx g m c : Nat) (cu : List Bool) (w : World) (hc : w.cell? ⟨bx, 0, none⟩ = some (.slice (some ⟨g, 0, none⟩) m c)) (hM : MadeB w base 4 cu (.slice (some ⟨g, 0, none⟩) m c)) (hm : cu.length = m) (hx : x < m) (hm2 : m ≤ 1000) :
    Calls Try.prog 69 #[.int .i64 (x : Int), .pointer (some ⟨bx, 0, none⟩)] w fun e w' => e = .returned (.bool (bit cu (x : Int))) ∧ Below w.heap.size w w' := by
  obtain ⟨e1, _, _⟩ := hM.at_ hm (k := x) (by omega)
  have hx1 : (x : Int) < (m : Int) := by omega
  rw [← bit_nat] at e1
  generalize bit cu (x : Int) = y at *
  clear hM
  go_enter Try.func69, Try.ntmps69
  go_wp2
  go_ret
  exact ⟨rfl, Below.refl _ _⟩

set_option maxRecDepth 10000 in
set_option maxHeartbeats 2000000 in
theorem implNetStraight_c (n : NNet) (v : Value) (lo hi : Nat) (w : World) (hN : NetV w lo hi v n) (hhi : hi ≤ w.heap.size) (hlen : ∀ t ∈ n.tasks, t.out.length ≤ 1048576) :
    Calls Try.prog 40 #[v] w fun e w' => e = .returned (.bool (straightB n)) ∧ Below w.heap.size w w' := by
  have EG := Lib.hid (entersF Try.func69 (by kernel_rfl) rfl : EntersF Try.prog 69)
  have HN := Lib.hid hN
  obtain ⟨A, b, off, c, ms, rfl, hm, hT⟩ := hN
  unfold maxLen at hm
  generalize hob : Obj.cells #[.int .i64 n.places, .slice A n.tasks.length c] 25 = ob
  have hR := (Row.newAt w #[.int .i64 n.places, .slice A n.tasks.length c] 25 _ rfl)
  rw [hob] at hR
  have HR := Lib.hid hR
  have HB := Lib.hid ((Below.refl w.heap.size w).alloc (Nat.le_refl _) ob)
  have HNA := Lib.hid (HN.out.keep (w' := w.alloc ob) fun g _ h => Below.heap_alloc w _ g (by omega))
  have HT := Lib.hid (hT.keep (w' := w.alloc ob) (fun g _ h => Below.heap_alloc w _ g (by omega)) (fun g _ h => Below.heap_alloc w _ g (by omega)))
  have HC := Lib.hid (implNetOk_c n _ lo hi (w.alloc ob) HNA.out (by simp; omega) hlen)
  have HO := Lib.hid hob
  clear hR hT hob hlen
  go_enter Try.func40, Try.ntmps40
  go_wp2_with fail
  rw [HO.out]
  refine HC.out.mono ?_
  rintro e w1 ⟨rfl, hb1⟩
  have hR1 := HR.out.below hb1 (by simp)
  have s0 := (hR1.cell (j := 0) rfl).1
  have s1 := (hR1.cell (j := 1) rfl).1
  have hz1' : w.heap.size + 1 ≤ w1.heap.size := by simpa using hb1.size
  have HB1 := Lib.hid (hb1.mono (by simp : w.heap.size + 1 ≤ _))
  clear hb1 hR1
  by_cases h1 : netOk n = true
  · have H1 := Lib.hid h1
    have hp := netOk_parts h1
    have HP := Lib.hid hp
    have hp1 : n.places ≤ 8 := hp.2.1
    have hp2 : 2 ≤ n.places := hp.1
    rw [h1]
    clear h1 hp
    go_wp2
    go_loopw [14] (fun i wr => ∃ k : Nat, k ≤ n.tasks.length ∧ i = .int .i64 k ∧ (∀ j t, j < k → n.tasks[j]? = some t → t.out.all (awayB n t) = true) ∧ Below (w.heap.size + 1) (w.alloc ob) wr) (fun i _ => n.tasks.length - (intOf i).toNat)
    case atStart => exact ⟨0, Nat.zero_le _, rfl, fun j t hj => absurd hj (Nat.not_lt_zero _), HB1.out⟩
    case round =>
      obtain ⟨k, hk, rfl, hn, hb⟩ := hrel
      obtain ⟨wp, rfl⟩ : ∃ wp, wp = wr := ⟨_, rfl⟩
      have hzp : w.heap.size + 1 ≤ wp.heap.size := by simpa using hb.size
      have HNN := Lib.hid hn
      have HBp := Lib.hid hb
      clear s0 s1 hn hb
      by_cases hkt : k < n.tasks.length
      · obtain ⟨rfl, _, h3, t, vi, vo, vc, hx, _, hTV, ⟨c0, c1, c2, c3, c4, c5, c6, c7, c8⟩, _⟩ := HT.out.task hkt
        obtain ⟨A2, q1, A3, q2, A4, q3, rfl, rfl, rfl⟩ := hTV.forms
        obtain ⟨_, b2, o2, _, e2, hmi, hRi⟩ := hTV.ins
        cases e2
        obtain ⟨_, b3, o3, _, e3, hmo, hRo⟩ := hTV.out
        cases e3
        unfold maxLen at hmo
        replace c0 := (HBp.out.cell (p := ⟨b, off + k * 9, none⟩) (by show b < _; omega)).trans c0
        replace c1 := (HBp.out.cell (p := ⟨b, off + k * 9 + 1, none⟩) (by show b < _; omega)).trans c1
        replace c2 := (HBp.out.cell (p := ⟨b, off + k * 9 + 2, none⟩) (by show b < _; omega)).trans c2
        replace c3 := (HBp.out.cell (p := ⟨b, off + k * 9 + 3, none⟩) (by show b < _; omega)).trans c3
        replace c4 := (HBp.out.cell (p := ⟨b, off + k * 9 + 4, none⟩) (by show b < _; omega)).trans c4
        replace c5 := (HBp.out.cell (p := ⟨b, off + k * 9 + 5, none⟩) (by show b < _; omega)).trans c5
        replace c6 := (HBp.out.cell (p := ⟨b, off + k * 9 + 6, none⟩) (by show b < _; omega)).trans c6
        replace c7 := (HBp.out.cell (p := ⟨b, off + k * 9 + 7, none⟩) (by show b < _; omega)).trans c7
        replace c8 := (HBp.out.cell (p := ⟨b, off + k * 9 + 8, none⟩) (by show b < _; omega)).trans c8
        have HX := Lib.hid hx
        have HIN := Lib.hid (fun (x : Int) (hx' : x ∈ t.ins) => ins_bound H1.out (List.mem_of_getElem? hx) hx')
        have HOUT := Lib.hid (fun (f : NFlow) (hf' : f ∈ t.out) => out_bound H1.out (List.mem_of_getElem? hx) hf')
        have HRi := Lib.hid hRi
        have HRo := Lib.hid hRo
        have HMI := Lib.hid hmi
        generalize hot : Obj.cells #[.int .i64 t.join, .int .i64 t.split, .slice A2 t.ins.length q1, .slice A3 t.out.length q2, .slice A4 t.clear.length q3, .int .i64 t.role, .int .i64 t.apart, .int .i64 t.all, .int .i64 t.need] 38 = ot
        have hR4 := Row.newAt wp #[.int .i64 t.join, .int .i64 t.split, .slice A2 t.ins.length q1, .slice A3 t.out.length q2, .slice A4 t.clear.length q3, .int .i64 t.role, .int .i64 t.apart, .int .i64 t.all, .int .i64 t.need] 38 _ rfl
        rw [hot] at hR4
        have HR4 := Lib.hid hR4
        have HOT := Lib.hid hot
        have HB4 := Lib.hid (HBp.out.alloc (by omega) ot)
        clear hTV hx hRi hRo hmi hR4 hot
        go_wp2
        rw [HOT.out]
        go_loopw [21] (fun i wr => ∃ r : Nat, r ≤ t.out.length ∧ i = .int .i64 r ∧ (∀ j f, j < r → t.out[j]? = some f → awayB n t f = true) ∧ Below (wp.heap.size + 1) (wp.alloc ot) wr) (fun i _ => t.out.length - (intOf i).toNat)
        case atStart => exact ⟨0, Nat.zero_le _, rfl, fun j f hj => absurd hj (Nat.not_lt_zero _), Below.refl _ _⟩
        case round =>
          obtain ⟨r, hr, rfl, hn, hb⟩ := hrel
          obtain ⟨wz, rfl⟩ : ∃ wz, wz = wr := ⟨_, rfl⟩
          have hzz : wp.heap.size + 1 ≤ wz.heap.size := by simpa using hb.size
          have HNF := Lib.hid hn
          have hb0 := HB4.out.trans (hb.mono (by omega))
          have HBz := Lib.hid hb0
          have HBw := Lib.hid hb
          have hRz := HR.out.below hb0 (by simp)
          have s0 := (hRz.cell (j := 0) rfl).1
          have s1 := (hRz.cell (j := 1) rfl).1
          have HR4z := Lib.hid (HR4.out.below hb (by simp))
          clear hn hb hb0 hRz c0 c1 c2 c3 c4 c5 c6 c7 c8
          by_cases hrt : r < t.out.length
          · obtain ⟨rfl, _, h3', f, hf, ⟨f0, f1, f2, f3⟩, _⟩ := HRo.out.flow hrt
            obtain ⟨hf0, hf1⟩ := HOUT.out f (List.mem_of_getElem? hf)
            obtain ⟨fn, hfn⟩ := Int.eq_ofNat_of_zero_le (show 0 ≤ f.to by omega)
            have hfnp : (fn : Int) < n.places := by omega
            have f0' := (HBz.out.cell (p := ⟨b3, o3 + r * 4, none⟩) (by show b3 < _; omega)).trans f0
            have f1' := (HBz.out.cell (p := ⟨b3, o3 + r * 4 + 1, none⟩) (by show b3 < _; omega)).trans f1
            have f2' := (HBz.out.cell (p := ⟨b3, o3 + r * 4 + 2, none⟩) (by show b3 < _; omega)).trans f2
            have f3' := (HBz.out.cell (p := ⟨b3, o3 + r * 4 + 3, none⟩) (by show b3 < _; omega)).trans f3
            rw [hfn] at f0'
            have HFX := Lib.hid hf
            have HFN := Lib.hid hfn
            generalize hof : Obj.cells #[.int .i64 (fn : Int), .int .i64 f.op, .int .i64 f.var, .int .i64 f.k] 47 = of'
            have HOF := Lib.hid hof
            have hne1 : w.heap.size ≠ wz.heap.size := by omega
            have hne2 : w.heap.size < wz.heap.size := by omega
            have HBf := Lib.hid (HBz.out.alloc (by omega) of')
            clear hf f0 f1 f2 f3 hf0 hf1 hfn hof
            go_wp2_with fail
            rw [HOF.out]
            refine (implReach_c n _ lo hi fn (-1) _ (HNA.out.below HBf.out (by omega)) (by simp; omega) H1.out hfnp).mono ?_
            rintro e w5 ⟨v', rfl, hM, hb5⟩
            have hz5 : wz.heap.size + 1 ≤ w5.heap.size := by simpa using hb5.size
            have hlenF := fromP_length n fn
            obtain ⟨g5, c5', rfl, hg3, hg4⟩ := MadeB.len (zs := fromP n fn) hM (by omega)
            have s2 := (((HR4z.out.alloc (by omega) _).below hb5 (by simp; omega)).cell (j := 2) rfl).1
            have HM5 := Lib.hid (show MadeB w5 (wz.alloc of').heap.size 4 (fromP n fn) _ from hM)
            have HB5 := Lib.hid (HBw.out.trans ((((Below.refl wz.heap.size wz).alloc (Nat.le_refl _) of').trans (hb5.mono (by simp))).mono hzz))
            have HB5w := Lib.hid (HB4.out.trans (HB5.out.mono (by omega)))
            have HLF := Lib.hid hlenF
            clear hM hb5 s0 s1 f0' f1' f2' f3' hlenF
            have hc6 : (w5.alloc (.cells #[.slice (some ⟨g5, 0, none⟩) (fromP n fn).length c5'] 50)).cell? ⟨w5.heap.size, 0, none⟩ = some (.slice (some ⟨g5, 0, none⟩) (fromP n fn).length c5') := by rw [World.cell?_alloc_new]; rfl
            have hz6 : (w5.alloc (.cells #[.slice (some ⟨g5, 0, none⟩) (fromP n fn).length c5'] 50)).heap.size = w5.heap.size + 1 := by simp
            have HCC := Lib.hid (containsFuncIntOn_c t.ins lo hi A2 b2 o2 q1 69 #[.pointer (some ⟨w5.heap.size, 0, none⟩)] (bit (fromP n fn)) (w5.alloc (.cells #[.slice (some ⟨g5, 0, none⟩) (fromP n fn).length c5'] 50))
              ((HRi.out.below HB5w.out (by omega)).alloc (by omega) _) (by omega) HMI.out
              (fun x W hx hb => by
                obtain ⟨hx0, hx1⟩ := HIN.out x hx
                obtain ⟨xn, rfl⟩ := Int.eq_ofNat_of_zero_le hx0
                exact straight1_c xn _ w5.heap.size g5 _ c5' (fromP n fn) W ((hb.cell (p := ⟨w5.heap.size, 0, none⟩) (by dsimp only; omega)).trans hc6) ((HM5.out.alloc _).below hb (Nat.le_refl _)) rfl (by have := HLF.out; omega) (by have := HLF.out; omega)) EG.out)
            clear hc6 hz6
            generalize hm5 : (fromP n fn).length = m5 at *
            have hne3 : wp.heap.size ≠ w5.heap.size := by omega
            have hne4 : wp.heap.size < w5.heap.size := by omega
            clear hm5
            go_wp2_with fail
            refine HCC.out.mono ?_
            rintro e w7 ⟨rfl, hb7⟩
            have hz7 : w5.heap.size + 1 ≤ w7.heap.size := by simpa using hb7.size
            have HB7 := Lib.hid (HB5.out.trans ((((Below.refl w5.heap.size w5).alloc (Nat.le_refl _) _).trans (hb7.mono (by simp))).mono (by omega)))
            clear hb7 HCC s2
            by_cases hany : t.ins.any (bit (fromP n fn)) = true
            · have HA := Lib.hid (show awayB n t f = false by rw [awayB, HFN.out]; simp only [Int.toNat_natCast]; rw [hany]; rfl)
              rw [hany]
              clear hany
              go_wp2
              go_ret
              exact ⟨ret_bool (straight_no1 (List.mem_of_getElem? HX.out) (List.mem_of_getElem? HFX.out) HA.out).symm, HB.out.trans ((HB4.out.trans (HB7.out.mono (by omega))).mono (by omega))⟩
            · have hany' : t.ins.any (bit (fromP n fn)) = false := by simpa using hany
              have HA := Lib.hid (show awayB n t f = true by rw [awayB, HFN.out]; simp only [Int.toNat_natCast]; rw [hany']; rfl)
              rw [hany']
              clear hany hany'
              go_wp2
              go_roundw
              case rel =>
                refine ⟨r + 1, by omega, by go_num, fun j f' hj hf' => ?_, HB7.out⟩
                by_cases hjr : j = r
                · rw [hjr] at hf'
                  have e := HFX.out.symm.trans hf'
                  injection e with e; rw [← e]; exact HA.out
                · exact HNF.out j f' (by omega) hf'
              case measure => simp [intOf]; omega
          · have hrl : r = t.out.length := by omega
            have HRL := Lib.hid hrl
            clear hrl
            go_wp2
            go_roundw
            case rel =>
              refine ⟨k + 1, by omega, by go_num, fun j t' hj ht' => ?_, HBz.out⟩
              by_cases hjk : j = k
              · rw [hjk] at ht'
                have e := HX.out.symm.trans ht'
                injection e with e; rw [← e]
                exact all_of fun j f hj hf => HNF.out j f (by have := HRL.out; omega) hf
              · exact HNN.out j t' (by omega) ht'
            case measure => simp [intOf]; omega
      · go_wp2
        go_ret
        exact ⟨ret_bool (straight_yes H1.out (fun j t hj ht => HNN.out j t (by omega) ht)).symm, HB.out.trans (HBp.out.mono (by omega))⟩
  · have h1' : netOk n = false := by simpa using h1
    have H1 := Lib.hid h1'
    rw [h1']
    clear h1 h1'
    go_wp2
    go_ret
    exact ⟨ret_bool (straight_no H1.out).symm, HB.out.trans (HB1.out.mono (by omega))⟩
end Go.Proofs.Ytoggdhbnkbdilaa
