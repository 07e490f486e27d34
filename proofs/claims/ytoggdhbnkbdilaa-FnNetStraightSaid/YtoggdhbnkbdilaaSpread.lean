/- Which places can be come to from some: the reference. -/
import Derived.Test.YtoggdhbnkbdilaaBools
import Derived.Deep.DeepCutAuto
namespace Go.Proofs.Ytoggdhbnkbdilaa
open Go.RowKit
set_option linter.unusedVariables false
set_option linter.unusedSimpArgs false

set_option maxRecDepth 10000 in
set_option maxHeartbeats 2000000 in
theorem l2Spread_c (n : NNet) (v : Value) (lo hi : Nat) (s : List Bool) (lo1 hi1 : Nat) (A1 : Option Addr) (b1 off1 c1 : Nat) (but : Int) (w : World) (hN : NetV w lo hi v n) (hhi : hi ≤ w.heap.size) (hok : netOk n = true)
    (hS : Row w lo1 hi1 A1 b1 off1 (bools s)) (hhi1 : hi1 ≤ w.heap.size) (hsl : (s.length : Int) = n.places) :
    Calls Try.prog 64 #[v, .slice A1 s.length c1, .int .i64 but] w fun e w' => ∃ v', e = .returned v' ∧ MadeB w' w.heap.size 4 (reachAll n but s) v' ∧ Below w.heap.size w w' := by
  obtain ⟨i0, hi0, hz0, hz1, hz2⟩ := info_parts Try.infoB
  obtain ⟨p1, p2, p3, p4, p5⟩ := netOk_parts hok
  obtain ⟨A, b, off, c, ms, rfl, hm, hT⟩ := hN
  unfold maxLen at hm
  generalize hob : Obj.cells #[.int .i64 n.places, .slice A n.tasks.length c] 25 = ob
  have hR := (Row.newAt w #[.int .i64 n.places, .slice A n.tasks.length c] 25 _ rfl)
  rw [hob] at hR
  have HR := Lib.hid hR
  have HB := Lib.hid ((Below.refl w.heap.size w).alloc (Nat.le_refl _) ob)
  have HT := Lib.hid (hT.keep (w' := w.alloc ob) (fun g _ h => Below.heap_alloc w _ g (by omega)) (fun g _ h => Below.heap_alloc w _ g (by omega)))
  have HS := Lib.hid ((hS.alloc hhi1 ob).alloc (by simp; omega) (.cells #[] 4))
  have HL := Lib.hid (show ((w.alloc ob).alloc (.cells #[] 4)).ownsRow (w.heap.size + 1) 4 1 (.slice (some ⟨w.heap.size + 1, 0, none⟩) 0 0) 0 [] from by have := own_lit0 (w.alloc ob) 4; simpa using this)
  have HO := Lib.hid hob
  have HOK := Lib.hid hok
  clear hR hT hS hob hok p5
  go_enter Try.func64, Try.ntmps64
  go_wp2_with (at_builtin; rw [HO.out]; go_loud (refine wpList_append_row rfl _ _ 50 rfl (w.heap.size + 1) 4 i0 _ 1 1 Try.underlying50 hi0 hz0 hz1 hz2 rfl (by omega) (.slice (some ⟨w.heap.size + 1, 0, none⟩) 0 0) 0 [] rfl HL.out lo1 hi1 A1 b1 off1 s.length c1 (bools s) rfl (by simp) HS.out (bools_one s) (by unfold maxLen; omega) (by omega) (by simp) ?_; intro v' w1 hown hg))
  have HB1 := Lib.hid (((Below.refl (w.heap.size + 1) (w.alloc ob)).alloc (by simp) (.cells #[] 4)).grown hg (by simp) (fun k hk => (World.ownsRow.lt HL.out k hk).1))
  have hM : MadeB w1 (w.heap.size + 1) 4 s v' := by simpa [MadeB] using hown
  clear hown hg
  obtain ⟨g, c', rfl, hg1, hg2⟩ := hM.len (by omega)
  have HM := Lib.hid hM
  clear hM
  go_loopw [8] (fun i wr => ∃ k : Nat, k ≤ s.length ∧ i = .int .i64 k ∧ MadeB wr (w.heap.size + 1) 4 (spread but n.tasks k s) (.slice (some ⟨g, 0, none⟩) s.length c') ∧ Below (w.heap.size + 1) (w.alloc ob) wr) (fun i _ => s.length - (intOf i).toNat)
  case atStart => exact ⟨0, Nat.zero_le _, rfl, HM.out, HB1.out⟩
  case round =>
    obtain ⟨k, hk, rfl, hM, hb⟩ := hrel
    obtain ⟨wo, rfl⟩ : ∃ wo, wo = wr := ⟨_, rfl⟩
    have hzo : w.heap.size + 1 ≤ wo.heap.size := by simpa using hb.size
    have hR' := HR.out.below hb (by simp)
    have s0 := (hR'.cell (j := 0) rfl).1
    have s1 := (hR'.cell (j := 1) rfl).1
    have HMo := Lib.hid hM
    have HBo := Lib.hid hb
    clear hM hb hR'
    generalize hcur : spread but n.tasks k s = cur at HMo
    have hcl : cur.length = s.length := by rw [← hcur, spread_length]
    have HCUR := Lib.hid hcur
    clear hcur
    by_cases hlt : k < s.length
    · have hlt1 : (k : Int) < n.places := by omega
      go_wp2
      go_loopw [9] (fun i wr => ∃ j : Nat, j ≤ n.tasks.length ∧ i = .int .i64 j ∧ MadeB wr (w.heap.size + 1) 4 (passN but n.tasks j cur) (.slice (some ⟨g, 0, none⟩) s.length c') ∧ Below (w.heap.size + 1) (w.alloc ob) wr) (fun i _ => n.tasks.length - (intOf i).toNat)
      case atStart => exact ⟨0, Nat.zero_le _, rfl, HMo.out, HBo.out⟩
      case round =>
        obtain ⟨j, hj, rfl, hM, hb⟩ := hrel
        obtain ⟨wp, rfl⟩ : ∃ wp, wp = wr := ⟨_, rfl⟩
        clear s0 s1
        have hzp : w.heap.size + 1 ≤ wp.heap.size := by simpa using hb.size
        have hR' := HR.out.below hb (by simp)
        have s0 := (hR'.cell (j := 0) rfl).1
        have s1 := (hR'.cell (j := 1) rfl).1
        have HMp := Lib.hid hM
        have HBp := Lib.hid hb
        clear hM hb hR'
        generalize hcu : passN but n.tasks j cur = cu at HMp
        have hcul : cu.length = s.length := by rw [← hcu, passN_length]; exact hcl
        have HCU := Lib.hid hcu
        clear hcu
        by_cases hjt : j < n.tasks.length
        · have hjt1 : (j : Int) < (n.tasks.length : Int) := by omega
          obtain ⟨rfl, _, h3, t, vi, vo, vc, hx, _, hTV, ⟨c0, d1, c2, c3, _⟩, _⟩ := HT.out.task hjt
          obtain ⟨A2, q1, A3, q2, A4, q3, rfl, rfl, rfl⟩ := hTV.forms
          obtain ⟨_, b2, o2, _, e2, hmi, hRi⟩ := hTV.ins
          cases e2
          obtain ⟨_, b3, o3, _, e3, hmo, hRo⟩ := hTV.out
          cases e3
          unfold maxLen at hmi hmo
          have d2 := (HBp.out.cell (p := ⟨b, off + j * 9 + 2, none⟩) (by show b < _; omega)).trans c2
          have d3 := (HBp.out.cell (p := ⟨b, off + j * 9 + 3, none⟩) (by show b < _; omega)).trans c3
          have HX := Lib.hid hx
          have HIN := Lib.hid (fun (x : Int) (hx' : x ∈ t.ins) => ins_bound HOK.out (List.mem_of_getElem? hx) hx')
          have HOUT := Lib.hid (fun (f : NFlow) (hf' : f ∈ t.out) => out_bound HOK.out (List.mem_of_getElem? hx) hf')
          have HC2 := Lib.hid c2
          have HC3 := Lib.hid c3
          have HRi := Lib.hid hRi
          have HRo := Lib.hid hRo
          clear c0 d1 c2 c3 hTV hx hRi hRo
          go_wp2
          go_loopw [10, 11] (fun z i wr => ∃ q d : Nat, q ≤ t.ins.length ∧ i = .int .i64 q ∧ z = .bool ((t.ins.take q).any (bit cu)) ∧ wr = wp.drewN d) (fun _ i _ => t.ins.length - (intOf i).toNat)
          case atStart => exact ⟨0, 0, Nat.zero_le _, rfl, by simp, rfl⟩
          case round =>
            obtain ⟨q, d, hq, rfl, rfl, hw⟩ := hrel
            obtain ⟨wq, rfl⟩ : ∃ wq, wq = wr := ⟨_, rfl⟩
            have HW := Lib.hid hw
            replace s0 : wq.cell? ⟨w.heap.size, 0, none⟩ = some (.int .i64 n.places) := by rw [hw]; exact s0
            replace s1 : wq.cell? ⟨w.heap.size, 1, none⟩ = some (.slice (some ⟨b, off, none⟩) n.tasks.length c) := by rw [hw]; exact s1
            replace d2 : wq.cell? ⟨b, off + j * 9 + 2, none⟩ = some (.slice A2 t.ins.length q1) := by rw [hw]; exact d2
            replace d3 : wq.cell? ⟨b, off + j * 9 + 3, none⟩ = some (.slice A3 t.out.length q2) := by rw [hw]; exact d3
            clear hw
            generalize hany : (t.ins.take q).any (bit cu) = some1
            have HANY := Lib.hid hany
            clear hany
            by_cases hqi : q < t.ins.length
            · have hqi1 : (q : Int) < (t.ins.length : Int) := by omega
              obtain ⟨rfl, _, _, x, hx, hcx, _⟩ := HRi.out.int hqi
              obtain ⟨hx0, hx1⟩ := HIN.out x (List.mem_of_getElem? hx)
              obtain ⟨xn, rfl⟩ := Int.eq_ofNat_of_zero_le hx0
              have hxn : xn < s.length := by omega
              have hxn1 : (xn : Int) < (s.length : Int) := by omega
              obtain ⟨e1, _, _⟩ := HMp.out.at_ hcul (k := xn) (by omega)
              replace e1 : wq.cell? ⟨g, xn, none⟩ = some (.bool (cu.getD xn false)) := by rw [HW.out]; exact e1
              have hcx1 : wq.cell? ⟨b2, o2 + q, none⟩ = some (.int .i64 (xn : Int)) := by rw [HW.out]; exact (HBp.out.cell (p := ⟨b2, o2 + q, none⟩) (by show b2 < _; omega)).trans hcx
              have HS2 := Lib.hid (any_snoc (bit cu) hx)
              clear hx hcx
              cases some1 with
              | true =>
                go_wp2
                go_roundw
                case rel => exact ⟨q + 1, _, by omega, by go_num, by rw [HS2.out, HANY.out]; rfl, by rw [HW.out]⟩
                case measure => simp [intOf]; omega
              | false =>
                go_wp2
                go_roundw
                case rel => exact ⟨q + 1, _, by omega, by go_num, by rw [HS2.out, HANY.out]; simp [bit, hcul, hxn], by rw [HW.out]⟩
                case measure => simp [intOf]; omega
            · have hqi0 : q = t.ins.length := by omega
              have hqi1 : ¬ ((q : Int) < (t.ins.length : Int)) := by omega
              rw [hqi0, List.take_length] at HANY
              have HMq : MadeB wq (w.heap.size + 1) 4 cu (.slice (some ⟨g, 0, none⟩) s.length c') := by rw [HW.out]; exact HMp.out.drewN d
              have HBq : Below (w.heap.size + 1) (w.alloc ob) wq := by rw [HW.out]; exact below_drewN HBp.out d
              have HMq := Lib.hid HMq
              have HBq := Lib.hid HBq
              clear hqi0
              go_wp2
              go_loopw [12] (fun i wr => ∃ r : Nat, r ≤ t.out.length ∧ i = .int .i64 r ∧ (0 < r → goes but j t cu = true) ∧ MadeB wr (w.heap.size + 1) 4 (light cu (t.out.take r)) (.slice (some ⟨g, 0, none⟩) s.length c') ∧ Below (w.heap.size + 1) (w.alloc ob) wr) (fun i _ => t.out.length - (intOf i).toNat)
              case atStart => exact ⟨0, Nat.zero_le _, rfl, fun h => absurd h (Nat.lt_irrefl 0), HMq.out, HBq.out⟩
              case round =>
                obtain ⟨r, hr, rfl, hgo, hM, hb⟩ := hrel
                obtain ⟨wz, rfl⟩ : ∃ wz, wz = wr := ⟨_, rfl⟩
                clear s0 s1 d2 d3
                have hR' := HR.out.below hb (by simp)
                have s0 := (hR'.cell (j := 0) rfl).1
                have s1 := (hR'.cell (j := 1) rfl).1
                have d3 := (hb.cell (p := ⟨b, off + j * 9 + 3, none⟩) (by show b < _; omega)).trans HC3.out
                have HGO := Lib.hid hgo
                have HMr := Lib.hid hM
                have HBr := Lib.hid hb
                clear hM hb hR' hgo
                generalize hcv : light cu (t.out.take r) = cv at HMr
                have hcvl : cv.length = s.length := by rw [← hcv, light_length]; exact hcul
                have HCV := Lib.hid hcv
                clear hcv
                by_cases hgg : goes but j t cu = true
                · have HGG := Lib.hid hgg
                  rw [goes, HANY.out, Bool.and_eq_true] at hgg
                  obtain ⟨hjb, rfl⟩ := hgg
                  have hjb1 : (j : Int) ≠ but := by simpa using hjb
                  have hjb2 : ((j : Int) != but) = true := by simpa using hjb1
                  clear hjb
                  by_cases hrt : r < t.out.length
                  · have hrt1 : (r : Int) < (t.out.length : Int) := by omega
                    obtain ⟨rfl, _, _, f, hf, ⟨f0, _⟩, _⟩ := HRo.out.flow hrt
                    obtain ⟨hf0, hf1⟩ := HOUT.out f (List.mem_of_getElem? hf)
                    obtain ⟨fn, hfn⟩ := Int.eq_ofNat_of_zero_le (show 0 ≤ f.to by omega)
                    have hfn0 : fn < s.length := by omega
                    have hfn1 : (fn : Int) < (s.length : Int) := by omega
                    obtain ⟨e1, e2, e3⟩ := HMr.out.at_ hcvl (k := fn) (by omega)
                    have f0' := (HBr.out.cell (p := ⟨b3, o3 + r * 4, none⟩) (by show b3 < _; omega)).trans f0
                    rw [hfn] at f0'
                    have HSN := Lib.hid (light_snoc cu hf)
                    have HFN := Lib.hid hfn
                    have HE3 := Lib.hid e3
                    clear hf f0 hf0 hf1 hfn e3
                    go_wp2
                    go_roundw
                    case rel => exact ⟨r + 1, by omega, by go_num, fun _ => HGG.out, by rw [HSN.out, HCV.out, HFN.out]; exact HE3.out, HBr.out.setCell (by show _ ≤ g; omega) _⟩
                    case measure => simp [intOf]; omega
                  · have hrt1 : ¬ ((r : Int) < (t.out.length : Int)) := by omega
                    have hrl : r = t.out.length := by omega
                    have HRL := Lib.hid hrl
                    clear hrl
                    go_wp2
                    go_roundw
                    case rel => exact ⟨j + 1, by omega, by go_num, by rw [passN_succ HX.out, HCU.out, stepT, if_pos HGG.out]; have := HMr.out; rw [← HCV.out, HRL.out, List.take_length] at this; exact this, HBr.out⟩
                    case measure => simp [intOf]; omega
                · have hgg' : goes but j t cu = false := by simpa using hgg
                  have HGG := Lib.hid hgg'
                  have hr0 : r = 0 := by
                    rcases Nat.eq_zero_or_pos r with h | h
                    · exact h
                    · exact absurd (HGO.out h) hgg
                  have HR0 := Lib.hid hr0
                  have hrt : r < t.out.length := by
                    have := taskOk_lens ((netOk_parts HOK.out).2.2.2.2 t (List.mem_of_getElem? HX.out)); omega
                  have hrt1 : (r : Int) < (t.out.length : Int) := by omega
                  rw [goes, HANY.out] at hgg'
                  clear hgg hr0
                  cases some1 with
                  | true =>
                    have hjb : (j : Int) = but := by simpa using hgg'
                    have hjb2 : ((j : Int) != but) = false := by simpa using hjb
                    clear hgg' hjb
                    go_wp2
                    go_roundw
                    case rel => exact ⟨j + 1, by omega, by go_num, by rw [passN_succ HX.out, HCU.out, stepT, HGG.out]; have := HMr.out; rw [← HCV.out, HR0.out] at this; exact this, HBr.out⟩
                    case measure => simp [intOf]; omega
                  | false =>
                    clear hgg'
                    go_wp2
                    go_roundw
                    case rel => exact ⟨j + 1, by omega, by go_num, by rw [passN_succ HX.out, HCU.out, stepT, HGG.out]; have := HMr.out; rw [← HCV.out, HR0.out] at this; exact this, HBr.out⟩
                    case measure => simp [intOf]; omega
        · have hjl : j = n.tasks.length := by omega
          have hjt1 : ¬ ((j : Int) < (n.tasks.length : Int)) := by omega
          have HJL := Lib.hid hjl
          clear hjl
          go_wp2
          go_roundw
          case rel => exact ⟨k + 1, by omega, by go_num, by show MadeB _ _ _ (pass but n.tasks (spread but n.tasks k s)) _; rw [HCUR.out, pass, ← HJL.out, HCU.out]; exact HMp.out, HBp.out⟩
          case measure => simp [intOf]; omega
    · have hks : k = s.length := by omega
      have hlt1 : ¬ ((k : Int) < n.places) := by omega
      have HK := Lib.hid hks
      clear hks
      go_wp2
      go_ret
      refine ⟨.slice (some ⟨g, 0, none⟩) s.length c', rfl, ?_, HB.out.trans (HBo.out.mono (by omega))⟩
      have hM := HMo.out
      rw [← HCUR.out] at hM
      have e : reachAll n but s = spread but n.tasks k s := by rw [reachAll, HK.out]; congr 1; omega
      rw [e]
      have := hM.base (show w.heap.size ≤ w.heap.size + 1 by omega)
      exact this
end Go.Proofs.Ytoggdhbnkbdilaa
