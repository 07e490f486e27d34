/- What a task takes of marks: the program. -/
import Derived.Test.YtililbgpjbpnkaaTakeP
namespace Go.Proofs.Ytililbgpjbpnkaa
open Go.RowKit
set_option linter.unusedVariables false
set_option linter.unusedSimpArgs false

theorem hasTask_c (n : NNet) (v : Value) (t : Int) (lo hi : Nat) (w : World) (hN : NetV w lo hi v n) :
    Calls Try.prog 78 #[v, .int .i64 t] w fun e w' => e = .returned (.bool (inB t 0 ((n.tasks.length : Int) - 1))) ∧ Below w.heap.size w w' := by
  obtain ⟨A, b, off, c, ms, rfl, hm, hT⟩ := hN
  unfold maxLen at hm
  clear hT
  go_enter Try.func78, Try.ntmps78
  go_wp2_with fail
  refine (implIn_c _ _ _ _).mono ?_
  rintro e w' ⟨rfl, rfl⟩
  go_wp2
  go_ret
  exact ⟨rfl, (Below.refl _ _).alloc (Nat.le_refl _) _⟩

set_option maxRecDepth 10000 in
set_option maxHeartbeats 2000000 in
theorem implTake_c (n : NNet) (v : Value) (zs : List Int) (lo0 hi0 lo hi : Nat) (A1 : Option Addr) (b1 off1 c1 : Nat) (tn : Nat) (w : World) (hN : NetV w lo0 hi0 v n) (hhi0 : hi0 ≤ w.heap.size) (hV : Row w lo hi A1 b1 off1 (ints zs)) (hhi : hi ≤ w.heap.size) (hok : mrkOk n zs = true) (t : NTask) (ht : n.tasks[tn]? = some t) :
    Calls Try.prog 79 #[v, .slice A1 zs.length c1, .int .i64 (tn : Int)] w fun e w' => ∃ v', e = .returned v' ∧ Made w' w.heap.size 3 (takeL t.join t.ins zs) v' ∧ Below w.heap.size w w' := by
  obtain ⟨hnok, hzl, hfew⟩ := mrkOk_parts hok
  obtain ⟨p1, p2, p3, p4, p5⟩ := netOk_parts hnok
  have hFEW := Lib.hid hfew
  have HOK := Lib.hid hnok
  have HTT := Lib.hid ht
  have htn : tn < n.tasks.length := lt_of_some ht
  have htn1 : (tn : Int) < (n.tasks.length : Int) := by omega
  obtain ⟨A, b, off, c, ms, rfl, hm, hT⟩ := hN
  unfold maxLen at hm
  generalize hob : Obj.cells #[.int .i64 n.places, .slice A n.tasks.length c] 29 = ob
  have hR := (Row.newAt w #[.int .i64 n.places, .slice A n.tasks.length c] 29 _ rfl)
  rw [hob] at hR
  have HR := Lib.hid hR
  have HB := Lib.hid ((Below.refl w.heap.size w).alloc (Nat.le_refl _) ob)
  have HT := Lib.hid (hT.keep (w' := w.alloc ob) (fun g _ h => Below.heap_alloc w _ g (by omega)) (fun g _ h => Below.heap_alloc w _ g (by omega)))
  have HO := Lib.hid hob
  have HQ := Lib.hid (cloneInts_c zs lo hi A1 b1 off1 c1 (w.alloc ob) (hV.alloc hhi ob) (by omega))
  clear hR hT hob hnok hfew hok p5 hV ht
  go_enter Try.func79, Try.ntmps79
  go_wp2_with fail
  rw [HO.out]
  refine HQ.out.mono ?_
  rintro e w1 ⟨v', rfl, hM, hb1⟩
  have hz1 : w.heap.size + 1 ≤ w1.heap.size := by simpa using hb1.size
  have hb1' := hb1.mono (by simp : w.heap.size + 1 ≤ (w.alloc ob).heap.size)
  obtain ⟨g, c', rfl, hg1, hg2⟩ := hM.len (by omega)
  have hg1' : w.heap.size + 1 ≤ g := by simpa using hg1
  have HM := Lib.hid (hM.base (by simp : w.heap.size + 1 ≤ (w.alloc ob).heap.size))
  have hR1 := HR.out.below hb1' (by simp)
  have s0 := (hR1.cell (j := 0) rfl).1
  have s1 := (hR1.cell (j := 1) rfl).1
  have HB1 := Lib.hid hb1'
  obtain ⟨rfl, _, h3, t', vi, vo, vc, hx, _, hTV, ⟨c0, _, c2, _⟩, _⟩ := HT.out.task htn
  obtain rfl : t' = t := by have := hx.symm.trans HTT.out; injection this
  obtain ⟨A2, q1, A3, q2, A4, q3, rfl, rfl, rfl⟩ := hTV.forms
  obtain ⟨_, b2, o2, _, e2, hmi, hRi⟩ := hTV.ins
  cases e2
  unfold maxLen at hmi
  have d2 := (hb1'.cell (p := ⟨b, off + tn * 9 + 2, none⟩) (by show b < _; omega)).trans c2
  have HC0 := Lib.hid c0
  have HIN := Lib.hid (fun (x : Int) (hx' : x ∈ t'.ins) => ins_bound HOK.out (List.mem_of_getElem? hx) hx')
  have HRi := Lib.hid hRi
  clear hM hb1 hb1' hg1 hR1 hTV hx hRi c0 c2
  go_wp2
  go_loopw [19] (fun i wr => ∃ (k : Nat) (cur : List Int), k ≤ t'.ins.length ∧ i = .int .i64 k ∧ takeL t'.join t'.ins zs = takeL t'.join (t'.ins.drop k) cur ∧ cur.length = zs.length ∧ Few cur ∧ Made wr (w.heap.size + 1) 3 cur (.slice (some ⟨g, 0, none⟩) zs.length c') ∧ Below (w.heap.size + 1) (w.alloc ob) wr) (fun i _ => t'.ins.length - (intOf i).toNat)
  case atStart => exact ⟨0, zs, Nat.zero_le _, rfl, rfl, rfl, hFEW.out, HM.out, HB1.out⟩
  case round =>
    obtain ⟨k, cur, hk, rfl, hE, hcl, hF, hM, hb⟩ := hrel
    have HE := Lib.hid hE
    have HF := Lib.hid hF
    have HMr := Lib.hid hM
    have HBr := Lib.hid hb
    clear s0 s1 d2
    have hRr := HR.out.below hb (by simp)
    have s0 := (hRr.cell (j := 0) rfl).1
    have s1 := (hRr.cell (j := 1) rfl).1
    have d0 := (hb.cell (p := ⟨b, off + tn * 9, none⟩) (by show b < _; omega)).trans HC0.out
    clear hE hF hM hb hRr
    by_cases hlt : k < t'.ins.length
    · obtain ⟨rfl, _, _, x, hx, hcx, _⟩ := HRi.out.int hlt
      obtain ⟨hx0, hx1⟩ := HIN.out x (List.mem_of_getElem? hx)
      obtain ⟨xn, rfl⟩ := Int.eq_ofNat_of_zero_le hx0
      have hxn : xn < zs.length := by omega
      have hxn1 : (xn : Int) < (zs.length : Int) := by omega
      obtain ⟨e1, e2, e3⟩ := HMr.out.at_ hcl (k := xn) (by omega)
      have hcx1 := (HBr.out.cell (p := ⟨b2, o2 + k, none⟩) (by show b2 < _; omega)).trans hcx
      have hfx := few_getD HF.out xn
      have HXX := Lib.hid hx
      have HE3 := Lib.hid e3
      generalize hy : cur.getD xn 0 = y at e1 hfx
      have HY := Lib.hid hy
      clear hx hcx e3 hy
      by_cases hpos : 0 < y
      · have HPOS := Lib.hid (show 0 < cur.getD (xn : Int).toNat 0 by simp only [Int.toNat_natCast]; rw [HY.out]; exact hpos)
        by_cases hj : t'.join = 2
        · have hj1 : (t'.join == 2) = true := by simpa using hj
          have HJ := Lib.hid hj
          clear hj
          go_wp2
          go_ret
          have e := takeL_one (join := t'.join) HXX.out HPOS.out HJ.out
          simp only [Int.toNat_natCast] at e
          rw [HY.out] at e
          exact ⟨.slice (some ⟨g, 0, none⟩) zs.length c', rfl, by rw [HE.out, e]; exact (HE3.out _).base (by omega), HB.out.trans ((HBr.out.setCell (by show _ ≤ g; omega) _).mono (by omega))⟩
        · have hj1 : (t'.join == 2) = false := by simpa using hj
          have HJ := Lib.hid hj
          clear hj
          go_wp2
          go_roundw
          case rel =>
            have e := takeL_more (join := t'.join) HXX.out HPOS.out HJ.out
            have hfl := few_less HF.out (k := xn) (by rw [HY.out]; exact hpos)
            simp only [Int.toNat_natCast] at e
            rw [HY.out] at e hfl
            exact ⟨k + 1, _, by omega, by go_num, by rw [HE.out, e], by simp [hcl], hfl, HE3.out _, HBr.out.setCell (by show _ ≤ g; omega) _⟩
          case measure => simp [intOf]; omega
      · have HPOS := Lib.hid (show ¬ 0 < cur.getD (xn : Int).toNat 0 by simp only [Int.toNat_natCast]; rw [HY.out]; exact hpos)
        go_wp2
        go_roundw
        case rel => exact ⟨k + 1, cur, by omega, by go_num, by rw [HE.out, takeL_skip HXX.out HPOS.out], hcl, HF.out, HMr.out, HBr.out⟩
        case measure => simp [intOf]; omega
    · have hkl : k = t'.ins.length := by omega
      have HKL := Lib.hid hkl
      clear hkl
      go_wp2
      go_ret
      have e := HE.out
      rw [HKL.out, List.drop_length] at e
      exact ⟨.slice (some ⟨g, 0, none⟩) zs.length c', rfl, by rw [e]; exact HMr.out.base (by omega), HB.out.trans (HBr.out.mono (by omega))⟩
end Go.Proofs.Ytililbgpjbpnkaa
