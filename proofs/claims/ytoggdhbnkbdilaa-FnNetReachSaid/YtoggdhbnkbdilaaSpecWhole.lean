/- Whether every place can be come to, and the end from every place: the reference. -/
import Derived.Test.YtoggdhbnkbdilaaWhole
namespace Go.Proofs.Ytoggdhbnkbdilaa
open Go.RowKit
set_option linter.unusedVariables false
set_option linter.unusedSimpArgs false

set_option maxRecDepth 10000 in
set_option maxHeartbeats 1000000 in
theorem specNetWhole_c (n : NNet) (v : Value) (lo hi : Nat) (w : World) (hN : NetV w lo hi v n) (hhi : hi ≤ w.heap.size) :
    Calls Try.prog 33 #[v] w fun e w' => e = .returned (.bool (wholeB n)) ∧ Below w.heap.size w w' := by
  have HN := Lib.hid hN
  obtain ⟨A, b, off, c, ms, rfl, hm, hT⟩ := hN
  unfold maxLen at hm
  clear hT
  generalize hob : Obj.cells #[.int .i64 n.places, .slice A n.tasks.length c] 25 = ob
  have hR := (Row.newAt w #[.int .i64 n.places, .slice A n.tasks.length c] 25 _ rfl)
  rw [hob] at hR
  have HR := Lib.hid hR
  have HB := Lib.hid ((Below.refl w.heap.size w).alloc (Nat.le_refl _) ob)
  have HNA := Lib.hid (HN.out.keep (w' := w.alloc ob) fun g _ h => Below.heap_alloc w _ g (by omega))
  have HC := Lib.hid (specNetOk_c n _ lo hi (w.alloc ob) HNA.out (by simp; omega))
  have HO := Lib.hid hob
  clear hR hob
  go_enter Try.func33, Try.ntmps33
  go_wp2_with fail
  rw [HO.out]
  refine HC.out.mono ?_
  rintro e w1 ⟨rfl, hb1⟩
  have hR1 := HR.out.below hb1 (by simp)
  have s0 := (hR1.cell (j := 0) rfl).1
  have s1 := (hR1.cell (j := 1) rfl).1
  have hz1' : w.heap.size + 1 ≤ w1.heap.size := by simpa using hb1.size
  have HB1 := Lib.hid (hb1.mono (by simp : w.heap.size + 1 ≤ _))
  clear hb1 hR1
  by_cases h1 : netOk n = true
  · have H1 := Lib.hid h1
    have hp := netOk_parts h1
    have HPM := Lib.hid (Int.toNat_of_nonneg (show 0 ≤ n.places by omega))
    rw [h1]
    clear h1
    go_wp2_with fail
    have HQ := specNetReach_c n (.agg #[.int .i64 n.places, .slice A n.tasks.length c]) lo hi 0 (-1) w1 (HNA.out.below HB1.out (by omega)) (by omega)
    rw [show reachN n 0 (-1) = fromP n 0 from fromP_reachN H1.out (p := 0) (by omega)] at HQ
    refine HQ.mono ?_
    rintro e w2 ⟨v', rfl, hM, hb2⟩
    have hz2' : w1.heap.size ≤ w2.heap.size := hb2.size
    have hlen0 := fromP_length n 0
    obtain ⟨g, c2, rfl, hg1, hg2⟩ := MadeB.len (zs := fromP n 0) hM (by omega)
    have hb02 := HB1.out.trans (hb2.mono (by omega))
    have HB2 := Lib.hid hb02
    have hR2 := HR.out.below hb02 (by simp)
    clear s0 s1 HQ
    have s0 := (hR2.cell (j := 0) rfl).1
    have s1 := (hR2.cell (j := 1) rfl).1
    have HM := Lib.hid hM
    have HL0 := Lib.hid hlen0
    clear hM hb2 hb02 hR2 hlen0
    generalize hm0 : (fromP n 0).length = m0 at *
    have HM0 := Lib.hid hm0
    clear hm0
    go_wp2
    go_loopw [4] (fun i wr => ∃ k : Nat, (k : Int) ≤ n.places ∧ i = .int .i64 k ∧ (∀ p, p < k → (fromP n 0).getD p false = true) ∧ (∀ p, p < k → (fromP n p).getD 1 false = true) ∧ Below w2.heap.size w2 wr) (fun i _ => n.places.toNat - (intOf i).toNat)
    case atStart => exact ⟨0, by omega, rfl, fun p hp => absurd hp (Nat.not_lt_zero _), fun p hp => absurd hp (Nat.not_lt_zero _), Below.refl _ _⟩
    case round =>
      obtain ⟨k, hk, rfl, hn1, hn2, hb⟩ := hrel
      have hzr : w2.heap.size ≤ wr.heap.size := hb.size
      have HN1 := Lib.hid hn1
      have HN2 := Lib.hid hn2
      have hb0 := HB2.out.trans (hb.mono (by omega))
      have HBr := Lib.hid hb0
      have hRr := HR.out.below hb0 (by simp)
      clear s0 s1
      have s0 := (hRr.cell (j := 0) rfl).1
      have s1 := (hRr.cell (j := 1) rfl).1
      have HMr := Lib.hid (HM.out.below hb (Nat.le_refl _))
      have HBw := Lib.hid hb
      clear hn1 hn2 hb hb0 hRr
      by_cases hlt : (k : Int) < n.places
      · have hkm : k < m0 := by have := HL0.out; omega
        have hkm1 : (k : Int) < (m0 : Int) := by omega
        obtain ⟨e1, _, _⟩ := MadeB.at_ (zs := fromP n 0) HMr.out HM0.out (k := k) (by rw [HM0.out]; exact hkm)
        by_cases hx : (fromP n 0).getD k false = true
        · have HX := Lib.hid hx
          rw [hx] at e1
          clear hx
          go_wp2_with fail
          have HQ := specNetReach_c n (.agg #[.int .i64 n.places, .slice A n.tasks.length c]) lo hi k (-1) wr (HNA.out.below HBr.out (by omega)) (by omega)
          rw [fromP_reachN H1.out hlt] at HQ
          refine HQ.mono ?_
          rintro e w4 ⟨v', rfl, hM, hb4⟩
          have hlen := fromP_length n k
          obtain ⟨g4, c4, rfl, hg3, hg4⟩ := MadeB.len (zs := fromP n k) hM (by omega)
          obtain ⟨e4, _, _⟩ := MadeB.at_ (zs := fromP n k) hM rfl (k := 1) (by omega)
          have hl1 : (1 : Int) < ((fromP n k).length : Int) := by omega
          have HB4 := Lib.hid (HBw.out.trans (hb4.mono (by omega)))
          have HL := Lib.hid hlen
          clear hM hb4 hlen s0 s1 HQ e1
          generalize hm4 : (fromP n k).length = m4 at *
          by_cases hy : (fromP n k).getD 1 false = true
          · have HY := Lib.hid hy
            rw [hy] at e4
            clear hy
            go_wp2
            go_roundw
            case rel =>
              refine ⟨k + 1, by omega, by go_num, fun p hp => ?_, fun p hp => ?_, HB4.out⟩
              · by_cases hpk : p = k
                · rw [hpk]; exact HX.out
                · exact HN1.out p (by omega)
              · by_cases hpk : p = k
                · rw [hpk]; exact HY.out
                · exact HN2.out p (by omega)
            case measure => simp [intOf]; omega
          · have hy' : (fromP n k).getD 1 false = false := by simpa using hy
            have HY := Lib.hid hy'
            rw [hy'] at e4
            clear hy hy'
            go_wp2
            go_ret
            exact ⟨ret_bool (whole_no2 (p := k) (by omega) HY.out).symm, HB.out.trans ((HB2.out.trans (HB4.out.mono (by omega))).mono (by omega))⟩
        · have hx' : (fromP n 0).getD k false = false := by simpa using hx
          have HX := Lib.hid hx'
          rw [hx'] at e1
          clear hx hx'
          go_wp2
          go_ret
          exact ⟨ret_bool (whole_no1 (p := k) (by omega) HX.out).symm, HB.out.trans (HBr.out.mono (by omega))⟩
      · go_wp2
        go_ret
        exact ⟨ret_bool (whole_yes H1.out (fun p hp => HN1.out p (by omega)) (fun p hp => HN2.out p (by omega))).symm, HB.out.trans (HBr.out.mono (by omega))⟩
  · have h1' : netOk n = false := by simpa using h1
    have H1 := Lib.hid h1'
    rw [h1']
    clear h1 h1'
    go_wp2
    go_ret
    exact ⟨ret_bool (whole_no H1.out).symm, HB.out.trans (HB1.out.mono (by omega))⟩
end Go.Proofs.Ytoggdhbnkbdilaa
