/- FirGive: the program. -/
import Derived.Test.YtkcbghaadjhceaaFirO
namespace Go.Proofs.Ytkcbghaadjhceaa
open Go.RowKit
set_option linter.unusedVariables false
set_option linter.unusedSimpArgs false

set_option maxRecDepth 20000 in
set_option maxHeartbeats 4000000 in
theorem implFirGive_c (n : NNet) (v : Value) (zs ds : List Int) (lo0 hi0 lo hi lo2 hi2 : Nat) (A1 : Option Addr) (b1 off1 c1 : Nat) (A2 : Option Addr) (b2 off2 c2 : Nat) (t : Int) (w : World) (hN : NetV w lo0 hi0 v n) (hhi0 : hi0 ≤ w.heap.size) (hlen : ∀ t ∈ n.tasks, t.out.length ≤ 1048576) (hV : Row w lo hi A1 b1 off1 (ints zs)) (hhi : hi ≤ w.heap.size) (hm1 : zs.length ≤ maxLen) (hD : Row w lo2 hi2 A2 b2 off2 (ints ds)) (hhi2 : hi2 ≤ w.heap.size) (hm2 : ds.length ≤ maxLen) :
    Calls Try.prog 19 #[v, .slice A1 zs.length c1, .int .i64 t, .slice A2 ds.length c2] w fun e w' => FirOut w n zs t ds e w' := by
  obtain ⟨i0, hi0', hz0, hz1, hz2⟩ := info_parts Try.info3
  have HN := Lib.hid hN
  obtain ⟨A, b, off, c, ms, rfl, hm, hT⟩ := hN
  unfold maxLen at hm
  generalize hob : Obj.cells #[.int .i64 n.places, .slice A n.tasks.length c] 25 = ob
  have hR := (Row.newAt w #[.int .i64 n.places, .slice A n.tasks.length c] 25 _ rfl)
  rw [hob] at hR
  have HR := Lib.hid hR
  have HB := Lib.hid ((Below.refl w.heap.size w).alloc (Nat.le_refl _) ob)
  have HNA := Lib.hid (HN.out.keep (w' := w.alloc ob) fun g _ h => Below.heap_alloc w _ g (by omega))
  have HT := Lib.hid (hT.keep (w' := w.alloc ob) (fun g _ h => Below.heap_alloc w _ g (by omega)) (fun g _ h => Below.heap_alloc w _ g (by omega)))
  have HV := Lib.hid (hV.alloc hhi ob)
  have HD := Lib.hid (hD.alloc hhi2 ob)
  have HC := Lib.hid (implMrkOk_c n _ zs lo0 hi0 lo hi A1 b1 off1 c1 (w.alloc ob) HNA.out (by simp; omega) hlen (hV.alloc hhi ob) (by simp; omega) hm1)
  have HLEN := Lib.hid hlen
  have HO := Lib.hid hob
  have hm2' := hm2
  unfold maxLen at hm2
  clear hR hob hlen hV hD hT
  go_enter Try.func19, Try.ntmps19
  go_wp2_with fail
  rw [HO.out]
  refine HC.out.mono ?_
  rintro e w1 ⟨rfl, hb1⟩
  have hR1 := HR.out.below hb1 (by simp)
  have s0 := (hR1.cell (j := 0) rfl).1
  have s1 := (hR1.cell (j := 1) rfl).1
  have hz1' : w.heap.size + 1 ≤ w1.heap.size := by simpa using hb1.size
  have HB1 := Lib.hid (hb1.mono (by simp : w.heap.size + 1 ≤ _))
  clear hb1 hR1
  by_cases h1 : mrkOk n zs = true
  rotate_left
  · have h1' : mrkOk n zs = false := by simpa using h1
    have H1 := Lib.hid h1'
    rw [h1']
    clear h1 h1'
    go_wp2
    go_ret2
    exact FirOut.no (firB_no (ask_no1 H1.out)) (Made.nil_ _ _ _) (HB.out.trans (HB1.out.mono (by omega)))
  have H1 := Lib.hid h1
  obtain ⟨hnok, hzl, hfew⟩ := mrkOk_parts h1
  obtain ⟨p1, p2, p3, p4, p5⟩ := netOk_parts hnok
  have HFEW := Lib.hid hfew
  have HOK := Lib.hid hnok
  rw [h1]
  clear h1 hnok hfew p5
  go_wp2_with fail
  refine (hasTask_c n _ t lo0 hi0 w1 (HNA.out.below HB1.out (by omega))).mono ?_
  rintro e w2 ⟨rfl, hb2⟩
  have hz2' : w1.heap.size ≤ w2.heap.size := hb2.size
  have hb02 := HB1.out.trans (hb2.mono (by omega))
  have hR2 := HR.out.below hb02 (by simp)
  clear s0 s1
  have s0 := (hR2.cell (j := 0) rfl).1
  have s1 := (hR2.cell (j := 1) rfl).1
  have HB2 := Lib.hid hb02
  clear hb2 hb02 hR2
  by_cases h2 : inB t 0 ((n.tasks.length : Int) - 1) = true
  rotate_left
  · have h2' : inB t 0 ((n.tasks.length : Int) - 1) = false := by simpa using h2
    have H2 := Lib.hid h2'
    rw [h2']
    clear h2 h2'
    go_wp2
    go_ret2
    exact FirOut.no (firB_no (ask_no2 H2.out)) (Made.nil_ _ _ _) (HB.out.trans (HB2.out.mono (by omega)))
  have H2 := Lib.hid h2
  rw [h2]
  have hpl := inB_iff.1 h2
  obtain ⟨tn, rfl⟩ := Int.eq_ofNat_of_zero_le hpl.1
  have htn : tn < n.tasks.length := by omega
  have htn1 : (tn : Int) < (n.tasks.length : Int) := by omega
  have HTT := Lib.hid (List.getElem?_eq_getElem htn)
  clear h2
  go_wp2_with fail
  refine (implDatOk_c ds lo2 hi2 A2 b2 off2 c2 w2 (HD.out.below HB2.out (by omega)) (by omega) hm2').mono ?_
  rintro e w3 ⟨rfl, hb3⟩
  have hz3' : w2.heap.size ≤ w3.heap.size := hb3.size
  have hb03 := HB2.out.trans (hb3.mono (by omega))
  have hR3 := HR.out.below hb03 (by simp)
  clear s0 s1
  have s0 := (hR3.cell (j := 0) rfl).1
  have s1 := (hR3.cell (j := 1) rfl).1
  have HB3 := Lib.hid hb03
  clear hb3 hb03 hR3
  by_cases h3 : datOk ds = true
  rotate_left
  · have h3' : datOk ds = false := by simpa using h3
    have H3 := Lib.hid h3'
    rw [h3']
    clear h3 h3'
    go_wp2
    go_ret2
    exact FirOut.no (firB_no (ask_no3 H3.out)) (Made.nil_ _ _ _) (HB.out.trans (HB3.out.mono (by omega)))
  have H3 := Lib.hid (ask_yes H1.out H2.out h3)
  rw [h3]
  clear h3
  go_wp2_with fail
  refine (cloneInts_c zs lo hi A1 b1 off1 c1 w3 (HV.out.below HB3.out (by omega)) (by omega)).mono ?_
  rintro e w4 ⟨v', rfl, hM, hb4⟩
  have hz4' : w3.heap.size ≤ w4.heap.size := hb4.size
  replace hM := hM.base (show w.heap.size + 1 ≤ w3.heap.size by omega)
  obtain ⟨g, c', rfl, hg1, hg2⟩ := hM.len (by omega)
  have HM := Lib.hid hM
  have HB4 := Lib.hid (HB3.out.trans (hb4.mono (by omega)))
  clear hM hb4 s0 s1
  obtain ⟨rfl, -, h3b, t', vi, vo, vc, hx, -, hTV, hcs, -⟩ := HT.out.task htn
  have htt : t' = n.tasks[tn] := by have := hx.symm.trans HTT.out; injection this
  obtain ⟨A5, q1, A6, q2, A7, q3, rfl, rfl, rfl⟩ := hTV.forms
  obtain ⟨_, b8, o8, _, e8, hmc, hRc⟩ := hTV.clear
  cases e8
  unfold maxLen at hmc
  have HX := Lib.hid hx
  have HMEM := Lib.hid (List.mem_of_getElem? hx)
  have HCS := Lib.hid hcs
  have HTV := Lib.hid hTV
  have HCL := Lib.hid (fun (x : Int) (hx' : x ∈ t'.clear) => clear_bound HOK.out (List.mem_of_getElem? hx) hx')
  have HRc := Lib.hid hRc
  have hol : t'.out.length ≤ 3 := (taskOk_lens ((netOk_parts HOK.out).2.2.2.2 t' (List.mem_of_getElem? hx))).2.2.2
  clear hTV hx hRc hcs htt
  have hb := HB4.out
  have hRr := HR.out.below hb (by simp)
  have s0 := (hRr.cell (j := 0) rfl).1
  have s1 := (hRr.cell (j := 1) rfl).1
  have d4 := (hb.cell (p := ⟨b, off + tn * 9 + 4, none⟩) (by show b < _; omega)).trans HCS.out.2.2.2.2.1
  clear hb hRr
  go_wp2
  clear s0 s1 d4
  go_loopw [39] (fun i wr => ∃ k : Nat, k ≤ t'.clear.length ∧ i = .int .i64 k ∧ Made wr (w.heap.size + 1) 3 (clearL (t'.clear.take k) zs) (.slice (some ⟨g, 0, none⟩) zs.length c') ∧ Below (w.heap.size + 1) (w.alloc ob) wr) (fun i _ => t'.clear.length - (intOf i).toNat)
  case atStart => exact ⟨0, Nat.zero_le _, rfl, HM.out, HB4.out⟩
  case round =>
    obtain ⟨k, hk, rfl, hM, hb⟩ := hrel
    have HMr := Lib.hid hM
    have HBr := Lib.hid hb
    have hRr := HR.out.below hb (by simp)
    have s0 := (hRr.cell (j := 0) rfl).1
    have s1 := (hRr.cell (j := 1) rfl).1
    have d4 := (hb.cell (p := ⟨b, off + tn * 9 + 4, none⟩) (by show b < _; omega)).trans HCS.out.2.2.2.2.1
    have hsz : w.heap.size + 1 ≤ wr.heap.size := by simpa using hb.size
    clear hM hb hRr
    have hcl : (clearL (t'.clear.take k) zs).length = zs.length := clearL_length _ _
    by_cases hlt : k < t'.clear.length
    · have hlt1 : (k : Int) < (t'.clear.length : Int) := by omega
      obtain ⟨rfl, _, _, x, hx, hcx, _⟩ := HRc.out.int hlt
      obtain ⟨hx0, hx1⟩ := HCL.out x (List.mem_of_getElem? hx)
      obtain ⟨xn, rfl⟩ := Int.eq_ofNat_of_zero_le hx0
      have hxn : xn < zs.length := by omega
      have hxn1 : (xn : Int) < (zs.length : Int) := by omega
      obtain ⟨e1, e2, e3⟩ := HMr.out.at_ hcl (k := xn) (by omega)
      have hcx1 := (HBr.out.cell (p := ⟨b8, o8 + k, none⟩) (by show b8 < _; omega)).trans hcx
      have HE3 := Lib.hid (e3 0)
      have HSN := Lib.hid (clearL_snoc zs hx)
      clear hx hcx e3 hcl
      go_wp2
      go_roundw
      case rel =>
        have e := HE3.out
        have e' := HSN.out
        simp only [Int.toNat_natCast] at e'
        rw [← e'] at e
        exact ⟨k + 1, by omega, by go_num, e, HBr.out.setCell (by show _ ≤ g; omega) _⟩
      case measure => simp [intOf]; omega
    · have hlt1 : ¬ ((k : Int) < (t'.clear.length : Int)) := by omega
      have hkl : t'.clear.take k = t'.clear := List.take_of_length_le (by omega)
      rw [hkl] at HMr hcl
      clear hkl
      obtain ⟨c0, c1', c2, c3, c4, c5, c6, c7, c8⟩ := HCS.out
      have d0 := (HBr.out.cell (p := ⟨b, off + tn * 9, none⟩) (by show b < _; omega)).trans c0
      have d1 := (HBr.out.cell (p := ⟨b, off + tn * 9 + 1, none⟩) (by show b < _; omega)).trans c1'
      have d2 := (HBr.out.cell (p := ⟨b, off + tn * 9 + 2, none⟩) (by show b < _; omega)).trans c2
      have d3 := (HBr.out.cell (p := ⟨b, off + tn * 9 + 3, none⟩) (by show b < _; omega)).trans c3
      have d5 := (HBr.out.cell (p := ⟨b, off + tn * 9 + 5, none⟩) (by show b < _; omega)).trans c5
      have d6 := (HBr.out.cell (p := ⟨b, off + tn * 9 + 6, none⟩) (by show b < _; omega)).trans c6
      have d7 := (HBr.out.cell (p := ⟨b, off + tn * 9 + 7, none⟩) (by show b < _; omega)).trans c7
      have d8 := (HBr.out.cell (p := ⟨b, off + tn * 9 + 8, none⟩) (by show b < _; omega)).trans c8
      have HCLN := Lib.hid hcl
      obtain ⟨wo, rfl⟩ : ∃ wo, wo = wr := ⟨_, rfl⟩
      clear c0 c1' c2 c3 c4 c5 c6 c7 c8 hcl
      go_wp2_with fail
      refine (implSplTo_c t' _ _ _ ds lo0 hi0 lo2 hi2 A2 b2 off2 c2 wo (HTV.out.keep fun g1 _ h2 => HBr.out.block g1 (by omega)) (by omega) (by omega) (HD.out.below HBr.out (by omega)) (by omega) hm2').mono ?_
      rintro e w5 ⟨v5, rfl, hM5, hb5⟩
      have hz5' : wo.heap.size ≤ w5.heap.size := hb5.size
      have hgo : g < wo.heap.size := by
        obtain ⟨A9, b9, c9, e9, hr9⟩ := HMr.out.row
        injection e9 with e9 _ _
        obtain ⟨r1, _, r3⟩ := hr9.ref (k := 0) (by simp [clearL_length]; omega)
        rw [r1] at e9
        injection e9 with e9
        injection e9 with e9
        omega
      obtain ⟨A5', b5, c5', rfl, hR5⟩ := hM5.row
      have hspl := spl_ok HOK.out HMEM.out ds
      have HSB := Lib.hid hspl.2
      have hsl : (splL t' ds).length ≤ 3 := Nat.le_trans (splN_len t' ds _) hol
      have HMS := Lib.hid (HMr.out.below hb5 (Nat.le_refl _))
      have HBS := Lib.hid (HBr.out.trans (hb5.mono (by omega)))
      have HR5 := Lib.hid hR5
      clear hM5 hb5 hR5 hspl s0 s1 d0 d1 d2 d3 d4 d5 d6 d7 d8
      have HL := Lib.hid (clearL_length t'.clear zs)
      go_wp2
      go_loopw [55] (fun i wr => ∃ (k : Nat) (cur : List Int), k ≤ (splL t' ds).length ∧ i = .int .i64 k ∧ cur = addL ((splL t' ds).take k) (clearL t'.clear zs) ∧ cur.length = zs.length ∧ Up5 k cur ∧ Made wr (w.heap.size + 1) 3 cur (.slice (some ⟨g, 0, none⟩) zs.length c') ∧ Row wr wo.heap.size w5.heap.size A5' b5 0 (ints (splL t' ds)) ∧ Below (w.heap.size + 1) (w.alloc ob) wr) (fun i _ => (splL t' ds).length - (intOf i).toNat)
      case atStart => exact ⟨0, _, Nat.zero_le _, rfl, rfl, HL.out, up5_few (few_clearL _ _ HFEW.out), HMS.out, HR5.out, HBS.out⟩
      case round =>
        clear HMS HBS HR5 HMr HBr
        obtain ⟨j, cur, hj, rfl, hE, hcl, hF, hM, hr5, hb⟩ := hrel
        have HE := Lib.hid hE
        have HF := Lib.hid hF
        have HMr := Lib.hid hM
        have HBr := Lib.hid hb
        have HR5 := Lib.hid hr5
        have hRr := HR.out.below hb (by simp)
        have s0 := (hRr.cell (j := 0) rfl).1
        have s1 := (hRr.cell (j := 1) rfl).1
        have hszr : w.heap.size + 1 ≤ wr.heap.size := by simpa using hb.size
        clear hE hF hM hb hRr hr5
        by_cases hlt2 : j < (splL t' ds).length
        · have hlt21 : (j : Int) < ((splL t' ds).length : Int) := by omega
          obtain ⟨rfl, _, hb5l, x, hx, hcx, _⟩ := HR5.out.int hlt2
          obtain ⟨hx0, hx1⟩ := HSB.out x (List.mem_of_getElem? hx)
          obtain ⟨xn, rfl⟩ := Int.eq_ofNat_of_zero_le hx0
          have hxn : xn < zs.length := by omega
          have hxn1 : (xn : Int) < (zs.length : Int) := by omega
          obtain ⟨e1, e2, e3⟩ := HMr.out.at_ hcl (k := xn) (by omega)
          rw [Nat.zero_add] at hcx
          have hfx := HF.out xn
          have HXX := Lib.hid hx
          have HSN := Lib.hid (addL_snoc (clearL t'.clear zs) hx)
          generalize hy : cur.getD xn 0 = y at e1 hfx
          have HE3 := Lib.hid (e3 (y + 1))
          have HY := Lib.hid hy
          have HCL2 := Lib.hid hcl
          clear hx e3 hy hcl
          have hyb : 0 ≤ y ∧ y ≤ 8 := by omega
          clear hfx
          go_wp2
          go_roundw
          case rel =>
            have e' := HSN.out
            simp only [Int.toNat_natCast] at e'
            rw [← HE.out, HY.out] at e'
            have hup := up5_more HF.out xn
            rw [HY.out] at hup
            exact ⟨j + 1, _, by omega, by go_num, e'.symm, by simp [HCL2.out], hup, HE3.out, HR5.out.setCell (p := ⟨g, xn, none⟩) (.inl (by dsimp only; omega)) _, HBr.out.setCell (by show _ ≤ g; omega) _⟩
          case measure => simp [intOf]; omega
        · have hlt21 : ¬ ((j : Int) < ((splL t' ds).length : Int)) := by omega
          have hjl : (splL t' ds).take j = splL t' ds := List.take_of_length_le (by omega)
          rw [hjl] at HE
          have HG := Lib.hid (show gaveL n zs (tn : Int) ds = cur by rw [gaveL, taskOf_at HX.out]; exact HE.out.symm)
          have HCL2 := Lib.hid hcl
          clear hjl hcl
          obtain ⟨Ag, bg, cg, eg, hRg⟩ := HMr.out.row
          injection eg with e1 e0 e2
          subst e1 e2
          clear e0
          have HRG := Lib.hid hRg
          clear hRg
          have HMO := Lib.hid (marksOk_c n.places (some ⟨b, off, none⟩) n.tasks.length c cur _ _ _ bg 0 c' wr HRG.out (Nat.le_refl _) (by unfold maxLen; rw [HCL2.out]; omega))
          rw [HCL2.out] at HMO
          go_wp2_with fail
          refine HMO.out.mono ?_
          rintro e w7 ⟨rfl, hb7⟩
          have HB7 := Lib.hid (HBr.out.trans (hb7.mono (by omega)))
          have HM7 := Lib.hid (HMr.out.below hb7 (Nat.le_refl _))
          have hz7 := hb7.size
          clear hb7 HMO
          by_cases h5 : marksB n.places cur = true
          · have H5 := Lib.hid h5
            rw [h5]
            clear h5 s0 s1
            go_wp2
            go_ret2
            exact FirOut.yes (by rw [firB, H3.out, Bool.true_and, HG.out]; exact H5.out) (by rw [HG.out]; exact HM7.out.base (by omega)) (HB.out.trans (HB7.out.mono (by omega)))
          · have h5' : marksB n.places cur = false := by simpa using h5
            have H5 := Lib.hid h5'
            rw [h5']
            clear h5 h5' s0 s1
            go_wp2
            go_ret2
            exact FirOut.no (by rw [firB, H3.out, Bool.true_and, HG.out]; exact H5.out) (Made.nil_ _ _ _) (HB.out.trans (HB7.out.mono (by omega)))
end Go.Proofs.Ytkcbghaadjhceaa
