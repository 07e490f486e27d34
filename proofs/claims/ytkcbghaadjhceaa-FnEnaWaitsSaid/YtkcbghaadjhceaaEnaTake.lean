/- What a task takes of marks: the program. -/
import Derived.Test.YtkcbghaadjhceaaTakeL
import Derived.Test.YtkcbghaadjhceaaMore
namespace Go.Proofs.Ytkcbghaadjhceaa
open Go.RowKit
set_option linter.unusedVariables false
set_option linter.unusedSimpArgs false

theorem hasTask_c (n : NNet) (v : Value) (t : Int) (lo hi : Nat) (w : World) (hN : NetV w lo hi v n) :
    Calls Try.prog 35 #[v, .int .i64 t] w fun e w' => e = .returned (.bool (inB t 0 ((n.tasks.length : Int) - 1))) ∧ Below w.heap.size w w' := by
  obtain ⟨A, b, off, c, ms, rfl, hm, hT⟩ := hN
  unfold maxLen at hm
  clear hT
  go_enter Try.func35, Try.ntmps35
  go_wp2_with fail
  refine (implIn_c _ _ _ _).mono ?_
  rintro e w' ⟨rfl, rfl⟩
  go_wp2
  go_ret
  exact ⟨rfl, (Below.refl _ _).alloc (Nat.le_refl _) _⟩

set_option maxRecDepth 10000 in
set_option maxHeartbeats 2000000 in
theorem implTake_c (n : NNet) (v : Value) (zs : List Int) (lo0 hi0 lo hi : Nat) (A1 : Option Addr) (b1 off1 c1 : Nat) (tn : Nat) (w : World) (hN : NetV w lo0 hi0 v n) (hhi0 : hi0 ≤ w.heap.size) (hV : Row w lo hi A1 b1 off1 (ints zs)) (hhi : hi ≤ w.heap.size) (hok : mrkOk n zs = true) (t : NTask) (ht : n.tasks[tn]? = some t) :
    Calls Try.prog 36 #[v, .slice A1 zs.length c1, .int .i64 (tn : Int)] w fun e w' => ∃ v', e = .returned v' ∧ Made w' w.heap.size 3 (takeL t.join t.ins zs) v' ∧ Below w.heap.size w w' := by
  obtain ⟨hnok, hzl, hfew⟩ := mrkOk_parts hok
  obtain ⟨p1, p2, p3, p4, p5⟩ := netOk_parts hnok
  have hFEW := Lib.hid hfew
  have HOK := Lib.hid hnok
  have HTT := Lib.hid ht
  have htn : tn < n.tasks.length := lt_of_some ht
  have htn1 : (tn : Int) < (n.tasks.length : Int) := by omega
  obtain ⟨A, b, off, c, ms, rfl, hm, hT⟩ := hN
  unfold maxLen at hm
  generalize hob : Obj.cells #[.int .i64 n.places, .slice A n.tasks.length c] 25 = ob
  have hR := (Row.newAt w #[.int .i64 n.places, .slice A n.tasks.length c] 25 _ rfl)
  rw [hob] at hR
  have HR := Lib.hid hR
  have HB := Lib.hid ((Below.refl w.heap.size w).alloc (Nat.le_refl _) ob)
  have HT := Lib.hid (hT.keep (w' := w.alloc ob) (fun g _ h => Below.heap_alloc w _ g (by omega)) (fun g _ h => Below.heap_alloc w _ g (by omega)))
  have HO := Lib.hid hob
  have HQ := Lib.hid (cloneInts_c zs lo hi A1 b1 off1 c1 (w.alloc ob) (hV.alloc hhi ob) (by omega))
  clear hR hT hob hnok hfew hok p5 hV ht
  go_enter Try.func36, Try.ntmps36
  go_wp2_with fail
  rw [HO.out]
  refine HQ.out.mono ?_
  rintro e w1 ⟨v', rfl, hM, hb1⟩
  have hz1 : w.heap.size + 1 ≤ w1.heap.size := by simpa using hb1.size
  have hb1' := hb1.mono (by simp : w.heap.size + 1 ≤ (w.alloc ob).heap.size)
  obtain ⟨g, c', rfl, hg1, hg2⟩ := hM.len (by omega)
  have hg1' : w.heap.size + 1 ≤ g := by simpa using hg1
  have HM := Lib.hid (hM.base (by simp : w.heap.size + 1 ≤ (w.alloc ob).heap.size))
  have hR1 := HR.out.below hb1' (by simp)
  have s0 := (hR1.cell (j := 0) rfl).1
  have s1 := (hR1.cell (j := 1) rfl).1
  have HB1 := Lib.hid hb1'
  obtain ⟨rfl, _, h3, t', vi, vo, vc, hx, _, hTV, ⟨c0, _, c2, _⟩, _⟩ := HT.out.task htn
  obtain rfl : t' = t := by have := hx.symm.trans HTT.out; injection this
  obtain ⟨A2, q1, A3, q2, A4, q3, rfl, rfl, rfl⟩ := hTV.forms
  obtain ⟨_, b2, o2, _, e2, hmi, hRi⟩ := hTV.ins
  cases e2
  unfold maxLen at hmi
  have d2 := (hb1'.cell (p := ⟨b, off + tn * 9 + 2, none⟩) (by show b < _; omega)).trans c2
  have HC0 := Lib.hid c0
  have HIN := Lib.hid (fun (x : Int) (hx' : x ∈ t'.ins) => ins_bound HOK.out (List.mem_of_getElem? hx) hx')
  have HRi := Lib.hid hRi
  clear hM hb1 hb1' hg1 hR1 hTV hx hRi c0 c2
  go_wp2
  go_loopw [19] (fun i wr => ∃ (k : Nat) (cur : List Int), k ≤ t'.ins.length ∧ i = .int .i64 k ∧ takeL t'.join t'.ins zs = takeL t'.join (t'.ins.drop k) cur ∧ cur.length = zs.length ∧ Few cur ∧ Made wr (w.heap.size + 1) 3 cur (.slice (some ⟨g, 0, none⟩) zs.length c') ∧ Below (w.heap.size + 1) (w.alloc ob) wr) (fun i _ => t'.ins.length - (intOf i).toNat)
  case atStart => exact ⟨0, zs, Nat.zero_le _, rfl, rfl, rfl, hFEW.out, HM.out, HB1.out⟩
  case round =>
    obtain ⟨k, cur, hk, rfl, hE, hcl, hF, hM, hb⟩ := hrel
    have HE := Lib.hid hE
    have HF := Lib.hid hF
    have HMr := Lib.hid hM
    have HBr := Lib.hid hb
    clear s0 s1 d2
    have hRr := HR.out.below hb (by simp)
    have s0 := (hRr.cell (j := 0) rfl).1
    have s1 := (hRr.cell (j := 1) rfl).1
    have d0 := (hb.cell (p := ⟨b, off + tn * 9, none⟩) (by show b < _; omega)).trans HC0.out
    clear hE hF hM hb hRr
    by_cases hlt : k < t'.ins.length
    · obtain ⟨rfl, _, _, x, hx, hcx, _⟩ := HRi.out.int hlt
      obtain ⟨hx0, hx1⟩ := HIN.out x (List.mem_of_getElem? hx)
      obtain ⟨xn, rfl⟩ := Int.eq_ofNat_of_zero_le hx0
      have hxn : xn < zs.length := by omega
      have hxn1 : (xn : Int) < (zs.length : Int) := by omega
      obtain ⟨e1, e2, e3⟩ := HMr.out.at_ hcl (k := xn) (by omega)
      have hcx1 := (HBr.out.cell (p := ⟨b2, o2 + k, none⟩) (by show b2 < _; omega)).trans hcx
      have hfx := few_getD HF.out xn
      have HXX := Lib.hid hx
      have HE3 := Lib.hid e3
      generalize hy : cur.getD xn 0 = y at e1 hfx
      have HY := Lib.hid hy
      clear hx hcx e3 hy
      by_cases hpos : 0 < y
      · have HPOS := Lib.hid (show 0 < cur.getD (xn : Int).toNat 0 by simp only [Int.toNat_natCast]; rw [HY.out]; exact hpos)
        by_cases hj : t'.join = 2
        · have hj1 : (t'.join == 2) = true := by simpa using hj
          have HJ := Lib.hid hj
          clear hj
          go_wp2
          go_ret
          have e := takeL_one (join := t'.join) HXX.out HPOS.out HJ.out
          simp only [Int.toNat_natCast] at e
          rw [HY.out] at e
          exact ⟨.slice (some ⟨g, 0, none⟩) zs.length c', rfl, by rw [HE.out, e]; exact (HE3.out _).base (by omega), HB.out.trans ((HBr.out.setCell (by show _ ≤ g; omega) _).mono (by omega))⟩
        · have hj1 : (t'.join == 2) = false := by simpa using hj
          have HJ := Lib.hid hj
          clear hj
          go_wp2
          go_roundw
          case rel =>
            have e := takeL_more (join := t'.join) HXX.out HPOS.out HJ.out
            have hfl := few_less HF.out (k := xn) (by rw [HY.out]; exact hpos)
            simp only [Int.toNat_natCast] at e
            rw [HY.out] at e hfl
            exact ⟨k + 1, _, by omega, by go_num, by rw [HE.out, e], by simp [hcl], hfl, HE3.out _, HBr.out.setCell (by show _ ≤ g; omega) _⟩
          case measure => simp [intOf]; omega
      · have HPOS := Lib.hid (show ¬ 0 < cur.getD (xn : Int).toNat 0 by simp only [Int.toNat_natCast]; rw [HY.out]; exact hpos)
        go_wp2
        go_roundw
        case rel => exact ⟨k + 1, cur, by omega, by go_num, by rw [HE.out, takeL_skip HXX.out HPOS.out], hcl, HF.out, HMr.out, HBr.out⟩
        case measure => simp [intOf]; omega
    · have hkl : k = t'.ins.length := by omega
      have HKL := Lib.hid hkl
      clear hkl
      go_wp2
      go_ret
      have e := HE.out
      rw [HKL.out, List.drop_length] at e
      exact ⟨.slice (some ⟨g, 0, none⟩) zs.length c', rfl, by rw [e]; exact HMr.out.base (by omega), HB.out.trans (HBr.out.mono (by omega))⟩
end Go.Proofs.Ytkcbghaadjhceaa

/- EnaTake: the program and the reference. -/
namespace Go.Proofs.Ytkcbghaadjhceaa
open Go.RowKit
set_option linter.unusedVariables false
set_option linter.unusedSimpArgs false

set_option maxRecDepth 10000 in
set_option maxHeartbeats 1000000 in
theorem implEnaTake_c (n : NNet) (v : Value) (zs : List Int) (lo0 hi0 lo hi : Nat) (A1 : Option Addr) (b1 off1 c1 : Nat) (t : Int) (w : World) (hN : NetV w lo0 hi0 v n) (hhi0 : hi0 ≤ w.heap.size) (hlen : ∀ t ∈ n.tasks, t.out.length ≤ 1048576) (hV : Row w lo hi A1 b1 off1 (ints zs)) (hhi : hi ≤ w.heap.size) (hm1 : zs.length ≤ maxLen) :
    Calls Try.prog 11 #[v, .slice A1 zs.length c1, .int .i64 t] w fun e w' => ∃ v', e = .returned v' ∧ Made w' w.heap.size 3 (takeN n zs t) v' ∧ Below w.heap.size w w' := by
  have HN := Lib.hid hN
  obtain ⟨A, b, off, c, ms, rfl, hm, hT⟩ := hN
  unfold maxLen at hm
  clear hT
  generalize hob : Obj.cells #[.int .i64 n.places, .slice A n.tasks.length c] 25 = ob
  have hR := (Row.newAt w #[.int .i64 n.places, .slice A n.tasks.length c] 25 _ rfl)
  rw [hob] at hR
  have HR := Lib.hid hR
  have HB := Lib.hid ((Below.refl w.heap.size w).alloc (Nat.le_refl _) ob)
  have HNA := Lib.hid (HN.out.keep (w' := w.alloc ob) fun g _ h => Below.heap_alloc w _ g (by omega))
  have HV := Lib.hid hV
  have HC := Lib.hid (implMrkOk_c n _ zs lo0 hi0 lo hi A1 b1 off1 c1 (w.alloc ob) HNA.out (by simp; omega) hlen (hV.alloc hhi ob) (by simp; omega) hm1)
  have HO := Lib.hid hob
  clear hR hob hlen hV
  go_enter Try.func11, Try.ntmps11
  go_wp2_with fail
  rw [HO.out]
  refine HC.out.mono ?_
  rintro e w1 ⟨rfl, hb1⟩
  have hR1 := HR.out.below hb1 (by simp)
  have s0 := (hR1.cell (j := 0) rfl).1
  have s1 := (hR1.cell (j := 1) rfl).1
  have hz1 : w.heap.size + 1 ≤ w1.heap.size := by simpa using hb1.size
  have HB1 := Lib.hid (hb1.mono (by simp : w.heap.size + 1 ≤ _))
  clear hb1 hR1
  by_cases h1 : mrkOk n zs = true
  · have H1 := Lib.hid h1
    rw [h1]
    clear h1
    go_wp2_with fail
    refine (hasTask_c n _ t lo0 hi0 w1 (HNA.out.below HB1.out (by omega))).mono ?_
    rintro e w2 ⟨rfl, hb2⟩
    have hz2 : w1.heap.size ≤ w2.heap.size := hb2.size
    have hb02 := HB1.out.trans (hb2.mono (by omega))
    have hR2 := HR.out.below hb02 (by simp)
    clear s0 s1
    have s0 := (hR2.cell (j := 0) rfl).1
    have s1 := (hR2.cell (j := 1) rfl).1
    have HB2 := Lib.hid hb02
    clear hb2 hb02 hR2
    by_cases h2 : inB t 0 ((n.tasks.length : Int) - 1) = true
    · have H2 := Lib.hid h2
      rw [h2]
      have hpl := inB_iff.1 h2
      obtain ⟨tn, rfl⟩ := Int.eq_ofNat_of_zero_le hpl.1
      have htn : tn < n.tasks.length := by omega
      have HTT := Lib.hid (List.getElem?_eq_getElem htn)
      clear h2
      go_wp2_with fail
      refine (implTake_c n _ zs lo0 hi0 lo hi A1 b1 off1 c1 tn w2 (HNA.out.below HB2.out (by omega)) (by omega) (HV.out.below (HB.out.trans (HB2.out.mono (by omega))) hhi) (by omega) H1.out _ HTT.out).mono ?_
      rintro e w4 ⟨v', rfl, hM, hb4⟩
      have HM := Lib.hid hM
      have HB4 := Lib.hid (HB2.out.trans (hb4.mono (by omega)))
      clear hM hb4 s0 s1
      go_wp2
      go_ret
      exact ⟨v', rfl, by rw [takeN_yes H1.out H2.out HTT.out]; exact HM.out.base (by omega), HB.out.trans (HB4.out.mono (by omega))⟩
    · have h2' : inB t 0 ((n.tasks.length : Int) - 1) = false := by simpa using h2
      have H2 := Lib.hid h2'
      rw [h2']
      clear h2 h2'
      go_wp2
      go_ret
      exact ⟨_, rfl, by rw [takeN_no2 H1.out H2.out]; exact Made.nil_ _ _ _, HB.out.trans (HB2.out.mono (by omega))⟩
  · have h1' : mrkOk n zs = false := by simpa using h1
    have H1 := Lib.hid h1'
    rw [h1']
    clear h1 h1'
    go_wp2
    go_ret
    exact ⟨_, rfl, by rw [takeN_no1 H1.out]; exact Made.nil_ _ _ _, HB.out.trans (HB1.out.mono (by omega))⟩

theorem own_lit0I (w : World) (base : Nat) (e : TypeId) (hb : base ≤ w.heap.size) : Made (w.alloc (.cells #[] e)) base e [] (.slice (some ⟨w.heap.size, 0, none⟩) 0 0) :=
  Made.base (base := w.heap.size) (own_lit0 w e) hb

set_option maxRecDepth 10000 in
set_option maxHeartbeats 2000000 in
theorem specEnaTake_c (n : NNet) (v : Value) (zs : List Int) (lo0 hi0 lo hi : Nat) (A1 : Option Addr) (b1 off1 c1 : Nat) (t : Int) (w : World) (hN : NetV w lo0 hi0 v n) (hhi0 : hi0 ≤ w.heap.size) (hV : Row w lo hi A1 b1 off1 (ints zs)) (hhi : hi ≤ w.heap.size) (hm1 : zs.length ≤ maxLen) :
    Calls Try.prog 13 #[v, .slice A1 zs.length c1, .int .i64 t] w fun e w' => ∃ v', e = .returned v' ∧ Made w' w.heap.size 3 (takeN n zs t) v' ∧ Below w.heap.size w w' := by
  obtain ⟨i0, hi0', hz0, hz1, hz2⟩ := info_parts Try.info3
  have HN := Lib.hid hN
  obtain ⟨A, b, off, c, ms, rfl, hm, hT⟩ := hN
  unfold maxLen at hm
  generalize hob : Obj.cells #[.int .i64 n.places, .slice A n.tasks.length c] 25 = ob
  have hR := (Row.newAt w #[.int .i64 n.places, .slice A n.tasks.length c] 25 _ rfl)
  rw [hob] at hR
  have HR := Lib.hid hR
  have HB := Lib.hid ((Below.refl w.heap.size w).alloc (Nat.le_refl _) ob)
  have HNA := Lib.hid (HN.out.keep (w' := w.alloc ob) fun g _ h => Below.heap_alloc w _ g (by omega))
  have HT := Lib.hid (hT.keep (w' := w.alloc ob) (fun g _ h => Below.heap_alloc w _ g (by omega)) (fun g _ h => Below.heap_alloc w _ g (by omega)))
  have HV := Lib.hid (hV.alloc hhi ob)
  have HC := Lib.hid (specMrkOk_c n _ zs lo0 hi0 lo hi A1 b1 off1 c1 (w.alloc ob) HNA.out (by simp; omega) (hV.alloc hhi ob) (by simp; omega) hm1)
  have HO := Lib.hid hob
  clear hR hob hT hV
  go_enter Try.func13, Try.ntmps13
  go_wp2_with fail
  rw [HO.out]
  refine HC.out.mono ?_
  rintro e w1 ⟨rfl, hb1⟩
  have hR1 := HR.out.below hb1 (by simp)
  have s0 := (hR1.cell (j := 0) rfl).1
  have s1 := (hR1.cell (j := 1) rfl).1
  have hzw1 : w.heap.size + 1 ≤ w1.heap.size := by simpa using hb1.size
  have HB1 := Lib.hid (hb1.mono (by simp : w.heap.size + 1 ≤ _))
  clear hb1 hR1
  by_cases h1 : mrkOk n zs = true
  · have H1 := Lib.hid h1
    obtain ⟨hnok, hzl, hfew⟩ := mrkOk_parts h1
    obtain ⟨p1, p2, p3, p4, p5⟩ := netOk_parts hnok
    have HFEW := Lib.hid hfew
    have HOK := Lib.hid hnok
    rw [h1]
    clear h1 hnok hfew p5
    go_wp2_with fail
    refine (l1In_c _ _ _ _).mono ?_
    rintro e w' ⟨rfl, rfl⟩
    by_cases h2 : inB t 0 ((n.tasks.length : Int) - 1) = true
    · have H2 := Lib.hid h2
      rw [h2]
      have hpl := inB_iff.1 h2
      obtain ⟨tn, rfl⟩ := Int.eq_ofNat_of_zero_le hpl.1
      have htn : tn < n.tasks.length := by omega
      have htn1 : (tn : Int) < (n.tasks.length : Int) := by omega
      have HTT := Lib.hid (List.getElem?_eq_getElem htn)
      clear h2
      have HL := Lib.hid (own_lit0I w1 (w.heap.size + 1) 3 hzw1)
      go_wp2_with (at_builtin; refine wpList_append_row rfl _ _ 26 rfl (w.heap.size + 1) 3 i0 _ 1 8 Try.underlying26 hi0' hz0 hz1 hz2 rfl (by omega) (.slice (some ⟨w1.heap.size, 0, none⟩) 0 0) 0 [] rfl HL.out lo hi A1 b1 off1 zs.length c1 (ints zs) rfl (by simp) ((HV.out.below HB1.out (by omega)).alloc (by omega) _) (ints_one zs) (by unfold maxLen; omega) (by omega) (by simp; omega) ?_; intro v' w2 hown hg)
      have HB2 := Lib.hid ((HB1.out.alloc (by omega) (.cells #[] 3)).grown hg (by simp; omega) (fun k hk => (World.ownsRow.lt HL.out k hk).1))
      have hM : Made w2 (w.heap.size + 1) 3 zs v' := by simpa [Made] using hown
      clear hown hg s0 s1
      obtain ⟨g, c', rfl, hg1, hg2⟩ := hM.len (by omega)
      have HM := Lib.hid hM
      clear hM
      obtain ⟨rfl, _, h3, t', vi, vo, vc, hx, _, hTV, ⟨c0, _, c2, _⟩, _⟩ := HT.out.task htn
      have htt : t' = n.tasks[tn] := by have := hx.symm.trans HTT.out; injection this
      obtain ⟨A2, q1, A3, q2, A4, q3, rfl, rfl, rfl⟩ := hTV.forms
      obtain ⟨_, b2, o2, _, e2, hmi, hRi⟩ := hTV.ins
      cases e2
      unfold maxLen at hmi
      have HX := Lib.hid hx
      have HC0 := Lib.hid c0
      have HC2 := Lib.hid c2
      have HIN := Lib.hid (fun (x : Int) (hx' : x ∈ t'.ins) => ins_bound HOK.out (List.mem_of_getElem? hx) hx')
      have HRi := Lib.hid hRi
      clear hTV hx hRi c0 c2 htt
      go_loopw [8] (fun i wr => ∃ (k : Nat) (cur : List Int), k ≤ t'.ins.length ∧ i = .int .i64 k ∧ takeL t'.join t'.ins zs = takeL t'.join (t'.ins.drop k) cur ∧ cur.length = zs.length ∧ Few cur ∧ Made wr (w.heap.size + 1) 3 cur (.slice (some ⟨g, 0, none⟩) zs.length c') ∧ Below (w.heap.size + 1) (w.alloc ob) wr) (fun i _ => t'.ins.length - (intOf i).toNat)
      case atStart => exact ⟨0, zs, Nat.zero_le _, rfl, rfl, rfl, HFEW.out, HM.out, HB2.out⟩
      case round =>
        obtain ⟨k, cur, hk, rfl, hE, hcl, hF, hM, hb⟩ := hrel
        have HE := Lib.hid hE
        have HF := Lib.hid hF
        have HMr := Lib.hid hM
        have HBr := Lib.hid hb
        have hRr := HR.out.below hb (by simp)
        have s0 := (hRr.cell (j := 0) rfl).1
        have s1 := (hRr.cell (j := 1) rfl).1
        have d0 := (hb.cell (p := ⟨b, off + tn * 9, none⟩) (by show b < _; omega)).trans HC0.out
        have d2 := (hb.cell (p := ⟨b, off + tn * 9 + 2, none⟩) (by show b < _; omega)).trans HC2.out
        clear hE hF hM hb hRr
        by_cases hlt : k < t'.ins.length
        · have hlt1 : (k : Int) < (t'.ins.length : Int) := by omega
          obtain ⟨rfl, _, _, x, hx, hcx, _⟩ := HRi.out.int hlt
          obtain ⟨hx0, hx1⟩ := HIN.out x (List.mem_of_getElem? hx)
          obtain ⟨xn, rfl⟩ := Int.eq_ofNat_of_zero_le hx0
          have hxn : xn < zs.length := by omega
          have hxn1 : (xn : Int) < (zs.length : Int) := by omega
          obtain ⟨e1, e2, e3⟩ := HMr.out.at_ hcl (k := xn) (by omega)
          have hcx1 := (HBr.out.cell (p := ⟨b2, o2 + k, none⟩) (by show b2 < _; omega)).trans hcx
          have hfx := few_getD HF.out xn
          have HXX := Lib.hid hx
          have HE3 := Lib.hid e3
          generalize hy : cur.getD xn 0 = y at e1 hfx
          have HY := Lib.hid hy
          clear hx hcx e3 hy
          by_cases hpos : 0 < y
          · have HPOS := Lib.hid (show 0 < cur.getD (xn : Int).toNat 0 by simp only [Int.toNat_natCast]; rw [HY.out]; exact hpos)
            by_cases hj : t'.join = 2
            · have hj1 : (t'.join == 2) = true := by simpa using hj
              have HJ := Lib.hid hj
              clear hj
              go_wp2
              go_ret
              have e := takeL_one (join := t'.join) HXX.out HPOS.out HJ.out
              simp only [Int.toNat_natCast] at e
              rw [HY.out] at e
              exact ⟨.slice (some ⟨g, 0, none⟩) zs.length c', rfl, by rw [takeN_yes H1.out H2.out HX.out, HE.out, e]; exact (HE3.out _).base (by omega), HB.out.trans ((HBr.out.setCell (by show _ ≤ g; omega) _).mono (by omega))⟩
            · have hj1 : (t'.join == 2) = false := by simpa using hj
              have HJ := Lib.hid hj
              clear hj
              go_wp2
              go_roundw
              case rel =>
                have e := takeL_more (join := t'.join) HXX.out HPOS.out HJ.out
                have hfl := few_less HF.out (k := xn) (by rw [HY.out]; exact hpos)
                simp only [Int.toNat_natCast] at e
                rw [HY.out] at e hfl
                exact ⟨k + 1, _, by omega, by go_num, by rw [HE.out, e], by simp [hcl], hfl, HE3.out _, HBr.out.setCell (by show _ ≤ g; omega) _⟩
              case measure => simp [intOf]; omega
          · have HPOS := Lib.hid (show ¬ 0 < cur.getD (xn : Int).toNat 0 by simp only [Int.toNat_natCast]; rw [HY.out]; exact hpos)
            go_wp2
            go_roundw
            case rel => exact ⟨k + 1, cur, by omega, by go_num, by rw [HE.out, takeL_skip HXX.out HPOS.out], hcl, HF.out, HMr.out, HBr.out⟩
            case measure => simp [intOf]; omega
        · have hlt1 : ¬ ((k : Int) < (t'.ins.length : Int)) := by omega
          have hkl : k = t'.ins.length := by omega
          have HKL := Lib.hid hkl
          clear hkl
          go_wp2
          go_ret
          have e := HE.out
          rw [HKL.out, List.drop_length] at e
          exact ⟨.slice (some ⟨g, 0, none⟩) zs.length c', rfl, by rw [takeN_yes H1.out H2.out HX.out, e]; exact HMr.out.base (by omega), HB.out.trans (HBr.out.mono (by omega))⟩
    · have h2' : inB t 0 ((n.tasks.length : Int) - 1) = false := by simpa using h2
      have H2 := Lib.hid h2'
      rw [h2']
      clear h2 h2'
      go_wp2
      go_ret
      exact ⟨_, rfl, by rw [takeN_no2 H1.out H2.out]; exact own_lit0I _ _ _ (by omega), HB.out.trans ((HB1.out.alloc (by omega) _).mono (by omega))⟩
  · have h1' : mrkOk n zs = false := by simpa using h1
    have H1 := Lib.hid h1'
    rw [h1']
    clear h1 h1'
    go_wp2
    go_ret
    exact ⟨_, rfl, by rw [takeN_no1 H1.out]; exact own_lit0I _ _ _ (by omega), HB.out.trans ((HB1.out.alloc (by omega) _).mono (by omega))⟩
end Go.Proofs.Ytkcbghaadjhceaa
