/- Where a task leads to with data: the program and the reference. -/
import Derived.Test.YtkcbghaadjhceaaSplP
import Derived.Test.YtkcbghaadjhceaaMore
namespace Go.Proofs.Ytkcbghaadjhceaa
open Go.RowKit
set_option linter.unusedVariables false
set_option linter.unusedSimpArgs false

theorem own_lit0S (w : World) (base : Nat) (e : TypeId) (hb : base ≤ w.heap.size) : Made (w.alloc (.cells #[] e)) base e [] (.slice (some ⟨w.heap.size, 0, none⟩) 0 0) :=
  Made.base (base := w.heap.size) (own_lit0 w e) hb

set_option maxRecDepth 10000 in
set_option maxHeartbeats 2000000 in
theorem implSplTo_c (t : NTask) (vi vo vc : Value) (zs : List Int) (lo0 hi0 lo hi : Nat) (A1 : Option Addr) (b1 off1 c1 : Nat) (w : World) (hT : TaskV w lo0 hi0 t vi vo vc) (hhi0 : hi0 ≤ w.heap.size) (hm : t.out.length ≤ 1048576) (hV : Row w lo hi A1 b1 off1 (ints zs)) (hhi : hi ≤ w.heap.size) (hm1 : zs.length ≤ maxLen) :
    Calls Try.prog 22 #[.agg #[.int .i64 t.join, .int .i64 t.split, vi, vo, vc, .int .i64 t.role, .int .i64 t.apart, .int .i64 t.all, .int .i64 t.need], .slice A1 zs.length c1] w fun e w' => ∃ v', e = .returned v' ∧ Made w' w.heap.size 3 (splL t zs) v' ∧ Below w.heap.size w w' := by
  obtain ⟨i0, hi0', hz0, hz1, hz2⟩ := info_parts Try.info3
  obtain ⟨A2, q1, A3, q2, A4, q3, rfl, rfl, rfl⟩ := hT.forms
  obtain ⟨_, b3, o3, _, e3, hmo, hRo⟩ := hT.out
  cases e3
  generalize hob : Obj.cells #[.int .i64 t.join, .int .i64 t.split, .slice A2 t.ins.length q1, .slice A3 t.out.length q2, .slice A4 t.clear.length q3, .int .i64 t.role, .int .i64 t.apart, .int .i64 t.all, .int .i64 t.need] 36 = ob
  have hR := (Row.newAt w #[.int .i64 t.join, .int .i64 t.split, .slice A2 t.ins.length q1, .slice A3 t.out.length q2, .slice A4 t.clear.length q3, .int .i64 t.role, .int .i64 t.apart, .int .i64 t.all, .int .i64 t.need] 36 _ rfl)
  rw [hob] at hR
  have HR := Lib.hid hR
  have HB := Lib.hid ((Below.refl w.heap.size w).alloc (Nat.le_refl _) ob)
  have HRo := Lib.hid (hRo.alloc hhi0 ob)
  have HV := Lib.hid (hV.alloc hhi ob)
  have HM1 := Lib.hid hm1
  have HO := Lib.hid hob
  clear hR hT hV hob hRo hm1 hmo
  go_enter Try.func22, Try.ntmps22
  go_wp2
  rw [HO.out]
  go_loopw [5, 11] (fun v i wr => ∃ k : Nat, k ≤ t.out.length ∧ i = .int .i64 k ∧ Made wr (w.heap.size + 1) 3 (splN t zs k) v ∧ Below (w.heap.size + 1) (w.alloc ob) wr) (fun _ i _ => t.out.length - (intOf i).toNat)
  case atStart => exact ⟨0, Nat.zero_le _, rfl, Made.nil_ _ _ _, Below.refl _ _⟩
  case round =>
    obtain ⟨k, hk, rfl, hM, hb⟩ := hrel
    have hzr : w.heap.size + 1 ≤ wr.heap.size := by simpa using hb.size
    have hlenk := splN_len t zs k
    have HBr := Lib.hid hb
    have hRr := HR.out.below hb (by simp)
    by_cases hlt : k < t.out.length
    · obtain ⟨rfl, _, h3, f, hf, ⟨f0, f1, f2, f3⟩, _⟩ := HRo.out.flow hlt
      replace f0 := (hb.cell (p := ⟨b3, o3 + k * 4, none⟩) (by show b3 < _; omega)).trans f0
      replace f1 := (hb.cell (p := ⟨b3, o3 + k * 4 + 1, none⟩) (by show b3 < _; omega)).trans f1
      replace f2 := (hb.cell (p := ⟨b3, o3 + k * 4 + 2, none⟩) (by show b3 < _; omega)).trans f2
      replace f3 := (hb.cell (p := ⟨b3, o3 + k * 4 + 3, none⟩) (by show b3 < _; omega)).trans f3
      have HF := Lib.hid hf
      generalize hof : Obj.cells #[.int .i64 f.to, .int .i64 f.op, .int .i64 f.var, .int .i64 f.k] 56 = of'
      have HOF := Lib.hid hof
      have hRf := Row.newAt wr #[.int .i64 f.to, .int .i64 f.op, .int .i64 f.var, .int .i64 f.k] 56 _ rfl
      rw [hof] at hRf
      have HRF := Lib.hid hRf
      have hbf := hb.alloc (show w.heap.size + 1 ≤ wr.heap.size from hzr) of'
      have HBF := Lib.hid hbf
      have HC := Lib.hid (implExpHolds_c f.op f.var f.k zs lo hi A1 b1 off1 c1 (wr.alloc of') (HV.out.below hbf (by omega)) (by simp; omega) HM1.out)
      have HRb := Lib.hid (hRr.alloc (by omega) of')
      have HMf := Lib.hid (hM.alloc of')
      have hzf : (wr.alloc of').heap.size = wr.heap.size + 1 := by simp
      clear hM hb hRr hf hof hRf hbf
      obtain ⟨A9, b9, c9, hv9, hrow9⟩ := HMf.out.row
      subst hv9
      clear hrow9
      go_wp2_with fail
      rw [HOF.out]
      refine HC.out.mono ?_
      rintro e w2 ⟨rfl, hb2⟩
      have hz2' : wr.heap.size + 1 ≤ w2.heap.size := by rw [← hzf]; exact hb2.size
      have s1 := ((HRb.out.below hb2 (by omega)).cell (j := 1) rfl).1
      have s3 := ((HRb.out.below hb2 (by omega)).cell (j := 3) rfl).1
      have g0 := ((HRF.out.below hb2 (by omega)).cell (j := 0) rfl).1
      have HM2 := Lib.hid (HMf.out.below hb2 (Nat.le_refl _))
      have HB2 := Lib.hid (HBF.out.trans (hb2.mono (by omega)))
      clear hb2 HC f0 f1 f2 f3
      have hgo := fun b : Bool => show holdsB ⟨f.op, f.var, f.k⟩ zs = b → goesTo t zs k f (splN t zs k).length = (b && (!(decide (t.split = 2) && decide (0 < (splN t zs k).length)) && !(decide (t.split = 3) && (decide (k + 1 = t.out.length) && decide (0 < (splN t zs k).length))))) from fun h => by rw [goesTo, h]
      have HGO := Lib.hid hgo
      clear hgo
      by_cases hh : holdsB ⟨f.op, f.var, f.k⟩ zs = true
      · have HH := Lib.hid hh
        rw [hh]
        clear hh
        by_cases h2 : t.split = 2
        · have e2 : (t.split == 2) = true := by simpa using h2
          have e3 : (t.split == 3) = false := by simp; omega
          have H2 := Lib.hid h2
          clear h2
          by_cases hl : 0 < (splN t zs k).length
          · have hl1 : (0 : Int) < ((splN t zs k).length : Int) := by omega
            have HL := Lib.hid hl
            clear hl
            have HA := Lib.hid (splN_no HF.out (by rw [HGO.out _ HH.out]; simp [H2.out, HL.out]))
            go_wp2
            go_roundw
            case rel => exact ⟨k + 1, by omega, by go_num, by rw [HA.out]; exact HM2.out, HB2.out⟩
            case measure => simp [intOf]; omega
          · have hl1 : ¬ ((0 : Int) < ((splN t zs k).length : Int)) := by omega
            have HL := Lib.hid hl
            clear hl
            have HA := Lib.hid (splN_yes HF.out (by rw [HGO.out _ HH.out]; simp [H2.out, HL.out]))
            go_wp2_with (at_builtin; refine wpList_append_own _ rfl _ _ 26 rfl (w.heap.size + 1) 3 i0 _ 1 8 Try.underlying26 hi0' hz0 hz1 hz2 rfl (by omega) _ (splN t zs k).length (ints (splN t zs k)) rfl (HM2.out.alloc _) ⟨w2.heap.size, 0, none⟩ 1 1 [.int .i64 f.to] rfl rfl (one_new _ _ _) (by intro u hu; simp at hu; subst hu; rfl) (by unfold maxLen; omega) (by omega) (by simp; omega) ?_; intro v' w6 hown6 hg6 _)
            have HB6 := Lib.hid ((HB2.out.alloc (by omega) _).grown hg6 (by simp; omega) (fun k hk => Made.own HM2.out hk))
            have HO6 := Lib.hid hown6
            clear hown6 hg6
            go_wp2
            go_roundw
            case rel => exact ⟨k + 1, by omega, by go_num, by have := HO6.out; rw [HA.out]; simpa [Made, ints] using this, HB6.out⟩
            case measure => simp [intOf]; omega
        · have e2 : (t.split == 2) = false := by simpa using h2
          have H2 := Lib.hid h2
          clear h2
          by_cases h3' : t.split = 3
          · have e3 : (t.split == 3) = true := by simpa using h3'
            have H3 := Lib.hid h3'
            clear h3'
            by_cases hk1 : k + 1 = t.out.length
            · have e4 : ((k : Int) == (t.out.length : Int) - 1) = true := by simp; omega
              have HK1 := Lib.hid hk1
              clear hk1
              by_cases hl : 0 < (splN t zs k).length
              · have hl1 : (0 : Int) < ((splN t zs k).length : Int) := by omega
                have HL := Lib.hid hl
                clear hl
                have HA := Lib.hid (splN_no HF.out (by rw [HGO.out _ HH.out]; simp [H3.out, HL.out, HK1.out]))
                go_wp2
                go_roundw
                case rel => exact ⟨k + 1, by omega, by go_num, by rw [HA.out]; exact HM2.out, HB2.out⟩
                case measure => simp [intOf]; omega
              · have hl1 : ¬ ((0 : Int) < ((splN t zs k).length : Int)) := by omega
                have HL := Lib.hid hl
                clear hl
                have HA := Lib.hid (splN_yes HF.out (by rw [HGO.out _ HH.out]; simp [H3.out, HL.out]))
                go_wp2_with (at_builtin; refine wpList_append_own _ rfl _ _ 26 rfl (w.heap.size + 1) 3 i0 _ 1 8 Try.underlying26 hi0' hz0 hz1 hz2 rfl (by omega) _ (splN t zs k).length (ints (splN t zs k)) rfl (HM2.out.alloc _) ⟨w2.heap.size, 0, none⟩ 1 1 [.int .i64 f.to] rfl rfl (one_new _ _ _) (by intro u hu; simp at hu; subst hu; rfl) (by unfold maxLen; omega) (by omega) (by simp; omega) ?_; intro v' w6 hown6 hg6 _)
                have HB6 := Lib.hid ((HB2.out.alloc (by omega) _).grown hg6 (by simp; omega) (fun k hk => Made.own HM2.out hk))
                have HO6 := Lib.hid hown6
                clear hown6 hg6
                go_wp2
                go_roundw
                case rel => exact ⟨k + 1, by omega, by go_num, by have := HO6.out; rw [HA.out]; simpa [Made, ints] using this, HB6.out⟩
                case measure => simp [intOf]; omega
            · have e4 : ((k : Int) == (t.out.length : Int) - 1) = false := by simp; omega
              have HK1 := Lib.hid hk1
              clear hk1
              have HA := Lib.hid (splN_yes HF.out (by rw [HGO.out _ HH.out]; simp [H3.out, HK1.out]))
              go_wp2_with (at_builtin; refine wpList_append_own _ rfl _ _ 26 rfl (w.heap.size + 1) 3 i0 _ 1 8 Try.underlying26 hi0' hz0 hz1 hz2 rfl (by omega) _ (splN t zs k).length (ints (splN t zs k)) rfl (HM2.out.alloc _) ⟨w2.heap.size, 0, none⟩ 1 1 [.int .i64 f.to] rfl rfl (one_new _ _ _) (by intro u hu; simp at hu; subst hu; rfl) (by unfold maxLen; omega) (by omega) (by simp; omega) ?_; intro v' w6 hown6 hg6 _)
              have HB6 := Lib.hid ((HB2.out.alloc (by omega) _).grown hg6 (by simp; omega) (fun k hk => Made.own HM2.out hk))
              have HO6 := Lib.hid hown6
              clear hown6 hg6
              go_wp2
              go_roundw
              case rel => exact ⟨k + 1, by omega, by go_num, by have := HO6.out; rw [HA.out]; simpa [Made, ints] using this, HB6.out⟩
              case measure => simp [intOf]; omega
          · have e3 : (t.split == 3) = false := by simpa using h3'
            have H3 := Lib.hid h3'
            clear h3'
            have HA := Lib.hid (splN_yes HF.out (by rw [HGO.out _ HH.out]; simp [H2.out, H3.out]))
            go_wp2_with (at_builtin; refine wpList_append_own _ rfl _ _ 26 rfl (w.heap.size + 1) 3 i0 _ 1 8 Try.underlying26 hi0' hz0 hz1 hz2 rfl (by omega) _ (splN t zs k).length (ints (splN t zs k)) rfl (HM2.out.alloc _) ⟨w2.heap.size, 0, none⟩ 1 1 [.int .i64 f.to] rfl rfl (one_new _ _ _) (by intro u hu; simp at hu; subst hu; rfl) (by unfold maxLen; omega) (by omega) (by simp; omega) ?_; intro v' w6 hown6 hg6 _)
            have HB6 := Lib.hid ((HB2.out.alloc (by omega) _).grown hg6 (by simp; omega) (fun k hk => Made.own HM2.out hk))
            have HO6 := Lib.hid hown6
            clear hown6 hg6
            go_wp2
            go_roundw
            case rel => exact ⟨k + 1, by omega, by go_num, by have := HO6.out; rw [HA.out]; simpa [Made, ints] using this, HB6.out⟩
            case measure => simp [intOf]; omega
      · have hh' : holdsB ⟨f.op, f.var, f.k⟩ zs = false := by simpa using hh
        have HH := Lib.hid hh'
        rw [hh']
        clear hh hh'
        have HA := Lib.hid (splN_no HF.out (by rw [HGO.out _ HH.out]; rfl))
        go_wp2
        go_roundw
        case rel => exact ⟨k + 1, by omega, by go_num, by rw [HA.out]; exact HM2.out, HB2.out⟩
        case measure => simp [intOf]; omega
    · have hkl : k = t.out.length := by omega
      have HKL := Lib.hid hkl
      have HM := Lib.hid hM
      clear hkl hb hRr hM
      go_wp2
      go_ret
      exact ⟨_, rfl, by rw [splL, ← HKL.out]; exact HM.out.base (by omega), HB.out.trans (HBr.out.mono (by omega))⟩

set_option maxRecDepth 10000 in
set_option maxHeartbeats 2000000 in
theorem specSplTo_c (t : NTask) (vi vo vc : Value) (zs : List Int) (lo0 hi0 lo hi : Nat) (A1 : Option Addr) (b1 off1 c1 : Nat) (w : World) (hT : TaskV w lo0 hi0 t vi vo vc) (hhi0 : hi0 ≤ w.heap.size) (hm : t.out.length ≤ 1048576) (hV : Row w lo hi A1 b1 off1 (ints zs)) (hhi : hi ≤ w.heap.size) (hm1 : zs.length ≤ maxLen) :
    Calls Try.prog 47 #[.agg #[.int .i64 t.join, .int .i64 t.split, vi, vo, vc, .int .i64 t.role, .int .i64 t.apart, .int .i64 t.all, .int .i64 t.need], .slice A1 zs.length c1] w fun e w' => ∃ v', e = .returned v' ∧ Made w' w.heap.size 3 (splL t zs) v' ∧ Below w.heap.size w w' := by
  obtain ⟨i0, hi0', hz0, hz1, hz2⟩ := info_parts Try.info3
  obtain ⟨A2, q1, A3, q2, A4, q3, rfl, rfl, rfl⟩ := hT.forms
  obtain ⟨_, b3, o3, _, e3, hmo, hRo⟩ := hT.out
  cases e3
  generalize hob : Obj.cells #[.int .i64 t.join, .int .i64 t.split, .slice A2 t.ins.length q1, .slice A3 t.out.length q2, .slice A4 t.clear.length q3, .int .i64 t.role, .int .i64 t.apart, .int .i64 t.all, .int .i64 t.need] 36 = ob
  have hR := (Row.newAt w #[.int .i64 t.join, .int .i64 t.split, .slice A2 t.ins.length q1, .slice A3 t.out.length q2, .slice A4 t.clear.length q3, .int .i64 t.role, .int .i64 t.apart, .int .i64 t.all, .int .i64 t.need] 36 _ rfl)
  rw [hob] at hR
  have HR := Lib.hid hR
  have HB := Lib.hid ((Below.refl w.heap.size w).alloc (Nat.le_refl _) ob)
  have HRo := Lib.hid (hRo.alloc hhi0 ob)
  have HV := Lib.hid (hV.alloc hhi ob)
  have HM1 := Lib.hid hm1
  have HO := Lib.hid hob
  clear hR hT hV hob hRo hm1 hmo
  go_enter Try.func47, Try.ntmps47
  go_wp2
  rw [HO.out]
  go_loopw [5, 6] (fun v i wr => ∃ k : Nat, k ≤ t.out.length ∧ i = .int .i64 k ∧ (t.split = 2 → (splN t zs k).length = 0) ∧ Made wr (w.heap.size + 1) 3 (splN t zs k) v ∧ Below (w.heap.size + 1) (w.alloc ob) wr) (fun _ i _ => t.out.length - (intOf i).toNat)
  case atStart => exact ⟨0, Nat.zero_le _, rfl, fun _ => rfl, by have := own_lit0 (w.alloc ob) 3; simpa [Made, splN] using this, (Below.refl _ _).alloc (by simp) _⟩
  case round =>
    obtain ⟨k, hk, rfl, hsp, hM, hb⟩ := hrel
    have hzr : w.heap.size + 1 ≤ wr.heap.size := by simpa using hb.size
    have hlenk := splN_len t zs k
    have HSP := Lib.hid hsp
    have HBr := Lib.hid hb
    have hRr := HR.out.below hb (by simp)
    have s1 := (hRr.cell (j := 1) rfl).1
    have s3 := (hRr.cell (j := 3) rfl).1
    clear hsp
    by_cases hlt : k < t.out.length
    · have hlt1 : (k : Int) < (t.out.length : Int) := by omega
      obtain ⟨rfl, _, h3, f, hf, ⟨f0, f1, f2, f3⟩, _⟩ := HRo.out.flow hlt
      have HF0 := Lib.hid f0
      replace f0 := (hb.cell (p := ⟨b3, o3 + k * 4, none⟩) (by show b3 < _; omega)).trans f0
      replace f1 := (hb.cell (p := ⟨b3, o3 + k * 4 + 1, none⟩) (by show b3 < _; omega)).trans f1
      replace f2 := (hb.cell (p := ⟨b3, o3 + k * 4 + 2, none⟩) (by show b3 < _; omega)).trans f2
      replace f3 := (hb.cell (p := ⟨b3, o3 + k * 4 + 3, none⟩) (by show b3 < _; omega)).trans f3
      have HF := Lib.hid hf
      have HC := Lib.hid (specExpHolds_c f.op f.var f.k zs lo hi A1 b1 off1 c1 wr (HV.out.below hb (by omega)) (by omega) HM1.out)
      have HMr := Lib.hid hM
      obtain ⟨A9, b9, c9, hv9, hrow9⟩ := hM.row
      subst hv9
      clear hM hb hRr hf hrow9
      go_wp2_with fail
      refine HC.out.mono ?_
      rintro e w2 ⟨rfl, hb2⟩
      have hz2' : wr.heap.size ≤ w2.heap.size := hb2.size
      have hb02 := HBr.out.trans (hb2.mono hzr)
      clear s1 s3
      have s1 := ((HR.out.below hb02 (by simp)).cell (j := 1) rfl).1
      have s3 := ((HR.out.below hb02 (by simp)).cell (j := 3) rfl).1
      have f0' := (hb02.cell (p := ⟨b3, o3 + k * 4, none⟩) (by show b3 < _; omega)).trans HF0.out
      have HM2 := Lib.hid (HMr.out.below hb2 (Nat.le_refl _))
      have HB2 := Lib.hid hb02
      clear hb2 hb02 HC f0 f1 f2 f3
      have hgo := fun b : Bool => show holdsB ⟨f.op, f.var, f.k⟩ zs = b → goesTo t zs k f (splN t zs k).length = (b && (!(decide (t.split = 2) && decide (0 < (splN t zs k).length)) && !(decide (t.split = 3) && (decide (k + 1 = t.out.length) && decide (0 < (splN t zs k).length))))) from fun h => by rw [goesTo, h]
      have HGO := Lib.hid hgo
      clear hgo
      by_cases hh : holdsB ⟨f.op, f.var, f.k⟩ zs = true
      · have HH := Lib.hid hh
        rw [hh]
        clear hh
        by_cases h2 : t.split = 2
        · have e2 : (t.split == 2) = true := by simpa using h2
          have e3 : (t.split == 3) = false := by simp; omega
          have e3' : (t.split != 3) = true := by simp; omega
          have H2 := Lib.hid h2
          have HL0 := Lib.hid (HSP.out h2)
          clear h2
          have HA := Lib.hid (splN_yes HF.out (by rw [HGO.out _ HH.out]; simp [H2.out, HL0.out]))
          go_wp2_with (at_builtin; refine wpList_append_own _ rfl _ _ 26 rfl (w.heap.size + 1) 3 i0 _ 1 8 Try.underlying26 hi0' hz0 hz1 hz2 rfl (by omega) _ (splN t zs k).length (ints (splN t zs k)) rfl (HM2.out.alloc _) ⟨w2.heap.size, 0, none⟩ 1 1 [.int .i64 f.to] rfl rfl (one_new _ _ _) (by intro u hu; simp at hu; subst hu; rfl) (by unfold maxLen; omega) (by omega) (by simp; omega) ?_; intro v' w6 hown6 hg6 _; have hb6 := (HB2.out.alloc (by omega) (.cells #[.int .i64 f.to] 3)).grown hg6 (by simp; omega) (fun k hk => Made.own HM2.out hk); have HB6 := Lib.hid hb6; replace s1 := ((HR.out.below hb6 (by simp)).cell (j := 1) rfl).1; replace s3 := ((HR.out.below hb6 (by simp)).cell (j := 3) rfl).1; have HO6 := Lib.hid hown6; clear hown6 hg6 hb6)
          go_wp2
          go_ret
          refine ⟨_, rfl, ?_, HB.out.trans (HB6.out.mono (by omega))⟩
          have hfin : splL t zs = splN t zs (k + 1) := by
            rw [splL, show t.out.length = (k + 1) + (t.out.length - (k + 1)) by omega]
            exact splN_stay H2.out (by rw [HA.out]; simp) _
          have := HO6.out
          rw [hfin, HA.out]
          exact Made.base (base := w.heap.size + 1) (by simpa [Made, ints] using this) (by omega)
        · have e2 : (t.split == 2) = false := by simpa using h2
          have H2 := Lib.hid h2
          clear h2
          by_cases h3' : t.split = 3
          · have e3 : (t.split == 3) = true := by simpa using h3'
            have e3' : (t.split != 3) = false := by simpa using h3'
            have H3 := Lib.hid h3'
            clear h3'
            by_cases hk1 : k + 1 = t.out.length
            · have e4 : ¬ ((k : Int) < (t.out.length : Int) - 1) := by omega
              have HK1 := Lib.hid hk1
              clear hk1
              by_cases hl : 0 < (splN t zs k).length
              · have hl1 : (((splN t zs k).length : Int) == 0) = false := by simp; intro h; rw [h] at hl; simp at hl
                have HL := Lib.hid hl
                clear hl
                have HA := Lib.hid (splN_no HF.out (by rw [HGO.out _ HH.out]; simp [H3.out, HL.out, HK1.out]))
                go_wp2
                go_roundw
                case rel => exact ⟨k + 1, by omega, by go_num, fun h => absurd h H2.out, by rw [HA.out]; exact HM2.out, HB2.out⟩
                case measure => simp [intOf]; omega
              · have hl1 : (((splN t zs k).length : Int) == 0) = true := by simp; exact List.eq_nil_of_length_eq_zero (by omega)
                have HL := Lib.hid hl
                clear hl
                have HA := Lib.hid (splN_yes HF.out (by rw [HGO.out _ HH.out]; simp [H3.out, HL.out]))
                go_wp2_with (at_builtin; refine wpList_append_own _ rfl _ _ 26 rfl (w.heap.size + 1) 3 i0 _ 1 8 Try.underlying26 hi0' hz0 hz1 hz2 rfl (by omega) _ (splN t zs k).length (ints (splN t zs k)) rfl (HM2.out.alloc _) ⟨w2.heap.size, 0, none⟩ 1 1 [.int .i64 f.to] rfl rfl (one_new _ _ _) (by intro u hu; simp at hu; subst hu; rfl) (by unfold maxLen; omega) (by omega) (by simp; omega) ?_; intro v' w6 hown6 hg6 _; have hb6 := (HB2.out.alloc (by omega) (.cells #[.int .i64 f.to] 3)).grown hg6 (by simp; omega) (fun k hk => Made.own HM2.out hk); have HB6 := Lib.hid hb6; replace s1 := ((HR.out.below hb6 (by simp)).cell (j := 1) rfl).1; replace s3 := ((HR.out.below hb6 (by simp)).cell (j := 3) rfl).1; have HO6 := Lib.hid hown6; clear hown6 hg6 hb6)
                go_wp2
                go_roundw
                case rel => exact ⟨k + 1, by omega, by go_num, fun h => absurd h H2.out, by have := HO6.out; rw [HA.out]; simpa [Made, ints] using this, HB6.out⟩
                case measure => simp [intOf]; omega
            · have e4 : (k : Int) < (t.out.length : Int) - 1 := by omega
              have HK1 := Lib.hid hk1
              clear hk1
              have HA := Lib.hid (splN_yes HF.out (by rw [HGO.out _ HH.out]; simp [H3.out, HK1.out]))
              go_wp2_with (at_builtin; refine wpList_append_own _ rfl _ _ 26 rfl (w.heap.size + 1) 3 i0 _ 1 8 Try.underlying26 hi0' hz0 hz1 hz2 rfl (by omega) _ (splN t zs k).length (ints (splN t zs k)) rfl (HM2.out.alloc _) ⟨w2.heap.size, 0, none⟩ 1 1 [.int .i64 f.to] rfl rfl (one_new _ _ _) (by intro u hu; simp at hu; subst hu; rfl) (by unfold maxLen; omega) (by omega) (by simp; omega) ?_; intro v' w6 hown6 hg6 _; have hb6 := (HB2.out.alloc (by omega) (.cells #[.int .i64 f.to] 3)).grown hg6 (by simp; omega) (fun k hk => Made.own HM2.out hk); have HB6 := Lib.hid hb6; replace s1 := ((HR.out.below hb6 (by simp)).cell (j := 1) rfl).1; replace s3 := ((HR.out.below hb6 (by simp)).cell (j := 3) rfl).1; have HO6 := Lib.hid hown6; clear hown6 hg6 hb6)
              go_wp2
              go_roundw
              case rel => exact ⟨k + 1, by omega, by go_num, fun h => absurd h H2.out, by have := HO6.out; rw [HA.out]; simpa [Made, ints] using this, HB6.out⟩
              case measure => simp [intOf]; omega
          · have e3 : (t.split == 3) = false := by simpa using h3'
            have e3' : (t.split != 3) = true := by simpa using h3'
            have H3 := Lib.hid h3'
            clear h3'
            have HA := Lib.hid (splN_yes HF.out (by rw [HGO.out _ HH.out]; simp [H2.out, H3.out]))
            go_wp2_with (at_builtin; refine wpList_append_own _ rfl _ _ 26 rfl (w.heap.size + 1) 3 i0 _ 1 8 Try.underlying26 hi0' hz0 hz1 hz2 rfl (by omega) _ (splN t zs k).length (ints (splN t zs k)) rfl (HM2.out.alloc _) ⟨w2.heap.size, 0, none⟩ 1 1 [.int .i64 f.to] rfl rfl (one_new _ _ _) (by intro u hu; simp at hu; subst hu; rfl) (by unfold maxLen; omega) (by omega) (by simp; omega) ?_; intro v' w6 hown6 hg6 _; have hb6 := (HB2.out.alloc (by omega) (.cells #[.int .i64 f.to] 3)).grown hg6 (by simp; omega) (fun k hk => Made.own HM2.out hk); have HB6 := Lib.hid hb6; replace s1 := ((HR.out.below hb6 (by simp)).cell (j := 1) rfl).1; replace s3 := ((HR.out.below hb6 (by simp)).cell (j := 3) rfl).1; have HO6 := Lib.hid hown6; clear hown6 hg6 hb6)
            go_wp2
            go_roundw
            case rel => exact ⟨k + 1, by omega, by go_num, fun h => absurd h H2.out, by have := HO6.out; rw [HA.out]; simpa [Made, ints] using this, HB6.out⟩
            case measure => simp [intOf]; omega
      · have hh' : holdsB ⟨f.op, f.var, f.k⟩ zs = false := by simpa using hh
        have HH := Lib.hid hh'
        rw [hh']
        clear hh hh'
        have HA := Lib.hid (splN_no HF.out (by rw [HGO.out _ HH.out]; rfl))
        go_wp2
        go_roundw
        case rel => exact ⟨k + 1, by omega, by go_num, fun h => by rw [HA.out]; exact HSP.out h, by rw [HA.out]; exact HM2.out, HB2.out⟩
        case measure => simp [intOf]; omega
    · have hkl : k = t.out.length := by omega
      have hlt1 : ¬ ((k : Int) < (t.out.length : Int)) := by omega
      have HKL := Lib.hid hkl
      have HM := Lib.hid hM
      clear hkl hb hRr hM
      go_wp2
      go_ret
      exact ⟨_, rfl, by rw [splL, ← HKL.out]; exact HM.out.base (by omega), HB.out.trans (HBr.out.mono (by omega))⟩
end Go.Proofs.Ytkcbghaadjhceaa
