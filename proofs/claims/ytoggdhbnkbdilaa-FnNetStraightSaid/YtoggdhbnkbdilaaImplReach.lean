/- Which places can be come to from one: the program's worklist. -/
import Derived.Test.YtoggdhbnkbdilaaReachC
namespace Go.Proofs.Ytoggdhbnkbdilaa
open Go.RowKit
set_option linter.unusedVariables false
set_option linter.unusedSimpArgs false

theorem made_new {w w1 : World} {e : TypeId} {m pn g : Nat} (hg0 : w.heap.size = g) (hown : w1.ownsRow g e 1 (.slice (some ⟨w.heap.size, 0, none⟩) m m) m (madeCells (Value.bool false).cells (m * 1)).toList) (hg : w.grownBy w1 none) (hp : pn < m) :
    MadeB w1 g e (List.replicate m false) (.slice (some ⟨g, 0, none⟩) m m) ∧ Below g w w1 ∧ w1.cell? ⟨g, pn, none⟩ = some (.bool ((List.replicate m false).getD pn false)) ∧ w1.frozen? ⟨g, pn, none⟩ = false ∧ g < w1.heap.size ∧ g ≠ w1.heap.size := by
  subst hg0
  have hM : MadeB w1 w.heap.size e (List.replicate m false) (.slice (some ⟨w.heap.size, 0, none⟩) m m) := by
    unfold MadeB; rw [List.length_replicate, ← made_false]; exact hown
  obtain ⟨e1, e2, _⟩ := hM.at_ (by simp) (k := pn) (by simpa using hp)
  have h3 : w.heap.size < w1.heap.size := (hown.lt _ rfl).2
  exact ⟨hM, (Below.refl _ _).grown hg (Nat.le_refl _) (fun k hk => by cases hk), e1, e2, h3, Nat.ne_of_lt h3⟩

set_option maxRecDepth 10000 in
set_option maxHeartbeats 4000000 in
theorem implReach_c (n : NNet) (v : Value) (lo hi : Nat) (pn : Nat) (but : Int) (w : World) (hN : NetV w lo hi v n) (hhi : hi ≤ w.heap.size) (hok : netOk n = true) (hpl : (pn : Int) < n.places) :
    Calls Try.prog 63 #[v, .int .i64 (pn : Int), .int .i64 but] w fun e w' => ∃ v', e = .returned v' ∧ MadeB w' w.heap.size 4 (reachAll n but (single n.places.toNat (pn : Int))) v' ∧ Below w.heap.size w w' := by
  obtain ⟨i0, hi0, hz0, hz1, hz2⟩ := info_parts Try.infoB
  obtain ⟨p1, p2, p3, p4, p5⟩ := netOk_parts hok
  have EG := Lib.hid (entersF Try.func87 (by kernel_rfl) rfl : EntersF Try.prog 87)
  obtain ⟨A, b, off, c, ms, rfl, hm, hT⟩ := hN
  unfold maxLen at hm
  generalize hmm : n.places.toNat = m
  have hpm : (m : Int) = n.places := by omega
  have HPM := Lib.hid hpm
  have HMM := Lib.hid hmm
  have hm8 : m ≤ 8 := by omega
  have hplt : pn < m := by omega
  have hpi : (pn : Int) < (m : Int) := by omega
  have hbase : w.heap.size ≠ w.heap.size + 1 := by omega
  generalize hob : Obj.cells #[.int .i64 n.places, .slice A n.tasks.length c] 25 = ob
  have hR := (Row.newAt w #[.int .i64 n.places, .slice A n.tasks.length c] 25 _ rfl)
  rw [hob] at hR
  have HR := Lib.hid hR
  have HB := Lib.hid ((Below.refl w.heap.size w).alloc (Nat.le_refl _) ob)
  have HT := Lib.hid (hT.keep (w' := w.alloc ob) (fun g _ h => Below.heap_alloc w _ g (by omega)) (fun g _ h => Below.heap_alloc w _ g (by omega)))
  have HO := Lib.hid hob
  have HOK := Lib.hid hok
  clear hR hT hob hok p5 hpm hmm
  go_enter Try.func63, Try.ntmps63
  go_wp2_with (at_make; rw [HO.out]; refine wpList_make_full _ rfl (.tmp 14) (.tmp 14) 50 rfl (w.heap.size + 1) 4 i0 _ 1 Try.underlying50 hi0 hz0 hz1 .i64 .i64 _ _ m rfl rfl HPM.out.symm HPM.out.symm (by rw [hz2]; omega) (by unfold maxLen; omega) (by simp) ?_; intro w1 hown1 hg1; obtain ⟨hM1, hb1, e1, e2, hg2, hne1⟩ := made_new (pn := pn) (by simp) hown1 hg1 hplt; simp only [World.size_alloc]; have HM1 := Lib.hid hM1; have HB1 := Lib.hid hb1; clear hown1 hg1 hM1 hb1)
  generalize hW2 : ((w1.setCell ⟨w.heap.size + 1, pn, none⟩ (.bool true)).alloc (.cells #[.slice (some ⟨w.heap.size + 1, 0, none⟩) m m] 50)) = W2
  have hzW : W2.heap.size = w1.heap.size + 1 := by rw [← hW2]; simp [World.setCell]
  have HM2 : MadeB W2 (w.heap.size + 1) 4 (single m (pn : Int)) (.slice (some ⟨w.heap.size + 1, 0, none⟩) m m) := by
    rw [← hW2]; exact (HM1.out.at_ (by simp) (k := pn) (by simpa using hplt)).2.2.alloc _
  have HBX : W2.cell? ⟨w1.heap.size, 0, none⟩ = some (.slice (some ⟨w.heap.size + 1, 0, none⟩) m m) := by
    rw [← hW2, World.cell?_alloc_at _ _ _ _ (by simp [World.setCell])]; rfl
  have HB2 : Below (w.heap.size + 1) (w.alloc ob) W2 := by rw [← hW2]; exact (HB1.out.setCell (by show _ ≤ w.heap.size + 1; omega) _).alloc (by simp [World.setCell]; omega) _
  have HM2 := Lib.hid HM2
  have HBX := Lib.hid HBX
  have HB2 := Lib.hid HB2
  clear hW2 e1 e2
  go_loopw [8] (fun ch wr => ∃ (j : Nat) (cur : List Bool) (cb : Bool), ch = .bool cb ∧ cur = spread but n.tasks j (single m (pn : Int)) ∧ (cb = false → pass but n.tasks cur = cur) ∧ MadeB wr (w.heap.size + 1) 4 cur (.slice (some ⟨w.heap.size + 1, 0, none⟩) m m) ∧ Chg (w.heap.size + 1) (w.heap.size + 1 + 1) W2 wr) (fun ch wr => 2 * unlitW wr (w.heap.size + 1) m + flagOf ch)
  case atStart => exact ⟨0, _, true, rfl, rfl, (by intro h; cases h), HM2.out, Chg.refl _ _ _⟩
  case round =>
    obtain ⟨j, cur, cb, rfl, hcur, hfix, hM, hC⟩ := hrel
    obtain ⟨wo, rfl⟩ : ∃ wo, wo = wr := ⟨_, rfl⟩
    have hcl : cur.length = m := by rw [hcur, spread_length, single_length]
    have hun := unlitW_eq hM hcl
    have HUN := Lib.hid hun
    have HCUR := Lib.hid hcur
    have HFIX := Lib.hid hfix
    have HMo := Lib.hid hM
    have hbo := HB2.out.trans ((hC.below (Nat.le_refl _) (by omega)))
    have hzo : W2.heap.size ≤ wo.heap.size := hC.size
    have s1 := ((HR.out.below hbo (by simp)).cell (j := 1) rfl).1
    have HCo := Lib.hid hC
    have HBo := Lib.hid hbo
    have hbxo := (hC.cell (p := ⟨w1.heap.size, 0, none⟩) (by dsimp only; omega) (by dsimp only; omega)).trans HBX.out
    clear hcur hfix hM hC hbo hun
    cases cb with
    | true =>
      go_wp2
      go_loopw [8, 23] (fun ch i wr => ∃ (k : Nat) (cb : Bool), k ≤ n.tasks.length ∧ i = .int .i64 k ∧ ch = .bool cb ∧ Flag cur cb (passN but n.tasks k cur) ∧ MadeB wr (w.heap.size + 1) 4 (passN but n.tasks k cur) (.slice (some ⟨w.heap.size + 1, 0, none⟩) m m) ∧ Chg (w.heap.size + 1) (w.heap.size + 1 + 1) W2 wr) (fun _ i _ => n.tasks.length - (intOf i).toNat)
      case atStart => exact ⟨0, false, Nat.zero_le _, rfl, rfl, .inl ⟨rfl, rfl⟩, HMo.out, HCo.out⟩
      case round =>
        obtain ⟨k, cb, hk, rfl, rfl, hF, hM, hC⟩ := hrel
        obtain ⟨wp, rfl⟩ : ∃ wp, wp = wr := ⟨_, rfl⟩
        clear s1 hbxo
        generalize hcu : passN but n.tasks k cur = cu at hF hM
        have hcul : cu.length = m := by rw [← hcu, passN_length]; exact hcl
        have HCU := Lib.hid hcu
        have HF := Lib.hid hF
        have HMp := Lib.hid hM
        have HCp := Lib.hid hC
        have hbp := HB2.out.trans ((hC.below (Nat.le_refl _) (by omega)))
        have hzp : W2.heap.size ≤ wp.heap.size := hC.size
        have HBp := Lib.hid hbp
        have hbx := (hC.cell (p := ⟨w1.heap.size, 0, none⟩) (by dsimp only; omega) (by dsimp only; omega)).trans HBX.out
        clear hcu hF hM hC hbp
        by_cases hkt : k < n.tasks.length
        · have hkt1 : (k : Int) < (n.tasks.length : Int) := by omega
          obtain ⟨rfl, _, h3, t, vi, vo, vc, hx, _, hTV, ⟨c0, c1, c2, c3, c4, c5, c6, c7, c8⟩, _⟩ := HT.out.task hkt
          obtain ⟨A2, q1, A3, q2, A4, q3, rfl, rfl, rfl⟩ := hTV.forms
          obtain ⟨_, b2, o2, _, e2, hmi, hRi⟩ := hTV.ins
          cases e2
          obtain ⟨_, b3, o3, _, e3, hmo, hRo⟩ := hTV.out
          cases e3
          unfold maxLen at hmo
          replace c0 := (HBp.out.cell (p := ⟨b, off + k * 9, none⟩) (by show b < _; omega)).trans c0
          replace c1 := (HBp.out.cell (p := ⟨b, off + k * 9 + 1, none⟩) (by show b < _; omega)).trans c1
          replace c2 := (HBp.out.cell (p := ⟨b, off + k * 9 + 2, none⟩) (by show b < _; omega)).trans c2
          replace c3 := (HBp.out.cell (p := ⟨b, off + k * 9 + 3, none⟩) (by show b < _; omega)).trans c3
          replace c4 := (HBp.out.cell (p := ⟨b, off + k * 9 + 4, none⟩) (by show b < _; omega)).trans c4
          replace c5 := (HBp.out.cell (p := ⟨b, off + k * 9 + 5, none⟩) (by show b < _; omega)).trans c5
          replace c6 := (HBp.out.cell (p := ⟨b, off + k * 9 + 6, none⟩) (by show b < _; omega)).trans c6
          replace c7 := (HBp.out.cell (p := ⟨b, off + k * 9 + 7, none⟩) (by show b < _; omega)).trans c7
          replace c8 := (HBp.out.cell (p := ⟨b, off + k * 9 + 8, none⟩) (by show b < _; omega)).trans c8
          have HX := Lib.hid hx
          have HIN := Lib.hid (fun (x : Int) (hx' : x ∈ t.ins) => ins_bound HOK.out (List.mem_of_getElem? hx) hx')
          have HOUT := Lib.hid (fun (f : NFlow) (hf' : f ∈ t.out) => out_bound HOK.out (List.mem_of_getElem? hx) hf')
          have HRi := Lib.hid hRi
          have HRo := Lib.hid hRo
          have HMI := Lib.hid hmi
          clear hTV hx hRi hRo hmi
          by_cases hkb : (k : Int) = but
          · have hkb1 : ((k : Int) == but) = true := by simpa using hkb
            have HKB := Lib.hid hkb
            clear hkb
            go_wp2
            go_roundw
            case rel => exact ⟨k + 1, cb, by omega, by go_num, rfl, by rw [passN_succ HX.out, HCU.out, stepT, goes, decide_eq_true HKB.out]; exact HF.out, by rw [passN_succ HX.out, HCU.out, stepT, goes, decide_eq_true HKB.out]; exact HMp.out.alloc _, HCp.out.alloc _⟩
            case measure => simp [intOf]; omega
          · have hkb1 : ((k : Int) == but) = false := by simpa using hkb
            have HKB := Lib.hid hkb
            clear hkb
            have hw4 : (wp.alloc (.cells #[.int .i64 t.join, .int .i64 t.split, .slice A2 t.ins.length q1, .slice A3 t.out.length q2, .slice A4 t.clear.length q3, .int .i64 t.role, .int .i64 t.apart, .int .i64 t.all, .int .i64 t.need] 38)).heap.size = wp.heap.size + 1 := by simp
            have hR4 := Row.newAt wp #[.int .i64 t.join, .int .i64 t.split, .slice A2 t.ins.length q1, .slice A3 t.out.length q2, .slice A4 t.clear.length q3, .int .i64 t.role, .int .i64 t.apart, .int .i64 t.all, .int .i64 t.need] 38 _ rfl
            have HCC := Lib.hid (containsFuncIntOn_c t.ins lo hi A2 b2 o2 q1 87 #[.pointer (some ⟨w1.heap.size, 0, none⟩)] (bit cu) (wp.alloc (.cells #[.int .i64 t.join, .int .i64 t.split, .slice A2 t.ins.length q1, .slice A3 t.out.length q2, .slice A4 t.clear.length q3, .int .i64 t.role, .int .i64 t.apart, .int .i64 t.all, .int .i64 t.need] 38))
              ((HRi.out.below HBp.out (by omega)).alloc (by omega) _) (by omega) HMI.out
              (fun x W hx hb => by
                obtain ⟨hx0, hx1⟩ := HIN.out x hx
                obtain ⟨xn, rfl⟩ := Int.eq_ofNat_of_zero_le hx0
                exact reach1_c xn (w.heap.size + 1) w1.heap.size (w.heap.size + 1) m m cu W ((hb.cell (p := ⟨w1.heap.size, 0, none⟩) (by dsimp only; omega)).trans (((Below.refl wp.heap.size wp).alloc (Nat.le_refl _) _).cell (p := ⟨w1.heap.size, 0, none⟩) (by dsimp only; omega) |>.trans hbx)) ((HMp.out.alloc _).below hb (Nat.le_refl _)) hcul (by have := HPM.out; omega) (by omega)) EG.out)
            have HR4 := Lib.hid hR4
            clear hR4
            go_wp2_with fail
            refine HCC.out.mono ?_
            rintro e w5 ⟨rfl, hb5⟩
            have hz5 : wp.heap.size + 1 ≤ w5.heap.size := by rw [← hw4]; exact hb5.size
            have hC5 := (HCp.out.alloc (.cells #[.int .i64 t.join, .int .i64 t.split, .slice A2 t.ins.length q1, .slice A3 t.out.length q2, .slice A4 t.clear.length q3, .int .i64 t.role, .int .i64 t.apart, .int .i64 t.all, .int .i64 t.need] 38)).trans (Chg.of_below hb5)
            have HM5 := Lib.hid ((HMp.out.alloc _).below hb5 (Nat.le_refl _))
            have s3 := ((HR4.out.below hb5 (by simp)).cell (j := 3) rfl).1
            have HC5 := Lib.hid hC5
            clear hb5 hC5 hbx c0 c1 c2 c3 c4 c5 c6 c7 c8 HCC
            by_cases hany : t.ins.any (bit cu) = true
            · have HGG := Lib.hid (show goes but k t cu = true by rw [goes, hany, decide_eq_false HKB.out]; rfl)
              rw [hany]
              clear hany
              go_wp2
              go_loopw [8, 41] (fun ch i wr => ∃ (r : Nat) (cb : Bool), r ≤ t.out.length ∧ i = .int .i64 r ∧ ch = .bool cb ∧ Flag cur cb (light cu (t.out.take r)) ∧ MadeB wr (w.heap.size + 1) 4 (light cu (t.out.take r)) (.slice (some ⟨w.heap.size + 1, 0, none⟩) m m) ∧ Chg (w.heap.size + 1) (w.heap.size + 1 + 1) W2 wr) (fun _ i _ => t.out.length - (intOf i).toNat)
              case atStart => exact ⟨0, cb, Nat.zero_le _, rfl, rfl, HF.out, HM5.out, HC5.out⟩
              case round =>
                obtain ⟨r, cb, hr, rfl, rfl, hF, hM, hC⟩ := hrel
                obtain ⟨wz, rfl⟩ : ∃ wz, wz = wr := ⟨_, rfl⟩
                generalize hcv : light cu (t.out.take r) = cv at hF hM
                have hcvl : cv.length = m := by rw [← hcv, light_length]; exact hcul
                have HCV := Lib.hid hcv
                have HFv := Lib.hid hF
                have HMv := Lib.hid hM
                have HCv := Lib.hid hC
                have hbv := HB2.out.trans ((hC.below (Nat.le_refl _) (by omega)))
                have hzv : W2.heap.size ≤ wz.heap.size := hC.size
                have hbx := (hC.cell (p := ⟨w1.heap.size, 0, none⟩) (by dsimp only; omega) (by dsimp only; omega)).trans HBX.out
                have HBv := Lib.hid hbv
                clear hcv hF hM hC hbv s3
                by_cases hrt : r < t.out.length
                · have hrt1 : (r : Int) < (t.out.length : Int) := by omega
                  obtain ⟨rfl, _, h3', f, hf, ⟨f0, f1, f2, f3⟩, _⟩ := HRo.out.flow hrt
                  obtain ⟨hf0, hf1⟩ := HOUT.out f (List.mem_of_getElem? hf)
                  obtain ⟨fn, hfn⟩ := Int.eq_ofNat_of_zero_le (show 0 ≤ f.to by omega)
                  have hfn0 : fn < m := by have := HPM.out; omega
                  have hfn1 : (fn : Int) < (m : Int) := by omega
                  obtain ⟨e1, e2, e3⟩ := HMv.out.at_ hcvl (k := fn) (by omega)
                  have f0' := (HBv.out.cell (p := ⟨b3, o3 + r * 4, none⟩) (by show b3 < _; omega)).trans f0
                  have f1' := (HBv.out.cell (p := ⟨b3, o3 + r * 4 + 1, none⟩) (by show b3 < _; omega)).trans f1
                  have f2' := (HBv.out.cell (p := ⟨b3, o3 + r * 4 + 2, none⟩) (by show b3 < _; omega)).trans f2
                  have f3' := (HBv.out.cell (p := ⟨b3, o3 + r * 4 + 3, none⟩) (by show b3 < _; omega)).trans f3
                  rw [hfn] at f0'
                  have HSN := Lib.hid (light_snoc cu hf)
                  have HFN := Lib.hid hfn
                  have HE3 := Lib.hid e3
                  have HFS := Lib.hid (flag_step HFv.out (k := fn) (by omega))
                  generalize hy : cv.getD fn false = y at e1
                  have HY := Lib.hid hy
                  have hgz1 : w.heap.size + 1 ≠ wz.heap.size := by omega
                  have hgz2 : w1.heap.size ≠ wz.heap.size := by omega
                  have hgz3 : w1.heap.size < wz.heap.size := by omega
                  have hgz4 : w.heap.size + 1 < wz.heap.size := by omega
                  have hgz5 : b3 < wz.heap.size := by omega
                  have hgz6 : b3 ≠ wz.heap.size := by omega
                  have hgz7 : w.heap.size + 1 ≠ w1.heap.size := by omega
                  clear hf f0 f1 f2 f3 hf0 hf1 hfn e3 hy
                  cases cb with
                  | true =>
                    go_wp2
                    go_roundw
                    case rel => exact ⟨r + 1, _, by omega, by go_num, rfl, by rw [HSN.out, HCV.out, HFN.out]; have := HFS.out; rw [HY.out] at this; exact this, by rw [HSN.out, HCV.out, HFN.out]; exact HE3.out.alloc _, (HCv.out.setCell (by show _ ≤ w.heap.size + 1; omega) (by show w.heap.size + 1 < _; omega) _).alloc _⟩
                    case measure => simp [intOf]; omega
                  | false =>
                    go_wp2
                    go_roundw
                    case rel => exact ⟨r + 1, _, by omega, by go_num, rfl, by rw [HSN.out, HCV.out, HFN.out]; have := HFS.out; rw [HY.out] at this; exact this, by rw [HSN.out, HCV.out, HFN.out]; exact HE3.out.alloc _, (HCv.out.setCell (by show _ ≤ w.heap.size + 1; omega) (by show w.heap.size + 1 < _; omega) _).alloc _⟩
                    case measure => simp [intOf]; omega
                · have hrt1 : ¬ ((r : Int) < (t.out.length : Int)) := by omega
                  have hrl : r = t.out.length := by omega
                  have HRL := Lib.hid hrl
                  clear hrl
                  go_wp2
                  go_roundw
                  case rel =>
                    have hst : passN but n.tasks (k + 1) cur = cv := by rw [passN_succ HX.out, HCU.out, stepT, if_pos HGG.out, ← HCV.out, HRL.out, List.take_length]
                    exact ⟨k + 1, cb, by omega, by go_num, rfl, by rw [hst]; exact HFv.out, by rw [hst]; exact HMv.out, HCv.out⟩
                  case measure => simp [intOf]; omega
            · have hany' : t.ins.any (bit cu) = false := by simpa using hany
              have HGG := Lib.hid (show goes but k t cu = false by rw [goes, hany']; simp)
              rw [hany']
              clear hany hany'
              go_wp2
              go_roundw
              case rel =>
                have hst : passN but n.tasks (k + 1) cur = cu := by rw [passN_succ HX.out, HCU.out, stepT, HGG.out]; rfl
                exact ⟨k + 1, cb, by omega, by go_num, rfl, by rw [hst]; exact HF.out, by rw [hst]; exact HM5.out, HC5.out⟩
              case measure => simp [intOf]; omega
        · have hkt1 : ¬ ((k : Int) < (n.tasks.length : Int)) := by omega
          have hkl : k = n.tasks.length := by omega
          have HKL := Lib.hid hkl
          clear hkl
          go_wp2
          go_roundw
          case rel =>
            have hst : pass but n.tasks cur = cu := by rw [pass, ← HKL.out, HCU.out]
            refine ⟨j + 1, cu, cb, rfl, by rw [spread, ← HCUR.out, hst], fun h => ?_, HMp.out, HCp.out⟩
            rcases HF.out with ⟨_, e⟩ | ⟨e, _⟩
            · rw [e] at hst ⊢; exact hst
            · rw [h] at e; cases e
          case measure =>
            rw [HUN.out, unlitW_eq HMp.out hcul]
            rcases HF.out with ⟨rfl, rfl⟩ | ⟨rfl, h⟩
            · simp [flagOf]
            · simp [flagOf]; omega
    | false =>
      go_wp2
      go_ret
      refine ⟨.slice (some ⟨w.heap.size + 1, 0, none⟩) m m, rfl, ?_, HB.out.trans (HBo.out.mono (by omega))⟩
      have hfix := HFIX.out (by simp)
      rw [HCUR.out] at hfix
      have e : reachAll n but (single m (pn : Int)) = cur := by
        rw [reachAll, HMM.out, HCUR.out]
        exact (spread_done but n.tasks _ j m (by rw [single_length]; exact Nat.le_refl _) hfix).symm
      rw [e]; exact HMo.out.base (by omega)
end Go.Proofs.Ytoggdhbnkbdilaa
