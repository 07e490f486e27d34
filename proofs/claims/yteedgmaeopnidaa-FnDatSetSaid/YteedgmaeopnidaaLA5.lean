/- A law over what is drawn of a code: data with one datum turned. -/
import Derived.Test.YteedgmaeopnidaaDraw5
import Derived.Test.YteedgmaeopnidaaInts
import Derived.BigQuiet
import Derived.Deep.DeepCutAuto
namespace Go.Proofs.Yteedgmaeopnidaa
open Go.RowKit
set_option linter.unusedVariables false
set_option linter.unusedSimpArgs false

def fitsB (ys : List Int) (k n : Int) : Bool := datOk ys && inB k 0 2 && datumB n
theorem datSet_len (ys : List Int) (k n : Int) : (datSet ys k n).length = ys.length := by unfold datSet; split <;> simp
theorem datSet_at {ys : List Int} {k n : Int} {j : Nat} (hf : fitsB ys k n = true) (hj : (j : Int) = k) (hl : j < ys.length) : (datSet ys k n)[j]? = some n := by
  unfold fitsB at hf
  unfold datSet
  rw [if_pos hf, ← hj]
  simp [hl]
theorem datSet_far {ys : List Int} {k n : Int} {j : Nat} (h : ¬ (fitsB ys k n = true ∧ (j : Int) = k)) : (datSet ys k n)[j]? = ys[j]? := by
  unfold datSet
  by_cases hf : (datOk ys && inB k 0 2 && datumB n) = true
  · rw [if_pos hf]
    have hk : 0 ≤ k := by
      rw [Bool.and_eq_true, Bool.and_eq_true, inB_iff] at hf; omega
    rw [List.getElem?_set, if_neg]
    intro e
    exact h ⟨hf, by omega⟩
  · rw [if_neg hf]

set_option maxRecDepth 100000 in
set_option maxHeartbeats 4000000 in
theorem datSet_walk {zs : List Int} {A : Option Addr} {b off c : Nat} (w : World) (hV : Row w 0 w.heap.size A b off (bytesC zs)) (hz : ∀ x ∈ zs, 0 ≤ x ∧ x ≤ 255) (hm : zs.length ≤ maxLen) (hcap : zs.length ≤ c) :
    Calls Try.prog 3 #[.slice A zs.length c] w fun e w' => e = .returned (.bool true) ∧ Below w.heap.size w w' := by
  have hm0 := hm
  have HZ := Lib.hid hz
  clear hz
  unfold maxLen at hm
  go_enter Try.func3, Try.ntmps3
  by_cases hbig : 1048576 < zs.length
  · go_wp2; go_ret; exact ⟨rfl, Below.refl _ _⟩
  · go_wp2_with fail
    refine (drawDatSet_c zs A b off c w hV HZ.out hm0 hcap).mono ?_
    rintro e w1 ⟨vv, ys, k, n, rfl, hys, hk, hv, hb⟩
    obtain ⟨A1, b1, o1, c1, rfl, hc1, hrow⟩ := hv
    have HB1 := Lib.hid hb
    have hs1 := hb.size
    have HROW := Lib.hid hrow
    have hlen := datSet_len ys k n
    have HLEN := Lib.hid hlen
    clear hb hrow hlen
    go_wp2_with fail
    refine (implDatSet_c ys w.heap.size w1.heap.size A1 b1 o1 c1 k n w1 HROW.out (Nat.le_refl _) (by omega)).mono ?_
    rintro e w2 ⟨v2, rfl, hM2, hb2⟩
    have hs2 := hb2.size
    have HB2 := Lib.hid hb2
    obtain ⟨A2, b2, c2, e2, hr2⟩ := hM2.row
    rw [HLEN.out] at e2
    subst e2
    have HR2 := Lib.hid hr2
    clear hM2 hb2 hr2
    go_wp2_with fail
    refine (specDatSet_c ys w.heap.size w1.heap.size A1 b1 o1 c1 k n w2 (HROW.out.below HB2.out (Nat.le_refl _)) (by omega) (by omega)).mono ?_
    rintro e w3 ⟨v3, rfl, hM3, hb3⟩
    have hs3 := hb3.size
    have HB3 := Lib.hid (HB2.out.trans (hb3.mono hs2))
    obtain ⟨A3, b3, c3, e3, hr3⟩ := hM3.row
    rw [HLEN.out] at e3
    subst e3
    have HR23 := Lib.hid (HR2.out.below hb3 (Nat.le_refl _))
    have HG := guInts_c (datSet ys k n) (datSet ys k n) _ _ _ _ A2 A3 b2 0 c2 b3 0 c3 w3 HR23.out hr3 (by rw [HLEN.out]; unfold maxLen; omega) (by rw [HLEN.out]; unfold maxLen; omega)
    rw [HLEN.out, decide_eq_true rfl] at HG
    have HG := Lib.hid HG
    clear hM3 hb3 hr3
    go_wp2_with fail
    refine HG.out.mono ?_
    rintro e w4 ⟨rfl, hb4⟩
    have hs4 := hb4.size
    have HB4 := Lib.hid (HB3.out.trans (hb4.mono (by omega)))
    have HR4 := Lib.hid (HR23.out.below hb4 (by omega))
    clear hb4 HG
    go_upto_region 7 with fail
    go_cut [7] (fun s7 wc => s7 = .bool (fitsB ys k n) ∧ wc = w4)
    case first =>
      have hdo := specDatOk_c ys w.heap.size w1.heap.size A1 b1 o1 c1 w4 (HROW.out.below HB4.out (Nat.le_refl _)) (by unfold maxLen; omega)
      by_cases f1 : datOk ys = true
      · have F1 := Lib.hid f1
        rw [f1] at hdo
        have HDO := Lib.hid hdo
        clear f1 hdo
        by_cases f2 : 0 ≤ k
        · by_cases f3 : k < 3
          · by_cases f4 : -99 ≤ n
            · by_cases f5 : n ≤ 99
              · go_wp2_with fail
                refine HDO.out.mono ?_
                rintro e w' ⟨rfl, rfl⟩
                go_wp2
                go_meet
                exact ⟨by rw [fitsB, F1.out, datumB, inB_iff.2 ⟨f4, f5⟩, inB_iff.2 ⟨f2, by omega⟩]; rfl, rfl⟩
              · go_wp2_with fail
                refine HDO.out.mono ?_
                rintro e w' ⟨rfl, rfl⟩
                go_wp2
                go_meet
                exact ⟨by rw [fitsB, F1.out, datumB, inB_false.2 (show ¬ (-99 ≤ n ∧ n ≤ 99) by omega)]; simp; omega, rfl⟩
            · go_wp2_with fail
              refine HDO.out.mono ?_
              rintro e w' ⟨rfl, rfl⟩
              go_wp2
              go_meet
              exact ⟨by rw [fitsB, F1.out, datumB, inB_false.2 (show ¬ (-99 ≤ n ∧ n ≤ 99) by omega)]; simp, rfl⟩
          · go_wp2_with fail
            refine HDO.out.mono ?_
            rintro e w' ⟨rfl, rfl⟩
            go_wp2
            go_meet
            exact ⟨by rw [fitsB, F1.out, inB_false.2 (show ¬ (0 ≤ k ∧ k ≤ 2) by omega)]; simp, rfl⟩
        · go_wp2_with fail
          refine HDO.out.mono ?_
          rintro e w' ⟨rfl, rfl⟩
          go_wp2
          go_meet
          exact ⟨by rw [fitsB, F1.out, inB_false.2 (show ¬ (0 ≤ k ∧ k ≤ 2) by omega)]; simp, rfl⟩
      · have f1' : datOk ys = false := by simpa using f1
        have F1 := Lib.hid f1'
        rw [f1'] at hdo
        have HDO := Lib.hid hdo
        clear f1 f1' hdo
        go_wp2_with fail
        refine HDO.out.mono ?_
        rintro e w' ⟨rfl, rfl⟩
        go_wp2
        go_meet
        exact ⟨by rw [fitsB, F1.out]; rfl, rfl⟩
    case rest =>
      obtain ⟨rfl, rfl⟩ := hcut
      generalize hfit : fitsB ys k n = fit
      have HFIT := Lib.hid hfit
      clear hfit
      go_wp2
      go_loopw [8] (fun i wr => ∃ j d : Nat, j ≤ ys.length ∧ i = .int .i64 j ∧ wr = wc.drewN d) (fun i _ => ys.length - (intOf i).toNat)
      case atStart => exact ⟨0, 0, Nat.zero_le _, rfl, rfl⟩
      case round =>
        obtain ⟨j, d, hj, rfl, hw⟩ := hrel
        have HW := Lib.hid hw
        clear hw
        by_cases hlt : j < ys.length
        · have hlt1 : (j : Int) < (ys.length : Int) := by omega
          obtain ⟨rfl, _, hbl1, y, hy, hcy, _⟩ := HROW.out.int hlt
          replace hcy : wr.cell? ⟨b1, o1 + j, none⟩ = some (.int .i64 y) := by rw [HW.out]; exact (HB4.out.cell (p := ⟨b1, o1 + j, none⟩) (by show b1 < _; omega)).trans hcy
          obtain ⟨rfl, _, _, x, hx, hcx, _⟩ := HR4.out.int (k := j) (by rw [HLEN.out]; exact hlt)
          replace hcx : wr.cell? ⟨b2, j, none⟩ = some (.int .i64 x) := by rw [HW.out]; rw [Nat.zero_add] at hcx; exact hcx
          have HX := Lib.hid hx
          have HY := Lib.hid hy
          clear hx hy
          by_cases hjk : (j : Int) = k
          · have e1 : ((j : Int) == k) = true := by simpa using hjk
            cases fit with
            | true =>
              have hxn : x = n := by
                have := HX.out.symm.trans (datSet_at HFIT.out hjk hlt)
                injection this
              subst hxn
              clear hjk
              go_wp2
              go_quiet (fail)
              go_wp2
              go_roundw
              case rel => exact ⟨j + 1, _, by omega, by go_num, by rw [HW.out, World.drewN_drewN]⟩
              case measure => simp [intOf]; omega
            | false =>
              have hxn : x = y := by
                have := HX.out.symm.trans ((datSet_far (fun h => by have := HFIT.out; rw [h.1] at this; cases this)).trans HY.out)
                injection this
              subst hxn
              clear hjk
              go_wp2
              go_quiet (fail)
              go_wp2
              go_roundw
              case rel => exact ⟨j + 1, _, by omega, by go_num, by rw [HW.out, World.drewN_drewN]⟩
              case measure => simp [intOf]; omega
          · have e1 : ((j : Int) == k) = false := by simpa using hjk
            have hxn : x = y := by
              have := HX.out.symm.trans ((datSet_far (fun h => hjk h.2)).trans HY.out)
              injection this
            subst hxn
            clear hjk
            cases fit with
            | true =>
              go_wp2
              go_quiet (fail)
              go_wp2
              go_roundw
              case rel => exact ⟨j + 1, _, by omega, by go_num, by rw [HW.out, World.drewN_drewN]⟩
              case measure => simp [intOf]; omega
            | false =>
              go_wp2
              go_quiet (fail)
              go_wp2
              go_roundw
              case rel => exact ⟨j + 1, _, by omega, by go_num, by rw [HW.out, World.drewN_drewN]⟩
              case measure => simp [intOf]; omega
        · have hlt1 : ¬ ((j : Int) < (ys.length : Int)) := by omega
          go_wp2_with fail
          refine (guOk_c wr).mono ?_
          rintro e w8 ⟨rfl, hb8⟩
          have HBw := Lib.hid (show Below w1.heap.size w1 wr by rw [HW.out]; exact below_drewN HB4.out d)
          have HB8 := Lib.hid (HB1.out.trans ((HBw.out.trans (hb8.mono HBw.out.size)).mono hs1))
          clear hb8
          go_wp2
          go_ret
          exact ⟨rfl, HB8.out⟩
end Go.Proofs.Yteedgmaeopnidaa
