/- A law over what is drawn of a code: all that can begin are told. -/
import Derived.Test.YtkcbghaadjhceaaDrawE
import Derived.Test.YtkcbghaadjhceaaEB
import Derived.Test.YtkcbghaadjhceaaReader
import Derived.BigQuiet
import Derived.Deep.DeepCutAuto
namespace Go.Proofs.Ytkcbghaadjhceaa
open Go.RowKit
set_option linter.unusedVariables false
set_option linter.unusedSimpArgs false

theorem ats_at {p : Nat → Bool} {j : Nat} (hp : p j = true) : ∀ (m : Nat), j < m → (atsN p m)[(atsN p j).length]? = some (j : Int)
  | 0, h => by omega
  | m + 1, h => by
    by_cases e : j = m
    · subst e
      rw [atsN_yes hp, List.getElem?_append_right (Nat.le_refl _), Nat.sub_self]; rfl
    · have ih := ats_at hp m (by omega)
      have hl := lt_of_some ih
      rw [atsN, List.getElem?_append_left hl]; exact ih

def cntT (p : Nat → Bool) (K : Nat) (t : Int) : Nat := (atsN p (min t.toNat K)).length
theorem cntT_no {p : Nat → Bool} {K : Nat} {t : Int} (h : 0 ≤ t → t < (K : Int) → p t.toNat = false) : cntT p K (t + 1) = cntT p K t := by
  unfold cntT
  by_cases h0 : 0 ≤ t
  · by_cases h1 : t < (K : Int)
    · rw [show min (t + 1).toNat K = min t.toNat K + 1 by omega, show min t.toNat K = t.toNat by omega, atsN_no (h h0 h1)]
    · rw [show min (t + 1).toNat K = min t.toNat K by omega]
  · rw [show min (t + 1).toNat K = min t.toNat K by omega]
theorem cntT_yes {p : Nat → Bool} {K : Nat} {t : Int} (h0 : 0 ≤ t) (h1 : t < (K : Int)) (h : p t.toNat = true) : cntT p K (t + 1) = cntT p K t + 1 ∧ (atsN p K)[cntT p K t]? = some t := by
  unfold cntT
  rw [show min (t + 1).toNat K = t.toNat + 1 by omega, show min t.toNat K = t.toNat by omega, atsN_yes h]
  refine ⟨by simp, ?_⟩
  rw [ats_at h K (by omega), show ((t.toNat : Nat) : Int) = t by omega]
theorem cntT_end (p : Nat → Bool) (K : Nat) : cntT p K ((K : Int) + 1) = (atsN p K).length := by
  unfold cntT; rw [show min ((K : Int) + 1).toNat K = K by omega]
theorem ena_in {n : NNet} {ys : List Int} {bs : List NItem} {x : Int} (h : enaB n ys bs x = true) : 0 ≤ x ∧ x < (n.tasks.length : Int) ∧ enaAt n ys bs x.toNat = true := by
  have h' := h
  rw [enaB, Bool.and_eq_true, Bool.and_eq_true, Bool.and_eq_true] at h
  have := inB_iff.1 h.2.2.1
  exact ⟨by omega, by omega, by unfold enaAt; rw [show ((x.toNat : Nat) : Int) = x by omega]; exact h'⟩

set_option maxRecDepth 100000 in
set_option maxHeartbeats 4000000 in
theorem enaTasks_walk {zs : List Int} {A : Option Addr} {b off c : Nat} (w : World) (hV : Row w 0 w.heap.size A b off (bytesC zs)) (hz : ∀ x ∈ zs, 0 ≤ x ∧ x ≤ 255) (hm : zs.length ≤ maxLen) (hcap : zs.length ≤ c) :
    Calls Try.prog 8 #[.slice A zs.length c] w fun e w' => e = .returned (.bool true) ∧ Below w.heap.size w w' := by
  have hm0 := hm
  have HZ := Lib.hid hz
  clear hz
  unfold maxLen at hm
  go_enter Try.func8, Try.ntmps8
  by_cases hbig : 1048576 < zs.length
  · go_wp2; go_ret; exact ⟨rfl, Below.refl _ _⟩
  · go_wp2_with fail
    refine (drawEnaTasks_c zs A b off c w hV HZ.out hm0 hcap).mono ?_
    rintro e w1 ⟨P, b1, k, c1, n, A9, b9, o9, c9, ys, Ai, bi, oi, ci, bs, rfl, hyl, hyc, hyb, hbl, hrow, hrowi, hg, hb⟩
    have HE1 := Lib.hid (EB.start hg hb hrow hrowi)
    have HSM := Lib.hid hg.1
    have HPK := Lib.hid (And.intro hg.2.1 hg.2.2.1)
    clear hg hb hrow hrowi hyb hyc
    generalize hBB : w1.heap.size = B at HE1
    have hym : ys.length ≤ maxLen := by unfold maxLen; omega
    have hbm : bs.length ≤ maxLen := by unfold maxLen; omega
    have hbg1 : decide ((1048576 : Int) < (zs.length : Int)) = false := decide_eq_false (by omega)
    have cA0 := HE1.out.cell0
    have cA1 := HE1.out.cell1
    go_wp2_with fail
    refine (HE1.out.implTasks HSM.out hym hbm).mono ?_
    rintro e w2 ⟨v2, rfl, hM2, hb2⟩
    have HE2 := Lib.hid (HE1.out.below hb2)
    obtain ⟨A3, b3, c3, rfl, hr3⟩ := hM2.row
    have HX2 := Lib.hid (hr3.more (Nat.zero_le _) (Nat.le_refl _))
    clear hb2 hM2 hr3 cA0 cA1
    have cB0 := HE2.out.cell0
    have cB1 := HE2.out.cell1
    go_wp2_with fail
    refine (HE2.out.specTasks HSM.out hym hbm).mono ?_
    rintro e w3 ⟨v3, rfl, hM3, hb3⟩
    have HE3 := Lib.hid (HE2.out.below hb3)
    have HX3 := Lib.hid (HX2.out.below hb3 (Nat.le_refl _))
    obtain ⟨A4, b4, c4, rfl, hr4⟩ := hM3.row
    have hxl := enaL_len n ys bs
    have hxm : (enaL n ys bs).length ≤ maxLen := by unfold maxLen; omega
    have HGB := guInts_c (enaL n ys bs) (enaL n ys bs) _ _ _ _ A3 A4 b3 0 c3 b4 0 c4 w3 HX3.out hr4 hxm hxm
    rw [decide_eq_true rfl] at HGB
    replace HGB := Lib.hid HGB
    have hs23 := hb3.size
    clear hb3 hM3 hr4 cB0 cB1
    go_wp2_with fail
    refine HGB.out.mono ?_
    rintro e w4 ⟨rfl, hb4⟩
    have HE4 := Lib.hid (HE3.out.below hb4)
    have HX4 := Lib.hid (HX3.out.below hb4 hs23)
    have hs34 := hb4.size
    clear hb4 HGB
    have cD0 := HE4.out.cell0
    have cD1 := HE4.out.cell1
    have hk6 : k ≤ 6 := by have := HSM.out.2.2.2.1; have := HPK.out.2; omega
    have HEL := Lib.hid (show enaL n ys bs = atsN (enaAt n ys bs) k by rw [enaL, HPK.out.2])
    have HCN := Lib.hid (fun (t : Int) (h : 0 ≤ t → t < (k : Int) → enaAt n ys bs t.toNat = false) => cntT_no h)
    have HCY := Lib.hid (fun (t : Int) (h0 : 0 ≤ t) (h1 : t < (k : Int)) (h : enaAt n ys bs t.toNat = true) => cntT_yes h0 h1 h)
    have HCE := Lib.hid (cntT_end (enaAt n ys bs) k)
    rw [← HEL.out] at HCY HCE
    generalize enaL n ys bs = L at *
    have HLK := Lib.hid (show ∀ t : Int, cntT (enaAt n ys bs) k t ≤ 6 from fun t => Nat.le_trans (enaAt_len (n := n) (zs := ys) (bs := bs) (k := min t.toNat k) (by rw [HPK.out.2]; omega)) (Nat.le_refl _))
    go_wp2
    clear cD0 cD1
    go_loopw [7, 8] (fun a i wr => ∃ t : Int, -1 ≤ t ∧ t ≤ (k : Int) + 1 ∧ i = .int .i64 t ∧ a = .int .i64 (cntT (enaAt n ys bs) k t : Nat) ∧ EB w B P b1 k c1 n A9 b9 o9 ys Ai bi oi bs wr ∧ Row wr 0 w2.heap.size A3 b3 0 (ints L) ∧ w2.heap.size ≤ wr.heap.size) (fun _ i _ => ((k : Int) + 1 - intOf i).toNat)
    case atStart => exact ⟨-1, by omega, by omega, rfl, rfl, HE4.out, HX4.out, by omega⟩
    case round =>
      obtain ⟨t, ht0, ht1, rfl, rfl, he, hx, hsr⟩ := hrel
      have HE := Lib.hid he
      have HX := Lib.hid hx
      have cE0 := HE.out.cell0
      have cE1 := HE.out.cell1
      clear he hx
      have hc6 := HLK.out t
      by_cases hlt : t ≤ (k : Int)
      · have hlt0 : decide (t ≤ (k : Int)) = true := decide_eq_true hlt
        go_wp2_with fail
        refine (HE.out.implCan HSM.out hym hbm t).mono ?_
        rintro e w5 ⟨rfl, hb5⟩
        have HE5 := Lib.hid (HE.out.below hb5)
        have HX5 := Lib.hid (HX.out.below hb5 hsr)
        have hs5 := hb5.size
        clear hb5 cE0 cE1
        generalize hcan : enaB n ys bs t = can
        cases can with
        | true =>
          obtain ⟨q0, q1, q2⟩ := ena_in hcan
          rw [HPK.out.2] at q1
          obtain ⟨hc1, hc2⟩ := HCY.out t q0 q1 q2
          have hcl := lt_of_some hc2
          have hcl1 : ¬ ((L.length : Int) ≤ (cntT (enaAt n ys bs) k t : Nat)) := by omega
          obtain ⟨rfl, _, _, z, hz, hcz, _⟩ := HX5.out.int hcl
          rw [Nat.zero_add] at hcz
          obtain rfl : z = t := by rw [hc2] at hz; injection hz with hz; exact hz.symm
          have HC1 := Lib.hid hc1
          clear hz hc1 hc2 hcan q2
          generalize hcn : cntT (enaAt n ys bs) k z = cn at *
          have hcl2 : (cn : Int) < (L.length : Int) := by omega
          have hcl3 : decide (L.length ≤ cn) = false := decide_eq_false (by omega)
          clear hcn
          go_wp2
          go_roundw
          case rel => exact ⟨z + 1, by omega, by omega, rfl, by rw [HC1.out]; go_num, HE5.out, HX5.out, by omega⟩
          case measure => simp [intOf]; omega
        | false =>
          have HC1 := Lib.hid (HCN.out t (fun h0 h1 => by unfold enaAt; rw [show ((t.toNat : Nat) : Int) = t by omega]; exact hcan))
          clear hcan
          go_wp2
          go_roundw
          case rel => exact ⟨t + 1, by omega, by omega, rfl, by rw [HC1.out], HE5.out, HX5.out, by omega⟩
          case measure => simp [intOf]; omega
      · obtain rfl : t = (k : Int) + 1 := by omega
        have hlt0 : decide ((k : Int) + 1 ≤ (k : Int)) = false := decide_eq_false hlt
        have hce := HCE.out
        rw [hce]
        clear hce
        have hll : ((L.length : Int) == (L.length : Int)) = true := by simp
        go_wp2_with fail
        refine (guOk_c wr).mono ?_
        rintro e wz ⟨rfl, hbk⟩
        have HBX := Lib.hid (HE.out.below hbk).bl
        clear hbk
        go_wp2
        go_ret
        exact ⟨rfl, HBX.out⟩
end Go.Proofs.Ytkcbghaadjhceaa
