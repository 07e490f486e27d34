/- A law over what is drawn of a code: with more marks who could begin can. -/
import Derived.Test.YtkcbghaadjhceaaDrawE
import Derived.Test.YtkcbghaadjhceaaEB
import Derived.Test.YtkcbghaadjhceaaMore
import Derived.Test.YtkcbghaadjhceaaReader
import Derived.BigQuiet
import Derived.Deep.DeepCutAuto
namespace Go.Proofs.Ytkcbghaadjhceaa
open Go.RowKit
set_option linter.unusedVariables false
set_option linter.unusedSimpArgs false

theorem few_inc {zs : List Int} (h : Few zs) {k : Nat} (h4 : zs.getD k 0 < 4) : Few (zs.set k (zs.getD k 0 + 1)) := by
  intro y hy
  rcases List.mem_or_eq_of_mem_set hy with h1 | h1
  · exact h y h1
  · have := few_getD h k; omega
theorem getD_inc (zs : List Int) (k p : Nat) : zs.getD p 0 ≤ (zs.set k (zs.getD k 0 + 1)).getD p 0 := by
  simp only [List.getD_eq_getElem?_getD, List.getElem?_set]
  by_cases h : k = p
  · subst h
    by_cases h2 : k < zs.length
    · simp [h2]; omega
    · simp [h2]
  · simp [h]
theorem more_inc (zs : List Int) (k : Nat) : moreB (zs.set k (zs.getD k 0 + 1)) zs = true := by
  refine moreB_true (by simp) fun j x y hx hy => ?_
  have := getD_inc zs k j
  rw [getD_of hx, getD_of hy] at this
  exact this
theorem more_self (zs : List Int) : moreB zs zs = true := moreB_true rfl fun j x y hx hy => by rw [hx] at hy; injection hy with hy; omega
/-- More marks: who can begin still can. -/
theorem ena_more {n : NNet} {ys : List Int} {bs : List NItem} {tn : Nat} {t : NTask} (ht : n.tasks[tn]? = some t) (hj : ¬ t.join = 3) (h : enaB n ys bs (tn : Int) = true) {k : Nat} (h4 : ys.getD k 0 < 4) : enaB n (ys.set k (ys.getD k 0 + 1)) bs (tn : Int) = true := by
  rw [enaB, Bool.and_eq_true, Bool.and_eq_true, Bool.and_eq_true] at h
  obtain ⟨h1, h2, h3, h5⟩ := h
  obtain ⟨m1, m2, m3⟩ := mrkOk_parts h1
  have hok : mrkOk n (ys.set k (ys.getD k 0 + 1)) = true := by
    rw [mrkOk, m1, marksB, Bool.true_and, Bool.and_eq_true, decide_eq_true_eq, List.all_eq_true]
    exact ⟨by simpa using m2, fun y hy => inB_iff.2 (few_inc m3 h4 y hy)⟩
  have htk := (netOk_parts m1).2.2.2.2 t (List.mem_of_getElem? ht)
  obtain ⟨hjj, _⟩ := taskOk_parts htk
  rw [inB_iff] at hjj
  have hc : canB n (ys.set k (ys.getD k 0 + 1)) bs (tn : Int) = true := by
    by_cases h1 : t.join = 1
    · rw [canB_1 ht h1] at h5 ⊢
      unfold allB at h5 ⊢
      rw [List.all_eq_true] at h5 ⊢
      intro x hx
      have := of_decide_eq_true (h5 x hx)
      have := getD_inc ys k x.toNat
      exact decide_eq_true (by omega)
    · rw [canB_2 ht (by omega)] at h5 ⊢
      unfold someB at h5 ⊢
      rw [List.any_eq_true] at h5 ⊢
      obtain ⟨x, hx, h6⟩ := h5
      have := of_decide_eq_true h6
      have := getD_inc ys k x.toNat
      exact ⟨x, hx, decide_eq_true (by omega)⟩
  rw [enaB, hok, h2, h3, hc]; rfl
theorem ena_parts {n : NNet} {ys : List Int} {bs : List NItem} {x : Int} (h : enaB n ys bs x = true) : mrkOk n ys = true ∧ 0 ≤ x ∧ x < (n.tasks.length : Int) := by
  rw [enaB, Bool.and_eq_true, Bool.and_eq_true, Bool.and_eq_true] at h
  have := inB_iff.1 h.2.2.1
  exact ⟨h.1, by omega, by omega⟩

set_option maxRecDepth 100000 in
set_option maxHeartbeats 4000000 in
theorem enaMore_walk {zs : List Int} {A : Option Addr} {b off c : Nat} (w : World) (hV : Row w 0 w.heap.size A b off (bytesC zs)) (hz : ∀ x ∈ zs, 0 ≤ x ∧ x ≤ 255) (hm : zs.length ≤ maxLen) (hcap : zs.length ≤ c) :
    Calls Try.prog 6 #[.slice A zs.length c] w fun e w' => e = .returned (.bool true) ∧ Below w.heap.size w w' := by
  have hm0 := hm
  have HZ := Lib.hid hz
  clear hz
  unfold maxLen at hm
  go_enter Try.func6, Try.ntmps6
  by_cases hbig : 1048576 < zs.length
  · go_wp2; go_ret; exact ⟨rfl, Below.refl _ _⟩
  · go_wp2_with fail
    refine (drawEnaCan_c zs A b off c w hV HZ.out hm0 hcap).mono ?_
    rintro e w1 ⟨P, b1, k, c1, n, A9, b9, o9, c9, ys, Ai, bi, oi, ci, bs, x, rfl, hyl, hyc, hyb, hbl, hx1, hx2, hrow, hrowi, hg, hb⟩
    have HE1 := Lib.hid (EB.start hg hb hrow hrowi)
    have HSM := Lib.hid hg.1
    have HPK := Lib.hid (And.intro hg.2.1 hg.2.2.1)
    clear hg hb hrow hrowi hyb hyc
    generalize hBB : w1.heap.size = B at HE1
    have hym : ys.length ≤ maxLen := by unfold maxLen; omega
    have hbm : bs.length ≤ maxLen := by unfold maxLen; omega
    have hbg1 : decide ((1048576 : Int) < (zs.length : Int)) = false := decide_eq_false (by omega)
    have cA0 := HE1.out.cell0
    have cA1 := HE1.out.cell1
    go_wp2_with fail
    refine (HE1.out.implCan HSM.out hym hbm x).mono ?_
    rintro e w2 ⟨rfl, hb2⟩
    have HE2 := Lib.hid (HE1.out.below hb2)
    clear hb2 cA0 cA1
    have cB0 := HE2.out.cell0
    have cB1 := HE2.out.cell1
    go_wp2_with fail
    refine (HE2.out.specCan HSM.out hym hbm x).mono ?_
    rintro e w3 ⟨rfl, hb3⟩
    have HE3 := Lib.hid (HE2.out.below hb3)
    clear hb3 cB0 cB1
    generalize hcan : enaB n ys bs x = can
    have HCAN := Lib.hid hcan
    clear hcan
    have hcc : (can != can) = false := by simp
    have cC0 := HE3.out.cell0
    have cC1 := HE3.out.cell1
    cases can with
    | false =>
      go_wp2_with fail
      refine (guOk_c _).mono ?_
      rintro e wz ⟨rfl, hbk⟩
      have HBX := Lib.hid (HE3.out.below hbk).bl
      clear hbk
      go_wp2
      go_ret
      exact ⟨rfl, HBX.out⟩
    | true =>
      obtain ⟨hok, hx0, hxk⟩ := ena_parts HCAN.out
      obtain ⟨tn, rfl⟩ := Int.eq_ofNat_of_zero_le hx0
      have hxk2 : (tn : Int) < (k : Int) := by rw [← HPK.out.2]; exact hxk
      have hxk3 : tn < k := by omega
      have HOK := Lib.hid hok
      clear hok hxk
      obtain ⟨t, A7, b7, o7, c7, _, _, _, _, _, _, _, _, ht, _, _, _, _, d0, _, _, _⟩ := HE3.out.nb.task (i := tn) (by rw [HPK.out.2]; exact hxk3)
      have HTT := Lib.hid ht
      clear ht
      by_cases hj : t.join = 3
      · have hj1 : (t.join == 3) = true := by simpa using hj
        clear hj
        go_wp2_with fail
        refine (guOk_c _).mono ?_
        rintro e wz ⟨rfl, hbk⟩
        have HBX := Lib.hid (HE3.out.below hbk).bl
        clear hbk
        go_wp2
        go_ret
        exact ⟨rfl, HBX.out⟩
      · have hj1 : (t.join == 3) = false := by simpa using hj
        have HJ := Lib.hid hj
        clear hj
        have hPN : (ys.length : Int) = n.places := (mrkOk_parts HOK.out).2.1
        have hp2 := (netOk_parts (mrkOk_parts HOK.out).1).1
        have hyl0 : 0 < ys.length := by omega
        have hfew := (mrkOk_parts HOK.out).2.2
        have HFEW := Lib.hid hfew
        clear hPN hp2 hfew
        obtain ⟨i0, hi0, hz0, hz1, hz2⟩ := info_parts Try.info3
        have hs3 := HE3.out.lt
        have hkk := Nat.mod_lt zs.length hyl0
        have hm1 : (zs.length : Int) % (ys.length : Int) = ((zs.length % ys.length : Nat) : Int) := by simp
        have hm2 : (zs.length : Int).tmod (ys.length : Int) = ((zs.length % ys.length : Nat) : Int) := by rw [Int.tmod_eq_emod_of_nonneg (by omega)]; exact hm1
        generalize zs.length % ys.length = kk at hkk hm1 hm2
        have hkk1 : (kk : Int) < (ys.length : Int) := by omega
        have hyz : ((ys.length : Int) == 0) = false := by rw [beq_eq_false_iff_ne]; omega
        have hyz2 : ¬ ((ys.length : Int) = 0) := by omega
        have hfy := few_getD HFEW.out kk
        generalize hyk : ys.getD kk 0 = y at hfy
        have HYK := Lib.hid hyk
        obtain ⟨hy0, hy4⟩ := hfy
        clear hyk
        have HL := Lib.hid (own_lit0I w3 w3.heap.size 3 (Nat.le_refl _))
        by_cases hlt : y < 4
        · have hlt1 : decide (y < 4) = true := decide_eq_true hlt
          go_wp2_with (first
            | (at_builtin; refine wpList_append_row rfl _ _ 26 rfl w3.heap.size 3 i0 _ 1 8 Try.underlying26 hi0 hz0 hz1 hz2 rfl (by omega) (.slice (some ⟨w3.heap.size, 0, none⟩) 0 0) 0 [] rfl HL.out _ _ A9 b9 o9 ys.length c9 (ints ys) rfl (by simp) (HE3.out.alloc _).ms (ints_one ys) (by unfold maxLen; omega) (by omega) (by simp) ?_; intro v' w4 hown hg; have HB4 := Lib.hid (((Below.refl w3.heap.size w3).alloc (Nat.le_refl _) (.cells #[] 3)).grown hg (by simp) (fun k hk => (World.ownsRow.lt HL.out k hk).1)); have hM : Made w4 w3.heap.size 3 ys v' := (by simpa [Made] using hown); clear hown hg; obtain ⟨g, c', rfl, hg1, hg2⟩ := hM.len hyl0; obtain ⟨e1, e2, e3⟩ := hM.at_ rfl (k := kk) hkk; rw [HYK.out] at e1; have HM := Lib.hid hM; have HE3X := Lib.hid e3; clear hM e3))
          have HXM := Lib.hid (HE3X.out (y + 1))
          have HMO := more_inc ys kk
          have hxl : (ys.set kk (y + 1)).length = ys.length := by simp
          have hena := ena_more HTT.out HJ.out HCAN.out (k := kk) (by rw [HYK.out]; exact hlt)
          rw [HYK.out] at HMO hena
          replace HMO := Lib.hid HMO
          have HENA := Lib.hid hena
          have HBW := Lib.hid (HB4.out.setCell (p := ⟨g, kk, none⟩) (by dsimp only; omega) (.int .i64 (y + 1)))
          clear hena e1 e2 HE3X
          generalize ys.set kk (y + 1) = xs at *
          generalize w4.setCell ⟨g, kk, none⟩ (.int .i64 (y + 1)) = wx at HXM HBW ⊢
          obtain ⟨Ax, bx, cx, ex, hrx⟩ := HXM.out.row
          injection ex with ex1 ex2 ex3
          subst ex1 ex3
          have HRX := Lib.hid hrx
          have HEW := Lib.hid (HE3.out.below HBW.out)
          have hxm : xs.length ≤ maxLen := by rw [hxl]; exact hym
          have HM9 := implMrkMore_c xs ys _ _ _ _ _ _ bx 0 c' b9 o9 c9 wx HRX.out HEW.out.ms hxm hym
          rw [HMO.out, hxl] at HM9
          replace HM9 := Lib.hid HM9
          have HXL := Lib.hid hxl
          clear hrx ex2 hxl
          go_wp2_with fail
          refine HM9.out.mono ?_
          rintro e wy ⟨rfl, hby⟩
          have HEY := Lib.hid (HEW.out.below hby)
          have HRY := Lib.hid (HRX.out.below hby (Nat.le_refl _))
          have hsy := hby.size
          clear hby
          have cY0 := HEY.out.cell0
          have cY1 := HEY.out.cell1
          have HC9 := implEnaCan_c n _ xs bs _ _ _ _ _ _ _ bx 0 c' Ai bi oi ci (tn : Int) wy HEY.out.nb.nv (Nat.le_of_lt HEY.out.lt) (small_out HSM.out) HRY.out hsy HEY.out.is (Nat.le_of_lt HEY.out.lt) hxm hbm
          rw [HENA.out, HXL.out] at HC9
          replace HC9 := Lib.hid HC9
          go_wp2_with fail
          refine HC9.out.mono ?_
          rintro e wz ⟨rfl, hbz⟩
          have HEZ := Lib.hid (HEY.out.below hbz).bl
          clear hbz
          go_wp2
          go_ret
          exact ⟨rfl, HEZ.out⟩
        · have hlt1 : decide (y < 4) = false := decide_eq_false hlt
          go_wp2_with (first
            | (at_builtin; refine wpList_append_row rfl _ _ 26 rfl w3.heap.size 3 i0 _ 1 8 Try.underlying26 hi0 hz0 hz1 hz2 rfl (by omega) (.slice (some ⟨w3.heap.size, 0, none⟩) 0 0) 0 [] rfl HL.out _ _ A9 b9 o9 ys.length c9 (ints ys) rfl (by simp) (HE3.out.alloc _).ms (ints_one ys) (by unfold maxLen; omega) (by omega) (by simp) ?_; intro v' w4 hown hg; have HB4 := Lib.hid (((Below.refl w3.heap.size w3).alloc (Nat.le_refl _) (.cells #[] 3)).grown hg (by simp) (fun k hk => (World.ownsRow.lt HL.out k hk).1)); have hM : Made w4 w3.heap.size 3 ys v' := (by simpa [Made] using hown); clear hown hg; obtain ⟨g, c', rfl, hg1, hg2⟩ := hM.len hyl0; obtain ⟨e1, e2, e3⟩ := hM.at_ rfl (k := kk) hkk; rw [HYK.out] at e1; have HM := Lib.hid hM; have HE3X := Lib.hid e3; clear hM e3))
          have HXM := HM
          have HMO := Lib.hid (more_self ys)
          have HENA := HCAN
          have HBW := HB4
          clear e1 e2
          obtain ⟨Ax, bx, cx, ex, hrx⟩ := HXM.out.row
          injection ex with ex1 ex2 ex3
          subst ex1 ex3
          have HRX := Lib.hid hrx
          have HEW := Lib.hid (HE3.out.below HBW.out)
          have hxm : ys.length ≤ maxLen := hym
          have HM9 := implMrkMore_c ys ys _ _ _ _ _ _ bx 0 c' b9 o9 c9 w4 HRX.out HEW.out.ms hxm hym
          rw [HMO.out] at HM9
          replace HM9 := Lib.hid HM9
          clear hrx ex2
          go_wp2_with fail
          refine HM9.out.mono ?_
          rintro e wy ⟨rfl, hby⟩
          have HEY := Lib.hid (HEW.out.below hby)
          have HRY := Lib.hid (HRX.out.below hby (Nat.le_refl _))
          have hsy := hby.size
          clear hby
          have cY0 := HEY.out.cell0
          have cY1 := HEY.out.cell1
          have HC9 := implEnaCan_c n _ ys bs _ _ _ _ _ _ _ bx 0 c' Ai bi oi ci (tn : Int) wy HEY.out.nb.nv (Nat.le_of_lt HEY.out.lt) (small_out HSM.out) HRY.out hsy HEY.out.is (Nat.le_of_lt HEY.out.lt) hxm hbm
          rw [HENA.out] at HC9
          replace HC9 := Lib.hid HC9
          go_wp2_with fail
          refine HC9.out.mono ?_
          rintro e wz ⟨rfl, hbz⟩
          have HEZ := Lib.hid (HEY.out.below hbz).bl
          clear hbz
          go_wp2
          go_ret
          exact ⟨rfl, HEZ.out⟩
end Go.Proofs.Ytkcbghaadjhceaa
