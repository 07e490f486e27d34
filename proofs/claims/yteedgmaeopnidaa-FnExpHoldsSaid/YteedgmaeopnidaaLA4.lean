/- A law over what is drawn of a code: of each question one of three holds. -/
import Derived.Test.YteedgmaeopnidaaDraw4
import Derived.Test.YteedgmaeopnidaaHolds
import Derived.Test.YteedgmaeopnidaaSteps
import Derived.Test.YteedgmaeopnidaaNet
import Derived.BigQuiet
namespace Go.Proofs.Yteedgmaeopnidaa
open Go.RowKit
set_option linter.unusedVariables false
set_option linter.unusedSimpArgs false

def cntH (v k : Int) (ys : List Int) : Nat → Int
  | 0 => 0
  | i + 1 => cntH v k ys i + (if holdsB ⟨(i : Int) + 1, v, k⟩ ys then 1 else 0)
theorem askOk_each {o v k : Int} (h : askOk ⟨o, v, k⟩ = true) (h0 : o ≠ 0) (j : Int) (hj : 1 ≤ j ∧ j ≤ 3) : askOk ⟨j, v, k⟩ = true := by
  unfold askOk at h ⊢
  rw [if_neg h0, Bool.and_eq_true, Bool.and_eq_true] at h
  rw [if_neg (show ¬ (⟨j, v, k⟩ : Ask).op = 0 by show ¬ j = 0; omega), Bool.and_eq_true, Bool.and_eq_true]
  exact ⟨⟨inB_iff.2 hj, h.1.2⟩, h.2⟩
theorem cntH_one {o v k x : Int} {ys : List Int} (h : askOk ⟨o, v, k⟩ = true) (h0 : o ≠ 0) (hd : datOk ys = true) (hx : ys.getD v.toNat 0 = x) : cntH v k ys 3 = 1 := by
  have e1 := holdsB_1 (askOk_each h h0 1 (by omega)) hd hx
  have e2 := holdsB_2 (askOk_each h h0 2 (by omega)) hd hx
  have e3 := holdsB_3 (askOk_each h h0 3 (by omega)) hd hx
  show (0 + (if holdsB ⟨((0 : Nat) : Int) + 1, v, k⟩ ys then (1 : Int) else 0)) + (if holdsB ⟨((1 : Nat) : Int) + 1, v, k⟩ ys then (1 : Int) else 0) + (if holdsB ⟨((2 : Nat) : Int) + 1, v, k⟩ ys then (1 : Int) else 0) = 1
  rw [show ((0 : Nat) : Int) + 1 = 1 from rfl, show ((1 : Nat) : Int) + 1 = 2 from rfl, show ((2 : Nat) : Int) + 1 = 3 from rfl, ← e1, ← e2, ← e3]
  rcases Int.lt_trichotomy x k with h1 | h1 | h1
  · have : (x == k) = false := by simp; omega
    simp [h1, this, show ¬ k < x by omega]
  · subst h1; simp
  · have : (x == k) = false := by simp; omega
    simp [h1, this, show ¬ x < k by omega]
theorem holdsB_bad {o v k : Int} {ys : List Int} (h : (askOk ⟨o, v, k⟩ && datOk ys) = false) : holdsB ⟨o, v, k⟩ ys = false := by unfold holdsB; rw [h]; rfl
theorem holdsB_0 {v k : Int} {ys : List Int} (h : askOk ⟨0, v, k⟩ = true) (hd : datOk ys = true) : holdsB ⟨0, v, k⟩ ys = true := by unfold holdsB; rw [h, hd]; rfl
theorem cntH_range {v k : Int} {ys : List Int} : ∀ i : Nat, 0 ≤ cntH v k ys i ∧ cntH v k ys i ≤ (i : Int)
  | 0 => by simp [cntH]
  | i + 1 => by
    have := cntH_range (v := v) (k := k) (ys := ys) i
    rw [cntH]; split <;> omega

set_option maxRecDepth 100000 in
set_option maxHeartbeats 8000000 in
theorem expHolds_walk {zs : List Int} {A : Option Addr} {b off c : Nat} (w : World) (hV : Row w 0 w.heap.size A b off (bytesC zs)) (hz : ∀ x ∈ zs, 0 ≤ x ∧ x ≤ 255) (hm : zs.length ≤ maxLen) (hcap : zs.length ≤ c) :
    Calls Try.prog 4 #[.slice A zs.length c] w fun e w' => e = .returned (.bool true) ∧ Below w.heap.size w w' := by
  have hm0 := hm
  have HZ := Lib.hid hz
  clear hz
  unfold maxLen at hm
  go_enter Try.func4, Try.ntmps4
  by_cases hbig : 1048576 < zs.length
  · go_wp2; go_ret; exact ⟨rfl, Below.refl _ _⟩
  · go_wp2_with fail
    refine (drawExpHolds_c zs A b off c w hV HZ.out hm0 hcap).mono ?_
    rintro e w1 ⟨o, v, k, u, ys, rfl, hys, hv, hb⟩
    obtain ⟨A1, b1, o1, c1, rfl, hc1, hrow⟩ := hv
    have HB1 := Lib.hid hb
    have hs1 := hb.size
    generalize hob : Obj.cells #[.int .i64 o, .int .i64 v, .int .i64 k] 32 = ob
    have HO := Lib.hid hob
    have hR := Row.newAt w1 #[.int .i64 o, .int .i64 v, .int .i64 k] 32 _ rfl
    rw [hob] at hR
    have HR := Lib.hid hR
    have HROW := Lib.hid (hrow.alloc (Nat.le_refl _) ob)
    have hml : ys.length ≤ maxLen := by unfold maxLen; omega
    have HML := Lib.hid hml
    have HC2 := Lib.hid (implExpHolds_c o v k ys w.heap.size w1.heap.size A1 b1 o1 c1 (w1.alloc ob) HROW.out (by simp) hml)
    clear hb hrow hob hR hml
    go_wp2_with fail
    rw [HO.out]
    refine HC2.out.mono ?_
    rintro e w2 ⟨rfl, hb2⟩
    have hz2 : w1.heap.size + 1 ≤ w2.heap.size := by simpa using hb2.size
    have HB2 := Lib.hid (hb2.mono (show w1.heap.size + 1 ≤ (w1.alloc ob).heap.size by simp))
    have hR2 := HR.out.below hb2 (by simp)
    have x0 : w2.drew.cell? ⟨w1.heap.size, 0, none⟩ = some (.int .i64 o) := (hR2.cell (j := 0) rfl).1
    have x1 : w2.drew.cell? ⟨w1.heap.size, 1, none⟩ = some (.int .i64 v) := (hR2.cell (j := 1) rfl).1
    have x2 : w2.drew.cell? ⟨w1.heap.size, 2, none⟩ = some (.int .i64 k) := (hR2.cell (j := 2) rfl).1
    have hq2 : w1.heap.size < w2.drew.heap.size := by show _ < w2.heap.size; omega
    have HC3 := Lib.hid (specExpHolds_c o v k ys w.heap.size w1.heap.size A1 b1 o1 c1 w2.drew ((HROW.out.below HB2.out (by omega)).drew) (by show _ ≤ w2.heap.size; omega) HML.out)
    generalize hh : holdsB ⟨o, v, k⟩ ys = h at *
    have HH := Lib.hid hh
    clear hb2 hR2 hh
    go_wp2
    refine wp_region_noPanic ?_
    refine wp_region_held_drew (S := fun w' => w'.cell? ⟨w1.heap.size, 0, none⟩ = some (.int .i64 o) ∧ w'.cell? ⟨w1.heap.size, 1, none⟩ = some (.int .i64 v) ∧ w'.cell? ⟨w1.heap.size, 2, none⟩ = some (.int .i64 k)) (by kernel_rfl) ?_ (fun hHeld => ?_)
    · exact ⟨x0, x1, x2⟩
    refine take_yes (i := 0) (v := ?_) rfl (by kernel_rfl) (by kernel_rfl) (by kernel_rfl) (fun _ _ _ h => h) (by kernel_rfl) ?_ (by assumption) ?_
    rotate_left
    · (intro w hSw; (try dsimp only at hSw); go_simp; try with_reducible rfl)
    try simp only [Act.put, List.setIfInBounds_toArray, List.set_cons_zero, List.set_cons_succ]
    refine take_yes (i := 1) (v := ?_) rfl (by kernel_rfl) (by kernel_rfl) (by kernel_rfl) (fun _ _ _ h => h) (by kernel_rfl) ?_ (by assumption) ?_
    rotate_left
    · (intro w hSw; (try dsimp only at hSw); go_simp; try with_reducible rfl)
    try simp only [Act.put, List.setIfInBounds_toArray, List.set_cons_zero, List.set_cons_succ]
    refine take_yes (i := 2) (v := ?_) rfl (by kernel_rfl) (by kernel_rfl) (by kernel_rfl) (fun _ _ _ h => h) (by kernel_rfl) ?_ (by assumption) ?_
    rotate_left
    · (intro w hSw; (try dsimp only at hSw); go_simp; try with_reducible rfl)
    try simp only [Act.put, List.setIfInBounds_toArray, List.set_cons_zero, List.set_cons_succ]
    refine wpAnyH_ready (rs := [3]) (by kernel_rfl) (by simp) ?_
    refine AllReadyH.cons (of_drop rfl) (fun K hK => ?_) AllReadyH.nil
    go_simp
    (go_at_call 15; refine (HC3.out).mono ?_; rintro e w3 ⟨rfl, hb3⟩; have y0 := (hb3.cell (p := ⟨w1.heap.size, 0, none⟩) hq2).trans x0; have y1 := (hb3.cell (p := ⟨w1.heap.size, 1, none⟩) hq2).trans x1; have y2 := (hb3.cell (p := ⟨w1.heap.size, 2, none⟩) hq2).trans x2)
    go_wp2_with fail
    refine hK.out _ _ ?_ (fun hHeld2 => ?_)
    · exact ⟨y0, y1, y2⟩
    clear hK K hHeld
    have hHeld := hHeld2
    clear hHeld2
    try simp only [Act.put, List.setIfInBounds_toArray, List.set_cons_zero, List.set_cons_succ]
    refine take_yes (i := 4) (v := ?_) rfl (by kernel_rfl) (by kernel_rfl) (by kernel_rfl) (fun _ _ _ h => h) (by kernel_rfl) ?_ (by assumption) ?_
    rotate_left
    · (intro w hSw; (try dsimp only at hSw); go_simp; try with_reducible rfl)
    try simp only [Act.put, List.setIfInBounds_toArray, List.set_cons_zero, List.set_cons_succ]
    refine take_yes (i := 5) (v := ?_) rfl (by kernel_rfl) (by kernel_rfl) (by kernel_rfl) (fun _ _ _ h => h) (by kernel_rfl) ?_ (by assumption) ?_
    rotate_left
    · (intro w hSw; (try dsimp only at hSw); go_simp; try with_reducible rfl)
    try simp only [Act.put, List.setIfInBounds_toArray, List.set_cons_zero, List.set_cons_succ]
    refine take_yes (i := 6) (v := ?_) rfl (by kernel_rfl) (by kernel_rfl) (by kernel_rfl) (fun _ _ _ h => h) (by kernel_rfl) ?_ (by assumption) ?_
    rotate_left
    · (intro w hSw; (try dsimp only at hSw); go_simp; try with_reducible rfl)
    try simp only [Act.put, List.setIfInBounds_toArray, List.set_cons_zero, List.set_cons_succ]
    refine take_yes (i := 8) (v := ?_) rfl (by kernel_rfl) (by kernel_rfl) (by kernel_rfl) (fun _ _ _ h => h) (by kernel_rfl) ?_ (by assumption) ?_
    rotate_left
    · (intro w hSw; (try dsimp only at hSw); go_simp; try with_reducible rfl)
    try simp only [Act.put, List.setIfInBounds_toArray, List.set_cons_zero, List.set_cons_succ]
    refine wpAnyH_ready (rs := [7]) (by kernel_rfl) (by simp) ?_
    refine AllReadyH.cons (of_drop rfl) (fun K hK => ?_) AllReadyH.nil
    go_simp
    (go_at_call 16; refine (implExpOk_c o v k w3).mono ?_; rintro e w4 ⟨rfl, hb4⟩; have z0 := (hb4.cell (p := ⟨w1.heap.size, 0, none⟩) (Nat.lt_of_lt_of_le hq2 hb3.size)).trans y0; have z1 := (hb4.cell (p := ⟨w1.heap.size, 1, none⟩) (Nat.lt_of_lt_of_le hq2 hb3.size)).trans y1; have z2 := (hb4.cell (p := ⟨w1.heap.size, 2, none⟩) (Nat.lt_of_lt_of_le hq2 hb3.size)).trans y2)
    go_wp2_with fail
    refine hK.out _ _ ?_ (fun hHeld2 => ?_)
    · exact ⟨z0, z1, z2⟩
    clear hK K hHeld
    have hHeld := hHeld2
    clear hHeld2
    try simp only [Act.put, List.setIfInBounds_toArray, List.set_cons_zero, List.set_cons_succ]
    refine wpAnyH_ready (rs := [9]) (by kernel_rfl) (by simp) ?_
    refine AllReadyH.cons (of_drop rfl) (fun K hK => ?_) AllReadyH.nil
    go_simp
    (go_at_call 17; refine (specExpOk_c o v k w4).mono ?_; rintro e w5 ⟨rfl, hb5⟩; have u0 := (hb5.cell (p := ⟨w1.heap.size, 0, none⟩) (Nat.lt_of_lt_of_le (Nat.lt_of_lt_of_le hq2 hb3.size) hb4.size)).trans z0; have u1 := (hb5.cell (p := ⟨w1.heap.size, 1, none⟩) (Nat.lt_of_lt_of_le (Nat.lt_of_lt_of_le hq2 hb3.size) hb4.size)).trans z1; have u2 := (hb5.cell (p := ⟨w1.heap.size, 2, none⟩) (Nat.lt_of_lt_of_le (Nat.lt_of_lt_of_le hq2 hb3.size) hb4.size)).trans z2)
    go_wp2_with fail
    refine hK.out _ _ ?_ (fun hHeld2 => ?_)
    · exact ⟨u0, u1, u2⟩
    clear hK K hHeld
    have hHeld := hHeld2
    clear hHeld2
    try simp only [Act.put, List.setIfInBounds_toArray, List.set_cons_zero, List.set_cons_succ]
    refine take_yes (i := 10) (v := ?_) rfl (by kernel_rfl) (by kernel_rfl) (by kernel_rfl) (fun _ _ _ h => h) (by kernel_rfl) ?_ (by assumption) ?_
    rotate_left
    · (intro w hSw; (try dsimp only at hSw); go_simp; try with_reducible rfl)
    try simp only [Act.put, List.setIfInBounds_toArray, List.set_cons_zero, List.set_cons_succ]
    refine take_yes (i := 11) (v := ?_) rfl (by kernel_rfl) (by kernel_rfl) (by kernel_rfl) (fun _ _ _ h => h) (by kernel_rfl) ?_ (by assumption) ?_
    rotate_left
    · (intro w hSw; (try dsimp only at hSw); go_simp; try with_reducible rfl)
    try simp only [Act.put, List.setIfInBounds_toArray, List.set_cons_zero, List.set_cons_succ]
    refine wpAnyH_done (by kernel_rfl) ?_ _
    refine NoPanic.normal ?_
    have hz3 : w2.drew.heap.size ≤ w3.heap.size := hb3.size
    have hz4 : w3.heap.size ≤ w4.heap.size := hb4.size
    have hz5 : w4.heap.size ≤ w5.heap.size := hb5.size
    have hz2d : w2.drew.heap.size = w2.heap.size := rfl
    have HB5 := Lib.hid (((HB2.out.drew.trans (hb3.mono (show w1.heap.size + 1 ≤ w2.drew.heap.size by omega))).trans (hb4.mono (by omega))).trans (hb5.mono (by omega)))
    clear hb3 hb4 hb5 hHeld x0 x1 x2 y0 y1 y2 z0 z1 z2 hq2 HC3
    go_wp2_with fail
    refine (specExpOk_c o v k w5).mono ?_
    rintro e w6 ⟨rfl, hb6⟩
    have hz6 : w5.heap.size ≤ w6.heap.size := hb6.size
    have hb06 := HB5.out.trans (hb6.mono (by omega))
    have HB6 := Lib.hid hb06
    have hR6 := HR.out.below hb06 (by simp)
    have v0 := (hR6.cell (j := 0) rfl).1
    have v1 := (hR6.cell (j := 1) rfl).1
    have v2 := (hR6.cell (j := 2) rfl).1
    clear hb6 hb06 hR6 u0 u1 u2
    have FIN := Lib.hid (HB1.out.trans (((Below.refl w1.heap.size w1).alloc (Nat.le_refl _) ob |>.trans (HB6.out.mono (show w1.heap.size ≤ w1.heap.size + 1 by omega))).mono hs1))
    by_cases hask : askOk ⟨o, v, k⟩ = true
    · have HASK := Lib.hid hask
      have hvar := askOk_var hask
      rw [hask]
      clear hask
      go_wp2_with fail
      refine (specDatOk_c ys w.heap.size w1.heap.size A1 b1 o1 c1 w6 (HROW.out.below HB6.out (by omega)) HML.out).mono ?_
      rintro e w' ⟨rfl, rfl⟩
      by_cases hdat : datOk ys = true
      · have HDAT := Lib.hid hdat
        have HZ3 := Lib.hid (show ys.length = 3 by simp [datOk] at hdat; exact hdat.1)
        rw [hdat]
        clear hdat
        by_cases h0 : o = 0
        · subst h0
          have hv2 : h = true := by rw [← HH.out]; exact holdsB_0 HASK.out HDAT.out
          subst hv2
          go_wp2
          go_ret
          exact ⟨rfl, FIN.out⟩
        · have e0 : (o == 0) = false := by simpa using h0
          have H0 := Lib.hid h0
          have ho : 1 ≤ o ∧ o ≤ 3 := by
            have h4 := HASK.out
            unfold askOk at h4
            rw [if_neg h0, Bool.and_eq_true, Bool.and_eq_true, inB_iff] at h4
            exact h4.1.1
          obtain ⟨vn, rfl⟩ := Int.eq_ofNat_of_zero_le hvar.1
          have hvn : vn < ys.length := by have := HZ3.out; omega
          have hvn1 : (vn : Int) < (ys.length : Int) := by omega
          obtain ⟨rfl, _, hbl, x, hx, hcx, _⟩ := HROW.out.int hvn
          have HCX := Lib.hid hcx
          have HXD := Lib.hid (show ys.getD ((vn : Nat) : Int).toNat 0 = x by simp [hx])
          have HONE := Lib.hid (cntH_one (x := x) HASK.out h0 HDAT.out HXD.out)
          clear h0 hx hcx hvar
          go_wp2
          go_loopw [6, 7] (fun s i wr => ∃ j : Nat, j ≤ 3 ∧ s = .int .i64 (cntH vn k ys j) ∧ i = .int .i64 ((j : Int) + 1) ∧ Below (w1.heap.size + 1) (w1.alloc ob) wr) (fun _ i _ => 4 - (intOf i).toNat)
          case atStart => exact ⟨0, by omega, rfl, rfl, HB6.out⟩
          case round =>
            obtain ⟨j, hj, rfl, rfl, hb⟩ := hrel
            have hzr : w1.heap.size + 1 ≤ wr.heap.size := by simpa using hb.size
            have hcr := cntH_range (v := vn) (k := k) (ys := ys) j
            have HBr := Lib.hid hb
            have hRr := HR.out.below hb (by simp)
            clear v0 v1 v2 FIN
            have v0 := (hRr.cell (j := 0) rfl).1
            have v1 := (hRr.cell (j := 1) rfl).1
            have v2 := (hRr.cell (j := 2) rfl).1
            have FIN := Lib.hid (HB1.out.trans (((Below.refl w1.heap.size w1).alloc (Nat.le_refl _) ob |>.trans (hb.mono (show w1.heap.size ≤ w1.heap.size + 1 by omega))).mono hs1))
            have hcx := (hb.cell (p := ⟨b1, o1 + vn, none⟩) (by show b1 < _; omega)).trans HCX.out
            clear hb hRr
            by_cases hj3 : j < 3
            · have HC7 := Lib.hid (implExpHolds_c ((j : Int) + 1) vn k ys w.heap.size w1.heap.size _ b1 o1 c1 wr (HROW.out.below HBr.out (by omega)) (by omega) HML.out)
              have HCN := Lib.hid (show cntH vn k ys (j + 1) = cntH vn k ys j + (if holdsB ⟨(j : Int) + 1, vn, k⟩ ys then 1 else 0) from rfl)
              generalize cntH vn k ys j = cj at *
              go_wp2_with fail
              refine HC7.out.mono ?_
              rintro e w7 ⟨rfl, hb7⟩
              have HB7 := Lib.hid (HBr.out.trans (hb7.mono hzr))
              clear hb7 HC7 v0 v1 v2 hcx
              by_cases hd : holdsB ⟨(j : Int) + 1, vn, k⟩ ys = true
              · have HD := Lib.hid hd
                rw [hd]
                clear hd
                go_wp2
                go_roundw
                case rel => exact ⟨j + 1, by omega, by rw [HCN.out, if_pos HD.out], by go_num, HB7.out⟩
                case measure => simp [intOf]; omega
              · have hd' : holdsB ⟨(j : Int) + 1, vn, k⟩ ys = false := by simpa using hd
                have HD := Lib.hid hd'
                rw [hd']
                clear hd hd'
                go_wp2
                go_roundw
                case rel => exact ⟨j + 1, by omega, by rw [HCN.out, HD.out]; simp, by go_num, HB7.out⟩
                case measure => simp [intOf]; omega
            · have hj4 : j = 3 := by omega
              subst hj4
              rw [HONE.out]
              clear hcr hj3
              have h123 : o = 1 ∨ o = 2 ∨ o = 3 := by omega
              rcases h123 with rfl | rfl | rfl
              · skip
                have hhv := (holdsB_1 HASK.out HDAT.out HXD.out).trans HH.out
                by_cases hc : x < k
                · have hd : decide (x < k) = true := by simp [hc]
                  have hv2 : h = true := by rw [← hhv]; exact hd
                  clear hhv
                  subst hv2
                  go_wp2
                  go_quiet (fail)
                  go_wp2
                  go_ret
                  exact ⟨rfl, by first | exact FIN.out | exact below_drewN FIN.out _⟩
                · have hd : decide (x < k) = false := by simp [hc]
                  have hv2 : h = false := by rw [← hhv]; exact hd
                  clear hhv
                  subst hv2
                  go_wp2
                  go_quiet (fail)
                  go_wp2
                  go_ret
                  exact ⟨rfl, by first | exact FIN.out | exact below_drewN FIN.out _⟩
              · skip
                have hhv := (holdsB_2 HASK.out HDAT.out HXD.out).trans HH.out
                by_cases hc : x = k
                · have hd : (x == k) = true := by simp [hc]
                  have hv2 : h = true := by rw [← hhv]; exact hd
                  clear hhv
                  subst hv2
                  go_wp2
                  go_quiet (fail)
                  go_wp2
                  go_ret
                  exact ⟨rfl, by first | exact FIN.out | exact below_drewN FIN.out _⟩
                · have hd : (x == k) = false := by simp [hc]
                  have hv2 : h = false := by rw [← hhv]; exact hd
                  clear hhv
                  subst hv2
                  go_wp2
                  go_quiet (fail)
                  go_wp2
                  go_ret
                  exact ⟨rfl, by first | exact FIN.out | exact below_drewN FIN.out _⟩
              · skip
                have hhv := (holdsB_3 HASK.out HDAT.out HXD.out).trans HH.out
                by_cases hc : k < x
                · have hd : decide (k < x) = true := by simp [hc]
                  have hv2 : h = true := by rw [← hhv]; exact hd
                  clear hhv
                  subst hv2
                  go_wp2
                  go_quiet (fail)
                  go_wp2
                  go_ret
                  exact ⟨rfl, by first | exact FIN.out | exact below_drewN FIN.out _⟩
                · have hd : decide (k < x) = false := by simp [hc]
                  have hv2 : h = false := by rw [← hhv]; exact hd
                  clear hhv
                  subst hv2
                  go_wp2
                  go_quiet (fail)
                  go_wp2
                  go_ret
                  exact ⟨rfl, by first | exact FIN.out | exact below_drewN FIN.out _⟩
      · have hdat' : datOk ys = false := by simpa using hdat
        have hv2 : h = false := by rw [← HH.out]; exact holdsB_bad (by rw [hdat', Bool.and_false])
        rw [hdat']
        clear hdat hdat'
        subst hv2
        go_wp2_with fail
        refine (guOk_c w6).mono ?_
        rintro e w8 ⟨rfl, hb8⟩
        have HB8 := Lib.hid (FIN.out.trans (hb8.mono (show w.heap.size ≤ w6.heap.size by omega)))
        clear hb8
        go_wp2
        go_ret
        exact ⟨rfl, HB8.out⟩
    · have hask' : askOk ⟨o, v, k⟩ = false := by simpa using hask
      have hv2 : h = false := by rw [← HH.out]; exact holdsB_bad (by rw [hask']; rfl)
      rw [hask']
      clear hask hask'
      subst hv2
      go_wp2_with fail
      refine (guOk_c w6).mono ?_
      rintro e w8 ⟨rfl, hb8⟩
      have HB8 := Lib.hid (FIN.out.trans (hb8.mono (show w.heap.size ≤ w6.heap.size by omega)))
      clear hb8
      go_wp2
      go_ret
      exact ⟨rfl, HB8.out⟩
end Go.Proofs.Yteedgmaeopnidaa
