/- A law over what is drawn of a code: marks place by place. -/
import Derived.Test.YtoggdhbnkbdilaaNB
import Derived.Test.YtoggdhbnkbdilaaMrkOk
import Derived.Test.YtoggdhbnkbdilaaReader
import Derived.BigQuiet
import Derived.Deep.DeepCutAuto
namespace Go.Proofs.Ytoggdhbnkbdilaa
open Go.RowKit
set_option linter.unusedVariables false
set_option linter.unusedSimpArgs false

def okN (n : NNet) (ys : List Int) (p : Nat) : Bool := (netOk n && decide ((ys.length : Int) = n.places)) && (ys.take p).all fun m => inB m 0 4
theorem okN_step {n : NNet} {ys : List Int} {p : Nat} {x : Int} (h : ys[p]? = some x) : okN n ys (p + 1) = (okN n ys p && inB x 0 4) := by
  rw [okN, okN, take_succ_of h, List.all_append, Bool.and_assoc, Bool.and_assoc]
  simp [Bool.and_assoc]
theorem okN_end (n : NNet) (ys : List Int) : okN n ys ys.length = mrkOk n ys := by
  rw [okN, mrkOk, marksB, List.take_of_length_le (Nat.le_refl _), Bool.and_assoc]

set_option maxRecDepth 100000 in
set_option maxHeartbeats 4000000 in
theorem mrkOk_walk {zs : List Int} {A : Option Addr} {b off c : Nat} (w : World) (hV : Row w 0 w.heap.size A b off (bytesC zs)) (hz : ∀ x ∈ zs, 0 ≤ x ∧ x ≤ 255) (hm : zs.length ≤ maxLen) (hcap : zs.length ≤ c) :
    Calls Try.prog 3 #[.slice A zs.length c] w fun e w' => e = .returned (.bool true) ∧ Below w.heap.size w w' := by
  have hm0 := hm
  have HZ := Lib.hid hz
  clear hz
  unfold maxLen at hm
  go_enter Try.func3, Try.ntmps3
  by_cases hbig : 1048576 < zs.length
  · go_wp2; go_ret; exact ⟨rfl, Below.refl _ _⟩
  · go_wp2_with fail
    refine (drawMrkOk_c zs A b off c w hV HZ.out hm0 hcap).mono ?_
    rintro e w1 ⟨P, b1, k, c1, n, v, ys, rfl, hyl, hyb, hv, hg, hb⟩
    obtain ⟨A2, b2, o2, c2, rfl, hc2, hrow⟩ := hv
    have HN1 := Lib.hid (NB.start hg hb)
    have HR1 := Lib.hid (hrow.alloc (Nat.le_refl _) (.cells #[.int .i64 P, .slice (some ⟨b1, 0, none⟩) k c1] 25))
    have HSM := Lib.hid hg.1
    have HPK := Lib.hid (And.intro hg.2.1 hg.2.2.1)
    clear hg hb hrow
    generalize hBB : w1.heap.size = B at HN1 HR1
    have hym : ys.length ≤ maxLen := by unfold maxLen; omega
    have cB0 := HN1.out.cell0
    have cB1 := HN1.out.cell1
    go_wp2_with fail
    refine (implNetOk_c n _ _ _ _ HN1.out.nv (Nat.le_of_lt HN1.out.lt) (small_out HSM.out)).mono ?_
    rintro e w2 ⟨rfl, hbw2⟩
    have HNw2 := Lib.hid (HN1.out.below hbw2)
    have HR2 := Lib.hid (HR1.out.below hbw2 (Nat.le_of_lt HN1.out.lt))
    clear hbw2
    have fB0 := HNw2.out.cell0
    have fB1 := HNw2.out.cell1
    have hlq : ((ys.length : Int) == P) = decide ((ys.length : Int) = n.places) := by rw [HPK.out.1]; rfl
    generalize hq : ((ys.length : Int) == P) = qq at hlq
    have HQ := Lib.hid hlq
    have ho0 : (netOk n && qq) = okN n ys 0 := by rw [HQ.out]; simp [okN]
    generalize hno : netOk n = nn at ho0
    have HO0 := Lib.hid ho0
    clear hlq ho0 hno
    have key : ∀ (wz : World) (HN : Hid (NB w B P b1 k c1 n wz)) (HR : Hid (Row wz w.heap.size B A2 b2 o2 (ints ys))), True := fun _ _ _ => trivial
    clear key
    cases nn with
    | true =>
      cases qq with
      | true =>
        go_wp2
        go_loopw [5, 6] (fun a i wr => ∃ p : Nat, p ≤ ys.length ∧ i = .int .i64 p ∧ a = .bool (okN n ys p) ∧ NB w B P b1 k c1 n wr ∧ Row wr w.heap.size B A2 b2 o2 (ints ys)) (fun _ i _ => ys.length - (intOf i).toNat)
        case atStart => exact ⟨0, Nat.zero_le _, rfl, by rw [← HO0.out]; rfl, HNw2.out, HR2.out⟩
        case round =>
          obtain ⟨p, hp, rfl, rfl, hn, hr⟩ := hrel
          have HN := Lib.hid hn
          have HR := Lib.hid hr
          clear hn hr
          by_cases hlt : p < ys.length
          · have hlt1 : (p : Int) < (ys.length : Int) := by omega
            obtain ⟨rfl, _, _, x, hx, hcx, _⟩ := HR.out.int hlt
            have HX := Lib.hid (okN_step (n := n) hx)
            clear hx
            cases hok : okN n ys p with
            | false =>
              have HOK := Lib.hid hok
              clear hok
              go_wp2
              go_roundw
              case rel => exact ⟨p + 1, by omega, by go_num, by rw [HX.out, HOK.out]; rfl, HN.out, HR.out⟩
              case measure => simp [intOf]; omega
            | true =>
              have HOK := Lib.hid hok
              clear hok
              by_cases h0 : 0 ≤ x
              · by_cases h4 : x ≤ 4
                · go_wp2
                  go_roundw
                  case rel => exact ⟨p + 1, by omega, by go_num, by rw [HX.out, HOK.out, inB_iff.2 ⟨h0, h4⟩]; rfl, HN.out, HR.out⟩
                  case measure => simp [intOf]; omega
                · go_wp2
                  go_roundw
                  case rel => exact ⟨p + 1, by omega, by go_num, by rw [HX.out, HOK.out, inB_false.2 (show ¬ (0 ≤ x ∧ x ≤ 4) by omega)]; rfl, HN.out, HR.out⟩
                  case measure => simp [intOf]; omega
              · go_wp2
                go_roundw
                case rel => exact ⟨p + 1, by omega, by go_num, by rw [HX.out, HOK.out, inB_false.2 (show ¬ (0 ≤ x ∧ x ≤ 4) by omega)]; rfl, HN.out, HR.out⟩
                case measure => simp [intOf]; omega
          · have hpp : p = ys.length := by omega
            have hlt1 : ¬ ((p : Int) < (ys.length : Int)) := by omega
            have he : okN n ys p = mrkOk n ys := by rw [hpp]; exact okN_end n ys
            rw [he]
            have gB0 := HN.out.cell0
            have gB1 := HN.out.cell1
            clear he
            generalize hmb : mrkOk n ys = mb
            have HMB := Lib.hid hmb
            clear hmb
            cases mb with
            | true =>
              go_wp2
              have HNd := Lib.hid HN.out.drew
              have HRd := Lib.hid (show Row wr.drew w.heap.size B A2 b2 o2 (ints ys) from HR.out)
              refine wp_region_noPanic ?_
              refine wp_region_held_drew (S := fun w' => (w'.cell? ⟨B, 0, none⟩ = some (.int .i64 P) ∧ w'.cell? ⟨B, 1, none⟩ = some (.slice (some ⟨b1, 0, none⟩) k c1))) (by kernel_rfl) ?_ (fun hHeld => ?_)
              · exact ⟨gB0, gB1⟩
              generalize hwd : wr.drew = wd at HNd HRd hHeld ⊢
              clear hwd
              refine take_yes (i := 0) (v := ?_) rfl (by kernel_rfl) (by kernel_rfl) (by kernel_rfl) (fun _ _ _ h => h) (by kernel_rfl) ?_ (by assumption) ?_
              rotate_left
              · (intro w hSw; (try dsimp only at hSw); go_simp; try with_reducible rfl)
              try simp only [Act.put, List.setIfInBounds_toArray, List.set_cons_zero, List.set_cons_succ]
              refine take_yes (i := 1) (v := ?_) rfl (by kernel_rfl) (by kernel_rfl) (by kernel_rfl) (fun _ _ _ h => h) (by kernel_rfl) ?_ (by assumption) ?_
              rotate_left
              · (intro w hSw; (try dsimp only at hSw); go_simp; try with_reducible rfl)
              try simp only [Act.put, List.setIfInBounds_toArray, List.set_cons_zero, List.set_cons_succ]
              refine take_yes (i := 3) (v := ?_) rfl (by kernel_rfl) (by kernel_rfl) (by kernel_rfl) (fun _ _ _ h => h) (by kernel_rfl) ?_ (by assumption) ?_
              rotate_left
              · (intro w hSw; (try dsimp only at hSw); go_simp; try with_reducible rfl)
              try simp only [Act.put, List.setIfInBounds_toArray, List.set_cons_zero, List.set_cons_succ]
              refine wpAnyH_ready (rs := [2]) (by kernel_rfl) (by simp) ?_
              refine AllReadyH.cons (of_drop rfl) (fun K hK => ?_) AllReadyH.nil
              go_simp
              (go_at_call 13; refine (implMrkOk_c n _ ys _ _ _ _ A2 b2 o2 c2 wd HNd.out.nv (Nat.le_of_lt HNd.out.lt) (small_out HSM.out) HRd.out (Nat.le_of_lt HNd.out.lt) hym).mono ?_; rintro e x1 ⟨rfl, hbx1⟩)
              rw [HMB.out]
              have HNx1 := Lib.hid (HNd.out.below hbx1)
              have HRx1 := Lib.hid (HRd.out.below hbx1 (Nat.le_of_lt HNd.out.lt))
              have cx10 := HNx1.out.cell0
              have cx11 := HNx1.out.cell1
              clear hbx1
              go_wp2_with fail
              refine hK.out _ _ ?_ (fun hHeld2 => ?_)
              · exact ⟨cx10, cx11⟩
              clear hK K hHeld
              have hHeld := hHeld2
              clear hHeld2
              try simp only [Act.put, List.setIfInBounds_toArray, List.set_cons_zero, List.set_cons_succ]
              refine take_yes (i := 4) (v := ?_) rfl (by kernel_rfl) (by kernel_rfl) (by kernel_rfl) (fun _ _ _ h => h) (by kernel_rfl) ?_ (by assumption) ?_
              rotate_left
              · (intro w hSw; (try dsimp only at hSw); go_simp; try with_reducible rfl)
              try simp only [Act.put, List.setIfInBounds_toArray, List.set_cons_zero, List.set_cons_succ]
              refine take_yes (i := 5) (v := ?_) rfl (by kernel_rfl) (by kernel_rfl) (by kernel_rfl) (fun _ _ _ h => h) (by kernel_rfl) ?_ (by assumption) ?_
              rotate_left
              · (intro w hSw; (try dsimp only at hSw); go_simp; try with_reducible rfl)
              try simp only [Act.put, List.setIfInBounds_toArray, List.set_cons_zero, List.set_cons_succ]
              refine take_yes (i := 6) (v := ?_) rfl (by kernel_rfl) (by kernel_rfl) (by kernel_rfl) (fun _ _ _ h => h) (by kernel_rfl) ?_ (by assumption) ?_
              rotate_left
              · (intro w hSw; (try dsimp only at hSw); go_simp; try with_reducible rfl)
              try simp only [Act.put, List.setIfInBounds_toArray, List.set_cons_zero, List.set_cons_succ]
              refine take_yes (i := 7) (v := ?_) rfl (by kernel_rfl) (by kernel_rfl) (by kernel_rfl) (fun _ _ _ h => h) (by kernel_rfl) ?_ (by assumption) ?_
              rotate_left
              · (intro w hSw; (try dsimp only at hSw); go_simp; try with_reducible rfl)
              try simp only [Act.put, List.setIfInBounds_toArray, List.set_cons_zero, List.set_cons_succ]
              refine take_yes (i := 9) (v := ?_) rfl (by kernel_rfl) (by kernel_rfl) (by kernel_rfl) (fun _ _ _ h => h) (by kernel_rfl) ?_ (by assumption) ?_
              rotate_left
              · (intro w hSw; (try dsimp only at hSw); go_simp; try with_reducible rfl)
              try simp only [Act.put, List.setIfInBounds_toArray, List.set_cons_zero, List.set_cons_succ]
              refine take_yes (i := 10) (v := ?_) rfl (by kernel_rfl) (by kernel_rfl) (by kernel_rfl) (fun _ _ _ h => h) (by kernel_rfl) ?_ (by assumption) ?_
              rotate_left
              · (intro w hSw; (try dsimp only at hSw); go_simp; try with_reducible rfl)
              try simp only [Act.put, List.setIfInBounds_toArray, List.set_cons_zero, List.set_cons_succ]
              refine wpAnyH_ready (rs := [8]) (by kernel_rfl) (by simp) ?_
              refine AllReadyH.cons (of_drop rfl) (fun K hK => ?_) AllReadyH.nil
              go_simp
              (go_at_call 13; refine (implMrkOk_c n _ ys _ _ _ _ A2 b2 o2 c2 x1 HNx1.out.nv (Nat.le_of_lt HNx1.out.lt) (small_out HSM.out) HRx1.out (Nat.le_of_lt HNx1.out.lt) hym).mono ?_; rintro e x2 ⟨rfl, hbx2⟩)
              rw [HMB.out]
              have HNx2 := Lib.hid (HNx1.out.below hbx2)
              have HRx2 := Lib.hid (HRx1.out.below hbx2 (Nat.le_of_lt HNx1.out.lt))
              have cx20 := HNx2.out.cell0
              have cx21 := HNx2.out.cell1
              clear hbx2
              go_wp2_with fail
              refine hK.out _ _ ?_ (fun hHeld2 => ?_)
              · exact ⟨cx20, cx21⟩
              clear hK K hHeld
              have hHeld := hHeld2
              clear hHeld2
              try simp only [Act.put, List.setIfInBounds_toArray, List.set_cons_zero, List.set_cons_succ]
              refine wpAnyH_ready (rs := [11]) (by kernel_rfl) (by simp) ?_
              refine AllReadyH.cons (of_drop rfl) (fun K hK => ?_) AllReadyH.nil
              go_simp
              (go_at_call 14; refine (specMrkOk_c n _ ys _ _ _ _ A2 b2 o2 c2 x2 HNx2.out.nv (Nat.le_of_lt HNx2.out.lt) HRx2.out (Nat.le_of_lt HNx2.out.lt) hym).mono ?_; rintro e x3 ⟨rfl, hbx3⟩)
              rw [HMB.out]
              have HNx3 := Lib.hid (HNx2.out.below hbx3)
              have HRx3 := Lib.hid (HRx2.out.below hbx3 (Nat.le_of_lt HNx2.out.lt))
              have cx30 := HNx3.out.cell0
              have cx31 := HNx3.out.cell1
              clear hbx3
              go_wp2_with fail
              refine hK.out _ _ ?_ (fun hHeld2 => ?_)
              · exact ⟨cx30, cx31⟩
              clear hK K hHeld
              have hHeld := hHeld2
              clear hHeld2
              try simp only [Act.put, List.setIfInBounds_toArray, List.set_cons_zero, List.set_cons_succ]
              refine take_yes (i := 12) (v := ?_) rfl (by kernel_rfl) (by kernel_rfl) (by kernel_rfl) (fun _ _ _ h => h) (by kernel_rfl) ?_ (by assumption) ?_
              rotate_left
              · (intro w hSw; (try dsimp only at hSw); go_simp; try with_reducible rfl)
              try simp only [Act.put, List.setIfInBounds_toArray, List.set_cons_zero, List.set_cons_succ]
              refine take_yes (i := 13) (v := ?_) rfl (by kernel_rfl) (by kernel_rfl) (by kernel_rfl) (fun _ _ _ h => h) (by kernel_rfl) ?_ (by assumption) ?_
              rotate_left
              · (intro w hSw; (try dsimp only at hSw); go_simp; try with_reducible rfl)
              try simp only [Act.put, List.setIfInBounds_toArray, List.set_cons_zero, List.set_cons_succ]
              refine take_yes (i := 14) (v := ?_) rfl (by kernel_rfl) (by kernel_rfl) (by kernel_rfl) (fun _ _ _ h => h) (by kernel_rfl) ?_ (by assumption) ?_
              rotate_left
              · (intro w hSw; (try dsimp only at hSw); go_simp; try with_reducible rfl)
              try simp only [Act.put, List.setIfInBounds_toArray, List.set_cons_zero, List.set_cons_succ]
              refine wpAnyH_ready (rs := [15]) (by kernel_rfl) (by simp) ?_
              refine AllReadyH.cons (of_drop rfl) (fun K hK => ?_) AllReadyH.nil
              go_simp
              (go_at_call 15; refine (guOk_c x3).mono ?_; rintro e x4 ⟨rfl, hbx4⟩)
              have HNx4 := Lib.hid (HNx3.out.below hbx4)
              have cx40 := HNx4.out.cell0
              have cx41 := HNx4.out.cell1
              clear hbx4
              go_wp2_with fail
              refine hK.out _ _ ?_ (fun hHeld2 => ?_)
              · exact ⟨cx40, cx41⟩
              clear hK K hHeld
              have hHeld := hHeld2
              clear hHeld2
              try simp only [Act.put, List.setIfInBounds_toArray, List.set_cons_zero, List.set_cons_succ]
              refine take_yes (i := 16) (v := ?_) rfl (by kernel_rfl) (by kernel_rfl) (by kernel_rfl) (fun _ _ _ h => h) (by kernel_rfl) ?_ (by assumption) ?_
              rotate_left
              · (intro w hSw; (try dsimp only at hSw); go_simp; try with_reducible rfl)
              try simp only [Act.put, List.setIfInBounds_toArray, List.set_cons_zero, List.set_cons_succ]
              refine take_yes (i := 17) (v := ?_) rfl (by kernel_rfl) (by kernel_rfl) (by kernel_rfl) (fun _ _ _ h => h) (by kernel_rfl) ?_ (by assumption) ?_
              rotate_left
              · (intro w hSw; (try dsimp only at hSw); go_simp; try with_reducible rfl)
              try simp only [Act.put, List.setIfInBounds_toArray, List.set_cons_zero, List.set_cons_succ]
              refine wpAnyH_done (by kernel_rfl) ?_ _
              refine NoPanic.normal ?_
              go_wp2
              go_ret
              exact ⟨rfl, HNx4.out.bl⟩
            | false =>
              go_wp2
              have HNd := Lib.hid HN.out.drew
              have HRd := Lib.hid (show Row wr.drew w.heap.size B A2 b2 o2 (ints ys) from HR.out)
              refine wp_region_noPanic ?_
              refine wp_region_held_drew (S := fun w' => (w'.cell? ⟨B, 0, none⟩ = some (.int .i64 P) ∧ w'.cell? ⟨B, 1, none⟩ = some (.slice (some ⟨b1, 0, none⟩) k c1))) (by kernel_rfl) ?_ (fun hHeld => ?_)
              · exact ⟨gB0, gB1⟩
              generalize hwd : wr.drew = wd at HNd HRd hHeld ⊢
              clear hwd
              refine take_yes (i := 0) (v := ?_) rfl (by kernel_rfl) (by kernel_rfl) (by kernel_rfl) (fun _ _ _ h => h) (by kernel_rfl) ?_ (by assumption) ?_
              rotate_left
              · (intro w hSw; (try dsimp only at hSw); go_simp; try with_reducible rfl)
              try simp only [Act.put, List.setIfInBounds_toArray, List.set_cons_zero, List.set_cons_succ]
              refine take_yes (i := 1) (v := ?_) rfl (by kernel_rfl) (by kernel_rfl) (by kernel_rfl) (fun _ _ _ h => h) (by kernel_rfl) ?_ (by assumption) ?_
              rotate_left
              · (intro w hSw; (try dsimp only at hSw); go_simp; try with_reducible rfl)
              try simp only [Act.put, List.setIfInBounds_toArray, List.set_cons_zero, List.set_cons_succ]
              refine take_yes (i := 3) (v := ?_) rfl (by kernel_rfl) (by kernel_rfl) (by kernel_rfl) (fun _ _ _ h => h) (by kernel_rfl) ?_ (by assumption) ?_
              rotate_left
              · (intro w hSw; (try dsimp only at hSw); go_simp; try with_reducible rfl)
              try simp only [Act.put, List.setIfInBounds_toArray, List.set_cons_zero, List.set_cons_succ]
              refine wpAnyH_ready (rs := [2]) (by kernel_rfl) (by simp) ?_
              refine AllReadyH.cons (of_drop rfl) (fun K hK => ?_) AllReadyH.nil
              go_simp
              (go_at_call 13; refine (implMrkOk_c n _ ys _ _ _ _ A2 b2 o2 c2 wd HNd.out.nv (Nat.le_of_lt HNd.out.lt) (small_out HSM.out) HRd.out (Nat.le_of_lt HNd.out.lt) hym).mono ?_; rintro e x1 ⟨rfl, hbx1⟩)
              rw [HMB.out]
              have HNx1 := Lib.hid (HNd.out.below hbx1)
              have HRx1 := Lib.hid (HRd.out.below hbx1 (Nat.le_of_lt HNd.out.lt))
              have cx10 := HNx1.out.cell0
              have cx11 := HNx1.out.cell1
              clear hbx1
              go_wp2_with fail
              refine hK.out _ _ ?_ (fun hHeld2 => ?_)
              · exact ⟨cx10, cx11⟩
              clear hK K hHeld
              have hHeld := hHeld2
              clear hHeld2
              try simp only [Act.put, List.setIfInBounds_toArray, List.set_cons_zero, List.set_cons_succ]
              refine take_yes (i := 4) (v := ?_) rfl (by kernel_rfl) (by kernel_rfl) (by kernel_rfl) (fun _ _ _ h => h) (by kernel_rfl) ?_ (by assumption) ?_
              rotate_left
              · (intro w hSw; (try dsimp only at hSw); go_simp; try with_reducible rfl)
              try simp only [Act.put, List.setIfInBounds_toArray, List.set_cons_zero, List.set_cons_succ]
              refine take_yes (i := 5) (v := ?_) rfl (by kernel_rfl) (by kernel_rfl) (by kernel_rfl) (fun _ _ _ h => h) (by kernel_rfl) ?_ (by assumption) ?_
              rotate_left
              · (intro w hSw; (try dsimp only at hSw); go_simp; try with_reducible rfl)
              try simp only [Act.put, List.setIfInBounds_toArray, List.set_cons_zero, List.set_cons_succ]
              refine take_yes (i := 6) (v := ?_) rfl (by kernel_rfl) (by kernel_rfl) (by kernel_rfl) (fun _ _ _ h => h) (by kernel_rfl) ?_ (by assumption) ?_
              rotate_left
              · (intro w hSw; (try dsimp only at hSw); go_simp; try with_reducible rfl)
              try simp only [Act.put, List.setIfInBounds_toArray, List.set_cons_zero, List.set_cons_succ]
              refine take_yes (i := 7) (v := ?_) rfl (by kernel_rfl) (by kernel_rfl) (by kernel_rfl) (fun _ _ _ h => h) (by kernel_rfl) ?_ (by assumption) ?_
              rotate_left
              · (intro w hSw; (try dsimp only at hSw); go_simp; try with_reducible rfl)
              try simp only [Act.put, List.setIfInBounds_toArray, List.set_cons_zero, List.set_cons_succ]
              refine take_yes (i := 9) (v := ?_) rfl (by kernel_rfl) (by kernel_rfl) (by kernel_rfl) (fun _ _ _ h => h) (by kernel_rfl) ?_ (by assumption) ?_
              rotate_left
              · (intro w hSw; (try dsimp only at hSw); go_simp; try with_reducible rfl)
              try simp only [Act.put, List.setIfInBounds_toArray, List.set_cons_zero, List.set_cons_succ]
              refine take_yes (i := 10) (v := ?_) rfl (by kernel_rfl) (by kernel_rfl) (by kernel_rfl) (fun _ _ _ h => h) (by kernel_rfl) ?_ (by assumption) ?_
              rotate_left
              · (intro w hSw; (try dsimp only at hSw); go_simp; try with_reducible rfl)
              try simp only [Act.put, List.setIfInBounds_toArray, List.set_cons_zero, List.set_cons_succ]
              refine wpAnyH_ready (rs := [8]) (by kernel_rfl) (by simp) ?_
              refine AllReadyH.cons (of_drop rfl) (fun K hK => ?_) AllReadyH.nil
              go_simp
              (go_at_call 13; refine (implMrkOk_c n _ ys _ _ _ _ A2 b2 o2 c2 x1 HNx1.out.nv (Nat.le_of_lt HNx1.out.lt) (small_out HSM.out) HRx1.out (Nat.le_of_lt HNx1.out.lt) hym).mono ?_; rintro e x2 ⟨rfl, hbx2⟩)
              rw [HMB.out]
              have HNx2 := Lib.hid (HNx1.out.below hbx2)
              have HRx2 := Lib.hid (HRx1.out.below hbx2 (Nat.le_of_lt HNx1.out.lt))
              have cx20 := HNx2.out.cell0
              have cx21 := HNx2.out.cell1
              clear hbx2
              go_wp2_with fail
              refine hK.out _ _ ?_ (fun hHeld2 => ?_)
              · exact ⟨cx20, cx21⟩
              clear hK K hHeld
              have hHeld := hHeld2
              clear hHeld2
              try simp only [Act.put, List.setIfInBounds_toArray, List.set_cons_zero, List.set_cons_succ]
              refine wpAnyH_ready (rs := [11]) (by kernel_rfl) (by simp) ?_
              refine AllReadyH.cons (of_drop rfl) (fun K hK => ?_) AllReadyH.nil
              go_simp
              (go_at_call 14; refine (specMrkOk_c n _ ys _ _ _ _ A2 b2 o2 c2 x2 HNx2.out.nv (Nat.le_of_lt HNx2.out.lt) HRx2.out (Nat.le_of_lt HNx2.out.lt) hym).mono ?_; rintro e x3 ⟨rfl, hbx3⟩)
              rw [HMB.out]
              have HNx3 := Lib.hid (HNx2.out.below hbx3)
              have HRx3 := Lib.hid (HRx2.out.below hbx3 (Nat.le_of_lt HNx2.out.lt))
              have cx30 := HNx3.out.cell0
              have cx31 := HNx3.out.cell1
              clear hbx3
              go_wp2_with fail
              refine hK.out _ _ ?_ (fun hHeld2 => ?_)
              · exact ⟨cx30, cx31⟩
              clear hK K hHeld
              have hHeld := hHeld2
              clear hHeld2
              try simp only [Act.put, List.setIfInBounds_toArray, List.set_cons_zero, List.set_cons_succ]
              refine take_yes (i := 12) (v := ?_) rfl (by kernel_rfl) (by kernel_rfl) (by kernel_rfl) (fun _ _ _ h => h) (by kernel_rfl) ?_ (by assumption) ?_
              rotate_left
              · (intro w hSw; (try dsimp only at hSw); go_simp; try with_reducible rfl)
              try simp only [Act.put, List.setIfInBounds_toArray, List.set_cons_zero, List.set_cons_succ]
              refine take_yes (i := 13) (v := ?_) rfl (by kernel_rfl) (by kernel_rfl) (by kernel_rfl) (fun _ _ _ h => h) (by kernel_rfl) ?_ (by assumption) ?_
              rotate_left
              · (intro w hSw; (try dsimp only at hSw); go_simp; try with_reducible rfl)
              try simp only [Act.put, List.setIfInBounds_toArray, List.set_cons_zero, List.set_cons_succ]
              refine take_yes (i := 14) (v := ?_) rfl (by kernel_rfl) (by kernel_rfl) (by kernel_rfl) (fun _ _ _ h => h) (by kernel_rfl) ?_ (by assumption) ?_
              rotate_left
              · (intro w hSw; (try dsimp only at hSw); go_simp; try with_reducible rfl)
              try simp only [Act.put, List.setIfInBounds_toArray, List.set_cons_zero, List.set_cons_succ]
              refine wpAnyH_ready (rs := [15]) (by kernel_rfl) (by simp) ?_
              refine AllReadyH.cons (of_drop rfl) (fun K hK => ?_) AllReadyH.nil
              go_simp
              (go_at_call 15; refine (guOk_c x3).mono ?_; rintro e x4 ⟨rfl, hbx4⟩)
              have HNx4 := Lib.hid (HNx3.out.below hbx4)
              have cx40 := HNx4.out.cell0
              have cx41 := HNx4.out.cell1
              clear hbx4
              go_wp2_with fail
              refine hK.out _ _ ?_ (fun hHeld2 => ?_)
              · exact ⟨cx40, cx41⟩
              clear hK K hHeld
              have hHeld := hHeld2
              clear hHeld2
              try simp only [Act.put, List.setIfInBounds_toArray, List.set_cons_zero, List.set_cons_succ]
              refine take_yes (i := 16) (v := ?_) rfl (by kernel_rfl) (by kernel_rfl) (by kernel_rfl) (fun _ _ _ h => h) (by kernel_rfl) ?_ (by assumption) ?_
              rotate_left
              · (intro w hSw; (try dsimp only at hSw); go_simp; try with_reducible rfl)
              try simp only [Act.put, List.setIfInBounds_toArray, List.set_cons_zero, List.set_cons_succ]
              refine take_yes (i := 17) (v := ?_) rfl (by kernel_rfl) (by kernel_rfl) (by kernel_rfl) (fun _ _ _ h => h) (by kernel_rfl) ?_ (by assumption) ?_
              rotate_left
              · (intro w hSw; (try dsimp only at hSw); go_simp; try with_reducible rfl)
              try simp only [Act.put, List.setIfInBounds_toArray, List.set_cons_zero, List.set_cons_succ]
              refine wpAnyH_done (by kernel_rfl) ?_ _
              refine NoPanic.normal ?_
              go_wp2
              go_ret
              exact ⟨rfl, HNx4.out.bl⟩
      | false =>
        go_wp2
        go_loopw [5, 6] (fun a i wr => ∃ p : Nat, p ≤ ys.length ∧ i = .int .i64 p ∧ a = .bool (okN n ys p) ∧ NB w B P b1 k c1 n wr ∧ Row wr w.heap.size B A2 b2 o2 (ints ys)) (fun _ i _ => ys.length - (intOf i).toNat)
        case atStart => exact ⟨0, Nat.zero_le _, rfl, by rw [← HO0.out]; rfl, HNw2.out, HR2.out⟩
        case round =>
          obtain ⟨p, hp, rfl, rfl, hn, hr⟩ := hrel
          have HN := Lib.hid hn
          have HR := Lib.hid hr
          clear hn hr
          by_cases hlt : p < ys.length
          · have hlt1 : (p : Int) < (ys.length : Int) := by omega
            obtain ⟨rfl, _, _, x, hx, hcx, _⟩ := HR.out.int hlt
            have HX := Lib.hid (okN_step (n := n) hx)
            clear hx
            cases hok : okN n ys p with
            | false =>
              have HOK := Lib.hid hok
              clear hok
              go_wp2
              go_roundw
              case rel => exact ⟨p + 1, by omega, by go_num, by rw [HX.out, HOK.out]; rfl, HN.out, HR.out⟩
              case measure => simp [intOf]; omega
            | true =>
              have HOK := Lib.hid hok
              clear hok
              by_cases h0 : 0 ≤ x
              · by_cases h4 : x ≤ 4
                · go_wp2
                  go_roundw
                  case rel => exact ⟨p + 1, by omega, by go_num, by rw [HX.out, HOK.out, inB_iff.2 ⟨h0, h4⟩]; rfl, HN.out, HR.out⟩
                  case measure => simp [intOf]; omega
                · go_wp2
                  go_roundw
                  case rel => exact ⟨p + 1, by omega, by go_num, by rw [HX.out, HOK.out, inB_false.2 (show ¬ (0 ≤ x ∧ x ≤ 4) by omega)]; rfl, HN.out, HR.out⟩
                  case measure => simp [intOf]; omega
              · go_wp2
                go_roundw
                case rel => exact ⟨p + 1, by omega, by go_num, by rw [HX.out, HOK.out, inB_false.2 (show ¬ (0 ≤ x ∧ x ≤ 4) by omega)]; rfl, HN.out, HR.out⟩
                case measure => simp [intOf]; omega
          · have hpp : p = ys.length := by omega
            have hlt1 : ¬ ((p : Int) < (ys.length : Int)) := by omega
            have he : okN n ys p = mrkOk n ys := by rw [hpp]; exact okN_end n ys
            rw [he]
            have gB0 := HN.out.cell0
            have gB1 := HN.out.cell1
            clear he
            generalize hmb : mrkOk n ys = mb
            have HMB := Lib.hid hmb
            clear hmb
            cases mb with
            | true =>
              go_wp2
              have HNd := Lib.hid HN.out.drew
              have HRd := Lib.hid (show Row wr.drew w.heap.size B A2 b2 o2 (ints ys) from HR.out)
              refine wp_region_noPanic ?_
              refine wp_region_held_drew (S := fun w' => (w'.cell? ⟨B, 0, none⟩ = some (.int .i64 P) ∧ w'.cell? ⟨B, 1, none⟩ = some (.slice (some ⟨b1, 0, none⟩) k c1))) (by kernel_rfl) ?_ (fun hHeld => ?_)
              · exact ⟨gB0, gB1⟩
              generalize hwd : wr.drew = wd at HNd HRd hHeld ⊢
              clear hwd
              refine take_yes (i := 0) (v := ?_) rfl (by kernel_rfl) (by kernel_rfl) (by kernel_rfl) (fun _ _ _ h => h) (by kernel_rfl) ?_ (by assumption) ?_
              rotate_left
              · (intro w hSw; (try dsimp only at hSw); go_simp; try with_reducible rfl)
              try simp only [Act.put, List.setIfInBounds_toArray, List.set_cons_zero, List.set_cons_succ]
              refine take_yes (i := 1) (v := ?_) rfl (by kernel_rfl) (by kernel_rfl) (by kernel_rfl) (fun _ _ _ h => h) (by kernel_rfl) ?_ (by assumption) ?_
              rotate_left
              · (intro w hSw; (try dsimp only at hSw); go_simp; try with_reducible rfl)
              try simp only [Act.put, List.setIfInBounds_toArray, List.set_cons_zero, List.set_cons_succ]
              refine take_yes (i := 3) (v := ?_) rfl (by kernel_rfl) (by kernel_rfl) (by kernel_rfl) (fun _ _ _ h => h) (by kernel_rfl) ?_ (by assumption) ?_
              rotate_left
              · (intro w hSw; (try dsimp only at hSw); go_simp; try with_reducible rfl)
              try simp only [Act.put, List.setIfInBounds_toArray, List.set_cons_zero, List.set_cons_succ]
              refine wpAnyH_ready (rs := [2]) (by kernel_rfl) (by simp) ?_
              refine AllReadyH.cons (of_drop rfl) (fun K hK => ?_) AllReadyH.nil
              go_simp
              (go_at_call 13; refine (implMrkOk_c n _ ys _ _ _ _ A2 b2 o2 c2 wd HNd.out.nv (Nat.le_of_lt HNd.out.lt) (small_out HSM.out) HRd.out (Nat.le_of_lt HNd.out.lt) hym).mono ?_; rintro e x1 ⟨rfl, hbx1⟩)
              rw [HMB.out]
              have HNx1 := Lib.hid (HNd.out.below hbx1)
              have HRx1 := Lib.hid (HRd.out.below hbx1 (Nat.le_of_lt HNd.out.lt))
              have cx10 := HNx1.out.cell0
              have cx11 := HNx1.out.cell1
              clear hbx1
              go_wp2_with fail
              refine hK.out _ _ ?_ (fun hHeld2 => ?_)
              · exact ⟨cx10, cx11⟩
              clear hK K hHeld
              have hHeld := hHeld2
              clear hHeld2
              try simp only [Act.put, List.setIfInBounds_toArray, List.set_cons_zero, List.set_cons_succ]
              refine take_yes (i := 4) (v := ?_) rfl (by kernel_rfl) (by kernel_rfl) (by kernel_rfl) (fun _ _ _ h => h) (by kernel_rfl) ?_ (by assumption) ?_
              rotate_left
              · (intro w hSw; (try dsimp only at hSw); go_simp; try with_reducible rfl)
              try simp only [Act.put, List.setIfInBounds_toArray, List.set_cons_zero, List.set_cons_succ]
              refine take_yes (i := 5) (v := ?_) rfl (by kernel_rfl) (by kernel_rfl) (by kernel_rfl) (fun _ _ _ h => h) (by kernel_rfl) ?_ (by assumption) ?_
              rotate_left
              · (intro w hSw; (try dsimp only at hSw); go_simp; try with_reducible rfl)
              try simp only [Act.put, List.setIfInBounds_toArray, List.set_cons_zero, List.set_cons_succ]
              refine take_yes (i := 6) (v := ?_) rfl (by kernel_rfl) (by kernel_rfl) (by kernel_rfl) (fun _ _ _ h => h) (by kernel_rfl) ?_ (by assumption) ?_
              rotate_left
              · (intro w hSw; (try dsimp only at hSw); go_simp; try with_reducible rfl)
              try simp only [Act.put, List.setIfInBounds_toArray, List.set_cons_zero, List.set_cons_succ]
              refine take_yes (i := 7) (v := ?_) rfl (by kernel_rfl) (by kernel_rfl) (by kernel_rfl) (fun _ _ _ h => h) (by kernel_rfl) ?_ (by assumption) ?_
              rotate_left
              · (intro w hSw; (try dsimp only at hSw); go_simp; try with_reducible rfl)
              try simp only [Act.put, List.setIfInBounds_toArray, List.set_cons_zero, List.set_cons_succ]
              refine take_yes (i := 9) (v := ?_) rfl (by kernel_rfl) (by kernel_rfl) (by kernel_rfl) (fun _ _ _ h => h) (by kernel_rfl) ?_ (by assumption) ?_
              rotate_left
              · (intro w hSw; (try dsimp only at hSw); go_simp; try with_reducible rfl)
              try simp only [Act.put, List.setIfInBounds_toArray, List.set_cons_zero, List.set_cons_succ]
              refine take_yes (i := 10) (v := ?_) rfl (by kernel_rfl) (by kernel_rfl) (by kernel_rfl) (fun _ _ _ h => h) (by kernel_rfl) ?_ (by assumption) ?_
              rotate_left
              · (intro w hSw; (try dsimp only at hSw); go_simp; try with_reducible rfl)
              try simp only [Act.put, List.setIfInBounds_toArray, List.set_cons_zero, List.set_cons_succ]
              refine wpAnyH_ready (rs := [8]) (by kernel_rfl) (by simp) ?_
              refine AllReadyH.cons (of_drop rfl) (fun K hK => ?_) AllReadyH.nil
              go_simp
              (go_at_call 13; refine (implMrkOk_c n _ ys _ _ _ _ A2 b2 o2 c2 x1 HNx1.out.nv (Nat.le_of_lt HNx1.out.lt) (small_out HSM.out) HRx1.out (Nat.le_of_lt HNx1.out.lt) hym).mono ?_; rintro e x2 ⟨rfl, hbx2⟩)
              rw [HMB.out]
              have HNx2 := Lib.hid (HNx1.out.below hbx2)
              have HRx2 := Lib.hid (HRx1.out.below hbx2 (Nat.le_of_lt HNx1.out.lt))
              have cx20 := HNx2.out.cell0
              have cx21 := HNx2.out.cell1
              clear hbx2
              go_wp2_with fail
              refine hK.out _ _ ?_ (fun hHeld2 => ?_)
              · exact ⟨cx20, cx21⟩
              clear hK K hHeld
              have hHeld := hHeld2
              clear hHeld2
              try simp only [Act.put, List.setIfInBounds_toArray, List.set_cons_zero, List.set_cons_succ]
              refine wpAnyH_ready (rs := [11]) (by kernel_rfl) (by simp) ?_
              refine AllReadyH.cons (of_drop rfl) (fun K hK => ?_) AllReadyH.nil
              go_simp
              (go_at_call 14; refine (specMrkOk_c n _ ys _ _ _ _ A2 b2 o2 c2 x2 HNx2.out.nv (Nat.le_of_lt HNx2.out.lt) HRx2.out (Nat.le_of_lt HNx2.out.lt) hym).mono ?_; rintro e x3 ⟨rfl, hbx3⟩)
              rw [HMB.out]
              have HNx3 := Lib.hid (HNx2.out.below hbx3)
              have HRx3 := Lib.hid (HRx2.out.below hbx3 (Nat.le_of_lt HNx2.out.lt))
              have cx30 := HNx3.out.cell0
              have cx31 := HNx3.out.cell1
              clear hbx3
              go_wp2_with fail
              refine hK.out _ _ ?_ (fun hHeld2 => ?_)
              · exact ⟨cx30, cx31⟩
              clear hK K hHeld
              have hHeld := hHeld2
              clear hHeld2
              try simp only [Act.put, List.setIfInBounds_toArray, List.set_cons_zero, List.set_cons_succ]
              refine take_yes (i := 12) (v := ?_) rfl (by kernel_rfl) (by kernel_rfl) (by kernel_rfl) (fun _ _ _ h => h) (by kernel_rfl) ?_ (by assumption) ?_
              rotate_left
              · (intro w hSw; (try dsimp only at hSw); go_simp; try with_reducible rfl)
              try simp only [Act.put, List.setIfInBounds_toArray, List.set_cons_zero, List.set_cons_succ]
              refine take_yes (i := 13) (v := ?_) rfl (by kernel_rfl) (by kernel_rfl) (by kernel_rfl) (fun _ _ _ h => h) (by kernel_rfl) ?_ (by assumption) ?_
              rotate_left
              · (intro w hSw; (try dsimp only at hSw); go_simp; try with_reducible rfl)
              try simp only [Act.put, List.setIfInBounds_toArray, List.set_cons_zero, List.set_cons_succ]
              refine take_yes (i := 14) (v := ?_) rfl (by kernel_rfl) (by kernel_rfl) (by kernel_rfl) (fun _ _ _ h => h) (by kernel_rfl) ?_ (by assumption) ?_
              rotate_left
              · (intro w hSw; (try dsimp only at hSw); go_simp; try with_reducible rfl)
              try simp only [Act.put, List.setIfInBounds_toArray, List.set_cons_zero, List.set_cons_succ]
              refine wpAnyH_ready (rs := [15]) (by kernel_rfl) (by simp) ?_
              refine AllReadyH.cons (of_drop rfl) (fun K hK => ?_) AllReadyH.nil
              go_simp
              (go_at_call 15; refine (guOk_c x3).mono ?_; rintro e x4 ⟨rfl, hbx4⟩)
              have HNx4 := Lib.hid (HNx3.out.below hbx4)
              have cx40 := HNx4.out.cell0
              have cx41 := HNx4.out.cell1
              clear hbx4
              go_wp2_with fail
              refine hK.out _ _ ?_ (fun hHeld2 => ?_)
              · exact ⟨cx40, cx41⟩
              clear hK K hHeld
              have hHeld := hHeld2
              clear hHeld2
              try simp only [Act.put, List.setIfInBounds_toArray, List.set_cons_zero, List.set_cons_succ]
              refine take_yes (i := 16) (v := ?_) rfl (by kernel_rfl) (by kernel_rfl) (by kernel_rfl) (fun _ _ _ h => h) (by kernel_rfl) ?_ (by assumption) ?_
              rotate_left
              · (intro w hSw; (try dsimp only at hSw); go_simp; try with_reducible rfl)
              try simp only [Act.put, List.setIfInBounds_toArray, List.set_cons_zero, List.set_cons_succ]
              refine take_yes (i := 17) (v := ?_) rfl (by kernel_rfl) (by kernel_rfl) (by kernel_rfl) (fun _ _ _ h => h) (by kernel_rfl) ?_ (by assumption) ?_
              rotate_left
              · (intro w hSw; (try dsimp only at hSw); go_simp; try with_reducible rfl)
              try simp only [Act.put, List.setIfInBounds_toArray, List.set_cons_zero, List.set_cons_succ]
              refine wpAnyH_done (by kernel_rfl) ?_ _
              refine NoPanic.normal ?_
              go_wp2
              go_ret
              exact ⟨rfl, HNx4.out.bl⟩
            | false =>
              go_wp2
              have HNd := Lib.hid HN.out.drew
              have HRd := Lib.hid (show Row wr.drew w.heap.size B A2 b2 o2 (ints ys) from HR.out)
              refine wp_region_noPanic ?_
              refine wp_region_held_drew (S := fun w' => (w'.cell? ⟨B, 0, none⟩ = some (.int .i64 P) ∧ w'.cell? ⟨B, 1, none⟩ = some (.slice (some ⟨b1, 0, none⟩) k c1))) (by kernel_rfl) ?_ (fun hHeld => ?_)
              · exact ⟨gB0, gB1⟩
              generalize hwd : wr.drew = wd at HNd HRd hHeld ⊢
              clear hwd
              refine take_yes (i := 0) (v := ?_) rfl (by kernel_rfl) (by kernel_rfl) (by kernel_rfl) (fun _ _ _ h => h) (by kernel_rfl) ?_ (by assumption) ?_
              rotate_left
              · (intro w hSw; (try dsimp only at hSw); go_simp; try with_reducible rfl)
              try simp only [Act.put, List.setIfInBounds_toArray, List.set_cons_zero, List.set_cons_succ]
              refine take_yes (i := 1) (v := ?_) rfl (by kernel_rfl) (by kernel_rfl) (by kernel_rfl) (fun _ _ _ h => h) (by kernel_rfl) ?_ (by assumption) ?_
              rotate_left
              · (intro w hSw; (try dsimp only at hSw); go_simp; try with_reducible rfl)
              try simp only [Act.put, List.setIfInBounds_toArray, List.set_cons_zero, List.set_cons_succ]
              refine take_yes (i := 3) (v := ?_) rfl (by kernel_rfl) (by kernel_rfl) (by kernel_rfl) (fun _ _ _ h => h) (by kernel_rfl) ?_ (by assumption) ?_
              rotate_left
              · (intro w hSw; (try dsimp only at hSw); go_simp; try with_reducible rfl)
              try simp only [Act.put, List.setIfInBounds_toArray, List.set_cons_zero, List.set_cons_succ]
              refine wpAnyH_ready (rs := [2]) (by kernel_rfl) (by simp) ?_
              refine AllReadyH.cons (of_drop rfl) (fun K hK => ?_) AllReadyH.nil
              go_simp
              (go_at_call 13; refine (implMrkOk_c n _ ys _ _ _ _ A2 b2 o2 c2 wd HNd.out.nv (Nat.le_of_lt HNd.out.lt) (small_out HSM.out) HRd.out (Nat.le_of_lt HNd.out.lt) hym).mono ?_; rintro e x1 ⟨rfl, hbx1⟩)
              rw [HMB.out]
              have HNx1 := Lib.hid (HNd.out.below hbx1)
              have HRx1 := Lib.hid (HRd.out.below hbx1 (Nat.le_of_lt HNd.out.lt))
              have cx10 := HNx1.out.cell0
              have cx11 := HNx1.out.cell1
              clear hbx1
              go_wp2_with fail
              refine hK.out _ _ ?_ (fun hHeld2 => ?_)
              · exact ⟨cx10, cx11⟩
              clear hK K hHeld
              have hHeld := hHeld2
              clear hHeld2
              try simp only [Act.put, List.setIfInBounds_toArray, List.set_cons_zero, List.set_cons_succ]
              refine take_yes (i := 4) (v := ?_) rfl (by kernel_rfl) (by kernel_rfl) (by kernel_rfl) (fun _ _ _ h => h) (by kernel_rfl) ?_ (by assumption) ?_
              rotate_left
              · (intro w hSw; (try dsimp only at hSw); go_simp; try with_reducible rfl)
              try simp only [Act.put, List.setIfInBounds_toArray, List.set_cons_zero, List.set_cons_succ]
              refine take_yes (i := 5) (v := ?_) rfl (by kernel_rfl) (by kernel_rfl) (by kernel_rfl) (fun _ _ _ h => h) (by kernel_rfl) ?_ (by assumption) ?_
              rotate_left
              · (intro w hSw; (try dsimp only at hSw); go_simp; try with_reducible rfl)
              try simp only [Act.put, List.setIfInBounds_toArray, List.set_cons_zero, List.set_cons_succ]
              refine take_yes (i := 6) (v := ?_) rfl (by kernel_rfl) (by kernel_rfl) (by kernel_rfl) (fun _ _ _ h => h) (by kernel_rfl) ?_ (by assumption) ?_
              rotate_left
              · (intro w hSw; (try dsimp only at hSw); go_simp; try with_reducible rfl)
              try simp only [Act.put, List.setIfInBounds_toArray, List.set_cons_zero, List.set_cons_succ]
              refine take_yes (i := 7) (v := ?_) rfl (by kernel_rfl) (by kernel_rfl) (by kernel_rfl) (fun _ _ _ h => h) (by kernel_rfl) ?_ (by assumption) ?_
              rotate_left
              · (intro w hSw; (try dsimp only at hSw); go_simp; try with_reducible rfl)
              try simp only [Act.put, List.setIfInBounds_toArray, List.set_cons_zero, List.set_cons_succ]
              refine take_yes (i := 9) (v := ?_) rfl (by kernel_rfl) (by kernel_rfl) (by kernel_rfl) (fun _ _ _ h => h) (by kernel_rfl) ?_ (by assumption) ?_
              rotate_left
              · (intro w hSw; (try dsimp only at hSw); go_simp; try with_reducible rfl)
              try simp only [Act.put, List.setIfInBounds_toArray, List.set_cons_zero, List.set_cons_succ]
              refine take_yes (i := 10) (v := ?_) rfl (by kernel_rfl) (by kernel_rfl) (by kernel_rfl) (fun _ _ _ h => h) (by kernel_rfl) ?_ (by assumption) ?_
              rotate_left
              · (intro w hSw; (try dsimp only at hSw); go_simp; try with_reducible rfl)
              try simp only [Act.put, List.setIfInBounds_toArray, List.set_cons_zero, List.set_cons_succ]
              refine wpAnyH_ready (rs := [8]) (by kernel_rfl) (by simp) ?_
              refine AllReadyH.cons (of_drop rfl) (fun K hK => ?_) AllReadyH.nil
              go_simp
              (go_at_call 13; refine (implMrkOk_c n _ ys _ _ _ _ A2 b2 o2 c2 x1 HNx1.out.nv (Nat.le_of_lt HNx1.out.lt) (small_out HSM.out) HRx1.out (Nat.le_of_lt HNx1.out.lt) hym).mono ?_; rintro e x2 ⟨rfl, hbx2⟩)
              rw [HMB.out]
              have HNx2 := Lib.hid (HNx1.out.below hbx2)
              have HRx2 := Lib.hid (HRx1.out.below hbx2 (Nat.le_of_lt HNx1.out.lt))
              have cx20 := HNx2.out.cell0
              have cx21 := HNx2.out.cell1
              clear hbx2
              go_wp2_with fail
              refine hK.out _ _ ?_ (fun hHeld2 => ?_)
              · exact ⟨cx20, cx21⟩
              clear hK K hHeld
              have hHeld := hHeld2
              clear hHeld2
              try simp only [Act.put, List.setIfInBounds_toArray, List.set_cons_zero, List.set_cons_succ]
              refine wpAnyH_ready (rs := [11]) (by kernel_rfl) (by simp) ?_
              refine AllReadyH.cons (of_drop rfl) (fun K hK => ?_) AllReadyH.nil
              go_simp
              (go_at_call 14; refine (specMrkOk_c n _ ys _ _ _ _ A2 b2 o2 c2 x2 HNx2.out.nv (Nat.le_of_lt HNx2.out.lt) HRx2.out (Nat.le_of_lt HNx2.out.lt) hym).mono ?_; rintro e x3 ⟨rfl, hbx3⟩)
              rw [HMB.out]
              have HNx3 := Lib.hid (HNx2.out.below hbx3)
              have HRx3 := Lib.hid (HRx2.out.below hbx3 (Nat.le_of_lt HNx2.out.lt))
              have cx30 := HNx3.out.cell0
              have cx31 := HNx3.out.cell1
              clear hbx3
              go_wp2_with fail
              refine hK.out _ _ ?_ (fun hHeld2 => ?_)
              · exact ⟨cx30, cx31⟩
              clear hK K hHeld
              have hHeld := hHeld2
              clear hHeld2
              try simp only [Act.put, List.setIfInBounds_toArray, List.set_cons_zero, List.set_cons_succ]
              refine take_yes (i := 12) (v := ?_) rfl (by kernel_rfl) (by kernel_rfl) (by kernel_rfl) (fun _ _ _ h => h) (by kernel_rfl) ?_ (by assumption) ?_
              rotate_left
              · (intro w hSw; (try dsimp only at hSw); go_simp; try with_reducible rfl)
              try simp only [Act.put, List.setIfInBounds_toArray, List.set_cons_zero, List.set_cons_succ]
              refine take_yes (i := 13) (v := ?_) rfl (by kernel_rfl) (by kernel_rfl) (by kernel_rfl) (fun _ _ _ h => h) (by kernel_rfl) ?_ (by assumption) ?_
              rotate_left
              · (intro w hSw; (try dsimp only at hSw); go_simp; try with_reducible rfl)
              try simp only [Act.put, List.setIfInBounds_toArray, List.set_cons_zero, List.set_cons_succ]
              refine take_yes (i := 14) (v := ?_) rfl (by kernel_rfl) (by kernel_rfl) (by kernel_rfl) (fun _ _ _ h => h) (by kernel_rfl) ?_ (by assumption) ?_
              rotate_left
              · (intro w hSw; (try dsimp only at hSw); go_simp; try with_reducible rfl)
              try simp only [Act.put, List.setIfInBounds_toArray, List.set_cons_zero, List.set_cons_succ]
              refine wpAnyH_ready (rs := [15]) (by kernel_rfl) (by simp) ?_
              refine AllReadyH.cons (of_drop rfl) (fun K hK => ?_) AllReadyH.nil
              go_simp
              (go_at_call 15; refine (guOk_c x3).mono ?_; rintro e x4 ⟨rfl, hbx4⟩)
              have HNx4 := Lib.hid (HNx3.out.below hbx4)
              have cx40 := HNx4.out.cell0
              have cx41 := HNx4.out.cell1
              clear hbx4
              go_wp2_with fail
              refine hK.out _ _ ?_ (fun hHeld2 => ?_)
              · exact ⟨cx40, cx41⟩
              clear hK K hHeld
              have hHeld := hHeld2
              clear hHeld2
              try simp only [Act.put, List.setIfInBounds_toArray, List.set_cons_zero, List.set_cons_succ]
              refine take_yes (i := 16) (v := ?_) rfl (by kernel_rfl) (by kernel_rfl) (by kernel_rfl) (fun _ _ _ h => h) (by kernel_rfl) ?_ (by assumption) ?_
              rotate_left
              · (intro w hSw; (try dsimp only at hSw); go_simp; try with_reducible rfl)
              try simp only [Act.put, List.setIfInBounds_toArray, List.set_cons_zero, List.set_cons_succ]
              refine take_yes (i := 17) (v := ?_) rfl (by kernel_rfl) (by kernel_rfl) (by kernel_rfl) (fun _ _ _ h => h) (by kernel_rfl) ?_ (by assumption) ?_
              rotate_left
              · (intro w hSw; (try dsimp only at hSw); go_simp; try with_reducible rfl)
              try simp only [Act.put, List.setIfInBounds_toArray, List.set_cons_zero, List.set_cons_succ]
              refine wpAnyH_done (by kernel_rfl) ?_ _
              refine NoPanic.normal ?_
              go_wp2
              go_ret
              exact ⟨rfl, HNx4.out.bl⟩
    | false =>
      go_wp2
      go_loopw [5, 6] (fun a i wr => ∃ p : Nat, p ≤ ys.length ∧ i = .int .i64 p ∧ a = .bool (okN n ys p) ∧ NB w B P b1 k c1 n wr ∧ Row wr w.heap.size B A2 b2 o2 (ints ys)) (fun _ i _ => ys.length - (intOf i).toNat)
      case atStart => exact ⟨0, Nat.zero_le _, rfl, by rw [← HO0.out]; rfl, HNw2.out, HR2.out⟩
      case round =>
        obtain ⟨p, hp, rfl, rfl, hn, hr⟩ := hrel
        have HN := Lib.hid hn
        have HR := Lib.hid hr
        clear hn hr
        by_cases hlt : p < ys.length
        · have hlt1 : (p : Int) < (ys.length : Int) := by omega
          obtain ⟨rfl, _, _, x, hx, hcx, _⟩ := HR.out.int hlt
          have HX := Lib.hid (okN_step (n := n) hx)
          clear hx
          cases hok : okN n ys p with
          | false =>
            have HOK := Lib.hid hok
            clear hok
            go_wp2
            go_roundw
            case rel => exact ⟨p + 1, by omega, by go_num, by rw [HX.out, HOK.out]; rfl, HN.out, HR.out⟩
            case measure => simp [intOf]; omega
          | true =>
            have HOK := Lib.hid hok
            clear hok
            by_cases h0 : 0 ≤ x
            · by_cases h4 : x ≤ 4
              · go_wp2
                go_roundw
                case rel => exact ⟨p + 1, by omega, by go_num, by rw [HX.out, HOK.out, inB_iff.2 ⟨h0, h4⟩]; rfl, HN.out, HR.out⟩
                case measure => simp [intOf]; omega
              · go_wp2
                go_roundw
                case rel => exact ⟨p + 1, by omega, by go_num, by rw [HX.out, HOK.out, inB_false.2 (show ¬ (0 ≤ x ∧ x ≤ 4) by omega)]; rfl, HN.out, HR.out⟩
                case measure => simp [intOf]; omega
            · go_wp2
              go_roundw
              case rel => exact ⟨p + 1, by omega, by go_num, by rw [HX.out, HOK.out, inB_false.2 (show ¬ (0 ≤ x ∧ x ≤ 4) by omega)]; rfl, HN.out, HR.out⟩
              case measure => simp [intOf]; omega
        · have hpp : p = ys.length := by omega
          have hlt1 : ¬ ((p : Int) < (ys.length : Int)) := by omega
          have he : okN n ys p = mrkOk n ys := by rw [hpp]; exact okN_end n ys
          rw [he]
          have gB0 := HN.out.cell0
          have gB1 := HN.out.cell1
          clear he
          generalize hmb : mrkOk n ys = mb
          have HMB := Lib.hid hmb
          clear hmb
          cases mb with
          | true =>
            go_wp2
            have HNd := Lib.hid HN.out.drew
            have HRd := Lib.hid (show Row wr.drew w.heap.size B A2 b2 o2 (ints ys) from HR.out)
            refine wp_region_noPanic ?_
            refine wp_region_held_drew (S := fun w' => (w'.cell? ⟨B, 0, none⟩ = some (.int .i64 P) ∧ w'.cell? ⟨B, 1, none⟩ = some (.slice (some ⟨b1, 0, none⟩) k c1))) (by kernel_rfl) ?_ (fun hHeld => ?_)
            · exact ⟨gB0, gB1⟩
            generalize hwd : wr.drew = wd at HNd HRd hHeld ⊢
            clear hwd
            refine take_yes (i := 0) (v := ?_) rfl (by kernel_rfl) (by kernel_rfl) (by kernel_rfl) (fun _ _ _ h => h) (by kernel_rfl) ?_ (by assumption) ?_
            rotate_left
            · (intro w hSw; (try dsimp only at hSw); go_simp; try with_reducible rfl)
            try simp only [Act.put, List.setIfInBounds_toArray, List.set_cons_zero, List.set_cons_succ]
            refine take_yes (i := 1) (v := ?_) rfl (by kernel_rfl) (by kernel_rfl) (by kernel_rfl) (fun _ _ _ h => h) (by kernel_rfl) ?_ (by assumption) ?_
            rotate_left
            · (intro w hSw; (try dsimp only at hSw); go_simp; try with_reducible rfl)
            try simp only [Act.put, List.setIfInBounds_toArray, List.set_cons_zero, List.set_cons_succ]
            refine take_yes (i := 3) (v := ?_) rfl (by kernel_rfl) (by kernel_rfl) (by kernel_rfl) (fun _ _ _ h => h) (by kernel_rfl) ?_ (by assumption) ?_
            rotate_left
            · (intro w hSw; (try dsimp only at hSw); go_simp; try with_reducible rfl)
            try simp only [Act.put, List.setIfInBounds_toArray, List.set_cons_zero, List.set_cons_succ]
            refine wpAnyH_ready (rs := [2]) (by kernel_rfl) (by simp) ?_
            refine AllReadyH.cons (of_drop rfl) (fun K hK => ?_) AllReadyH.nil
            go_simp
            (go_at_call 13; refine (implMrkOk_c n _ ys _ _ _ _ A2 b2 o2 c2 wd HNd.out.nv (Nat.le_of_lt HNd.out.lt) (small_out HSM.out) HRd.out (Nat.le_of_lt HNd.out.lt) hym).mono ?_; rintro e x1 ⟨rfl, hbx1⟩)
            rw [HMB.out]
            have HNx1 := Lib.hid (HNd.out.below hbx1)
            have HRx1 := Lib.hid (HRd.out.below hbx1 (Nat.le_of_lt HNd.out.lt))
            have cx10 := HNx1.out.cell0
            have cx11 := HNx1.out.cell1
            clear hbx1
            go_wp2_with fail
            refine hK.out _ _ ?_ (fun hHeld2 => ?_)
            · exact ⟨cx10, cx11⟩
            clear hK K hHeld
            have hHeld := hHeld2
            clear hHeld2
            try simp only [Act.put, List.setIfInBounds_toArray, List.set_cons_zero, List.set_cons_succ]
            refine take_yes (i := 4) (v := ?_) rfl (by kernel_rfl) (by kernel_rfl) (by kernel_rfl) (fun _ _ _ h => h) (by kernel_rfl) ?_ (by assumption) ?_
            rotate_left
            · (intro w hSw; (try dsimp only at hSw); go_simp; try with_reducible rfl)
            try simp only [Act.put, List.setIfInBounds_toArray, List.set_cons_zero, List.set_cons_succ]
            refine take_yes (i := 5) (v := ?_) rfl (by kernel_rfl) (by kernel_rfl) (by kernel_rfl) (fun _ _ _ h => h) (by kernel_rfl) ?_ (by assumption) ?_
            rotate_left
            · (intro w hSw; (try dsimp only at hSw); go_simp; try with_reducible rfl)
            try simp only [Act.put, List.setIfInBounds_toArray, List.set_cons_zero, List.set_cons_succ]
            refine take_yes (i := 6) (v := ?_) rfl (by kernel_rfl) (by kernel_rfl) (by kernel_rfl) (fun _ _ _ h => h) (by kernel_rfl) ?_ (by assumption) ?_
            rotate_left
            · (intro w hSw; (try dsimp only at hSw); go_simp; try with_reducible rfl)
            try simp only [Act.put, List.setIfInBounds_toArray, List.set_cons_zero, List.set_cons_succ]
            refine take_yes (i := 7) (v := ?_) rfl (by kernel_rfl) (by kernel_rfl) (by kernel_rfl) (fun _ _ _ h => h) (by kernel_rfl) ?_ (by assumption) ?_
            rotate_left
            · (intro w hSw; (try dsimp only at hSw); go_simp; try with_reducible rfl)
            try simp only [Act.put, List.setIfInBounds_toArray, List.set_cons_zero, List.set_cons_succ]
            refine take_yes (i := 9) (v := ?_) rfl (by kernel_rfl) (by kernel_rfl) (by kernel_rfl) (fun _ _ _ h => h) (by kernel_rfl) ?_ (by assumption) ?_
            rotate_left
            · (intro w hSw; (try dsimp only at hSw); go_simp; try with_reducible rfl)
            try simp only [Act.put, List.setIfInBounds_toArray, List.set_cons_zero, List.set_cons_succ]
            refine take_yes (i := 10) (v := ?_) rfl (by kernel_rfl) (by kernel_rfl) (by kernel_rfl) (fun _ _ _ h => h) (by kernel_rfl) ?_ (by assumption) ?_
            rotate_left
            · (intro w hSw; (try dsimp only at hSw); go_simp; try with_reducible rfl)
            try simp only [Act.put, List.setIfInBounds_toArray, List.set_cons_zero, List.set_cons_succ]
            refine wpAnyH_ready (rs := [8]) (by kernel_rfl) (by simp) ?_
            refine AllReadyH.cons (of_drop rfl) (fun K hK => ?_) AllReadyH.nil
            go_simp
            (go_at_call 13; refine (implMrkOk_c n _ ys _ _ _ _ A2 b2 o2 c2 x1 HNx1.out.nv (Nat.le_of_lt HNx1.out.lt) (small_out HSM.out) HRx1.out (Nat.le_of_lt HNx1.out.lt) hym).mono ?_; rintro e x2 ⟨rfl, hbx2⟩)
            rw [HMB.out]
            have HNx2 := Lib.hid (HNx1.out.below hbx2)
            have HRx2 := Lib.hid (HRx1.out.below hbx2 (Nat.le_of_lt HNx1.out.lt))
            have cx20 := HNx2.out.cell0
            have cx21 := HNx2.out.cell1
            clear hbx2
            go_wp2_with fail
            refine hK.out _ _ ?_ (fun hHeld2 => ?_)
            · exact ⟨cx20, cx21⟩
            clear hK K hHeld
            have hHeld := hHeld2
            clear hHeld2
            try simp only [Act.put, List.setIfInBounds_toArray, List.set_cons_zero, List.set_cons_succ]
            refine wpAnyH_ready (rs := [11]) (by kernel_rfl) (by simp) ?_
            refine AllReadyH.cons (of_drop rfl) (fun K hK => ?_) AllReadyH.nil
            go_simp
            (go_at_call 14; refine (specMrkOk_c n _ ys _ _ _ _ A2 b2 o2 c2 x2 HNx2.out.nv (Nat.le_of_lt HNx2.out.lt) HRx2.out (Nat.le_of_lt HNx2.out.lt) hym).mono ?_; rintro e x3 ⟨rfl, hbx3⟩)
            rw [HMB.out]
            have HNx3 := Lib.hid (HNx2.out.below hbx3)
            have HRx3 := Lib.hid (HRx2.out.below hbx3 (Nat.le_of_lt HNx2.out.lt))
            have cx30 := HNx3.out.cell0
            have cx31 := HNx3.out.cell1
            clear hbx3
            go_wp2_with fail
            refine hK.out _ _ ?_ (fun hHeld2 => ?_)
            · exact ⟨cx30, cx31⟩
            clear hK K hHeld
            have hHeld := hHeld2
            clear hHeld2
            try simp only [Act.put, List.setIfInBounds_toArray, List.set_cons_zero, List.set_cons_succ]
            refine take_yes (i := 12) (v := ?_) rfl (by kernel_rfl) (by kernel_rfl) (by kernel_rfl) (fun _ _ _ h => h) (by kernel_rfl) ?_ (by assumption) ?_
            rotate_left
            · (intro w hSw; (try dsimp only at hSw); go_simp; try with_reducible rfl)
            try simp only [Act.put, List.setIfInBounds_toArray, List.set_cons_zero, List.set_cons_succ]
            refine take_yes (i := 13) (v := ?_) rfl (by kernel_rfl) (by kernel_rfl) (by kernel_rfl) (fun _ _ _ h => h) (by kernel_rfl) ?_ (by assumption) ?_
            rotate_left
            · (intro w hSw; (try dsimp only at hSw); go_simp; try with_reducible rfl)
            try simp only [Act.put, List.setIfInBounds_toArray, List.set_cons_zero, List.set_cons_succ]
            refine take_yes (i := 14) (v := ?_) rfl (by kernel_rfl) (by kernel_rfl) (by kernel_rfl) (fun _ _ _ h => h) (by kernel_rfl) ?_ (by assumption) ?_
            rotate_left
            · (intro w hSw; (try dsimp only at hSw); go_simp; try with_reducible rfl)
            try simp only [Act.put, List.setIfInBounds_toArray, List.set_cons_zero, List.set_cons_succ]
            refine wpAnyH_ready (rs := [15]) (by kernel_rfl) (by simp) ?_
            refine AllReadyH.cons (of_drop rfl) (fun K hK => ?_) AllReadyH.nil
            go_simp
            (go_at_call 15; refine (guOk_c x3).mono ?_; rintro e x4 ⟨rfl, hbx4⟩)
            have HNx4 := Lib.hid (HNx3.out.below hbx4)
            have cx40 := HNx4.out.cell0
            have cx41 := HNx4.out.cell1
            clear hbx4
            go_wp2_with fail
            refine hK.out _ _ ?_ (fun hHeld2 => ?_)
            · exact ⟨cx40, cx41⟩
            clear hK K hHeld
            have hHeld := hHeld2
            clear hHeld2
            try simp only [Act.put, List.setIfInBounds_toArray, List.set_cons_zero, List.set_cons_succ]
            refine take_yes (i := 16) (v := ?_) rfl (by kernel_rfl) (by kernel_rfl) (by kernel_rfl) (fun _ _ _ h => h) (by kernel_rfl) ?_ (by assumption) ?_
            rotate_left
            · (intro w hSw; (try dsimp only at hSw); go_simp; try with_reducible rfl)
            try simp only [Act.put, List.setIfInBounds_toArray, List.set_cons_zero, List.set_cons_succ]
            refine take_yes (i := 17) (v := ?_) rfl (by kernel_rfl) (by kernel_rfl) (by kernel_rfl) (fun _ _ _ h => h) (by kernel_rfl) ?_ (by assumption) ?_
            rotate_left
            · (intro w hSw; (try dsimp only at hSw); go_simp; try with_reducible rfl)
            try simp only [Act.put, List.setIfInBounds_toArray, List.set_cons_zero, List.set_cons_succ]
            refine wpAnyH_done (by kernel_rfl) ?_ _
            refine NoPanic.normal ?_
            go_wp2
            go_ret
            exact ⟨rfl, HNx4.out.bl⟩
          | false =>
            go_wp2
            have HNd := Lib.hid HN.out.drew
            have HRd := Lib.hid (show Row wr.drew w.heap.size B A2 b2 o2 (ints ys) from HR.out)
            refine wp_region_noPanic ?_
            refine wp_region_held_drew (S := fun w' => (w'.cell? ⟨B, 0, none⟩ = some (.int .i64 P) ∧ w'.cell? ⟨B, 1, none⟩ = some (.slice (some ⟨b1, 0, none⟩) k c1))) (by kernel_rfl) ?_ (fun hHeld => ?_)
            · exact ⟨gB0, gB1⟩
            generalize hwd : wr.drew = wd at HNd HRd hHeld ⊢
            clear hwd
            refine take_yes (i := 0) (v := ?_) rfl (by kernel_rfl) (by kernel_rfl) (by kernel_rfl) (fun _ _ _ h => h) (by kernel_rfl) ?_ (by assumption) ?_
            rotate_left
            · (intro w hSw; (try dsimp only at hSw); go_simp; try with_reducible rfl)
            try simp only [Act.put, List.setIfInBounds_toArray, List.set_cons_zero, List.set_cons_succ]
            refine take_yes (i := 1) (v := ?_) rfl (by kernel_rfl) (by kernel_rfl) (by kernel_rfl) (fun _ _ _ h => h) (by kernel_rfl) ?_ (by assumption) ?_
            rotate_left
            · (intro w hSw; (try dsimp only at hSw); go_simp; try with_reducible rfl)
            try simp only [Act.put, List.setIfInBounds_toArray, List.set_cons_zero, List.set_cons_succ]
            refine take_yes (i := 3) (v := ?_) rfl (by kernel_rfl) (by kernel_rfl) (by kernel_rfl) (fun _ _ _ h => h) (by kernel_rfl) ?_ (by assumption) ?_
            rotate_left
            · (intro w hSw; (try dsimp only at hSw); go_simp; try with_reducible rfl)
            try simp only [Act.put, List.setIfInBounds_toArray, List.set_cons_zero, List.set_cons_succ]
            refine wpAnyH_ready (rs := [2]) (by kernel_rfl) (by simp) ?_
            refine AllReadyH.cons (of_drop rfl) (fun K hK => ?_) AllReadyH.nil
            go_simp
            (go_at_call 13; refine (implMrkOk_c n _ ys _ _ _ _ A2 b2 o2 c2 wd HNd.out.nv (Nat.le_of_lt HNd.out.lt) (small_out HSM.out) HRd.out (Nat.le_of_lt HNd.out.lt) hym).mono ?_; rintro e x1 ⟨rfl, hbx1⟩)
            rw [HMB.out]
            have HNx1 := Lib.hid (HNd.out.below hbx1)
            have HRx1 := Lib.hid (HRd.out.below hbx1 (Nat.le_of_lt HNd.out.lt))
            have cx10 := HNx1.out.cell0
            have cx11 := HNx1.out.cell1
            clear hbx1
            go_wp2_with fail
            refine hK.out _ _ ?_ (fun hHeld2 => ?_)
            · exact ⟨cx10, cx11⟩
            clear hK K hHeld
            have hHeld := hHeld2
            clear hHeld2
            try simp only [Act.put, List.setIfInBounds_toArray, List.set_cons_zero, List.set_cons_succ]
            refine take_yes (i := 4) (v := ?_) rfl (by kernel_rfl) (by kernel_rfl) (by kernel_rfl) (fun _ _ _ h => h) (by kernel_rfl) ?_ (by assumption) ?_
            rotate_left
            · (intro w hSw; (try dsimp only at hSw); go_simp; try with_reducible rfl)
            try simp only [Act.put, List.setIfInBounds_toArray, List.set_cons_zero, List.set_cons_succ]
            refine take_yes (i := 5) (v := ?_) rfl (by kernel_rfl) (by kernel_rfl) (by kernel_rfl) (fun _ _ _ h => h) (by kernel_rfl) ?_ (by assumption) ?_
            rotate_left
            · (intro w hSw; (try dsimp only at hSw); go_simp; try with_reducible rfl)
            try simp only [Act.put, List.setIfInBounds_toArray, List.set_cons_zero, List.set_cons_succ]
            refine take_yes (i := 6) (v := ?_) rfl (by kernel_rfl) (by kernel_rfl) (by kernel_rfl) (fun _ _ _ h => h) (by kernel_rfl) ?_ (by assumption) ?_
            rotate_left
            · (intro w hSw; (try dsimp only at hSw); go_simp; try with_reducible rfl)
            try simp only [Act.put, List.setIfInBounds_toArray, List.set_cons_zero, List.set_cons_succ]
            refine take_yes (i := 7) (v := ?_) rfl (by kernel_rfl) (by kernel_rfl) (by kernel_rfl) (fun _ _ _ h => h) (by kernel_rfl) ?_ (by assumption) ?_
            rotate_left
            · (intro w hSw; (try dsimp only at hSw); go_simp; try with_reducible rfl)
            try simp only [Act.put, List.setIfInBounds_toArray, List.set_cons_zero, List.set_cons_succ]
            refine take_yes (i := 9) (v := ?_) rfl (by kernel_rfl) (by kernel_rfl) (by kernel_rfl) (fun _ _ _ h => h) (by kernel_rfl) ?_ (by assumption) ?_
            rotate_left
            · (intro w hSw; (try dsimp only at hSw); go_simp; try with_reducible rfl)
            try simp only [Act.put, List.setIfInBounds_toArray, List.set_cons_zero, List.set_cons_succ]
            refine take_yes (i := 10) (v := ?_) rfl (by kernel_rfl) (by kernel_rfl) (by kernel_rfl) (fun _ _ _ h => h) (by kernel_rfl) ?_ (by assumption) ?_
            rotate_left
            · (intro w hSw; (try dsimp only at hSw); go_simp; try with_reducible rfl)
            try simp only [Act.put, List.setIfInBounds_toArray, List.set_cons_zero, List.set_cons_succ]
            refine wpAnyH_ready (rs := [8]) (by kernel_rfl) (by simp) ?_
            refine AllReadyH.cons (of_drop rfl) (fun K hK => ?_) AllReadyH.nil
            go_simp
            (go_at_call 13; refine (implMrkOk_c n _ ys _ _ _ _ A2 b2 o2 c2 x1 HNx1.out.nv (Nat.le_of_lt HNx1.out.lt) (small_out HSM.out) HRx1.out (Nat.le_of_lt HNx1.out.lt) hym).mono ?_; rintro e x2 ⟨rfl, hbx2⟩)
            rw [HMB.out]
            have HNx2 := Lib.hid (HNx1.out.below hbx2)
            have HRx2 := Lib.hid (HRx1.out.below hbx2 (Nat.le_of_lt HNx1.out.lt))
            have cx20 := HNx2.out.cell0
            have cx21 := HNx2.out.cell1
            clear hbx2
            go_wp2_with fail
            refine hK.out _ _ ?_ (fun hHeld2 => ?_)
            · exact ⟨cx20, cx21⟩
            clear hK K hHeld
            have hHeld := hHeld2
            clear hHeld2
            try simp only [Act.put, List.setIfInBounds_toArray, List.set_cons_zero, List.set_cons_succ]
            refine wpAnyH_ready (rs := [11]) (by kernel_rfl) (by simp) ?_
            refine AllReadyH.cons (of_drop rfl) (fun K hK => ?_) AllReadyH.nil
            go_simp
            (go_at_call 14; refine (specMrkOk_c n _ ys _ _ _ _ A2 b2 o2 c2 x2 HNx2.out.nv (Nat.le_of_lt HNx2.out.lt) HRx2.out (Nat.le_of_lt HNx2.out.lt) hym).mono ?_; rintro e x3 ⟨rfl, hbx3⟩)
            rw [HMB.out]
            have HNx3 := Lib.hid (HNx2.out.below hbx3)
            have HRx3 := Lib.hid (HRx2.out.below hbx3 (Nat.le_of_lt HNx2.out.lt))
            have cx30 := HNx3.out.cell0
            have cx31 := HNx3.out.cell1
            clear hbx3
            go_wp2_with fail
            refine hK.out _ _ ?_ (fun hHeld2 => ?_)
            · exact ⟨cx30, cx31⟩
            clear hK K hHeld
            have hHeld := hHeld2
            clear hHeld2
            try simp only [Act.put, List.setIfInBounds_toArray, List.set_cons_zero, List.set_cons_succ]
            refine take_yes (i := 12) (v := ?_) rfl (by kernel_rfl) (by kernel_rfl) (by kernel_rfl) (fun _ _ _ h => h) (by kernel_rfl) ?_ (by assumption) ?_
            rotate_left
            · (intro w hSw; (try dsimp only at hSw); go_simp; try with_reducible rfl)
            try simp only [Act.put, List.setIfInBounds_toArray, List.set_cons_zero, List.set_cons_succ]
            refine take_yes (i := 13) (v := ?_) rfl (by kernel_rfl) (by kernel_rfl) (by kernel_rfl) (fun _ _ _ h => h) (by kernel_rfl) ?_ (by assumption) ?_
            rotate_left
            · (intro w hSw; (try dsimp only at hSw); go_simp; try with_reducible rfl)
            try simp only [Act.put, List.setIfInBounds_toArray, List.set_cons_zero, List.set_cons_succ]
            refine take_yes (i := 14) (v := ?_) rfl (by kernel_rfl) (by kernel_rfl) (by kernel_rfl) (fun _ _ _ h => h) (by kernel_rfl) ?_ (by assumption) ?_
            rotate_left
            · (intro w hSw; (try dsimp only at hSw); go_simp; try with_reducible rfl)
            try simp only [Act.put, List.setIfInBounds_toArray, List.set_cons_zero, List.set_cons_succ]
            refine wpAnyH_ready (rs := [15]) (by kernel_rfl) (by simp) ?_
            refine AllReadyH.cons (of_drop rfl) (fun K hK => ?_) AllReadyH.nil
            go_simp
            (go_at_call 15; refine (guOk_c x3).mono ?_; rintro e x4 ⟨rfl, hbx4⟩)
            have HNx4 := Lib.hid (HNx3.out.below hbx4)
            have cx40 := HNx4.out.cell0
            have cx41 := HNx4.out.cell1
            clear hbx4
            go_wp2_with fail
            refine hK.out _ _ ?_ (fun hHeld2 => ?_)
            · exact ⟨cx40, cx41⟩
            clear hK K hHeld
            have hHeld := hHeld2
            clear hHeld2
            try simp only [Act.put, List.setIfInBounds_toArray, List.set_cons_zero, List.set_cons_succ]
            refine take_yes (i := 16) (v := ?_) rfl (by kernel_rfl) (by kernel_rfl) (by kernel_rfl) (fun _ _ _ h => h) (by kernel_rfl) ?_ (by assumption) ?_
            rotate_left
            · (intro w hSw; (try dsimp only at hSw); go_simp; try with_reducible rfl)
            try simp only [Act.put, List.setIfInBounds_toArray, List.set_cons_zero, List.set_cons_succ]
            refine take_yes (i := 17) (v := ?_) rfl (by kernel_rfl) (by kernel_rfl) (by kernel_rfl) (fun _ _ _ h => h) (by kernel_rfl) ?_ (by assumption) ?_
            rotate_left
            · (intro w hSw; (try dsimp only at hSw); go_simp; try with_reducible rfl)
            try simp only [Act.put, List.setIfInBounds_toArray, List.set_cons_zero, List.set_cons_succ]
            refine wpAnyH_done (by kernel_rfl) ?_ _
            refine NoPanic.normal ?_
            go_wp2
            go_ret
            exact ⟨rfl, HNx4.out.bl⟩
end Go.Proofs.Ytoggdhbnkbdilaa
