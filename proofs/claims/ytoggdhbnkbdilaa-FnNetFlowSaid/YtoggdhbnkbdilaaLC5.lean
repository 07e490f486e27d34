/- A law over what is drawn of two codes: a place leads into what takes from it, and is led to by what gives to it. -/
import Derived.Test.YtoggdhbnkbdilaaNBT
import Derived.Test.YtoggdhbnkbdilaaSpecPick
import Derived.Test.YtoggdhbnkbdilaaReader
import Derived.BigQuiet
import Derived.Deep.DeepCutAuto
namespace Go.Proofs.Ytoggdhbnkbdilaa
open Go.RowKit
set_option linter.unusedVariables false
set_option linter.unusedSimpArgs false

theorem mem_ats {p : Nat → Bool} {x : Int} : ∀ {k : Nat}, x ∈ atsN p k ↔ ∃ j : Nat, j < k ∧ p j = true ∧ x = (j : Int)
  | 0 => by simp [atsN]
  | k + 1 => by
    rw [atsN, List.mem_append, mem_ats]
    constructor
    · rintro (⟨j, h1, h2, h3⟩ | h)
      · exact ⟨j, by omega, h2, h3⟩
      · split at h
        · next hp => simp at h; exact ⟨k, by omega, hp, h⟩
        · simp at h
    · rintro ⟨j, h1, h2, h3⟩
      by_cases hj : j < k
      · exact .inl ⟨j, hj, h2, h3⟩
      · obtain rfl : j = k := by omega
        right; rw [if_pos h2]; simp [h3]
theorem pick_mem {p : NTask → Bool} {n : NNet} (h : netOk n = true) {k : Nat} {t : NTask} (ht : n.tasks[k]? = some t) : decide ((k : Int) ∈ pickN p n) = p t := by
  rw [pickN_ok h, Bool.eq_iff_iff, decide_eq_true_eq, mem_ats]
  constructor
  · rintro ⟨j, _, h2, h3⟩
    obtain rfl : k = j := by omega
    rwa [taskAt_of ht] at h2
  · intro hp
    exact ⟨k, lt_of_some ht, by rw [taskAt_of ht]; exact hp, rfl⟩
theorem pick_none {p : NTask → Bool} {n : NNet} (h : ∀ t ∈ n.tasks, p t = false) : (pickN p n).length = 0 := by
  by_cases hk : netOk n = true
  · rw [pickN_ok hk, List.length_eq_zero_iff, List.eq_nil_iff_forall_not_mem]
    intro x hx
    obtain ⟨j, hj, h2, _⟩ := mem_ats.1 hx
    have ht := List.getElem?_eq_getElem hj
    rw [taskAt_of ht, h _ (List.getElem_mem hj)] at h2
    cases h2
  · rw [pickN_no (by simpa using hk)]; rfl
theorem from_one {n : NNet} (h : netOk n = true) : (pickN (fromB 1) n).length = 0 := pick_none fun t ht => by
  obtain ⟨_, _, _, h4, _⟩ := taskOk_parts ((netOk_parts h).2.2.2.2 t ht)
  exact decide_eq_false h4
theorem into_zero {n : NNet} (h : netOk n = true) : (pickN (intoB 0) n).length = 0 := pick_none fun t ht => by
  unfold intoB
  rw [List.any_eq_false]
  intro f hf
  have := out_bound h ht hf
  simp; omega

set_option maxRecDepth 100000 in
set_option maxHeartbeats 8000000 in
theorem netFlow_walk {zs : List Int} {A : Option Addr} {b off c : Nat} {zs' : List Int} {A' : Option Addr} {b' off' c' : Nat} (w : World) (hV : Row w 0 w.heap.size A b off (bytesC zs)) (hz : ∀ x ∈ zs, 0 ≤ x ∧ x ≤ 255) (hm : zs.length ≤ maxLen) (hcap : zs.length ≤ c)
    (hV' : Row w 0 w.heap.size A' b' off' (bytesC zs')) (hz' : ∀ x ∈ zs', 0 ≤ x ∧ x ≤ 255) (hm' : zs'.length ≤ maxLen) (hcap' : zs'.length ≤ c') :
    Calls Try.prog 9 #[.slice A zs.length c, .slice A' zs'.length c'] w fun e w' => e = .returned (.bool true) ∧ Below w.heap.size w w' := by
  have hm0 := hm
  have hm0' := hm'
  have HZ := Lib.hid hz
  have HZ' := Lib.hid hz'
  clear hz hz'
  unfold maxLen at hm hm'
  go_enter Try.func9, Try.ntmps9
  by_cases hbig : 1048576 < zs.length
  · go_wp2; go_ret; exact ⟨rfl, Below.refl _ _⟩
  · by_cases hbig' : 1048576 < zs'.length
    · go_wp2; go_ret; exact ⟨rfl, Below.refl _ _⟩
    · go_wp2_with fail
      refine (drawNetFrom_c zs A b off c w hV HZ.out hm0 hcap).mono ?_
      rintro e w1 ⟨P, b1, k1, c1, n, x, rfl, hx1, hx2, hg, hb⟩
      have HN1 := Lib.hid (NB.start hg hb)
      have HSM := Lib.hid hg.1
      have HPK := Lib.hid (And.intro hg.2.1 hg.2.2.1)
      clear hg hb
      generalize hBB : w1.heap.size = B at HN1
      have HV' := Lib.hid (hV'.below HN1.out.bl (Nat.le_refl _))
      have hwa := HN1.out.bl.size
      go_wp2_with fail
      refine (drawNetInto_c zs' A' b' off' c' _ (HV'.out.more (Nat.le_refl _) hwa) HZ'.out hm0' hcap').mono ?_
      rintro e w2 ⟨Q, d1, m1, e1, m, y, rfl, hy1, hy2, hg, hb⟩
      have HN2 := Lib.hid ((HN1.out.below hb).alloc (.cells #[.int .i64 Q, .slice (some ⟨d1, 0, none⟩) m1 e1] 25))
      have HM2 := Lib.hid (NB.start hg hb)
      have HSM' := Lib.hid hg.1
      have HPK' := Lib.hid (And.intro hg.2.1 hg.2.2.1)
      have hB2 : B < w2.heap.size := (HN1.out.below hb).lt
      clear hg hb HN1 hwa HV'
      generalize hCC : w2.heap.size = C at HM2 hB2
      generalize hWA : w1.alloc (.cells #[.int .i64 P, .slice (some ⟨b1, 0, none⟩) k1 c1] 25) = wA at HM2
      clear hWA
      have hBC : B ≠ C := Nat.ne_of_lt hB2
      have hCB : C ≠ B := Ne.symm hBC
      have a2 := HM2.out.cell0
      have a3 := HM2.out.cell1
      have a0 := HN2.out.cell0
      have a1 := HN2.out.cell1
      go_wp2_with fail
      refine (implNetFrom_c n _ _ _ x _ HN2.out.nv (Nat.le_of_lt HN2.out.lt) (small_out HSM.out)).mono ?_
      rintro e w3 ⟨v3, rfl, hM3, hb3⟩
      have HN3 := Lib.hid (HN2.out.below hb3)
      have HM3 := Lib.hid (HM2.out.below hb3)
      obtain ⟨A3, b3, c3, rfl, hr3⟩ := hM3.row
      have HX3 := Lib.hid hr3
      clear hb3 hM3 hr3
      have p0 := HN3.out.cell0
      have p1 := HN3.out.cell1
      have p2 := HM3.out.cell0
      have p3 := HM3.out.cell1
      clear a0 a1 a2 a3
      go_wp2_with fail
      refine (implNetInto_c m _ _ _ y w3 HM3.out.nv (Nat.le_of_lt HM3.out.lt) (small_out HSM'.out)).mono ?_
      rintro e w4 ⟨v4, rfl, hM4, hb4⟩
      have HN4 := Lib.hid (HN3.out.below hb4)
      have HM4 := Lib.hid (HM3.out.below hb4)
      obtain ⟨A4, b4, c4, rfl, hr4⟩ := hM4.row
      have HY4 := Lib.hid hr4
      have HX4 := Lib.hid ((HX3.out.below hb4 (Nat.le_refl _)).more (Nat.le_refl _) hb4.size)
      clear hb4 hM4 hr4 HX3 HN3 HM3 p0 p1 p2 p3
      have q0 := HN4.out.cell0
      have q1 := HN4.out.cell1
      have q2 := HM4.out.cell0
      have q3 := HM4.out.cell1
      have hxl := pickN_len (fromB x) n
      have hyl := pickN_len (intoB y) m
      go_upto_region 7 with fail
      go_cut [59] (fun s wc => s = .bool false ∧ NB w B P b1 k1 c1 n wc ∧ NB wA C Q d1 m1 e1 m wc ∧ Row wc _ w4.heap.size A3 b3 0 (ints (pickN (fromB x) n)) ∧ Row wc _ w4.heap.size A4 b4 0 (ints (pickN (intoB y) m)) ∧ w4.heap.size ≤ wc.heap.size)
      case first =>
        go_wp2
        have HNd := Lib.hid HN4.out.drew
        have HMd := Lib.hid HM4.out.drew
        have HXd := Lib.hid (show Row w4.drew _ w4.heap.size A3 b3 0 (ints (pickN (fromB x) n)) from HX4.out)
        have HYd := Lib.hid (show Row w4.drew _ w4.heap.size A4 b4 0 (ints (pickN (intoB y) m)) from HY4.out)
        have hsd : w4.heap.size ≤ w4.drew.heap.size := Nat.le_refl _
        generalize hno : netOk n = nn
        have HNO := Lib.hid hno
        clear hno
        cases nn with
        | true =>
          refine wp_region_noPanic ?_
          refine wp_region_held_drew (S := fun w' => (w'.cell? ⟨B, 0, none⟩ = some (.int .i64 P) ∧ w'.cell? ⟨B, 1, none⟩ = some (.slice (some ⟨b1, 0, none⟩) k1 c1) ∧ w'.cell? ⟨C, 0, none⟩ = some (.int .i64 Q) ∧ w'.cell? ⟨C, 1, none⟩ = some (.slice (some ⟨d1, 0, none⟩) m1 e1))) (by kernel_rfl) ?_ (fun hHeld => ?_)
          · exact ⟨q0, q1, q2, q3⟩
          generalize hwd : w4.drew = wd at HNd HMd HXd HYd hsd hHeld ⊢
          clear hwd
          have hswd := hsd
          refine take_yes (i := 0) (v := ?_) rfl (by kernel_rfl) (by kernel_rfl) (by kernel_rfl) (fun _ _ _ h => h) (by kernel_rfl) ?_ (by assumption) ?_
          rotate_left
          · (intro w hSw; (try dsimp only at hSw); go_simp; try with_reducible rfl)
          try simp only [Act.put, List.setIfInBounds_toArray, List.set_cons_zero, List.set_cons_succ]
          refine take_yes (i := 1) (v := ?_) rfl (by kernel_rfl) (by kernel_rfl) (by kernel_rfl) (fun _ _ _ h => h) (by kernel_rfl) ?_ (by assumption) ?_
          rotate_left
          · (intro w hSw; (try dsimp only at hSw); go_simp; try with_reducible rfl)
          try simp only [Act.put, List.setIfInBounds_toArray, List.set_cons_zero, List.set_cons_succ]
          refine take_yes (i := 2) (v := ?_) rfl (by kernel_rfl) (by kernel_rfl) (by kernel_rfl) (fun _ _ _ h => h) (by kernel_rfl) ?_ (by assumption) ?_
          rotate_left
          · (intro w hSw; (try dsimp only at hSw); go_simp; try with_reducible rfl)
          try simp only [Act.put, List.setIfInBounds_toArray, List.set_cons_zero, List.set_cons_succ]
          refine wpAnyH_ready (rs := [3]) (by kernel_rfl) (by simp) ?_
          refine AllReadyH.cons (of_drop rfl) (fun K hK => ?_) AllReadyH.nil
          go_simp
          (go_at_call 36; refine (specNetFrom_c n _ _ _ x wd HNd.out.nv (Nat.le_of_lt HNd.out.lt)).mono ?_; rintro e x1 ⟨v5, rfl, hM5, hbx1⟩)
          obtain ⟨A5, b5, c5, rfl, hr5⟩ := hM5.row
          have HF5 := Lib.hid hr5
          have HNx1 := Lib.hid (HNd.out.below hbx1)
          have HMx1 := Lib.hid (HMd.out.below hbx1)
          have HXx1 := Lib.hid (HXd.out.below hbx1 hswd)
          have HYx1 := Lib.hid (HYd.out.below hbx1 hswd)
          have hsx1 : w4.heap.size ≤ x1.heap.size := Nat.le_trans hswd hbx1.size
          clear hM5 hr5
          have cx10 := HNx1.out.cell0
          have cx11 := HNx1.out.cell1
          have cx12 := HMx1.out.cell0
          have cx13 := HMx1.out.cell1
          clear hbx1
          go_wp2_with fail
          refine hK.out _ _ ?_ (fun hHeld2 => ?_)
          · exact ⟨cx10, cx11, cx12, cx13⟩
          clear hK K hHeld
          have hHeld := hHeld2
          clear hHeld2
          try simp only [Act.put, List.setIfInBounds_toArray, List.set_cons_zero, List.set_cons_succ]
          refine wpAnyH_ready (rs := [4]) (by kernel_rfl) (by simp) ?_
          refine AllReadyH.cons (of_drop rfl) (fun K hK => ?_) AllReadyH.nil
          go_simp
          (go_at_call 24; refine (guInts_c (pickN (fromB x) n) (pickN (fromB x) n) _ _ _ _ A3 A5 b3 0 c3 b5 0 c5 x1 HXx1.out HF5.out (by unfold maxLen; omega) (by unfold maxLen; omega)).mono ?_; rw [decide_eq_true rfl]; rintro e x2 ⟨rfl, hbx2⟩)
          have HNx2 := Lib.hid (HNx1.out.below hbx2)
          have HMx2 := Lib.hid (HMx1.out.below hbx2)
          have HXx2 := Lib.hid (HXx1.out.below hbx2 hsx1)
          have HYx2 := Lib.hid (HYx1.out.below hbx2 hsx1)
          have hsx2 : w4.heap.size ≤ x2.heap.size := Nat.le_trans hsx1 hbx2.size
          
          have cx20 := HNx2.out.cell0
          have cx21 := HNx2.out.cell1
          have cx22 := HMx2.out.cell0
          have cx23 := HMx2.out.cell1
          clear hbx2
          go_wp2_with fail
          refine hK.out _ _ ?_ (fun hHeld2 => ?_)
          · exact ⟨cx20, cx21, cx22, cx23⟩
          clear hK K hHeld
          have hHeld := hHeld2
          clear hHeld2
          try simp only [Act.put, List.setIfInBounds_toArray, List.set_cons_zero, List.set_cons_succ]
          refine take_yes (i := 5) (v := ?_) rfl (by kernel_rfl) (by kernel_rfl) (by kernel_rfl) (fun _ _ _ h => h) (by kernel_rfl) ?_ (by assumption) ?_
          rotate_left
          · (intro w hSw; (try dsimp only at hSw); go_simp; try with_reducible rfl)
          try simp only [Act.put, List.setIfInBounds_toArray, List.set_cons_zero, List.set_cons_succ]
          refine take_yes (i := 6) (v := ?_) rfl (by kernel_rfl) (by kernel_rfl) (by kernel_rfl) (fun _ _ _ h => h) (by kernel_rfl) ?_ (by assumption) ?_
          rotate_left
          · (intro w hSw; (try dsimp only at hSw); go_simp; try with_reducible rfl)
          try simp only [Act.put, List.setIfInBounds_toArray, List.set_cons_zero, List.set_cons_succ]
          refine take_yes (i := 7) (v := ?_) rfl (by kernel_rfl) (by kernel_rfl) (by kernel_rfl) (fun _ _ _ h => h) (by kernel_rfl) ?_ (by assumption) ?_
          rotate_left
          · (intro w hSw; (try dsimp only at hSw); go_simp; try with_reducible rfl)
          try simp only [Act.put, List.setIfInBounds_toArray, List.set_cons_zero, List.set_cons_succ]
          refine take_yes (i := 8) (v := ?_) rfl (by kernel_rfl) (by kernel_rfl) (by kernel_rfl) (fun _ _ _ h => h) (by kernel_rfl) ?_ (by assumption) ?_
          rotate_left
          · (intro w hSw; (try dsimp only at hSw); go_simp; try with_reducible rfl)
          try simp only [Act.put, List.setIfInBounds_toArray, List.set_cons_zero, List.set_cons_succ]
          refine take_yes (i := 9) (v := ?_) rfl (by kernel_rfl) (by kernel_rfl) (by kernel_rfl) (fun _ _ _ h => h) (by kernel_rfl) ?_ (by assumption) ?_
          rotate_left
          · (intro w hSw; (try dsimp only at hSw); go_simp; try with_reducible rfl)
          try simp only [Act.put, List.setIfInBounds_toArray, List.set_cons_zero, List.set_cons_succ]
          refine wpAnyH_ready (rs := [10]) (by kernel_rfl) (by simp) ?_
          refine AllReadyH.cons (of_drop rfl) (fun K hK => ?_) AllReadyH.nil
          go_simp
          (go_at_call 37; refine (specNetInto_c m _ _ _ y x2 HMx2.out.nv (Nat.le_of_lt HMx2.out.lt)).mono ?_; rintro e x3 ⟨v6, rfl, hM6, hbx3⟩)
          obtain ⟨A6, b6, c6, rfl, hr6⟩ := hM6.row
          have HF6 := Lib.hid hr6
          have HNx3 := Lib.hid (HNx2.out.below hbx3)
          have HMx3 := Lib.hid (HMx2.out.below hbx3)
          have HXx3 := Lib.hid (HXx2.out.below hbx3 hsx2)
          have HYx3 := Lib.hid (HYx2.out.below hbx3 hsx2)
          have hsx3 : w4.heap.size ≤ x3.heap.size := Nat.le_trans hsx2 hbx3.size
          clear hM6 hr6
          have cx30 := HNx3.out.cell0
          have cx31 := HNx3.out.cell1
          have cx32 := HMx3.out.cell0
          have cx33 := HMx3.out.cell1
          clear hbx3
          go_wp2_with fail
          refine hK.out _ _ ?_ (fun hHeld2 => ?_)
          · exact ⟨cx30, cx31, cx32, cx33⟩
          clear hK K hHeld
          have hHeld := hHeld2
          clear hHeld2
          try simp only [Act.put, List.setIfInBounds_toArray, List.set_cons_zero, List.set_cons_succ]
          refine wpAnyH_ready (rs := [11]) (by kernel_rfl) (by simp) ?_
          refine AllReadyH.cons (of_drop rfl) (fun K hK => ?_) AllReadyH.nil
          go_simp
          (go_at_call 24; refine (guInts_c (pickN (intoB y) m) (pickN (intoB y) m) _ _ _ _ A4 A6 b4 0 c4 b6 0 c6 x3 HYx3.out HF6.out (by unfold maxLen; omega) (by unfold maxLen; omega)).mono ?_; rw [decide_eq_true rfl]; rintro e x4 ⟨rfl, hbx4⟩)
          have HNx4 := Lib.hid (HNx3.out.below hbx4)
          have HMx4 := Lib.hid (HMx3.out.below hbx4)
          have HXx4 := Lib.hid (HXx3.out.below hbx4 hsx3)
          have HYx4 := Lib.hid (HYx3.out.below hbx4 hsx3)
          have hsx4 : w4.heap.size ≤ x4.heap.size := Nat.le_trans hsx3 hbx4.size
          
          have cx40 := HNx4.out.cell0
          have cx41 := HNx4.out.cell1
          have cx42 := HMx4.out.cell0
          have cx43 := HMx4.out.cell1
          clear hbx4
          go_wp2_with fail
          refine hK.out _ _ ?_ (fun hHeld2 => ?_)
          · exact ⟨cx40, cx41, cx42, cx43⟩
          clear hK K hHeld
          have hHeld := hHeld2
          clear hHeld2
          try simp only [Act.put, List.setIfInBounds_toArray, List.set_cons_zero, List.set_cons_succ]
          refine take_yes (i := 12) (v := ?_) rfl (by kernel_rfl) (by kernel_rfl) (by kernel_rfl) (fun _ _ _ h => h) (by kernel_rfl) ?_ (by assumption) ?_
          rotate_left
          · (intro w hSw; (try dsimp only at hSw); go_simp; try with_reducible rfl)
          try simp only [Act.put, List.setIfInBounds_toArray, List.set_cons_zero, List.set_cons_succ]
          refine take_yes (i := 13) (v := ?_) rfl (by kernel_rfl) (by kernel_rfl) (by kernel_rfl) (fun _ _ _ h => h) (by kernel_rfl) ?_ (by assumption) ?_
          rotate_left
          · (intro w hSw; (try dsimp only at hSw); go_simp; try with_reducible rfl)
          try simp only [Act.put, List.setIfInBounds_toArray, List.set_cons_zero, List.set_cons_succ]
          refine take_yes (i := 14) (v := ?_) rfl (by kernel_rfl) (by kernel_rfl) (by kernel_rfl) (fun _ _ _ h => h) (by kernel_rfl) ?_ (by assumption) ?_
          rotate_left
          · (intro w hSw; (try dsimp only at hSw); go_simp; try with_reducible rfl)
          try simp only [Act.put, List.setIfInBounds_toArray, List.set_cons_zero, List.set_cons_succ]
          refine take_yes (i := 15) (v := ?_) rfl (by kernel_rfl) (by kernel_rfl) (by kernel_rfl) (fun _ _ _ h => h) (by kernel_rfl) ?_ (by assumption) ?_
          rotate_left
          · (intro w hSw; (try dsimp only at hSw); go_simp; try with_reducible rfl)
          try simp only [Act.put, List.setIfInBounds_toArray, List.set_cons_zero, List.set_cons_succ]
          refine take_yes (i := 17) (v := ?_) rfl (by kernel_rfl) (by kernel_rfl) (by kernel_rfl) (fun _ _ _ h => h) (by kernel_rfl) ?_ (by assumption) ?_
          rotate_left
          · (intro w hSw; (try dsimp only at hSw); go_simp; try with_reducible rfl)
          try simp only [Act.put, List.setIfInBounds_toArray, List.set_cons_zero, List.set_cons_succ]
          refine wpAnyH_ready (rs := [16]) (by kernel_rfl) (by simp) ?_
          refine AllReadyH.cons (of_drop rfl) (fun K hK => ?_) AllReadyH.nil
          go_simp
          (go_at_call 12; refine (implNetOk_c n _ _ _ x4 HNx4.out.nv (Nat.le_of_lt HNx4.out.lt) (small_out HSM.out)).mono ?_; rintro e x5 ⟨rfl, hbx5⟩)
          rw [HNO.out]
          have HNx5 := Lib.hid (HNx4.out.below hbx5)
          have HMx5 := Lib.hid (HMx4.out.below hbx5)
          have HXx5 := Lib.hid (HXx4.out.below hbx5 hsx4)
          have HYx5 := Lib.hid (HYx4.out.below hbx5 hsx4)
          have hsx5 : w4.heap.size ≤ x5.heap.size := Nat.le_trans hsx4 hbx5.size
          
          have cx50 := HNx5.out.cell0
          have cx51 := HNx5.out.cell1
          have cx52 := HMx5.out.cell0
          have cx53 := HMx5.out.cell1
          clear hbx5
          go_wp2_with fail
          refine hK.out _ _ ?_ (fun hHeld2 => ?_)
          · exact ⟨cx50, cx51, cx52, cx53⟩
          clear hK K hHeld
          have hHeld := hHeld2
          clear hHeld2
          try simp only [Act.put, List.setIfInBounds_toArray, List.set_cons_zero, List.set_cons_succ]
          refine wpAnyH_ready (rs := [18]) (by kernel_rfl) (by simp) ?_
          refine AllReadyH.cons (of_drop rfl) (fun K hK => ?_) AllReadyH.nil
          go_simp
          (go_at_call 19; refine (specNetOk_c n _ _ _ x5 HNx5.out.nv (Nat.le_of_lt HNx5.out.lt)).mono ?_; rintro e x6 ⟨rfl, hbx6⟩)
          rw [HNO.out]
          have HNx6 := Lib.hid (HNx5.out.below hbx6)
          have HMx6 := Lib.hid (HMx5.out.below hbx6)
          have HXx6 := Lib.hid (HXx5.out.below hbx6 hsx5)
          have HYx6 := Lib.hid (HYx5.out.below hbx6 hsx5)
          have hsx6 : w4.heap.size ≤ x6.heap.size := Nat.le_trans hsx5 hbx6.size
          
          have cx60 := HNx6.out.cell0
          have cx61 := HNx6.out.cell1
          have cx62 := HMx6.out.cell0
          have cx63 := HMx6.out.cell1
          clear hbx6
          go_wp2_with fail
          refine hK.out _ _ ?_ (fun hHeld2 => ?_)
          · exact ⟨cx60, cx61, cx62, cx63⟩
          clear hK K hHeld
          have hHeld := hHeld2
          clear hHeld2
          try simp only [Act.put, List.setIfInBounds_toArray, List.set_cons_zero, List.set_cons_succ]
          refine take_yes (i := 19) (v := ?_) rfl (by kernel_rfl) (by kernel_rfl) (by kernel_rfl) (fun _ _ _ h => h) (by kernel_rfl) ?_ (by assumption) ?_
          rotate_left
          · (intro w hSw; (try dsimp only at hSw); go_simp; try with_reducible rfl)
          try simp only [Act.put, List.setIfInBounds_toArray, List.set_cons_zero, List.set_cons_succ]
          refine take_yes (i := 20) (v := ?_) rfl (by kernel_rfl) (by kernel_rfl) (by kernel_rfl) (fun _ _ _ h => h) (by kernel_rfl) ?_ (by assumption) ?_
          rotate_left
          · (intro w hSw; (try dsimp only at hSw); go_simp; try with_reducible rfl)
          try simp only [Act.put, List.setIfInBounds_toArray, List.set_cons_zero, List.set_cons_succ]
          refine wpAnyH_done (by kernel_rfl) ?_ _
          refine NoPanic.normal ?_
          go_wp2
          go_meet
          exact ⟨rfl, HNx6.out, HMx6.out, HXx6.out, HYx6.out, hsx6⟩
        | false =>
          refine wp_region_noPanic ?_
          refine wp_region_held_drew (S := fun w' => (w'.cell? ⟨B, 0, none⟩ = some (.int .i64 P) ∧ w'.cell? ⟨B, 1, none⟩ = some (.slice (some ⟨b1, 0, none⟩) k1 c1) ∧ w'.cell? ⟨C, 0, none⟩ = some (.int .i64 Q) ∧ w'.cell? ⟨C, 1, none⟩ = some (.slice (some ⟨d1, 0, none⟩) m1 e1))) (by kernel_rfl) ?_ (fun hHeld => ?_)
          · exact ⟨q0, q1, q2, q3⟩
          generalize hwd : w4.drew = wd at HNd HMd HXd HYd hsd hHeld ⊢
          clear hwd
          have hswd := hsd
          refine take_yes (i := 0) (v := ?_) rfl (by kernel_rfl) (by kernel_rfl) (by kernel_rfl) (fun _ _ _ h => h) (by kernel_rfl) ?_ (by assumption) ?_
          rotate_left
          · (intro w hSw; (try dsimp only at hSw); go_simp; try with_reducible rfl)
          try simp only [Act.put, List.setIfInBounds_toArray, List.set_cons_zero, List.set_cons_succ]
          refine take_yes (i := 1) (v := ?_) rfl (by kernel_rfl) (by kernel_rfl) (by kernel_rfl) (fun _ _ _ h => h) (by kernel_rfl) ?_ (by assumption) ?_
          rotate_left
          · (intro w hSw; (try dsimp only at hSw); go_simp; try with_reducible rfl)
          try simp only [Act.put, List.setIfInBounds_toArray, List.set_cons_zero, List.set_cons_succ]
          refine take_yes (i := 2) (v := ?_) rfl (by kernel_rfl) (by kernel_rfl) (by kernel_rfl) (fun _ _ _ h => h) (by kernel_rfl) ?_ (by assumption) ?_
          rotate_left
          · (intro w hSw; (try dsimp only at hSw); go_simp; try with_reducible rfl)
          try simp only [Act.put, List.setIfInBounds_toArray, List.set_cons_zero, List.set_cons_succ]
          refine wpAnyH_ready (rs := [3]) (by kernel_rfl) (by simp) ?_
          refine AllReadyH.cons (of_drop rfl) (fun K hK => ?_) AllReadyH.nil
          go_simp
          (go_at_call 36; refine (specNetFrom_c n _ _ _ x wd HNd.out.nv (Nat.le_of_lt HNd.out.lt)).mono ?_; rintro e x1 ⟨v5, rfl, hM5, hbx1⟩)
          obtain ⟨A5, b5, c5, rfl, hr5⟩ := hM5.row
          have HF5 := Lib.hid hr5
          have HNx1 := Lib.hid (HNd.out.below hbx1)
          have HMx1 := Lib.hid (HMd.out.below hbx1)
          have HXx1 := Lib.hid (HXd.out.below hbx1 hswd)
          have HYx1 := Lib.hid (HYd.out.below hbx1 hswd)
          have hsx1 : w4.heap.size ≤ x1.heap.size := Nat.le_trans hswd hbx1.size
          clear hM5 hr5
          have cx10 := HNx1.out.cell0
          have cx11 := HNx1.out.cell1
          have cx12 := HMx1.out.cell0
          have cx13 := HMx1.out.cell1
          clear hbx1
          go_wp2_with fail
          refine hK.out _ _ ?_ (fun hHeld2 => ?_)
          · exact ⟨cx10, cx11, cx12, cx13⟩
          clear hK K hHeld
          have hHeld := hHeld2
          clear hHeld2
          try simp only [Act.put, List.setIfInBounds_toArray, List.set_cons_zero, List.set_cons_succ]
          refine wpAnyH_ready (rs := [4]) (by kernel_rfl) (by simp) ?_
          refine AllReadyH.cons (of_drop rfl) (fun K hK => ?_) AllReadyH.nil
          go_simp
          (go_at_call 24; refine (guInts_c (pickN (fromB x) n) (pickN (fromB x) n) _ _ _ _ A3 A5 b3 0 c3 b5 0 c5 x1 HXx1.out HF5.out (by unfold maxLen; omega) (by unfold maxLen; omega)).mono ?_; rw [decide_eq_true rfl]; rintro e x2 ⟨rfl, hbx2⟩)
          have HNx2 := Lib.hid (HNx1.out.below hbx2)
          have HMx2 := Lib.hid (HMx1.out.below hbx2)
          have HXx2 := Lib.hid (HXx1.out.below hbx2 hsx1)
          have HYx2 := Lib.hid (HYx1.out.below hbx2 hsx1)
          have hsx2 : w4.heap.size ≤ x2.heap.size := Nat.le_trans hsx1 hbx2.size
          
          have cx20 := HNx2.out.cell0
          have cx21 := HNx2.out.cell1
          have cx22 := HMx2.out.cell0
          have cx23 := HMx2.out.cell1
          clear hbx2
          go_wp2_with fail
          refine hK.out _ _ ?_ (fun hHeld2 => ?_)
          · exact ⟨cx20, cx21, cx22, cx23⟩
          clear hK K hHeld
          have hHeld := hHeld2
          clear hHeld2
          try simp only [Act.put, List.setIfInBounds_toArray, List.set_cons_zero, List.set_cons_succ]
          refine take_yes (i := 5) (v := ?_) rfl (by kernel_rfl) (by kernel_rfl) (by kernel_rfl) (fun _ _ _ h => h) (by kernel_rfl) ?_ (by assumption) ?_
          rotate_left
          · (intro w hSw; (try dsimp only at hSw); go_simp; try with_reducible rfl)
          try simp only [Act.put, List.setIfInBounds_toArray, List.set_cons_zero, List.set_cons_succ]
          refine take_yes (i := 6) (v := ?_) rfl (by kernel_rfl) (by kernel_rfl) (by kernel_rfl) (fun _ _ _ h => h) (by kernel_rfl) ?_ (by assumption) ?_
          rotate_left
          · (intro w hSw; (try dsimp only at hSw); go_simp; try with_reducible rfl)
          try simp only [Act.put, List.setIfInBounds_toArray, List.set_cons_zero, List.set_cons_succ]
          refine take_yes (i := 7) (v := ?_) rfl (by kernel_rfl) (by kernel_rfl) (by kernel_rfl) (fun _ _ _ h => h) (by kernel_rfl) ?_ (by assumption) ?_
          rotate_left
          · (intro w hSw; (try dsimp only at hSw); go_simp; try with_reducible rfl)
          try simp only [Act.put, List.setIfInBounds_toArray, List.set_cons_zero, List.set_cons_succ]
          refine take_yes (i := 8) (v := ?_) rfl (by kernel_rfl) (by kernel_rfl) (by kernel_rfl) (fun _ _ _ h => h) (by kernel_rfl) ?_ (by assumption) ?_
          rotate_left
          · (intro w hSw; (try dsimp only at hSw); go_simp; try with_reducible rfl)
          try simp only [Act.put, List.setIfInBounds_toArray, List.set_cons_zero, List.set_cons_succ]
          refine take_yes (i := 9) (v := ?_) rfl (by kernel_rfl) (by kernel_rfl) (by kernel_rfl) (fun _ _ _ h => h) (by kernel_rfl) ?_ (by assumption) ?_
          rotate_left
          · (intro w hSw; (try dsimp only at hSw); go_simp; try with_reducible rfl)
          try simp only [Act.put, List.setIfInBounds_toArray, List.set_cons_zero, List.set_cons_succ]
          refine wpAnyH_ready (rs := [10]) (by kernel_rfl) (by simp) ?_
          refine AllReadyH.cons (of_drop rfl) (fun K hK => ?_) AllReadyH.nil
          go_simp
          (go_at_call 37; refine (specNetInto_c m _ _ _ y x2 HMx2.out.nv (Nat.le_of_lt HMx2.out.lt)).mono ?_; rintro e x3 ⟨v6, rfl, hM6, hbx3⟩)
          obtain ⟨A6, b6, c6, rfl, hr6⟩ := hM6.row
          have HF6 := Lib.hid hr6
          have HNx3 := Lib.hid (HNx2.out.below hbx3)
          have HMx3 := Lib.hid (HMx2.out.below hbx3)
          have HXx3 := Lib.hid (HXx2.out.below hbx3 hsx2)
          have HYx3 := Lib.hid (HYx2.out.below hbx3 hsx2)
          have hsx3 : w4.heap.size ≤ x3.heap.size := Nat.le_trans hsx2 hbx3.size
          clear hM6 hr6
          have cx30 := HNx3.out.cell0
          have cx31 := HNx3.out.cell1
          have cx32 := HMx3.out.cell0
          have cx33 := HMx3.out.cell1
          clear hbx3
          go_wp2_with fail
          refine hK.out _ _ ?_ (fun hHeld2 => ?_)
          · exact ⟨cx30, cx31, cx32, cx33⟩
          clear hK K hHeld
          have hHeld := hHeld2
          clear hHeld2
          try simp only [Act.put, List.setIfInBounds_toArray, List.set_cons_zero, List.set_cons_succ]
          refine wpAnyH_ready (rs := [11]) (by kernel_rfl) (by simp) ?_
          refine AllReadyH.cons (of_drop rfl) (fun K hK => ?_) AllReadyH.nil
          go_simp
          (go_at_call 24; refine (guInts_c (pickN (intoB y) m) (pickN (intoB y) m) _ _ _ _ A4 A6 b4 0 c4 b6 0 c6 x3 HYx3.out HF6.out (by unfold maxLen; omega) (by unfold maxLen; omega)).mono ?_; rw [decide_eq_true rfl]; rintro e x4 ⟨rfl, hbx4⟩)
          have HNx4 := Lib.hid (HNx3.out.below hbx4)
          have HMx4 := Lib.hid (HMx3.out.below hbx4)
          have HXx4 := Lib.hid (HXx3.out.below hbx4 hsx3)
          have HYx4 := Lib.hid (HYx3.out.below hbx4 hsx3)
          have hsx4 : w4.heap.size ≤ x4.heap.size := Nat.le_trans hsx3 hbx4.size
          
          have cx40 := HNx4.out.cell0
          have cx41 := HNx4.out.cell1
          have cx42 := HMx4.out.cell0
          have cx43 := HMx4.out.cell1
          clear hbx4
          go_wp2_with fail
          refine hK.out _ _ ?_ (fun hHeld2 => ?_)
          · exact ⟨cx40, cx41, cx42, cx43⟩
          clear hK K hHeld
          have hHeld := hHeld2
          clear hHeld2
          try simp only [Act.put, List.setIfInBounds_toArray, List.set_cons_zero, List.set_cons_succ]
          refine take_yes (i := 12) (v := ?_) rfl (by kernel_rfl) (by kernel_rfl) (by kernel_rfl) (fun _ _ _ h => h) (by kernel_rfl) ?_ (by assumption) ?_
          rotate_left
          · (intro w hSw; (try dsimp only at hSw); go_simp; try with_reducible rfl)
          try simp only [Act.put, List.setIfInBounds_toArray, List.set_cons_zero, List.set_cons_succ]
          refine take_yes (i := 13) (v := ?_) rfl (by kernel_rfl) (by kernel_rfl) (by kernel_rfl) (fun _ _ _ h => h) (by kernel_rfl) ?_ (by assumption) ?_
          rotate_left
          · (intro w hSw; (try dsimp only at hSw); go_simp; try with_reducible rfl)
          try simp only [Act.put, List.setIfInBounds_toArray, List.set_cons_zero, List.set_cons_succ]
          refine take_yes (i := 14) (v := ?_) rfl (by kernel_rfl) (by kernel_rfl) (by kernel_rfl) (fun _ _ _ h => h) (by kernel_rfl) ?_ (by assumption) ?_
          rotate_left
          · (intro w hSw; (try dsimp only at hSw); go_simp; try with_reducible rfl)
          try simp only [Act.put, List.setIfInBounds_toArray, List.set_cons_zero, List.set_cons_succ]
          refine take_yes (i := 15) (v := ?_) rfl (by kernel_rfl) (by kernel_rfl) (by kernel_rfl) (fun _ _ _ h => h) (by kernel_rfl) ?_ (by assumption) ?_
          rotate_left
          · (intro w hSw; (try dsimp only at hSw); go_simp; try with_reducible rfl)
          try simp only [Act.put, List.setIfInBounds_toArray, List.set_cons_zero, List.set_cons_succ]
          refine take_yes (i := 17) (v := ?_) rfl (by kernel_rfl) (by kernel_rfl) (by kernel_rfl) (fun _ _ _ h => h) (by kernel_rfl) ?_ (by assumption) ?_
          rotate_left
          · (intro w hSw; (try dsimp only at hSw); go_simp; try with_reducible rfl)
          try simp only [Act.put, List.setIfInBounds_toArray, List.set_cons_zero, List.set_cons_succ]
          refine wpAnyH_ready (rs := [16]) (by kernel_rfl) (by simp) ?_
          refine AllReadyH.cons (of_drop rfl) (fun K hK => ?_) AllReadyH.nil
          go_simp
          (go_at_call 12; refine (implNetOk_c n _ _ _ x4 HNx4.out.nv (Nat.le_of_lt HNx4.out.lt) (small_out HSM.out)).mono ?_; rintro e x5 ⟨rfl, hbx5⟩)
          rw [HNO.out]
          have HNx5 := Lib.hid (HNx4.out.below hbx5)
          have HMx5 := Lib.hid (HMx4.out.below hbx5)
          have HXx5 := Lib.hid (HXx4.out.below hbx5 hsx4)
          have HYx5 := Lib.hid (HYx4.out.below hbx5 hsx4)
          have hsx5 : w4.heap.size ≤ x5.heap.size := Nat.le_trans hsx4 hbx5.size
          
          have cx50 := HNx5.out.cell0
          have cx51 := HNx5.out.cell1
          have cx52 := HMx5.out.cell0
          have cx53 := HMx5.out.cell1
          clear hbx5
          go_wp2_with fail
          refine hK.out _ _ ?_ (fun hHeld2 => ?_)
          · exact ⟨cx50, cx51, cx52, cx53⟩
          clear hK K hHeld
          have hHeld := hHeld2
          clear hHeld2
          try simp only [Act.put, List.setIfInBounds_toArray, List.set_cons_zero, List.set_cons_succ]
          refine wpAnyH_ready (rs := [18]) (by kernel_rfl) (by simp) ?_
          refine AllReadyH.cons (of_drop rfl) (fun K hK => ?_) AllReadyH.nil
          go_simp
          (go_at_call 19; refine (specNetOk_c n _ _ _ x5 HNx5.out.nv (Nat.le_of_lt HNx5.out.lt)).mono ?_; rintro e x6 ⟨rfl, hbx6⟩)
          rw [HNO.out]
          have HNx6 := Lib.hid (HNx5.out.below hbx6)
          have HMx6 := Lib.hid (HMx5.out.below hbx6)
          have HXx6 := Lib.hid (HXx5.out.below hbx6 hsx5)
          have HYx6 := Lib.hid (HYx5.out.below hbx6 hsx5)
          have hsx6 : w4.heap.size ≤ x6.heap.size := Nat.le_trans hsx5 hbx6.size
          
          have cx60 := HNx6.out.cell0
          have cx61 := HNx6.out.cell1
          have cx62 := HMx6.out.cell0
          have cx63 := HMx6.out.cell1
          clear hbx6
          go_wp2_with fail
          refine hK.out _ _ ?_ (fun hHeld2 => ?_)
          · exact ⟨cx60, cx61, cx62, cx63⟩
          clear hK K hHeld
          have hHeld := hHeld2
          clear hHeld2
          try simp only [Act.put, List.setIfInBounds_toArray, List.set_cons_zero, List.set_cons_succ]
          refine take_yes (i := 19) (v := ?_) rfl (by kernel_rfl) (by kernel_rfl) (by kernel_rfl) (fun _ _ _ h => h) (by kernel_rfl) ?_ (by assumption) ?_
          rotate_left
          · (intro w hSw; (try dsimp only at hSw); go_simp; try with_reducible rfl)
          try simp only [Act.put, List.setIfInBounds_toArray, List.set_cons_zero, List.set_cons_succ]
          refine take_yes (i := 20) (v := ?_) rfl (by kernel_rfl) (by kernel_rfl) (by kernel_rfl) (fun _ _ _ h => h) (by kernel_rfl) ?_ (by assumption) ?_
          rotate_left
          · (intro w hSw; (try dsimp only at hSw); go_simp; try with_reducible rfl)
          try simp only [Act.put, List.setIfInBounds_toArray, List.set_cons_zero, List.set_cons_succ]
          refine wpAnyH_done (by kernel_rfl) ?_ _
          refine NoPanic.normal ?_
          go_wp2
          go_meet
          exact ⟨rfl, HNx6.out, HMx6.out, HXx6.out, HYx6.out, hsx6⟩
      case rest =>
        clear HN4 HM4 HX4 HY4 q0 q1 q2 q3
        obtain ⟨rfl, hn, hmm, hrx, hry, hsz⟩ := hcut
        have HN := Lib.hid hn
        have HM := Lib.hid hmm
        have HX := Lib.hid hrx
        have HY := Lib.hid hry
        clear hn hmm hrx hry
        have r0 := HN.out.cell0
        have r1 := HN.out.cell1
        have r2 := HM.out.cell0
        have r3 := HM.out.cell1
        go_wp2_with fail
        refine (specNetOk_c n _ _ _ wc HN.out.nv (Nat.le_of_lt HN.out.lt)).mono ?_
        rintro e w5 ⟨rfl, hb5⟩
        have HN5 := Lib.hid (HN.out.below hb5)
        have HM5 := Lib.hid (HM.out.below hb5)
        have HX5 := Lib.hid (HX.out.below hb5 hsz)
        have HY5 := Lib.hid (HY.out.below hb5 hsz)
        have hs5 : w4.heap.size ≤ w5.heap.size := Nat.le_trans hsz hb5.size
        clear hb5 HN HM HX HY r0 r1 r2 r3
        have s0 := HN5.out.cell0
        have s1 := HN5.out.cell1
        have s2 := HM5.out.cell0
        have s3 := HM5.out.cell1
        cases hokn : netOk n with
        | false =>
          have HOKn := Lib.hid hokn
          have hx0 : (pickN (fromB x) n).length = 0 := by rw [pickN_no hokn]; rfl
          have hx0' : (((pickN (fromB x) n).length : Int) == 0) = true := by simp [hx0]
          clear hokn hx0
          go_wp2_with fail
          refine (specNetOk_c n _ _ _ w5 HN5.out.nv (Nat.le_of_lt HN5.out.lt)).mono ?_
          rintro e w6 ⟨rfl, hbw6⟩
          have HNw6 := Lib.hid (HN5.out.below hbw6)
          have HMw6 := Lib.hid (HM5.out.below hbw6)
          have HXw6 := Lib.hid (HX5.out.below hbw6 hs5)
          have HYw6 := Lib.hid (HY5.out.below hbw6 hs5)
          have hs6 : w4.heap.size ≤ w6.heap.size := Nat.le_trans hs5 hbw6.size
          clear hbw6
          have tw60 := HNw6.out.cell0
          have tw61 := HNw6.out.cell1
          have tw62 := HMw6.out.cell0
          have tw63 := HMw6.out.cell1
          
          rw [HOKn.out]
          go_wp2_with fail
          refine (specNetOk_c m _ _ _ w6 HMw6.out.nv (Nat.le_of_lt HMw6.out.lt)).mono ?_
          rintro e w7 ⟨rfl, hbw7⟩
          have HNw7 := Lib.hid (HNw6.out.below hbw7)
          have HMw7 := Lib.hid (HMw6.out.below hbw7)
          have HXw7 := Lib.hid (HXw6.out.below hbw7 hs6)
          have HYw7 := Lib.hid (HYw6.out.below hbw7 hs6)
          have hs7 : w4.heap.size ≤ w7.heap.size := Nat.le_trans hs6 hbw7.size
          clear hbw7
          have tw70 := HNw7.out.cell0
          have tw71 := HNw7.out.cell1
          have tw72 := HMw7.out.cell0
          have tw73 := HMw7.out.cell1
          
          cases hokm : netOk m with
          | false =>
            have hy0 : (pickN (intoB y) m).length = 0 := by rw [pickN_no hokm]; rfl
            have hy0' : (((pickN (intoB y) m).length : Int) == 0) = true := by simp [hy0]
            clear hokm hy0
            go_wp2_with fail
            refine (guOk_c w7).mono ?_
            rintro e w9 ⟨rfl, hb9⟩
            have HB9 := Lib.hid (HNw7.out.below hb9).bl
            clear hb9
            go_wp2
            go_ret
            exact ⟨rfl, HB9.out⟩
            
          | true =>
            clear hokm
            go_wp2_with fail
            refine (guOk_c w7).mono ?_
            rintro e w9 ⟨rfl, hb9⟩
            have HB9 := Lib.hid (HNw7.out.below hb9).bl
            clear hb9
            go_wp2
            go_ret
            exact ⟨rfl, HB9.out⟩
            
        | true =>
          have HOKn := Lib.hid hokn
          clear hokn
          go_wp2_with fail
          refine (specNetOk_c m _ _ _ w5 HM5.out.nv (Nat.le_of_lt HM5.out.lt)).mono ?_
          rintro e w6 ⟨rfl, hbw6⟩
          have HNw6 := Lib.hid (HN5.out.below hbw6)
          have HMw6 := Lib.hid (HM5.out.below hbw6)
          have HXw6 := Lib.hid (HX5.out.below hbw6 hs5)
          have HYw6 := Lib.hid (HY5.out.below hbw6 hs5)
          have hs6 : w4.heap.size ≤ w6.heap.size := Nat.le_trans hs5 hbw6.size
          clear hbw6
          have tw60 := HNw6.out.cell0
          have tw61 := HNw6.out.cell1
          have tw62 := HMw6.out.cell0
          have tw63 := HMw6.out.cell1
          
          cases hokm : netOk m with
          | false =>
            have HOKm := Lib.hid hokm
            have hy0 : (pickN (intoB y) m).length = 0 := by rw [pickN_no hokm]; rfl
            have hy0' : (((pickN (intoB y) m).length : Int) == 0) = true := by simp [hy0]
            clear hokm hy0
            go_wp2_with fail
            refine (specNetOk_c n _ _ _ w6 HNw6.out.nv (Nat.le_of_lt HNw6.out.lt)).mono ?_
            rintro e w7 ⟨rfl, hbw7⟩
            have HNw7 := Lib.hid (HNw6.out.below hbw7)
            have HMw7 := Lib.hid (HMw6.out.below hbw7)
            have HXw7 := Lib.hid (HXw6.out.below hbw7 hs6)
            have HYw7 := Lib.hid (HYw6.out.below hbw7 hs6)
            have hs7 : w4.heap.size ≤ w7.heap.size := Nat.le_trans hs6 hbw7.size
            clear hbw7
            have tw70 := HNw7.out.cell0
            have tw71 := HNw7.out.cell1
            have tw72 := HMw7.out.cell0
            have tw73 := HMw7.out.cell1
            
            rw [HOKn.out]
            go_wp2_with fail
            refine (specNetOk_c m _ _ _ w7 HMw7.out.nv (Nat.le_of_lt HMw7.out.lt)).mono ?_
            rintro e w8 ⟨rfl, hbw8⟩
            have HNw8 := Lib.hid (HNw7.out.below hbw8)
            have HMw8 := Lib.hid (HMw7.out.below hbw8)
            have HXw8 := Lib.hid (HXw7.out.below hbw8 hs7)
            have HYw8 := Lib.hid (HYw7.out.below hbw8 hs7)
            have hs8 : w4.heap.size ≤ w8.heap.size := Nat.le_trans hs7 hbw8.size
            clear hbw8
            have tw80 := HNw8.out.cell0
            have tw81 := HNw8.out.cell1
            have tw82 := HMw8.out.cell0
            have tw83 := HMw8.out.cell1
            
            rw [HOKm.out]
            go_wp2_with fail
            refine (guOk_c w8).mono ?_
            rintro e w9 ⟨rfl, hb9⟩
            have HB9 := Lib.hid (HNw8.out.below hb9).bl
            clear hb9
            go_wp2
            go_ret
            exact ⟨rfl, HB9.out⟩
            
          | true =>
            have HOKm := Lib.hid hokm
            clear hokm
            have hk6 : k1 ≤ 6 := by have := (netOk_parts HOKn.out).2.2.2.1; have := HPK.out.2; omega
            have hm6 : m1 ≤ 6 := by have := (netOk_parts HOKm.out).2.2.2.1; have := HPK'.out.2; omega
            have hml : (pickN (fromB x) n).length ≤ maxLen := by unfold maxLen; omega
            have hml' : (pickN (intoB y) m).length ≤ maxLen := by unfold maxLen; omega
            have HXH := Lib.hid (fun (z : Int) => guHas_c (pickN (fromB x) n) _ _ A3 b3 0 c3 z w6 HXw6.out hml)
            have HYH := Lib.hid (fun (z : Int) => guHas_c (pickN (intoB y) m) _ _ A4 b4 0 c4 z w6 HYw6.out hml')
            have HPX := Lib.hid (fun (k : Nat) (t : NTask) (ht : n.tasks[k]? = some t) => pick_mem (p := fromB x) HOKn.out ht)
            have HPY := Lib.hid (fun (k : Nat) (t : NTask) (ht : m.tasks[k]? = some t) => pick_mem (p := intoB y) HOKm.out ht)
            generalize hLX : pickN (fromB x) n = LX at HXH HPX ⊢
            generalize hLY : pickN (intoB y) m = LY at HYH HPY ⊢
            clear hLX hLY hml hml' hxl hyl
            go_wp2
            go_loop [11] (fun i => ∃ tn : Nat, tn ≤ k1 ∧ i = .int .i64 tn) (fun i => k1 - (intOf i).toNat)
            case atStart => exact ⟨0, Nat.zero_le _, rfl⟩
            case round =>
              obtain ⟨tn, htn, rfl⟩ := hrel
              by_cases htl : tn < k1
              · have htl1 : (tn : Int) < (k1 : Int) := by omega
                obtain ⟨t, Ai, bi, oi, ci, Ao, bo, oo, co, Ac, bc, oc, cc, ht, hri, _, _, _, _, _, hq2, _, _⟩ := HNw6.out.task (i := tn) (by rw [HPK.out.2]; exact htl)
                have hpm := HPX.out tn t ht
                unfold fromB at hpm
                have HPM := Lib.hid hpm
                have HIH := Lib.hid (guHas_c t.ins _ _ Ai bi oi ci x w6 hri (by have := (HSM.out.2.2.2.2 t (List.mem_of_getElem? ht)).1.1; unfold maxLen; omega))
                clear ht hri hpm
                go_wp2_with fail
                refine HIH.out.mono ?_
                rintro e w' ⟨rfl, rfl⟩
                go_wp2_with fail
                refine (HXH.out (tn : Int)).mono ?_
                rintro e w' ⟨rfl, rfl⟩
                rw [HPM.out]
                generalize decide (x ∈ t.ins) = bb
                have hbb : (bb != bb) = false := by simp
                have hbb2 : (bb == bb) = true := by simp
                go_wp2
                go_round
                case rel => exact ⟨tn + 1, by omega, by go_num⟩
                case measure => simp [intOf]; omega
              · have htl1 : ¬ ((tn : Int) < (k1 : Int)) := by omega
                go_wp2
                go_loop [12] (fun i => ∃ um : Nat, um ≤ m1 ∧ i = .int .i64 um) (fun i => m1 - (intOf i).toNat)
                case atStart => exact ⟨0, Nat.zero_le _, rfl⟩
                case round =>
                  obtain ⟨um, hum, rfl⟩ := hrel
                  by_cases hul : um < m1
                  · have hul1 : (um : Int) < (m1 : Int) := by omega
                    obtain ⟨t, Ai, bi, oi, ci, Ao, bo, oo, co, Ac, bc, oc, cc, ht, _, hro, _, _, _, _, _, hq3, _⟩ := HMw6.out.task (i := um) (by rw [HPK'.out.2]; exact hul)
                    have hpm := HPY.out um t ht
                    unfold intoB at hpm
                    have HPM := Lib.hid hpm
                    have HRO := Lib.hid hro
                    have hol : t.out.length ≤ 16 := (HSM'.out.2.2.2.2 t (List.mem_of_getElem? ht)).1.2.1
                    clear ht hro hpm
                    go_wp2
                    go_loop [13, 14] (fun f i => ∃ j : Nat, j ≤ t.out.length ∧ i = .int .i64 j ∧ f = .bool ((t.out.take j).any fun f => f.to == y)) (fun _ i => t.out.length - (intOf i).toNat)
                    case atStart => exact ⟨0, Nat.zero_le _, rfl, rfl⟩
                    case round =>
                      obtain ⟨j, hj, rfl, rfl⟩ := hrel
                      by_cases hjl : j < t.out.length
                      · have hjl1 : (j : Int) < (t.out.length : Int) := by omega
                        obtain ⟨rfl, _, _, f, hf, ⟨hcf, _⟩, _⟩ := HRO.out.flow hjl
                        have HSN := Lib.hid (any_snoc (fun f : NFlow => f.to == y) hf)
                        clear hf
                        cases hfr : (t.out.take j).any (fun f => f.to == y) with
                        | true =>
                          have HFR := Lib.hid hfr
                          clear hfr
                          go_wp2
                          go_round
                          case rel => exact ⟨j + 1, by omega, by go_num, by rw [HSN.out, HFR.out]; rfl⟩
                          case measure => simp [intOf]; omega
                        | false =>
                          have HFR := Lib.hid hfr
                          clear hfr
                          cases hfy : (f.to == y) with
                          | true =>
                            go_wp2
                            go_round
                            case rel => exact ⟨j + 1, by omega, by go_num, by rw [HSN.out, HFR.out, hfy]; rfl⟩
                            case measure => simp [intOf]; omega
                          | false =>
                            go_wp2
                            go_round
                            case rel => exact ⟨j + 1, by omega, by go_num, by rw [HSN.out, HFR.out, hfy]; rfl⟩
                            case measure => simp [intOf]; omega
                      · have hjl1 : ¬ ((j : Int) < (t.out.length : Int)) := by omega
                        have hj2 : (t.out.take j).any (fun f => f.to == y) = t.out.any (fun f => f.to == y) := by rw [List.take_of_length_le (by omega)]
                        rw [hj2]
                        clear hj2
                        go_wp2_with fail
                        refine (HYH.out (um : Int)).mono ?_
                        rintro e w' ⟨rfl, rfl⟩
                        rw [HPM.out]
                        generalize t.out.any (fun f => f.to == y) = bb
                        have hbb : (bb != bb) = false := by simp
                        have hbb2 : (bb == bb) = true := by simp
                        go_wp2
                        go_round
                        case rel => exact ⟨um + 1, by omega, by go_num⟩
                        case measure => simp [intOf]; omega
                  · have hul1 : ¬ ((um : Int) < (m1 : Int)) := by omega
                    go_wp2_with fail
                    refine (implNetFrom_c n _ _ _ 1 w6 HNw6.out.nv (Nat.le_of_lt HNw6.out.lt) (small_out HSM.out)).mono ?_
                    rintro e w7 ⟨v7, rfl, hM7, hb7⟩
                    have HN7 := Lib.hid (HNw6.out.below hb7)
                    have HM7 := Lib.hid (HMw6.out.below hb7)
                    obtain ⟨A7, b7, c7, rfl, hr7⟩ := hM7.row
                    have hl7 : (((pickN (fromB 1) n).length : Int) == 0) = true := by simp [from_one HOKn.out]
                    clear hb7 hM7 hr7
                    have u0 := HM7.out.cell0
                    have u1 := HM7.out.cell1
                    go_wp2_with fail
                    refine (implNetInto_c m _ _ _ 0 w7 HM7.out.nv (Nat.le_of_lt HM7.out.lt) (small_out HSM'.out)).mono ?_
                    rintro e w8 ⟨v8, rfl, hM8, hb8⟩
                    have HN8 := Lib.hid (HN7.out.below hb8)
                    obtain ⟨A8, b8, c8, rfl, hr8⟩ := hM8.row
                    have hl8 : (((pickN (intoB 0) m).length : Int) == 0) = true := by simp [into_zero HOKm.out]
                    clear hb8 hM8 hr8
                    go_wp2_with fail
                    refine (guOk_c w8).mono ?_
                    rintro e w9 ⟨rfl, hb9⟩
                    have HB9 := Lib.hid (HN8.out.below hb9).bl
                    clear hb9
                    go_wp2
                    go_ret
                    exact ⟨rfl, HB9.out⟩
                    
end Go.Proofs.Ytoggdhbnkbdilaa
