/- A law over what is drawn of a code: nothing leads round in a straight net. -/
import Derived.Test.YtoggdhbnkbdilaaNBT
import Derived.Test.YtoggdhbnkbdilaaSpecStraight
import Derived.Test.YtoggdhbnkbdilaaReader
import Derived.BigQuiet
import Derived.Deep.DeepCutAuto
namespace Go.Proofs.Ytoggdhbnkbdilaa
open Go.RowKit
set_option linter.unusedVariables false
set_option linter.unusedSimpArgs false

theorem NB.blt {w0 w : World} {B b1 k c1 : Nat} {P : Int} {n : NNet} (h : NB w0 B P b1 k c1 n w) (hi : 0 < n.tasks.length) : b1 < B := by
  obtain ⟨A, b, off, c, ms, e, hm, hT⟩ := h.nv
  injection e with e
  have e2 := congrArg (fun a => a[1]?) e
  simp at e2
  obtain ⟨hA, _, _⟩ := e2
  obtain ⟨t1, _, t3, _⟩ := hT.task hi
  rw [t1] at hA
  injection hA with hA
  injection hA with hb _ _
  omega
def rF (n : NNet) (t : NTask) (f : NFlow) : Bool := t.ins.any (bit (fromP n f.to.toNat))
def rT (n : NNet) (t : NTask) : Bool := t.out.any (rF n t)
theorem straight_round {n : NNet} (h : netOk n = true) : straightB n = !(n.tasks.any (rT n)) := by
  rw [straightB, h, Bool.true_and, List.not_any_eq_all_not]
  congr 1
  funext t
  rw [rT, List.not_any_eq_all_not]
  rfl
theorem bit_of {s : List Bool} {k : Nat} {x : Bool} (h : s[k]? = some x) : bit s (k : Int) = x := by show s.getD k false = x; rw [List.getD_eq_getElem?_getD, h]; rfl

set_option maxRecDepth 100000 in
set_option maxHeartbeats 4000000 in
theorem netStraight_walk {zs : List Int} {A : Option Addr} {b off c : Nat} (w : World) (hV : Row w 0 w.heap.size A b off (bytesC zs)) (hz : ∀ x ∈ zs, 0 ≤ x ∧ x ≤ 255) (hm : zs.length ≤ maxLen) (hcap : zs.length ≤ c) :
    Calls Try.prog 10 #[.slice A zs.length c] w fun e w' => e = .returned (.bool true) ∧ Below w.heap.size w w' := by
  have hm0 := hm
  have HZ := Lib.hid hz
  clear hz
  unfold maxLen at hm
  go_enter Try.func10, Try.ntmps10
  by_cases hbig : 1048576 < zs.length
  · go_wp2; go_ret; exact ⟨rfl, Below.refl _ _⟩
  · go_wp2_with fail
    refine (drawNetStraight_c zs A b off c w hV HZ.out hm0 hcap).mono ?_
    rintro e w1 ⟨P, b1, k, c1, n, rfl, hg, hb⟩
    have HN1 := Lib.hid (NB.start hg hb)
    have HSM := Lib.hid hg.1
    have HPK := Lib.hid (And.intro hg.2.1 hg.2.2.1)
    clear hg hb
    generalize hBB : w1.heap.size = B at HN1
    have cB0 := HN1.out.cell0
    have cB1 := HN1.out.cell1
    go_wp2_with fail
    refine (implNetStraight_c n _ _ _ _ HN1.out.nv (Nat.le_of_lt HN1.out.lt) (small_out HSM.out)).mono ?_
    rintro e w2 ⟨rfl, hbw2⟩
    have HNw2 := Lib.hid (HN1.out.below hbw2)
    clear hbw2
    have dB0 := HNw2.out.cell0
    have dB1 := HNw2.out.cell1
    go_wp2_with fail
    refine (specNetStraight_c n _ _ _ _ HNw2.out.nv (Nat.le_of_lt HNw2.out.lt)).mono ?_
    rintro e w3 ⟨rfl, hbw3⟩
    have HNw3 := Lib.hid (HNw2.out.below hbw3)
    clear hbw3
    generalize hwb : straightB n = wb
    have HWB := Lib.hid hwb
    clear hwb
    have eB0 := HNw3.out.cell0
    have eB1 := HNw3.out.cell1
    have hne : (wb != wb) = false := by simp
    have hne2 : (wb == wb) = true := by simp
    go_wp2_with fail
    refine (specNetOk_c n _ _ _ _ HNw3.out.nv (Nat.le_of_lt HNw3.out.lt)).mono ?_
    rintro e w4 ⟨rfl, hbw4⟩
    have HNw4 := Lib.hid (HNw3.out.below hbw4)
    clear hbw4
    have fB0 := HNw4.out.cell0
    have fB1 := HNw4.out.cell1
    by_cases hok : netOk n = true
    · have HOK := Lib.hid hok
      have h1 := netOk_parts hok
      have hall := straight_round hok
      rw [hok]
      clear hok
      have hP : n.places = P := HPK.out.1
      rw [hP] at h1
      obtain ⟨h2, h8, _, hk6, _⟩ := h1
      rw [HPK.out.2] at hk6
      obtain ⟨pn, rfl⟩ := Int.eq_ofNat_of_zero_le (show 0 ≤ P by omega)
      have HP := Lib.hid hP
      rw [HWB.out] at hall
      have HALL := Lib.hid hall
      clear hP hall
      go_wp2
      go_loopw [5, 6] (fun a i wr => ∃ tn : Nat, tn ≤ k ∧ i = .int .i64 tn ∧ a = .bool ((n.tasks.take tn).any (rT n)) ∧ NB w B pn b1 k c1 n wr) (fun _ i _ => k - (intOf i).toNat)
      case atStart => exact ⟨0, Nat.zero_le _, rfl, rfl, HNw4.out⟩
      case round =>
        obtain ⟨tn, htn, rfl, rfl, hn⟩ := hrel
        have HN := Lib.hid hn
        clear hn
        have gB0 := HN.out.cell0
        have gB1 := HN.out.cell1
        by_cases htl : tn < k
        · have htl1 : (tn : Int) < (k : Int) := by omega
          have htk : tn < n.tasks.length := by rw [HPK.out.2]; exact htl
          obtain ⟨t, ht⟩ : ∃ t, n.tasks[tn]? = some t := ⟨_, List.getElem?_eq_getElem htk⟩
          have HT := Lib.hid ht
          have HS1 := Lib.hid (any_snoc (rT n) ht)
          have hil := (HSM.out.2.2.2.2 t (List.mem_of_getElem? ht)).1
          have hil1 := hil.1
          have hil2 := hil.2.1
          clear ht hil
          generalize hR1 : (n.tasks.take tn).any (rT n) = R1
          have HR1 := Lib.hid hR1
          clear hR1
          go_wp2
          obtain ⟨wo, rfl⟩ : ∃ wo, wo = wr := ⟨_, rfl⟩
          go_loopw [5, 7] (fun a i wr => ∃ j : Nat, j ≤ t.out.length ∧ i = .int .i64 j ∧ a = .bool (R1 || (t.out.take j).any (rF n t)) ∧ NB w B pn b1 k c1 n wr) (fun _ i _ => t.out.length - (intOf i).toNat)
          case atStart => exact ⟨0, Nat.zero_le _, rfl, by simp, HN.out⟩
          case round =>
            clear gB0 gB1
            obtain ⟨j, hj, rfl, rfl, hn⟩ := hrel
            have HN2 := Lib.hid hn
            clear hn
            have gB0 := HN2.out.cell0
            have gB1 := HN2.out.cell1
            obtain ⟨t', Ai, bi, oi, ci, Ao, bo, oo, co, Ac, bc, oc, cc, ht', hri, hro, _, _, _, _, hq2, hq3, _⟩ := HN2.out.task htk
            obtain rfl : t = t' := by have := HT.out.symm.trans ht'; injection this
            by_cases hjl : j < t.out.length
            · have hjl1 : (j : Int) < (t.out.length : Int) := by omega
              obtain ⟨f, hf⟩ : ∃ f, t.out[j]? = some f := ⟨_, List.getElem?_eq_getElem hjl⟩
              have HF := Lib.hid hf
              have HS2 := Lib.hid (any_snoc (rF n t) hf)
              have hfb := out_bound HOK.out (List.mem_of_getElem? HT.out) (List.mem_of_getElem? hf)
              rw [HP.out] at hfb
              obtain ⟨fo, hfo⟩ := Int.eq_ofNat_of_zero_le (show 0 ≤ f.to by omega)
              have hfp : fo < pn := by omega
              have HFO := Lib.hid hfo
              clear hf ht' hri hro hfb hfo
              generalize hR2 : (R1 || (t.out.take j).any (rF n t)) = R2
              have HR2 := Lib.hid hR2
              clear hR2
              go_wp2
              clear hq2 hq3 gB0 gB1
              obtain ⟨wo2, rfl⟩ : ∃ wo2, wo2 = wr := ⟨_, rfl⟩
              go_loopw [5, 8] (fun a i wr => ∃ q : Nat, q ≤ t.ins.length ∧ i = .int .i64 q ∧ a = .bool (R2 || (t.ins.take q).any (bit (fromP n fo))) ∧ NB w B pn b1 k c1 n wr) (fun _ i _ => t.ins.length - (intOf i).toNat)
              case atStart => exact ⟨0, Nat.zero_le _, rfl, by simp, HN2.out⟩
              case round =>
                obtain ⟨q, hq, rfl, rfl, hn⟩ := hrel
                have HN3 := Lib.hid hn
                clear hn
                have gB0 := HN3.out.cell0
                have gB1 := HN3.out.cell1
                obtain ⟨t', Ai, bi, oi, ci, Ao, bo, oo, co, Ac, bc, oc, cc, ht', hri, hro, _, _, _, _, hq2, hq3, _⟩ := HN3.out.task htk
                obtain rfl : t = t' := by have := HT.out.symm.trans ht'; injection this
                clear ht'
                by_cases hql : q < t.ins.length
                · have hql1 : (q : Int) < (t.ins.length : Int) := by omega
                  obtain ⟨rfl, _, hbi, z, hz, hcz, _⟩ := hri.int hql
                  obtain ⟨rfl, _, hbo, f', hf', ⟨hcf, _⟩, _⟩ := hro.flow hjl
                  obtain rfl : f = f' := by have := HF.out.symm.trans hf'; injection this
                  rw [HFO.out] at hcf
                  have hzb := ins_bound HOK.out (List.mem_of_getElem? HT.out) (List.mem_of_getElem? hz)
                  rw [HP.out] at hzb
                  obtain ⟨zn, rfl⟩ := Int.eq_ofNat_of_zero_le hzb.1
                  have hzp : zn < pn := by omega
                  have hzp1 : (zn : Int) < (pn : Int) := by omega
                  have HS3 := Lib.hid (any_snoc (bit (fromP n fo)) hz)
                  have hb1 : b1 < B := HN3.out.blt (by omega)
                  clear hz hf' hzb hri hro
                  cases hac : (R2 || (t.ins.take q).any (bit (fromP n fo))) with
                  | false =>
                    have HAC := Lib.hid hac
                    clear hac
                    have HNd := Lib.hid HN3.out.drew
                    go_wp2
                    refine wp_region_noPanic ?_
                    refine wp_region_held_drew (S := fun w' => (w'.cell? ⟨B, 0, none⟩ = some (.int .i64 (pn : Int)) ∧ w'.cell? ⟨B, 1, none⟩ = some (.slice (some ⟨b1, 0, none⟩) k c1) ∧ w'.cell? ⟨b1, tn * 9 + 2, none⟩ = some (.slice (some ⟨bi, oi, none⟩) t.ins.length ci) ∧ w'.cell? ⟨b1, tn * 9 + 3, none⟩ = some (.slice (some ⟨bo, oo, none⟩) t.out.length co) ∧ w'.cell? ⟨bo, oo + j * 4, none⟩ = some (.int .i64 (fo : Int)) ∧ w'.cell? ⟨bi, oi + q, none⟩ = some (.int .i64 (zn : Int)))) (by kernel_rfl) ?_ (fun hHeld => ?_)
                    · exact ⟨gB0, gB1, hq2, hq3, hcf, hcz⟩
                    generalize hwd : wr.drew = wd at HNd hHeld ⊢
                    clear hwd
                    refine take_yes (i := 0) (v := ?_) rfl (by kernel_rfl) (by kernel_rfl) (by kernel_rfl) (fun _ _ _ h => h) (by kernel_rfl) ?_ (by assumption) ?_
                    rotate_left
                    · (intro w hSw; (try dsimp only at hSw); go_simp; try with_reducible rfl)
                    try simp only [Act.put, List.setIfInBounds_toArray, List.set_cons_zero, List.set_cons_succ]
                    refine take_yes (i := 1) (v := ?_) rfl (by kernel_rfl) (by kernel_rfl) (by kernel_rfl) (fun _ _ _ h => h) (by kernel_rfl) ?_ (by assumption) ?_
                    rotate_left
                    · (intro w hSw; (try dsimp only at hSw); go_simp; try with_reducible rfl)
                    try simp only [Act.put, List.setIfInBounds_toArray, List.set_cons_zero, List.set_cons_succ]
                    refine take_yes (i := 2) (v := ?_) rfl (by kernel_rfl) (by kernel_rfl) (by kernel_rfl) (fun _ _ _ h => h) (by kernel_rfl) ?_ (by assumption) ?_
                    rotate_left
                    · (intro w hSw; (try dsimp only at hSw); go_simp; try with_reducible rfl)
                    try simp only [Act.put, List.setIfInBounds_toArray, List.set_cons_zero, List.set_cons_succ]
                    refine take_yes (i := 3) (v := ?_) rfl (by kernel_rfl) (by kernel_rfl) (by kernel_rfl) (fun _ _ _ h => h) (by kernel_rfl) ?_ (by assumption) ?_
                    rotate_left
                    · (intro w hSw; (try dsimp only at hSw); go_simp; try with_reducible rfl)
                    try simp only [Act.put, List.setIfInBounds_toArray, List.set_cons_zero, List.set_cons_succ]
                    refine take_yes (i := 4) (v := ?_) rfl (by kernel_rfl) (by kernel_rfl) (by kernel_rfl) (fun _ _ _ h => h) (by kernel_rfl) ?_ (by assumption) ?_
                    rotate_left
                    · (intro w hSw; (try dsimp only at hSw); go_simp; try with_reducible rfl)
                    try simp only [Act.put, List.setIfInBounds_toArray, List.set_cons_zero, List.set_cons_succ]
                    refine take_yes (i := 5) (v := ?_) rfl (by kernel_rfl) (by kernel_rfl) (by kernel_rfl) (fun _ _ _ h => h) (by kernel_rfl) ?_ (by assumption) ?_
                    rotate_left
                    · (intro w hSw; (try dsimp only at hSw); go_simp; try with_reducible rfl)
                    try simp only [Act.put, List.setIfInBounds_toArray, List.set_cons_zero, List.set_cons_succ]
                    refine take_yes (i := 6) (v := ?_) rfl (by kernel_rfl) (by kernel_rfl) (by kernel_rfl) (fun _ _ _ h => h) (by kernel_rfl) ?_ (by assumption) ?_
                    rotate_left
                    · (intro w hSw; (try dsimp only at hSw); go_simp; try with_reducible rfl)
                    try simp only [Act.put, List.setIfInBounds_toArray, List.set_cons_zero, List.set_cons_succ]
                    refine take_yes (i := 7) (v := ?_) rfl (by kernel_rfl) (by kernel_rfl) (by kernel_rfl) (fun _ _ _ h => h) (by kernel_rfl) ?_ (by assumption) ?_
                    rotate_left
                    · (intro w hSw; (try dsimp only at hSw); go_simp; try with_reducible rfl)
                    try simp only [Act.put, List.setIfInBounds_toArray, List.set_cons_zero, List.set_cons_succ]
                    refine take_yes (i := 8) (v := ?_) rfl (by kernel_rfl) (by kernel_rfl) (by kernel_rfl) (fun _ _ _ h => h) (by kernel_rfl) ?_ (by assumption) ?_
                    rotate_left
                    · (intro w hSw; (try dsimp only at hSw); go_simp; try with_reducible rfl)
                    try simp only [Act.put, List.setIfInBounds_toArray, List.set_cons_zero, List.set_cons_succ]
                    refine take_yes (i := 9) (v := ?_) rfl (by kernel_rfl) (by kernel_rfl) (by kernel_rfl) (fun _ _ _ h => h) (by kernel_rfl) ?_ (by assumption) ?_
                    rotate_left
                    · (intro w hSw; (try dsimp only at hSw); go_simp; try with_reducible rfl)
                    try simp only [Act.put, List.setIfInBounds_toArray, List.set_cons_zero, List.set_cons_succ]
                    refine take_yes (i := 10) (v := ?_) rfl (by kernel_rfl) (by kernel_rfl) (by kernel_rfl) (fun _ _ _ h => h) (by kernel_rfl) ?_ (by assumption) ?_
                    rotate_left
                    · (intro w hSw; (try dsimp only at hSw); go_simp; try with_reducible rfl)
                    try simp only [Act.put, List.setIfInBounds_toArray, List.set_cons_zero, List.set_cons_succ]
                    refine take_yes (i := 11) (v := ?_) rfl (by kernel_rfl) (by kernel_rfl) (by kernel_rfl) (fun _ _ _ h => h) (by kernel_rfl) ?_ (by assumption) ?_
                    rotate_left
                    · (intro w hSw; (try dsimp only at hSw); go_simp; try with_reducible rfl)
                    try simp only [Act.put, List.setIfInBounds_toArray, List.set_cons_zero, List.set_cons_succ]
                    refine take_yes (i := 12) (v := ?_) rfl (by kernel_rfl) (by kernel_rfl) (by kernel_rfl) (fun _ _ _ h => h) (by kernel_rfl) ?_ (by assumption) ?_
                    rotate_left
                    · (intro w hSw; (try dsimp only at hSw); go_simp; try with_reducible rfl)
                    try simp only [Act.put, List.setIfInBounds_toArray, List.set_cons_zero, List.set_cons_succ]
                    refine take_yes (i := 14) (v := ?_) rfl (by kernel_rfl) (by kernel_rfl) (by kernel_rfl) (fun _ _ _ h => h) (by kernel_rfl) ?_ (by assumption) ?_
                    rotate_left
                    · (intro w hSw; (try dsimp only at hSw); go_simp; try with_reducible rfl)
                    try simp only [Act.put, List.setIfInBounds_toArray, List.set_cons_zero, List.set_cons_succ]
                    refine take_yes (i := 15) (v := ?_) rfl (by kernel_rfl) (by kernel_rfl) (by kernel_rfl) (fun _ _ _ h => h) (by kernel_rfl) ?_ (by assumption) ?_
                    rotate_left
                    · (intro w hSw; (try dsimp only at hSw); go_simp; try with_reducible rfl)
                    try simp only [Act.put, List.setIfInBounds_toArray, List.set_cons_zero, List.set_cons_succ]
                    refine take_yes (i := 16) (v := ?_) rfl (by kernel_rfl) (by kernel_rfl) (by kernel_rfl) (fun _ _ _ h => h) (by kernel_rfl) ?_ (by assumption) ?_
                    rotate_left
                    · (intro w hSw; (try dsimp only at hSw); go_simp; try with_reducible rfl)
                    try simp only [Act.put, List.setIfInBounds_toArray, List.set_cons_zero, List.set_cons_succ]
                    refine take_yes (i := 17) (v := ?_) rfl (by kernel_rfl) (by kernel_rfl) (by kernel_rfl) (fun _ _ _ h => h) (by kernel_rfl) ?_ (by assumption) ?_
                    rotate_left
                    · (intro w hSw; (try dsimp only at hSw); go_simp; try with_reducible rfl)
                    try simp only [Act.put, List.setIfInBounds_toArray, List.set_cons_zero, List.set_cons_succ]
                    refine take_yes (i := 18) (v := ?_) rfl (by kernel_rfl) (by kernel_rfl) (by kernel_rfl) (fun _ _ _ h => h) (by kernel_rfl) ?_ (by assumption) ?_
                    rotate_left
                    · (intro w hSw; (try dsimp only at hSw); go_simp; try with_reducible rfl)
                    try simp only [Act.put, List.setIfInBounds_toArray, List.set_cons_zero, List.set_cons_succ]
                    refine take_yes (i := 19) (v := ?_) rfl (by kernel_rfl) (by kernel_rfl) (by kernel_rfl) (fun _ _ _ h => h) (by kernel_rfl) ?_ (by assumption) ?_
                    rotate_left
                    · (intro w hSw; (try dsimp only at hSw); go_simp; try with_reducible rfl)
                    try simp only [Act.put, List.setIfInBounds_toArray, List.set_cons_zero, List.set_cons_succ]
                    refine take_yes (i := 20) (v := ?_) rfl (by kernel_rfl) (by kernel_rfl) (by kernel_rfl) (fun _ _ _ h => h) (by kernel_rfl) ?_ (by assumption) ?_
                    rotate_left
                    · (intro w hSw; (try dsimp only at hSw); go_simp; try with_reducible rfl)
                    try simp only [Act.put, List.setIfInBounds_toArray, List.set_cons_zero, List.set_cons_succ]
                    refine take_yes (i := 21) (v := ?_) rfl (by kernel_rfl) (by kernel_rfl) (by kernel_rfl) (fun _ _ _ h => h) (by kernel_rfl) ?_ (by assumption) ?_
                    rotate_left
                    · (intro w hSw; (try dsimp only at hSw); go_simp; try with_reducible rfl)
                    try simp only [Act.put, List.setIfInBounds_toArray, List.set_cons_zero, List.set_cons_succ]
                    refine take_yes (i := 22) (v := ?_) rfl (by kernel_rfl) (by kernel_rfl) (by kernel_rfl) (fun _ _ _ h => h) (by kernel_rfl) ?_ (by assumption) ?_
                    rotate_left
                    · (intro w hSw; (try dsimp only at hSw); go_simp; try with_reducible rfl)
                    try simp only [Act.put, List.setIfInBounds_toArray, List.set_cons_zero, List.set_cons_succ]
                    refine wpAnyH_ready (rs := [13]) (by kernel_rfl) (by simp) ?_
                    refine AllReadyH.cons (of_drop rfl) (fun K hK => ?_) AllReadyH.nil
                    go_simp
                    (go_at_call 28; refine (implNetReach_c n _ _ _ (fo : Int) (-1) wd HNd.out.nv (Nat.le_of_lt HNd.out.lt) (small_out HSM.out)).mono ?_; rintro e x1 ⟨v5, rfl, hM5, hbx1⟩)
                    rw [fromP_reachN HOK.out (by rw [HP.out]; omega)] at hM5
                    have hl0 := fromP_length n fo
                    rw [HP.out, Int.toNat_natCast] at hl0
                    obtain ⟨g5, c5, rfl, _, hg5⟩ := hM5.len (by rw [hl0]; omega)
                    rw [hl0] at hM5 ⊢
                    obtain ⟨e5, _, _⟩ := hM5.at_ hl0 (k := zn) (by rw [hl0]; omega)
                    generalize hv5 : (fromP n fo).getD zn false = x5 at e5
                    have HV5 := Lib.hid hv5
                    have hwl := HNd.out.lt
                    have d2 := (hbx1.cell (p := ⟨b1, tn * 9 + 2, none⟩) (by show b1 < _; omega)).trans hHeld.2.2.1
                    have d3 := (hbx1.cell (p := ⟨b1, tn * 9 + 3, none⟩) (by show b1 < _; omega)).trans hHeld.2.2.2.1
                    have d4 := (hbx1.cell (p := ⟨bo, oo + j * 4, none⟩) (by show bo < _; omega)).trans hHeld.2.2.2.2.1
                    have d5 := (hbx1.cell (p := ⟨bi, oi + q, none⟩) (by show bi < _; omega)).trans hHeld.2.2.2.2.2
                    have HNx1 := Lib.hid (HNd.out.below hbx1)
                    have cx10 := HNx1.out.cell0
                    have cx11 := HNx1.out.cell1
                    clear hbx1 hM5 hv5 hl0
                    go_wp2_with fail
                    refine hK.out _ _ ?_ (fun hHeld2 => ?_)
                    · exact ⟨cx10, cx11, d2, d3, d4, d5⟩
                    clear hK K hHeld
                    have hHeld := hHeld2
                    clear hHeld2
                    try simp only [Act.put, List.setIfInBounds_toArray, List.set_cons_zero, List.set_cons_succ]
                    refine take_yes (i := 23) (v := ?_) rfl (by kernel_rfl) (by kernel_rfl) (by kernel_rfl) (fun _ _ _ h => h) (by kernel_rfl) ?_ (by assumption) ?_
                    rotate_left
                    · (intro w hSw; (try dsimp only at hSw); go_simp; try with_reducible rfl)
                    try simp only [Act.put, List.setIfInBounds_toArray, List.set_cons_zero, List.set_cons_succ]
                    refine wpAnyH_ready (rs := [24]) (by kernel_rfl) (by simp) ?_
                    refine AllReadyH.cons (of_drop rfl) (fun K hK => ?_) AllReadyH.nil
                    go_simp
                    skip
                    go_wp2_with fail
                    refine hK.out _ _ ?_ (fun hHeld2 => ?_)
                    · exact ⟨cx10, cx11, d2, d3, d4, d5⟩
                    clear hK K hHeld
                    have hHeld := hHeld2
                    clear hHeld2
                    try simp only [Act.put, List.setIfInBounds_toArray, List.set_cons_zero, List.set_cons_succ]
                    refine take_yes (i := 25) (v := ?_) rfl (by kernel_rfl) (by kernel_rfl) (by kernel_rfl) (fun _ _ _ h => h) (by kernel_rfl) ?_ (by assumption) ?_
                    rotate_left
                    · (intro w hSw; (try dsimp only at hSw); go_simp; try with_reducible rfl)
                    try simp only [Act.put, List.setIfInBounds_toArray, List.set_cons_zero, List.set_cons_succ]
                    refine take_yes (i := 26) (v := ?_) rfl (by kernel_rfl) (by kernel_rfl) (by kernel_rfl) (fun _ _ _ h => h) (by kernel_rfl) ?_ (by assumption) ?_
                    rotate_left
                    · (intro w hSw; (try dsimp only at hSw); go_simp; try with_reducible rfl)
                    try simp only [Act.put, List.setIfInBounds_toArray, List.set_cons_zero, List.set_cons_succ]
                    refine wpAnyH_done (by kernel_rfl) ?_ _
                    refine NoPanic.normal ?_
                    go_wp2
                    go_roundw
                    case rel => exact ⟨q + 1, by omega, by go_num, by rw [HS3.out, ← Bool.or_assoc, HAC.out, bit_nat, HV5.out]; rfl, HNx1.out⟩
                    case measure => simp [intOf]; omega
                  | true =>
                    have HAC := Lib.hid hac
                    clear hac
                    have HNd := Lib.hid HN3.out.drew
                    go_wp2
                    refine wp_region_noPanic ?_
                    refine wp_region_held_drew (S := fun w' => True) (by kernel_rfl) ?_ (fun hHeld => ?_)
                    · exact trivial
                    refine take_yes (i := 0) (v := ?_) rfl (by kernel_rfl) (by kernel_rfl) (by kernel_rfl) (fun _ _ _ h => h) (by kernel_rfl) ?_ (by assumption) ?_
                    rotate_left
                    · (intro w hSw; (try dsimp only at hSw); go_simp; try with_reducible rfl)
                    try simp only [Act.put, List.setIfInBounds_toArray, List.set_cons_zero, List.set_cons_succ]
                    refine take_yes (i := 1) (v := ?_) rfl (by kernel_rfl) (by kernel_rfl) (by kernel_rfl) (fun _ _ _ h => h) (by kernel_rfl) ?_ (by assumption) ?_
                    rotate_left
                    · (intro w hSw; (try dsimp only at hSw); go_simp; try with_reducible rfl)
                    try simp only [Act.put, List.setIfInBounds_toArray, List.set_cons_zero, List.set_cons_succ]
                    refine take_no (i := 2) rfl (by kernel_rfl) (by kernel_rfl) (by kernel_rfl) (fun _ _ _ h => h) (by kernel_rfl) (by assumption) ?_
                    try simp only [Act.put, List.setIfInBounds_toArray, List.set_cons_zero, List.set_cons_succ]
                    refine take_no (i := 3) rfl (by kernel_rfl) (by kernel_rfl) (by kernel_rfl) (fun _ _ _ h => h) (by kernel_rfl) (by assumption) ?_
                    try simp only [Act.put, List.setIfInBounds_toArray, List.set_cons_zero, List.set_cons_succ]
                    refine take_no (i := 4) rfl (by kernel_rfl) (by kernel_rfl) (by kernel_rfl) (fun _ _ _ h => h) (by kernel_rfl) (by assumption) ?_
                    try simp only [Act.put, List.setIfInBounds_toArray, List.set_cons_zero, List.set_cons_succ]
                    refine take_no (i := 5) rfl (by kernel_rfl) (by kernel_rfl) (by kernel_rfl) (fun _ _ _ h => h) (by kernel_rfl) (by assumption) ?_
                    try simp only [Act.put, List.setIfInBounds_toArray, List.set_cons_zero, List.set_cons_succ]
                    refine take_no (i := 6) rfl (by kernel_rfl) (by kernel_rfl) (by kernel_rfl) (fun _ _ _ h => h) (by kernel_rfl) (by assumption) ?_
                    try simp only [Act.put, List.setIfInBounds_toArray, List.set_cons_zero, List.set_cons_succ]
                    refine take_no (i := 7) rfl (by kernel_rfl) (by kernel_rfl) (by kernel_rfl) (fun _ _ _ h => h) (by kernel_rfl) (by assumption) ?_
                    try simp only [Act.put, List.setIfInBounds_toArray, List.set_cons_zero, List.set_cons_succ]
                    refine take_no (i := 8) rfl (by kernel_rfl) (by kernel_rfl) (by kernel_rfl) (fun _ _ _ h => h) (by kernel_rfl) (by assumption) ?_
                    try simp only [Act.put, List.setIfInBounds_toArray, List.set_cons_zero, List.set_cons_succ]
                    refine take_no (i := 9) rfl (by kernel_rfl) (by kernel_rfl) (by kernel_rfl) (fun _ _ _ h => h) (by kernel_rfl) (by assumption) ?_
                    try simp only [Act.put, List.setIfInBounds_toArray, List.set_cons_zero, List.set_cons_succ]
                    refine take_no (i := 10) rfl (by kernel_rfl) (by kernel_rfl) (by kernel_rfl) (fun _ _ _ h => h) (by kernel_rfl) (by assumption) ?_
                    try simp only [Act.put, List.setIfInBounds_toArray, List.set_cons_zero, List.set_cons_succ]
                    refine take_no (i := 11) rfl (by kernel_rfl) (by kernel_rfl) (by kernel_rfl) (fun _ _ _ h => h) (by kernel_rfl) (by assumption) ?_
                    try simp only [Act.put, List.setIfInBounds_toArray, List.set_cons_zero, List.set_cons_succ]
                    refine take_no (i := 12) rfl (by kernel_rfl) (by kernel_rfl) (by kernel_rfl) (fun _ _ _ h => h) (by kernel_rfl) (by assumption) ?_
                    try simp only [Act.put, List.setIfInBounds_toArray, List.set_cons_zero, List.set_cons_succ]
                    refine take_no (i := 13) rfl (by kernel_rfl) (by kernel_rfl) (by kernel_rfl) (fun _ _ _ h => h) (by kernel_rfl) (by assumption) ?_
                    try simp only [Act.put, List.setIfInBounds_toArray, List.set_cons_zero, List.set_cons_succ]
                    refine take_no (i := 14) rfl (by kernel_rfl) (by kernel_rfl) (by kernel_rfl) (fun _ _ _ h => h) (by kernel_rfl) (by assumption) ?_
                    try simp only [Act.put, List.setIfInBounds_toArray, List.set_cons_zero, List.set_cons_succ]
                    refine take_no (i := 15) rfl (by kernel_rfl) (by kernel_rfl) (by kernel_rfl) (fun _ _ _ h => h) (by kernel_rfl) (by assumption) ?_
                    try simp only [Act.put, List.setIfInBounds_toArray, List.set_cons_zero, List.set_cons_succ]
                    refine take_no (i := 16) rfl (by kernel_rfl) (by kernel_rfl) (by kernel_rfl) (fun _ _ _ h => h) (by kernel_rfl) (by assumption) ?_
                    try simp only [Act.put, List.setIfInBounds_toArray, List.set_cons_zero, List.set_cons_succ]
                    refine take_no (i := 17) rfl (by kernel_rfl) (by kernel_rfl) (by kernel_rfl) (fun _ _ _ h => h) (by kernel_rfl) (by assumption) ?_
                    try simp only [Act.put, List.setIfInBounds_toArray, List.set_cons_zero, List.set_cons_succ]
                    refine take_no (i := 18) rfl (by kernel_rfl) (by kernel_rfl) (by kernel_rfl) (fun _ _ _ h => h) (by kernel_rfl) (by assumption) ?_
                    try simp only [Act.put, List.setIfInBounds_toArray, List.set_cons_zero, List.set_cons_succ]
                    refine take_no (i := 19) rfl (by kernel_rfl) (by kernel_rfl) (by kernel_rfl) (fun _ _ _ h => h) (by kernel_rfl) (by assumption) ?_
                    try simp only [Act.put, List.setIfInBounds_toArray, List.set_cons_zero, List.set_cons_succ]
                    refine take_no (i := 20) rfl (by kernel_rfl) (by kernel_rfl) (by kernel_rfl) (fun _ _ _ h => h) (by kernel_rfl) (by assumption) ?_
                    try simp only [Act.put, List.setIfInBounds_toArray, List.set_cons_zero, List.set_cons_succ]
                    refine take_no (i := 21) rfl (by kernel_rfl) (by kernel_rfl) (by kernel_rfl) (fun _ _ _ h => h) (by kernel_rfl) (by assumption) ?_
                    try simp only [Act.put, List.setIfInBounds_toArray, List.set_cons_zero, List.set_cons_succ]
                    refine take_no (i := 22) rfl (by kernel_rfl) (by kernel_rfl) (by kernel_rfl) (fun _ _ _ h => h) (by kernel_rfl) (by assumption) ?_
                    try simp only [Act.put, List.setIfInBounds_toArray, List.set_cons_zero, List.set_cons_succ]
                    refine take_no (i := 23) rfl (by kernel_rfl) (by kernel_rfl) (by kernel_rfl) (fun _ _ _ h => h) (by kernel_rfl) (by assumption) ?_
                    try simp only [Act.put, List.setIfInBounds_toArray, List.set_cons_zero, List.set_cons_succ]
                    refine take_no (i := 24) rfl (by kernel_rfl) (by kernel_rfl) (by kernel_rfl) (fun _ _ _ h => h) (by kernel_rfl) (by assumption) ?_
                    try simp only [Act.put, List.setIfInBounds_toArray, List.set_cons_zero, List.set_cons_succ]
                    refine take_yes (i := 25) (v := ?_) rfl (by kernel_rfl) (by kernel_rfl) (by kernel_rfl) (fun _ _ _ h => h) (by kernel_rfl) ?_ (by assumption) ?_
                    rotate_left
                    · (intro w hSw; (try dsimp only at hSw); go_simp; try with_reducible rfl)
                    try simp only [Act.put, List.setIfInBounds_toArray, List.set_cons_zero, List.set_cons_succ]
                    refine take_yes (i := 26) (v := ?_) rfl (by kernel_rfl) (by kernel_rfl) (by kernel_rfl) (fun _ _ _ h => h) (by kernel_rfl) ?_ (by assumption) ?_
                    rotate_left
                    · (intro w hSw; (try dsimp only at hSw); go_simp; try with_reducible rfl)
                    try simp only [Act.put, List.setIfInBounds_toArray, List.set_cons_zero, List.set_cons_succ]
                    refine wpAnyH_done (by kernel_rfl) ?_ _
                    refine NoPanic.normal ?_
                    go_wp2
                    go_roundw
                    case rel => exact ⟨q + 1, by omega, by go_num, by rw [HS3.out, ← Bool.or_assoc, HAC.out]; rfl, HNd.out⟩
                    case measure => simp [intOf]; omega
                · have hql1 : ¬ ((q : Int) < (t.ins.length : Int)) := by omega
                  clear hri hro
                  go_wp2
                  go_roundw
                  case rel => exact ⟨j + 1, by omega, by go_num, by rw [HS2.out, ← Bool.or_assoc, HR2.out, rF, HFO.out, Int.toNat_natCast, List.take_of_length_le (by omega)], HN3.out⟩
                  case measure => simp [intOf]; omega
            · have hjl1 : ¬ ((j : Int) < (t.out.length : Int)) := by omega
              clear ht' hri hro
              go_wp2
              go_roundw
              case rel => exact ⟨tn + 1, by omega, by go_num, by rw [HS1.out, HR1.out, rT, List.take_of_length_le (by omega)], HN2.out⟩
              case measure => simp [intOf]; omega
        · have htl1 : ¬ ((tn : Int) < (k : Int)) := by omega
          have hal : wb = !((n.tasks.take tn).any (rT n)) := by rw [HALL.out, List.take_of_length_le (by rw [HPK.out.2]; omega)]
          generalize (n.tasks.take tn).any (rT n) = rr at hal
          subst hal
          have hbb : ((!rr) == (!rr)) = true := by simp
          go_wp2_with fail
          refine (guOk_c wr).mono ?_
          rintro e w8 ⟨rfl, hb8⟩
          have HB8 := Lib.hid (HN.out.below hb8).bl
          clear hb8
          go_wp2
          go_ret
          exact ⟨rfl, HB8.out⟩
    · have hok' : netOk n = false := by simpa using hok
      have hwf : wb = false := by rw [← HWB.out]; exact straight_no hok'
      subst hwf
      rw [hok']
      clear hok hok'
      go_wp2_with fail
      refine (guOk_c w4).mono ?_
      rintro e w8 ⟨rfl, hb8⟩
      have HB8 := Lib.hid (HNw4.out.below hb8).bl
      clear hb8
      go_wp2
      go_ret
      exact ⟨rfl, HB8.out⟩
end Go.Proofs.Ytoggdhbnkbdilaa
