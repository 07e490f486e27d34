/- A law over what is drawn of a code: each way is one of a place and a task. -/
import Derived.Test.YtoggdhbnkbdilaaNBT
import Derived.Test.YtoggdhbnkbdilaaSpecPick
import Derived.Test.YtoggdhbnkbdilaaNetFlows
import Derived.Test.YtoggdhbnkbdilaaReader
import Derived.BigQuiet
import Derived.Deep.DeepCutAuto
namespace Go.Proofs.Ytoggdhbnkbdilaa
open Go.RowKit
set_option linter.unusedVariables false
set_option linter.unusedSimpArgs false

def ind (b : Bool) : Int := if b then 1 else 0
def sumR (f : Nat → Int) : Nat → Int
  | 0 => 0
  | k + 1 => sumR f k + f k
theorem sumR_congr {f g : Nat → Int} : ∀ (k : Nat), (∀ j, j < k → f j = g j) → sumR f k = sumR g k
  | 0, _ => rfl
  | k + 1, h => by rw [sumR, sumR, sumR_congr k (fun j hj => h j (by omega)), h k (by omega)]
theorem sumR_add (f g : Nat → Int) : ∀ k, sumR (fun j => f j + g j) k = sumR f k + sumR g k
  | 0 => rfl
  | k + 1 => by rw [sumR, sumR, sumR, sumR_add f g k]; omega
theorem sumR_zero : ∀ k, sumR (fun _ => 0) k = 0
  | 0 => rfl
  | k + 1 => by rw [sumR, sumR_zero k]; rfl
theorem sumR_one (x : Int) (hx : 0 ≤ x) : ∀ k, sumR (fun j => ind (decide ((j : Int) = x))) k = if x < (k : Int) then 1 else 0
  | 0 => by rw [sumR, if_neg (by omega)]
  | k + 1 => by
    rw [sumR, sumR_one x hx k, ind]
    by_cases h : (k : Int) = x
    · rw [decide_eq_true h]; simp only [if_true]; split <;> split <;> omega
    · rw [decide_eq_false h]; simp only [Bool.false_eq_true, if_false]; split <;> split <;> omega
theorem sumR_mem (P : Nat) : ∀ (l : List Int), l.Nodup → (∀ x ∈ l, 0 ≤ x ∧ x < (P : Int)) → sumR (fun j => ind (decide ((j : Int) ∈ l))) P = (l.length : Int)
  | [], _, _ => by simp [ind, sumR_zero]
  | x :: r, hn, hb => by
    have hx := hb x (List.mem_cons_self ..)
    have ih := sumR_mem P r (List.nodup_cons.1 hn).2 (fun y hy => hb y (List.mem_cons_of_mem _ hy))
    have e : sumR (fun j => ind (decide ((j : Int) ∈ x :: r))) P = sumR (fun j => ind (decide ((j : Int) = x)) + ind (decide ((j : Int) ∈ r))) P := sumR_congr P fun j _ => by
      have hnx := (List.nodup_cons.1 hn).1
      by_cases h1 : (j : Int) = x
      · have h2 : (j : Int) ∉ r := by rw [h1]; exact hnx
        simp [ind, h1, hnx]
      · simp [ind, h1]
    rw [e, sumR_add, ih, sumR_one x hx.1, if_pos hx.2, List.length_cons]
    omega
theorem ins_nodup {n : NNet} (h : netOk n = true) {t : NTask} (ht : t ∈ n.tasks) : t.ins.Nodup := by
  obtain ⟨_, _, h3, _⟩ := taskOk_parts ((netOk_parts h).2.2.2.2 t ht)
  rw [risesB, Bool.and_eq_true, inB_iff] at h3
  obtain ⟨hl, hs⟩ := h3
  match hti : t.ins, hl, hs with
  | [], hl, _ => simp at hl
  | [a], _, _ => simp
  | [a, b], _, hs =>
    have h1 := of_all_range hs (show 1 < [a, b].length by simp)
    simp [stepOk] at h1
    simp; omega
  | [a, b, c], _, hs =>
    have h1 := of_all_range hs (show 1 < [a, b, c].length by simp)
    have h2 := of_all_range hs (show 2 < [a, b, c].length by simp)
    simp [stepOk] at h1 h2
    simp; omega
  | a :: b :: c :: d :: r, hl, _ => simp at hl; omega
theorem out_nodup {n : NNet} (h : netOk n = true) {t : NTask} (ht : t ∈ n.tasks) : (t.out.map NFlow.to).Nodup := by
  obtain ⟨_, _, _, _, h5, _⟩ := taskOk_parts ((netOk_parts h).2.2.2.2 t ht)
  rw [outB, Bool.and_eq_true, inB_iff] at h5
  obtain ⟨hl, hs⟩ := h5
  match hto : t.out, hl, hs with
  | [], hl, _ => simp at hl
  | [a], _, _ => simp
  | [a, b], _, hs =>
    have h1 := of_all_range hs (show 1 < [a, b].length by simp)
    simp [flowOk, List.range_succ] at h1
    simp; exact h1.2.2.2
  | [a, b, c], _, hs =>
    have h1 := of_all_range hs (show 1 < [a, b, c].length by simp)
    have h2 := of_all_range hs (show 2 < [a, b, c].length by simp)
    simp [flowOk, List.range_succ] at h1 h2
    simp; exact ⟨⟨h1.2.2.2, h2.2.2.2.1⟩, h2.2.2.2.2⟩
  | a :: b :: c :: d :: r, hl, _ => simp at hl; omega
theorem into_eq (q : Int) (t : NTask) : intoB q t = decide (q ∈ t.out.map NFlow.to) := by
  rw [Bool.eq_iff_iff, decide_eq_true_eq, intoB, List.any_eq_true, List.mem_map]
  constructor
  · rintro ⟨f, h1, h2⟩; exact ⟨f, h1, by simpa using h2⟩
  · rintro ⟨f, h1, h2⟩; exact ⟨f, h1, by simpa using h2⟩
theorem task_ways {n : NNet} (h : netOk n = true) {t : NTask} (ht : t ∈ n.tasks) {P : Nat} (hP : n.places = (P : Int)) : sumR (fun q => ind (fromB (q : Int) t) + ind (intoB (q : Int) t)) P = waysOf t := by
  rw [sumR_add]
  have e1 := sumR_mem P t.ins (ins_nodup h ht) (fun x hx => by have := ins_bound h ht hx; rw [hP] at this; exact this)
  have e2 := sumR_mem P (t.out.map NFlow.to) (out_nodup h ht) (fun x hx => by
    obtain ⟨f, hf, rfl⟩ := List.mem_map.1 hx
    have := out_bound h ht hf; rw [hP] at this; omega)
  rw [List.length_map] at e2
  unfold waysOf
  rw [← e1, ← e2]
  congr 1
  exact sumR_congr P fun q _ => by rw [into_eq]
def pairs (n : NNet) (k : Nat) (q : Nat) : Int := ((atsN (taskAt (fromB (q : Int)) n) k).length : Int) + ((atsN (taskAt (intoB (q : Int)) n) k).length : Int)
theorem ats_length (p : Nat → Bool) (k : Nat) : ((atsN p (k + 1)).length : Int) = ((atsN p k).length : Int) + ind (p k) := by
  rw [atsN, List.length_append, ind]
  cases p k <;> simp
theorem pairs_sum {n : NNet} (h : netOk n = true) {P : Nat} (hP : n.places = (P : Int)) : ∀ k, k ≤ n.tasks.length → sumR (pairs n k) P = waysSum (n.tasks.take k)
  | 0, _ => by
    rw [show pairs n 0 = fun _ => 0 from rfl, sumR_zero]; rfl
  | k + 1, hk => by
    have ht := List.getElem?_eq_getElem (show k < n.tasks.length by omega)
    rw [waysSum_snoc ht, ← pairs_sum h hP k (by omega), ← task_ways h (List.getElem_mem _) hP, ← sumR_add]
    exact sumR_congr P fun q _ => by
      unfold pairs
      rw [ats_length, ats_length, taskAt_of ht, taskAt_of ht]
      omega
def lensN (n : NNet) (q : Nat) : Int := ((pickN (fromB (q : Int)) n).length : Int) + ((pickN (intoB (q : Int)) n).length : Int)
theorem lens_sum {n : NNet} (h : netOk n = true) {P : Nat} (hP : n.places = (P : Int)) : sumR (lensN n) P = flowsN n := by
  rw [flowsN, if_pos h]
  have := pairs_sum h hP n.tasks.length (Nat.le_refl _)
  rw [List.take_of_length_le (Nat.le_refl _)] at this
  rw [← this]
  exact sumR_congr P fun q _ => by unfold lensN pairs; rw [pickN_ok h, pickN_ok h]
theorem ways_two {n : NNet} (h : netOk n = true) : ∀ k, k ≤ n.tasks.length → 2 * (k : Int) ≤ waysSum (n.tasks.take k)
  | 0, _ => by simp [waysSum]
  | k + 1, hk => by
    have ht := List.getElem?_eq_getElem (show k < n.tasks.length by omega)
    have ih := ways_two h k (by omega)
    rw [waysSum_snoc ht]
    obtain ⟨_, _, h3, _, h5, _⟩ := taskOk_parts ((netOk_parts h).2.2.2.2 _ (List.getElem_mem (show k < n.tasks.length by omega)))
    rw [risesB, Bool.and_eq_true, inB_iff] at h3
    rw [outB, Bool.and_eq_true, inB_iff] at h5
    unfold waysOf
    omega
theorem flows_two {n : NNet} (h : netOk n = true) : 2 * (n.tasks.length : Int) ≤ flowsN n := by
  have := ways_two h n.tasks.length (Nat.le_refl _)
  rw [List.take_of_length_le (Nat.le_refl _)] at this
  rw [flowsN, if_pos h]; exact this
theorem lens_bound {n : NNet} (h : netOk n = true) (q : Nat) : 0 ≤ lensN n q ∧ lensN n q ≤ 12 := by
  unfold lensN
  rw [pickN_ok h, pickN_ok h]
  have h1 := atsN_len (taskAt (fromB (q : Int)) n) n.tasks.length
  have h2 := atsN_len (taskAt (intoB (q : Int)) n) n.tasks.length
  have := (netOk_parts h).2.2.2.1
  omega
theorem sum_bound_lens {n : NNet} (h : netOk n = true) : ∀ k : Nat, 0 ≤ sumR (lensN n) k ∧ sumR (lensN n) k ≤ 12 * (k : Int)
  | 0 => by simp [sumR]
  | k + 1 => by
    have := sum_bound_lens h k
    have := lens_bound h k
    rw [sumR]; omega

set_option maxRecDepth 100000 in
set_option maxHeartbeats 4000000 in
theorem netFlows_walk {zs : List Int} {A : Option Addr} {b off c : Nat} (w : World) (hV : Row w 0 w.heap.size A b off (bytesC zs)) (hz : ∀ x ∈ zs, 0 ≤ x ∧ x ≤ 255) (hm : zs.length ≤ maxLen) (hcap : zs.length ≤ c) :
    Calls Try.prog 4 #[.slice A zs.length c] w fun e w' => e = .returned (.bool true) ∧ Below w.heap.size w w' := by
  have hm0 := hm
  have HZ := Lib.hid hz
  clear hz
  unfold maxLen at hm
  go_enter Try.func4, Try.ntmps4
  by_cases hbig : 1048576 < zs.length
  · go_wp2; go_ret; exact ⟨rfl, Below.refl _ _⟩
  · go_wp2_with fail
    refine (drawNetFlows_c zs A b off c w hV HZ.out hm0 hcap).mono ?_
    rintro e w1 ⟨P, b1, k, c1, n, rfl, hg, hb⟩
    have HN1 := Lib.hid (NB.start hg hb)
    have HSM := Lib.hid hg.1
    have HPK := Lib.hid (And.intro hg.2.1 hg.2.2.1)
    clear hg hb
    generalize hBB : w1.heap.size = B at HN1
    have cB0 := HN1.out.cell0
    have cB1 := HN1.out.cell1
    go_wp2_with fail
    refine (implNetFlows_c n _ _ _ _ HN1.out.nv (Nat.le_of_lt HN1.out.lt) (small_out HSM.out)).mono ?_
    rintro e w2 ⟨rfl, hbw2⟩
    have HNw2 := Lib.hid (HN1.out.below hbw2)
    clear hbw2
    have dB0 := HNw2.out.cell0
    have dB1 := HNw2.out.cell1
    go_wp2_with fail
    refine (specNetFlows_c n _ _ _ _ HNw2.out.nv (Nat.le_of_lt HNw2.out.lt)).mono ?_
    rintro e w3 ⟨rfl, hbw3⟩
    have HNw3 := Lib.hid (HNw2.out.below hbw3)
    clear hbw3
    have eB0 := HNw3.out.cell0
    have eB1 := HNw3.out.cell1
    generalize hfl : flowsN n = fl
    have HFL := Lib.hid hfl
    clear hfl
    have hne : (fl != fl) = false := by simp
    have hne2 : (fl == fl) = true := by simp
    go_wp2_with fail
    refine (specNetOk_c n _ _ _ _ HNw3.out.nv (Nat.le_of_lt HNw3.out.lt)).mono ?_
    rintro e w4 ⟨rfl, hbw4⟩
    have HNw4 := Lib.hid (HNw3.out.below hbw4)
    clear hbw4
    have fB0 := HNw4.out.cell0
    have fB1 := HNw4.out.cell1
    by_cases hok : netOk n = true
    · have HOK := Lib.hid hok
      have h1 := netOk_parts hok
      rw [hok]
      clear hok
      have hP : n.places = P := HPK.out.1
      rw [hP] at h1
      obtain ⟨h2, h8, _, hk6, _⟩ := h1
      rw [HPK.out.2] at hk6
      obtain ⟨pn, rfl⟩ := Int.eq_ofNat_of_zero_le (show 0 ≤ P by omega)
      have HP := Lib.hid hP
      have hft := flows_two HOK.out
      rw [HFL.out, HPK.out.2] at hft
      clear hP
      go_wp2
      go_loopw [5, 6] (fun a i wr => ∃ p : Nat, p ≤ pn ∧ i = .int .i64 p ∧ a = .int .i64 (sumR (lensN n) p) ∧ NB w B pn b1 k c1 n wr) (fun _ i _ => pn - (intOf i).toNat)
      case atStart => exact ⟨0, Nat.zero_le _, rfl, rfl, HNw4.out⟩
      case round =>
        obtain ⟨p, hp, rfl, rfl, hn⟩ := hrel
        have HN := Lib.hid hn
        clear hn
        have gB0 := HN.out.cell0
        have gB1 := HN.out.cell1
        have hsb := sum_bound_lens HOK.out p
        have hsb1 := hsb.1
        have hsb2 : sumR (lensN n) p ≤ 1000 := by have := hsb.2; omega
        have hse : sumR (lensN n) (p + 1) = sumR (lensN n) p + lensN n p := rfl
        have hlb := lens_bound HOK.out p
        unfold lensN at hlb
        generalize hl1 : (pickN (fromB (p : Int)) n).length = l1 at hlb
        generalize hl2 : (pickN (intoB (p : Int)) n).length = l2 at hlb
        have hle : lensN n p = (l1 : Int) + (l2 : Int) := by unfold lensN; rw [hl1, hl2]
        rw [hle] at hse
        have HSE := Lib.hid hse
        have HL1 := Lib.hid hl1
        have HL2 := Lib.hid hl2
        have hse0 : p = pn → sumR (lensN n) p = fl := fun h => by rw [h, lens_sum HOK.out HP.out]; exact HFL.out
        have HSE0 := Lib.hid hse0
        clear hse hl1 hl2 hle hse0 hsb
        generalize sumR (lensN n) p = sp at hsb1 hsb2 HSE HSE0 ⊢
        have hlb1 : (l1 : Int) ≤ 12 := by omega
        have hlb2 : (l2 : Int) ≤ 12 := by omega
        clear hlb
        have hw1 : IntKind.i64.wrap (sp + (l1 : Int)) = sp + (l1 : Int) := IntWalk.i64_in _ (by omega)
        have hw2 : IntKind.i64.wrap (sp + (l1 : Int) + (l2 : Int)) = sp + (l1 : Int) + (l2 : Int) := IntWalk.i64_in _ (by omega)
        by_cases hlt : p < pn
        · have hlt1 : (p : Int) < (pn : Int) := by omega
          have HNd := Lib.hid HN.out.drew
          go_wp2
          refine wp_region_noPanic ?_
          refine wp_region_held_drew (S := fun w' => (w'.cell? ⟨B, 0, none⟩ = some (.int .i64 (pn : Int)) ∧ w'.cell? ⟨B, 1, none⟩ = some (.slice (some ⟨b1, 0, none⟩) k c1))) (by kernel_rfl) ?_ (fun hHeld => ?_)
          · exact ⟨gB0, gB1⟩
          generalize hwd : wr.drew = wd at HNd hHeld ⊢
          clear hwd
          refine take_yes (i := 0) (v := ?_) rfl (by kernel_rfl) (by kernel_rfl) (by kernel_rfl) (fun _ _ _ h => h) (by kernel_rfl) ?_ (by assumption) ?_
          rotate_left
          · (intro w hSw; (try dsimp only at hSw); go_simp; try with_reducible rfl)
          try simp only [Act.put, List.setIfInBounds_toArray, List.set_cons_zero, List.set_cons_succ]
          refine take_yes (i := 1) (v := ?_) rfl (by kernel_rfl) (by kernel_rfl) (by kernel_rfl) (fun _ _ _ h => h) (by kernel_rfl) ?_ (by assumption) ?_
          rotate_left
          · (intro w hSw; (try dsimp only at hSw); go_simp; try with_reducible rfl)
          try simp only [Act.put, List.setIfInBounds_toArray, List.set_cons_zero, List.set_cons_succ]
          refine take_yes (i := 2) (v := ?_) rfl (by kernel_rfl) (by kernel_rfl) (by kernel_rfl) (fun _ _ _ h => h) (by kernel_rfl) ?_ (by assumption) ?_
          rotate_left
          · (intro w hSw; (try dsimp only at hSw); go_simp; try with_reducible rfl)
          try simp only [Act.put, List.setIfInBounds_toArray, List.set_cons_zero, List.set_cons_succ]
          refine take_yes (i := 6) (v := ?_) rfl (by kernel_rfl) (by kernel_rfl) (by kernel_rfl) (fun _ _ _ h => h) (by kernel_rfl) ?_ (by assumption) ?_
          rotate_left
          · (intro w hSw; (try dsimp only at hSw); go_simp; try with_reducible rfl)
          try simp only [Act.put, List.setIfInBounds_toArray, List.set_cons_zero, List.set_cons_succ]
          refine take_yes (i := 7) (v := ?_) rfl (by kernel_rfl) (by kernel_rfl) (by kernel_rfl) (fun _ _ _ h => h) (by kernel_rfl) ?_ (by assumption) ?_
          rotate_left
          · (intro w hSw; (try dsimp only at hSw); go_simp; try with_reducible rfl)
          try simp only [Act.put, List.setIfInBounds_toArray, List.set_cons_zero, List.set_cons_succ]
          refine wpAnyH_ready (rs := [3]) (by kernel_rfl) (by simp) ?_
          refine AllReadyH.cons (of_drop rfl) (fun K hK => ?_) AllReadyH.nil
          go_simp
          (go_at_call 20; refine (implNetFrom_c n _ _ _ (p : Int) wd HNd.out.nv (Nat.le_of_lt HNd.out.lt) (small_out HSM.out)).mono ?_; rintro e x1 ⟨v5, rfl, hM5, hbx1⟩)
          obtain ⟨A5, b5, c5, rfl, hr5⟩ := hM5.row
          clear hM5 hr5
          rw [HL1.out]
          have HNx1 := Lib.hid (HNd.out.below hbx1)
          have cx10 := HNx1.out.cell0
          have cx11 := HNx1.out.cell1
          clear hbx1
          go_wp2_with fail
          refine hK.out _ _ ?_ (fun hHeld2 => ?_)
          · exact ⟨cx10, cx11⟩
          clear hK K hHeld
          have hHeld := hHeld2
          clear hHeld2
          try simp only [Act.put, List.setIfInBounds_toArray, List.set_cons_zero, List.set_cons_succ]
          refine take_yes (i := 4) (v := ?_) rfl (by kernel_rfl) (by kernel_rfl) (by kernel_rfl) (fun _ _ _ h => h) (by kernel_rfl) ?_ (by assumption) ?_
          rotate_left
          · (intro w hSw; (try dsimp only at hSw); go_simp; try with_reducible rfl)
          try simp only [Act.put, List.setIfInBounds_toArray, List.set_cons_zero, List.set_cons_succ]
          refine take_yes (i := 5) (v := ?_) rfl (by kernel_rfl) (by kernel_rfl) (by kernel_rfl) (fun _ _ _ h => h) (by kernel_rfl) ?_ (by assumption) ?_
          rotate_left
          · (intro w hSw; (try dsimp only at hSw); go_simp; try with_reducible rfl)
          try simp only [Act.put, List.setIfInBounds_toArray, List.set_cons_zero, List.set_cons_succ]
          refine wpAnyH_ready (rs := [8]) (by kernel_rfl) (by simp) ?_
          refine AllReadyH.cons (of_drop rfl) (fun K hK => ?_) AllReadyH.nil
          go_simp
          (go_at_call 21; refine (implNetInto_c n _ _ _ (p : Int) x1 HNx1.out.nv (Nat.le_of_lt HNx1.out.lt) (small_out HSM.out)).mono ?_; rintro e x2 ⟨v6, rfl, hM6, hbx2⟩)
          obtain ⟨A6, b6, c6, rfl, hr6⟩ := hM6.row
          clear hM6 hr6
          rw [HL2.out]
          have HNx2 := Lib.hid (HNx1.out.below hbx2)
          have cx20 := HNx2.out.cell0
          have cx21 := HNx2.out.cell1
          clear hbx2
          go_wp2_with fail
          refine hK.out _ _ ?_ (fun hHeld2 => ?_)
          · exact ⟨cx20, cx21⟩
          clear hK K hHeld
          have hHeld := hHeld2
          clear hHeld2
          try simp only [Act.put, List.setIfInBounds_toArray, List.set_cons_zero, List.set_cons_succ]
          refine take_yes (i := 9) (v := ?_) rfl (by kernel_rfl) (by kernel_rfl) (by kernel_rfl) (fun _ _ _ h => h) (by kernel_rfl) ?_ (by assumption) ?_
          rotate_left
          · (intro w hSw; (try dsimp only at hSw); go_simp; try with_reducible rfl)
          try simp only [Act.put, List.setIfInBounds_toArray, List.set_cons_zero, List.set_cons_succ]
          refine take_yes (i := 10) (v := ?_) rfl (by kernel_rfl) (by kernel_rfl) (by kernel_rfl) (fun _ _ _ h => h) (by kernel_rfl) ?_ (by assumption) ?_
          rotate_left
          · (intro w hSw; (try dsimp only at hSw); go_simp; try with_reducible rfl)
          try simp only [Act.put, List.setIfInBounds_toArray, List.set_cons_zero, List.set_cons_succ]
          refine take_yes (i := 11) (v := ?_) rfl (by kernel_rfl) (by kernel_rfl) (by kernel_rfl) (fun _ _ _ h => h) (by kernel_rfl) ?_ (by assumption) ?_
          rotate_left
          · (intro w hSw; (try dsimp only at hSw); go_simp; try with_reducible rfl)
          try simp only [Act.put, List.setIfInBounds_toArray, List.set_cons_zero, List.set_cons_succ]
          refine wpAnyH_done (by kernel_rfl) ?_ _
          refine NoPanic.normal ?_
          go_wp2
          go_roundw
          case rel => exact ⟨p + 1, by omega, by go_num, by rw [HSE.out, Int.add_assoc], HNx2.out⟩
          case measure => simp [intOf]; omega
        · have hpp : p = pn := by omega
          have hlt1 : ¬ ((p : Int) < (pn : Int)) := by omega
          have hsf := HSE0.out hpp
          subst hsf
          have hq : (sp == sp) = true := by simp
          have hw3 : IntKind.i64.wrap (2 * (k : Int)) = 2 * (k : Int) := IntWalk.i64_in _ (by omega)
          go_wp2
          go_ret
          exact ⟨rfl, HN.out.bl⟩
    · have hok' : netOk n = false := by simpa using hok
      have hwf : fl = 0 := by rw [← HFL.out, flowsN, hok']; rfl
      subst hwf
      rw [hok']
      clear hok hok'
      go_wp2_with fail
      refine (guOk_c w4).mono ?_
      rintro e w8 ⟨rfl, hb8⟩
      have HB8 := Lib.hid (HNw4.out.below hb8).bl
      clear hb8
      go_wp2
      go_ret
      exact ⟨rfl, HB8.out⟩
end Go.Proofs.Ytoggdhbnkbdilaa
