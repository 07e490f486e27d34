/- The tasks into which a place leads, and the tasks that lead to a place: the reference. -/
import Derived.Test.YtoggdhbnkbdilaaNetPick
import Derived.Test.YtoggdhbnkbdilaaFlows
namespace Go.Proofs.Ytoggdhbnkbdilaa
open Go.RowKit
set_option linter.unusedVariables false
set_option linter.unusedSimpArgs false

theorem l2To_c (t : NTask) (vi vo vc : Value) (lo hi : Nat) (z : Int) (w : World) (hV : TaskV w lo hi t vi vo vc) (hhi : hi ≤ w.heap.size) :
    Calls Try.prog 67 #[.agg #[.int .i64 t.join, .int .i64 t.split, vi, vo, vc, .int .i64 t.role, .int .i64 t.apart, .int .i64 t.all, .int .i64 t.need], .int .i64 z] w fun e w' => e = .returned (.bool (intoB z t)) ∧ Below w.heap.size w w' := by
  obtain ⟨A1, q1, A2, q2, A3, q3, rfl, rfl, rfl⟩ := hV.forms
  obtain ⟨A, b, off, c, e0, hm, hR⟩ := hV.out
  cases e0
  unfold maxLen at hm
  have hR0 := (Row.newAt w #[.int .i64 t.join, .int .i64 t.split, .slice A1 t.ins.length q1, .slice A2 t.out.length q2, .slice A3 t.clear.length q3, .int .i64 t.role, .int .i64 t.apart, .int .i64 t.all, .int .i64 t.need] 38 _ rfl)
  have s3 := (hR0.cell (j := 3) rfl).1
  have hR := hR.alloc hhi (.cells #[.int .i64 t.join, .int .i64 t.split, .slice A1 t.ins.length q1, .slice A2 t.out.length q2, .slice A3 t.clear.length q3, .int .i64 t.role, .int .i64 t.apart, .int .i64 t.all, .int .i64 t.need] 38)
  clear hV hR0
  go_enter Try.func67, Try.ntmps67
  go_wp2
  go_loopw [5] (fun i wr => ∃ (k m : Nat), k ≤ t.out.length ∧ i = .int .i64 k ∧ (∀ j y, j < k → t.out[j]? = some y → (y.to == z) = false) ∧ wr = (w.alloc (.cells #[.int .i64 t.join, .int .i64 t.split, .slice A1 t.ins.length q1, .slice A2 t.out.length q2, .slice A3 t.clear.length q3, .int .i64 t.role, .int .i64 t.apart, .int .i64 t.all, .int .i64 t.need] 38)).drewN m) (fun i _ => t.out.length - (intOf i).toNat)
  case atStart => exact ⟨0, 0, Nat.zero_le _, rfl, fun j y hj => absurd hj (Nat.not_lt_zero _), rfl⟩
  case round =>
    obtain ⟨k, m, hk, rfl, hn, rfl⟩ := hrel
    have HN := Lib.hid hn
    clear hn
    by_cases hlt : k < t.out.length
    · have hlt1 : (k : Int) < (t.out.length : Int) := by omega
      obtain ⟨rfl, _, h3, x, hx, ⟨c0, _⟩, _⟩ := hR.flow hlt
      have HX := Lib.hid hx
      clear hx
      by_cases hxz : (x.to == z) = true
      · have HZ := Lib.hid hxz
        go_wp2
        go_ret
        refine ⟨ret_bool ?_, below_drewN ((Below.refl _ _).alloc (Nat.le_refl _) _) _⟩
        rw [intoB, eq_comm, List.any_eq_true]
        exact ⟨x, List.mem_of_getElem? HX.out, HZ.out⟩
      · have hxz' : (x.to == z) = false := by simpa using hxz
        have HZ := Lib.hid hxz'
        clear hxz
        go_wp2
        go_roundw
        case rel =>
          refine ⟨k + 1, _, by omega, by go_num, fun j y hj hy => ?_, rfl⟩
          by_cases hjk : j = k
          · subst hjk
            have e := HX.out.symm.trans hy
            injection e with e; rw [← e]; exact HZ.out
          · exact HN.out j y (by omega) hy
        case measure => simp [intOf]; omega
    · have hlt1 : ¬ ((k : Int) < (t.out.length : Int)) := by omega
      go_wp2
      go_ret
      refine ⟨ret_bool ?_, below_drewN ((Below.refl _ _).alloc (Nat.le_refl _) _) _⟩
      rw [intoB, eq_comm, List.any_eq_false]
      intro f hf
      obtain ⟨j, hj⟩ := List.getElem?_of_mem hf
      rw [HN.out j f (by have := lt_of_some hj; omega) hj]; simp

set_option maxRecDepth 10000 in
set_option maxHeartbeats 1000000 in
theorem specNetFrom_c (n : NNet) (v : Value) (lo hi : Nat) (z : Int) (w : World) (hN : NetV w lo hi v n) (hhi : hi ≤ w.heap.size) :
    Calls Try.prog 36 #[v, .int .i64 z] w fun e w' => ∃ v', e = .returned v' ∧ Made w' w.heap.size 3 (pickN (fromB z) n) v' ∧ Below w.heap.size w w' := by
  obtain ⟨i0, hi0, hz0, hz1, hz2⟩ := info_parts Try.info3
  have hN' := hN
  obtain ⟨A, b, off, c, ms, rfl, hm, hT⟩ := hN
  unfold maxLen at hm
  generalize hob : Obj.cells #[.int .i64 n.places, .slice A n.tasks.length c] 25 = ob
  have hR := (Row.newAt w #[.int .i64 n.places, .slice A n.tasks.length c] 25 _ rfl)
  have hB := (Below.refl w.heap.size w).alloc (Nat.le_refl _) ob
  rw [hob] at hR
  have HN := Lib.hid (hN'.keep (w' := w.alloc ob) fun g _ h => Below.heap_alloc w _ g (by omega))
  have HR := Lib.hid hR
  have HB := Lib.hid hB
  have HT := Lib.hid (hT.keep (w' := w.alloc ob) (fun g _ h => Below.heap_alloc w _ g (by omega)) (fun g _ h => Below.heap_alloc w _ g (by omega)))
  have HO := Lib.hid hob
  clear hN' hR hB hT hob
  go_enter Try.func36, Try.ntmps36
  go_wp2
  rw [HO.out]
  go_loopw [5, 6] (fun v i wr => ∃ k : Nat, k ≤ n.tasks.length ∧ i = .int .i64 k ∧ (0 < k → netOk n = true) ∧ Made wr (w.heap.size + 1) 3 (atsN (taskAt (fromB z) n) k) v ∧ Below (w.heap.size + 1) (w.alloc ob) wr) (fun _ i _ => n.tasks.length - (intOf i).toNat)
  case atStart => exact ⟨0, Nat.zero_le _, rfl, fun h => absurd h (Nat.lt_irrefl 0), by have := own_lit0 (w.alloc ob) 3; simpa [Made, atsN] using this, (Below.refl _ _).alloc (by simp) _⟩
  case round =>
    obtain ⟨k, hk, rfl, hok, hM, hb⟩ := hrel
    have hzr : w.heap.size + 1 ≤ wr.heap.size := by simpa using hb.size
    have hlen := atsN_len (taskAt (fromB z) n) k
    have hR' := HR.out.below hb (by simp)
    have s0 := (hR'.cell (j := 0) rfl).1
    have s1 := (hR'.cell (j := 1) rfl).1
    have HM := Lib.hid hM
    have HB1 := Lib.hid hb
    have HOK := Lib.hid hok
    clear hM hok hR' hb
    by_cases hlt : k < n.tasks.length
    · have hlt1 : (k : Int) < (n.tasks.length : Int) := by omega
      go_wp2_with fail
      refine (specNetOk_c n _ lo hi _ (HN.out.below HB1.out (by omega)) (by omega)).mono ?_
      rintro e w2 ⟨rfl, hb2⟩
      have hz2' : wr.heap.size ≤ w2.heap.size := hb2.size
      have HM2 := Lib.hid (HM.out.below hb2 (Nat.le_refl _))
      have hb3 := HB1.out.trans (hb2.mono hzr)
      have HB2 := Lib.hid hb3
      clear hb2 s0 s1
      have hR2 := HR.out.below hb3 (by simp)
      have s0 := (hR2.cell (j := 0) rfl).1
      have s1 := (hR2.cell (j := 1) rfl).1
      clear hR2
      by_cases h1 : netOk n = true
      · have H1 := Lib.hid h1
        have hp := netOk_parts h1
        rw [h1]
        clear h1
        obtain ⟨rfl, _, h3, t, vi, vo, vc, hx, _, hTV, ⟨c0, c1, c2, c3, c4, c5, c6, c7, c8⟩, _⟩ := HT.out.task hlt
        obtain ⟨A1, q1, A2, q2, A3, q3, rfl, rfl, rfl⟩ := hTV.forms
        replace c0 := (hb3.cell (p := ⟨b, off + k * 9, none⟩) (by show b < _; omega)).trans c0
        replace c1 := (hb3.cell (p := ⟨b, off + k * 9 + 1, none⟩) (by show b < _; omega)).trans c1
        replace c2 := (hb3.cell (p := ⟨b, off + k * 9 + 2, none⟩) (by show b < _; omega)).trans c2
        replace c3 := (hb3.cell (p := ⟨b, off + k * 9 + 3, none⟩) (by show b < _; omega)).trans c3
        replace c4 := (hb3.cell (p := ⟨b, off + k * 9 + 4, none⟩) (by show b < _; omega)).trans c4
        replace c5 := (hb3.cell (p := ⟨b, off + k * 9 + 5, none⟩) (by show b < _; omega)).trans c5
        replace c6 := (hb3.cell (p := ⟨b, off + k * 9 + 6, none⟩) (by show b < _; omega)).trans c6
        replace c7 := (hb3.cell (p := ⟨b, off + k * 9 + 7, none⟩) (by show b < _; omega)).trans c7
        replace c8 := (hb3.cell (p := ⟨b, off + k * 9 + 8, none⟩) (by show b < _; omega)).trans c8
        have HV := Lib.hid (hTV.keep (w' := w2) fun g _ h => hb3.block g (by omega))
        have HX := Lib.hid hx
        clear hb3 hTV hx
        obtain ⟨A9, b9, o9, c9, e0, hm9, hR9⟩ := HV.out.ins
        cases e0
        have HR9 := Lib.hid hR9
        clear hR9
        go_wp2_with fail
        refine (l2Has_c t.ins lo hi A1 b9 o9 q1 z _ HR9.out hm9).mono ?_
        rintro e w4 ⟨rfl, hw4⟩
        have hb4 : Below w2.heap.size w2 w4 := by rw [← hw4]; exact Below.refl _ _
        clear hw4
        rw [show (decide (z ∈ t.ins)) = fromB z t from rfl]
        have hz4 : w2.heap.size ≤ w4.heap.size := hb4.size
        have HB4 := Lib.hid (HB2.out.trans (hb4.mono (by omega)))
        have HM4 := Lib.hid (HM2.out.below hb4 (Nat.le_refl _))
        clear hb4 c0 c1 c2 c3 c4 c5 c6 c7 c8 s0 s1
        by_cases hpt : fromB z t = true
        · have HPT := Lib.hid (atsN_yes (k := k) (p := taskAt (fromB z) n) (by rw [taskAt_of HX.out]; exact hpt))
          rw [hpt]
          clear hpt
          go_wp2_with (at_builtin; refine wpList_append_own _ rfl _ _ 26 rfl (w.heap.size + 1) 3 i0 _ 1 8 Try.underlying26 hi0 hz0 hz1 hz2 rfl (by omega) _ (atsN (taskAt (fromB z) n) k).length (ints (atsN (taskAt (fromB z) n) k)) rfl (HM4.out.alloc _) ⟨w4.heap.size, 0, none⟩ 1 1 [.int .i64 k] rfl rfl (one_new _ _ _) (by intro u hu; simp at hu; subst hu; rfl) (by unfold maxLen; omega) (by omega) (by simp; omega) ?_; intro v' w5 hown5 hg5 _)
          have HB5 := Lib.hid ((HB4.out.alloc (by omega) _).grown hg5 (by simp; omega) (fun k hk => Made.own HM4.out hk))
          have HO5 := Lib.hid hown5
          clear hown5 hg5
          go_wp2
          go_roundw
          case rel => exact ⟨k + 1, by omega, by go_num, fun _ => H1.out, by have := HO5.out; rw [HPT.out]; simpa [Made, ints] using this, HB5.out⟩
          case measure => simp [intOf]; omega
        · have hpt' : fromB z t = false := by simpa using hpt
          have HPT := Lib.hid (atsN_no (k := k) (p := taskAt (fromB z) n) (by rw [taskAt_of HX.out]; exact hpt'))
          rw [hpt']
          clear hpt hpt'
          go_wp2
          go_roundw
          case rel => exact ⟨k + 1, by omega, by go_num, fun _ => H1.out, by rw [HPT.out]; exact HM4.out, HB4.out⟩
          case measure => simp [intOf]; omega
      · have h1' : netOk n = false := by simpa using h1
        have H1 := Lib.hid h1'
        rw [h1']
        clear h1 h1'
        have hk0 : k = 0 := by
          rcases Nat.eq_zero_or_pos k with h | h
          · exact h
          · have := HOK.out h; rw [H1.out] at this; cases this
        have HK0 := Lib.hid hk0
        clear hk0
        go_wp2
        go_ret
        exact ⟨_, rfl, by have := HM2.out; rw [HK0.out] at this; rw [pickN_no H1.out]; exact this.base (by omega), HB.out.trans (HB2.out.mono (by omega))⟩
    · have hkn : k = n.tasks.length := by omega
      have hlt1 : ¬ ((k : Int) < (n.tasks.length : Int)) := by omega
      have HKN := Lib.hid hkn
      clear hkn
      go_wp2
      go_ret
      refine ⟨_, rfl, ?_, HB.out.trans (HB1.out.mono (by omega))⟩
      have hM := HM.out
      by_cases h0 : 0 < k
      · rw [pickN_ok (HOK.out h0), ← HKN.out]; exact hM.base (by omega)
      · have hk0 : k = 0 := by omega
        have e : pickN (fromB z) n = [] := by
          have : n.tasks.length = 0 := by have := HKN.out; omega
          unfold pickN; rw [this]; split <;> rfl
        rw [hk0] at hM
        rw [e]; exact hM.base (by omega)

set_option maxRecDepth 10000 in
set_option maxHeartbeats 1000000 in
theorem specNetInto_c (n : NNet) (v : Value) (lo hi : Nat) (z : Int) (w : World) (hN : NetV w lo hi v n) (hhi : hi ≤ w.heap.size) :
    Calls Try.prog 37 #[v, .int .i64 z] w fun e w' => ∃ v', e = .returned v' ∧ Made w' w.heap.size 3 (pickN (intoB z) n) v' ∧ Below w.heap.size w w' := by
  obtain ⟨i0, hi0, hz0, hz1, hz2⟩ := info_parts Try.info3
  have hN' := hN
  obtain ⟨A, b, off, c, ms, rfl, hm, hT⟩ := hN
  unfold maxLen at hm
  generalize hob : Obj.cells #[.int .i64 n.places, .slice A n.tasks.length c] 25 = ob
  have hR := (Row.newAt w #[.int .i64 n.places, .slice A n.tasks.length c] 25 _ rfl)
  have hB := (Below.refl w.heap.size w).alloc (Nat.le_refl _) ob
  rw [hob] at hR
  have HN := Lib.hid (hN'.keep (w' := w.alloc ob) fun g _ h => Below.heap_alloc w _ g (by omega))
  have HR := Lib.hid hR
  have HB := Lib.hid hB
  have HT := Lib.hid (hT.keep (w' := w.alloc ob) (fun g _ h => Below.heap_alloc w _ g (by omega)) (fun g _ h => Below.heap_alloc w _ g (by omega)))
  have HO := Lib.hid hob
  clear hN' hR hB hT hob
  go_enter Try.func37, Try.ntmps37
  go_wp2
  rw [HO.out]
  go_loopw [5, 6] (fun v i wr => ∃ k : Nat, k ≤ n.tasks.length ∧ i = .int .i64 k ∧ (0 < k → netOk n = true) ∧ Made wr (w.heap.size + 1) 3 (atsN (taskAt (intoB z) n) k) v ∧ Below (w.heap.size + 1) (w.alloc ob) wr) (fun _ i _ => n.tasks.length - (intOf i).toNat)
  case atStart => exact ⟨0, Nat.zero_le _, rfl, fun h => absurd h (Nat.lt_irrefl 0), by have := own_lit0 (w.alloc ob) 3; simpa [Made, atsN] using this, (Below.refl _ _).alloc (by simp) _⟩
  case round =>
    obtain ⟨k, hk, rfl, hok, hM, hb⟩ := hrel
    have hzr : w.heap.size + 1 ≤ wr.heap.size := by simpa using hb.size
    have hlen := atsN_len (taskAt (intoB z) n) k
    have hR' := HR.out.below hb (by simp)
    have s0 := (hR'.cell (j := 0) rfl).1
    have s1 := (hR'.cell (j := 1) rfl).1
    have HM := Lib.hid hM
    have HB1 := Lib.hid hb
    have HOK := Lib.hid hok
    clear hM hok hR' hb
    by_cases hlt : k < n.tasks.length
    · have hlt1 : (k : Int) < (n.tasks.length : Int) := by omega
      go_wp2_with fail
      refine (specNetOk_c n _ lo hi _ (HN.out.below HB1.out (by omega)) (by omega)).mono ?_
      rintro e w2 ⟨rfl, hb2⟩
      have hz2' : wr.heap.size ≤ w2.heap.size := hb2.size
      have HM2 := Lib.hid (HM.out.below hb2 (Nat.le_refl _))
      have hb3 := HB1.out.trans (hb2.mono hzr)
      have HB2 := Lib.hid hb3
      clear hb2 s0 s1
      have hR2 := HR.out.below hb3 (by simp)
      have s0 := (hR2.cell (j := 0) rfl).1
      have s1 := (hR2.cell (j := 1) rfl).1
      clear hR2
      by_cases h1 : netOk n = true
      · have H1 := Lib.hid h1
        have hp := netOk_parts h1
        rw [h1]
        clear h1
        obtain ⟨rfl, _, h3, t, vi, vo, vc, hx, _, hTV, ⟨c0, c1, c2, c3, c4, c5, c6, c7, c8⟩, _⟩ := HT.out.task hlt
        obtain ⟨A1, q1, A2, q2, A3, q3, rfl, rfl, rfl⟩ := hTV.forms
        replace c0 := (hb3.cell (p := ⟨b, off + k * 9, none⟩) (by show b < _; omega)).trans c0
        replace c1 := (hb3.cell (p := ⟨b, off + k * 9 + 1, none⟩) (by show b < _; omega)).trans c1
        replace c2 := (hb3.cell (p := ⟨b, off + k * 9 + 2, none⟩) (by show b < _; omega)).trans c2
        replace c3 := (hb3.cell (p := ⟨b, off + k * 9 + 3, none⟩) (by show b < _; omega)).trans c3
        replace c4 := (hb3.cell (p := ⟨b, off + k * 9 + 4, none⟩) (by show b < _; omega)).trans c4
        replace c5 := (hb3.cell (p := ⟨b, off + k * 9 + 5, none⟩) (by show b < _; omega)).trans c5
        replace c6 := (hb3.cell (p := ⟨b, off + k * 9 + 6, none⟩) (by show b < _; omega)).trans c6
        replace c7 := (hb3.cell (p := ⟨b, off + k * 9 + 7, none⟩) (by show b < _; omega)).trans c7
        replace c8 := (hb3.cell (p := ⟨b, off + k * 9 + 8, none⟩) (by show b < _; omega)).trans c8
        have HV := Lib.hid (hTV.keep (w' := w2) fun g _ h => hb3.block g (by omega))
        have HX := Lib.hid hx
        clear hb3 hTV hx
        go_wp2_with fail
        refine (l2To_c t _ _ _ lo hi z w2 HV.out (by omega)).mono ?_
        rintro e w4 ⟨rfl, hb4⟩
        have hz4 : w2.heap.size ≤ w4.heap.size := hb4.size
        have HB4 := Lib.hid (HB2.out.trans (hb4.mono (by omega)))
        have HM4 := Lib.hid (HM2.out.below hb4 (Nat.le_refl _))
        clear hb4 c0 c1 c2 c3 c4 c5 c6 c7 c8 s0 s1
        by_cases hpt : intoB z t = true
        · have HPT := Lib.hid (atsN_yes (k := k) (p := taskAt (intoB z) n) (by rw [taskAt_of HX.out]; exact hpt))
          rw [hpt]
          clear hpt
          go_wp2_with (at_builtin; refine wpList_append_own _ rfl _ _ 26 rfl (w.heap.size + 1) 3 i0 _ 1 8 Try.underlying26 hi0 hz0 hz1 hz2 rfl (by omega) _ (atsN (taskAt (intoB z) n) k).length (ints (atsN (taskAt (intoB z) n) k)) rfl (HM4.out.alloc _) ⟨w4.heap.size, 0, none⟩ 1 1 [.int .i64 k] rfl rfl (one_new _ _ _) (by intro u hu; simp at hu; subst hu; rfl) (by unfold maxLen; omega) (by omega) (by simp; omega) ?_; intro v' w5 hown5 hg5 _)
          have HB5 := Lib.hid ((HB4.out.alloc (by omega) _).grown hg5 (by simp; omega) (fun k hk => Made.own HM4.out hk))
          have HO5 := Lib.hid hown5
          clear hown5 hg5
          go_wp2
          go_roundw
          case rel => exact ⟨k + 1, by omega, by go_num, fun _ => H1.out, by have := HO5.out; rw [HPT.out]; simpa [Made, ints] using this, HB5.out⟩
          case measure => simp [intOf]; omega
        · have hpt' : intoB z t = false := by simpa using hpt
          have HPT := Lib.hid (atsN_no (k := k) (p := taskAt (intoB z) n) (by rw [taskAt_of HX.out]; exact hpt'))
          rw [hpt']
          clear hpt hpt'
          go_wp2
          go_roundw
          case rel => exact ⟨k + 1, by omega, by go_num, fun _ => H1.out, by rw [HPT.out]; exact HM4.out, HB4.out⟩
          case measure => simp [intOf]; omega
      · have h1' : netOk n = false := by simpa using h1
        have H1 := Lib.hid h1'
        rw [h1']
        clear h1 h1'
        have hk0 : k = 0 := by
          rcases Nat.eq_zero_or_pos k with h | h
          · exact h
          · have := HOK.out h; rw [H1.out] at this; cases this
        have HK0 := Lib.hid hk0
        clear hk0
        go_wp2
        go_ret
        exact ⟨_, rfl, by have := HM2.out; rw [HK0.out] at this; rw [pickN_no H1.out]; exact this.base (by omega), HB.out.trans (HB2.out.mono (by omega))⟩
    · have hkn : k = n.tasks.length := by omega
      have hlt1 : ¬ ((k : Int) < (n.tasks.length : Int)) := by omega
      have HKN := Lib.hid hkn
      clear hkn
      go_wp2
      go_ret
      refine ⟨_, rfl, ?_, HB.out.trans (HB1.out.mono (by omega))⟩
      have hM := HM.out
      by_cases h0 : 0 < k
      · rw [pickN_ok (HOK.out h0), ← HKN.out]; exact hM.base (by omega)
      · have hk0 : k = 0 := by omega
        have e : pickN (intoB z) n = [] := by
          have : n.tasks.length = 0 := by have := HKN.out; omega
          unfold pickN; rw [this]; split <;> rfl
        rw [hk0] at hM
        rw [e]; exact hM.base (by omega)
end Go.Proofs.Ytoggdhbnkbdilaa
