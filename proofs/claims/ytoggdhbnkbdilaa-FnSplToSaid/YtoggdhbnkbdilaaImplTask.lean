/- Whether a task is ok: the program. -/
import Derived.Test.YtoggdhbnkbdilaaAsc
namespace Go.Proofs.Ytoggdhbnkbdilaa
open Go.RowKit
set_option linter.unusedVariables false
set_option linter.unusedSimpArgs false

theorem isKind_c (n : Int) (w : World) : Calls Try.prog 73 #[.int .i64 n] w fun e w' => e = .returned (.bool (inB n 1 3)) ∧ w = w' := by
  go_enter Try.func73, Try.ntmps73
  go_wp2_with (go_at_call 62; refine (implIn_c _ _ _ _).mono ?_; rintro e w' ⟨rfl, rfl⟩)
  go_ret; exact ⟨rfl, rfl⟩
theorem isRole_c (n : Int) (w : World) : Calls Try.prog 76 #[.int .i64 n] w fun e w' => e = .returned (.bool (inB n 1 3)) ∧ w = w' := by
  go_enter Try.func76, Try.ntmps76
  go_wp2_with (go_at_call 62; refine (implIn_c _ _ _ _).mono ?_; rintro e w' ⟨rfl, rfl⟩)
  go_ret; exact ⟨rfl, rfl⟩
theorem sizesOk_c (n m : Int) (w : World) : Calls Try.prog 45 #[.int .i64 n, .int .i64 m] w fun e w' => e = .returned (.bool (inB n 2 8 && inB m 1 6)) ∧ w = w' := by
  go_enter Try.func45, Try.ntmps45
  go_wp2_with fail
  refine (implIn_c _ _ _ _).mono ?_
  rintro e w' ⟨rfl, rfl⟩
  by_cases h : inB n 2 8 = true
  · rw [h]
    have H := Lib.hid h
    clear h
    go_wp2_with (go_at_call 62; refine (implIn_c _ _ _ _).mono ?_; rintro e w' ⟨rfl, rfl⟩)
    go_ret; exact ⟨ret_bool (by rw [H.out]; rfl), rfl⟩
  · have h' : inB n 2 8 = false := by simpa using h
    have H := Lib.hid h'
    rw [h']
    clear h h'
    go_wp2
    go_ret; exact ⟨ret_bool (by rw [H.out]; rfl), rfl⟩

set_option maxRecDepth 10000 in
set_option maxHeartbeats 4000000 in
theorem implTaskOk_c (t : NTask) (vi vo vc : Value) (lo hi : Nat) (places tasks : Int) (w : World) (hV : TaskV w lo hi t vi vo vc) (hhi : hi ≤ w.heap.size) (hlen : t.out.length ≤ 1048576) (hp1 : 0 ≤ places) (hp2 : places ≤ 1000) (ht1 : 0 ≤ tasks) (ht2 : tasks ≤ 1000) :
    Calls Try.prog 48 #[.agg #[.int .i64 t.join, .int .i64 t.split, vi, vo, vc, .int .i64 t.role, .int .i64 t.apart, .int .i64 t.all, .int .i64 t.need], .int .i64 places, .int .i64 tasks] w
      fun e w' => e = .returned (.bool (taskOk t places tasks)) ∧ Below w.heap.size w w' := by
  have hai := asc_ins (places := places) (zs := t.ins)
  have hac := asc_clear (zs := t.clear) hp1
  have HAI := Lib.hid hai
  have HAC := Lib.hid hac
  clear hai hac
  obtain ⟨A1, b1, o1, c1, rfl, m1, hR1⟩ := hV.ins
  obtain ⟨A2, b2, o2, c2, rfl, m2, hR2⟩ := hV.out
  obtain ⟨A3, b3, o3, c3, rfl, m3, hR3⟩ := hV.clear
  have hmi := m1
  have hmc := m3
  unfold maxLen at hmi hmc
  go_enter Try.func48, Try.ntmps48
  have HR0 := Lib.hid (Row.newAt w #[.int .i64 t.join, .int .i64 t.split, .slice A1 t.ins.length c1, .slice A2 t.out.length c2, .slice A3 t.clear.length c3, .int .i64 t.role, .int .i64 t.apart, .int .i64 t.all, .int .i64 t.need] 38 _ rfl)
  have HB := Lib.hid ((Below.refl w.heap.size w).alloc (Nat.le_refl _) (.cells #[.int .i64 t.join, .int .i64 t.split, .slice A1 t.ins.length c1, .slice A2 t.out.length c2, .slice A3 t.clear.length c3, .int .i64 t.role, .int .i64 t.apart, .int .i64 t.all, .int .i64 t.need] 38))
  have HV := Lib.hid hV
  have HR1 := Lib.hid hR1
  have HR3 := Lib.hid hR3
  clear hV hR1 hR2 hR3
  go_wp2_with fail
  refine (isKind_c _ _).mono ?_
  rintro e w' ⟨rfl, rfl⟩
  by_cases h0 : inB t.join 1 3 = true
  · have H0 := Lib.hid h0
    rw [h0]
    clear h0
    go_wp2_with fail
    refine (isKind_c _ _).mono ?_
    rintro e w' ⟨rfl, rfl⟩
    by_cases h1 : inB t.split 1 3 = true
    · have H1 := Lib.hid h1
      rw [h1]
      clear h1
      go_wp2_with fail
      refine (implIn_c _ _ _ _).mono ?_
      rintro e w' ⟨rfl, rfl⟩
      by_cases h2 : inB t.ins.length 1 3 = true
      · have H2 := Lib.hid h2
        rw [h2]
        clear h2
        have hRw := Row.newAt (w.alloc (.cells #[.int .i64 t.join, .int .i64 t.split, .slice A1 t.ins.length c1, .slice A2 t.out.length c2, .slice A3 t.clear.length c3, .int .i64 t.role, .int .i64 t.apart, .int .i64 t.all, .int .i64 t.need] 38)) #[.int .i64 1] 3 (w.heap.size + 1) (by simp)
        have HB1 := Lib.hid (HB.out.alloc (by simp) (.cells #[.int .i64 1] 3))
        have HR01 := Lib.hid (HR0.out.alloc (by simp) (.cells #[.int .i64 1] 3))
        go_wp2_with fail
        refine (ascends_c t.ins [1] lo hi _ _ A1 _ b1 o1 c1 _ 0 _ places _ (HR1.out.below HB1.out hhi) hRw m1 (by simp [maxLen]) hp1 hp2).mono ?_
        rintro e w' ⟨rfl, rfl⟩
        clear hRw
        by_cases h3 : ascB places [1] t.ins = true
        · have H3 := Lib.hid h3
          rw [h3]
          clear h3
          go_wp2_with fail
          refine (outOk_c t _ _ _ lo hi places _ (HV.out.keep (fun g _ h => HB1.out.block g (by omega))) (Nat.le_trans hhi HB1.out.size) hlen hp1 hp2).mono ?_
          rintro e w2 ⟨rfl, hb2⟩
          have hR0 := HR01.out.below hb2 (by simp)
          have hz2 : w.heap.size + 1 + 1 ≤ w2.heap.size := by simpa using hb2.size
          have HB2 := Lib.hid (HB1.out.trans (hb2.mono HB1.out.size))
          obtain ⟨⟨s0, s1, s2, s3, s4, s5, s6, s7, s8⟩, _⟩ := hR0.nine
          have HR02 := Lib.hid hR0
          clear hb2 hR0
          by_cases h4 : outB places t.split t.out = true
          · have H4 := Lib.hid h4
            rw [h4]
            clear h4
            have hRw := Row.newAt w2 #[.int .i64 0, .int .i64 1] 3 w2.heap.size rfl
            have HB3 := Lib.hid (HB2.out.alloc (by omega) (.cells #[.int .i64 0, .int .i64 1] 3))
            have hz3 : w.heap.size < w2.heap.size := by omega
            have hz3n : w.heap.size ≠ w2.heap.size := by omega
            go_wp2_with fail
            refine (ascends_c t.clear [0, 1] lo hi _ _ A3 _ b3 o3 c3 _ 0 _ places _ (HR3.out.below HB3.out hhi) hRw m3 (by simp [maxLen]) hp1 hp2).mono ?_
            rintro e w' ⟨rfl, rfl⟩
            clear hRw
            by_cases h5 : ascB places [0, 1] t.clear = true
            · have H5 := Lib.hid h5
              rw [h5]
              clear h5
              go_wp2_with fail
              refine (isRole_c _ _).mono ?_
              rintro e w' ⟨rfl, rfl⟩
              by_cases h6 : inB t.role 1 3 = true
              · have H6 := Lib.hid h6
                rw [h6]
                clear h6
                go_wp2_with fail
                refine (implIn_c _ _ _ _).mono ?_
                rintro e w' ⟨rfl, rfl⟩
                by_cases h7 : inB t.apart (-1) (tasks - 1) = true
                · have H7 := Lib.hid h7
                  rw [h7]
                  clear h7
                  go_wp2_with fail
                  refine (implIn_c _ _ _ _).mono ?_
                  rintro e w' ⟨rfl, rfl⟩
                  by_cases h8 : inB t.all 1 3 = true
                  · have H8 := Lib.hid h8
                    rw [h8]
                    clear h8
                    go_wp2_with fail
                    refine (implIn_c _ _ _ _).mono ?_
                    rintro e w' ⟨rfl, rfl⟩
                    go_wp2
                    go_ret
                    refine ⟨ret_bool ?_, HB3.out⟩
                    have hai := HAI.out
                    have hac := HAC.out
                    rw [H2.out, H3.out] at hai
                    rw [H5.out] at hac
                    rw [Bool.true_and, eq_comm, Bool.and_eq_true] at hai
                    simp only [taskOk, H0.out, H1.out, hai.1, hai.2, H4.out, ← hac, H6.out, H7.out, H8.out, Bool.true_and]
                  · have h8' : inB t.all 1 3 = false := by simpa using h8
                    have H8 := Lib.hid h8'
                    rw [h8']
                    clear h8 h8'
                    go_wp2
                    go_ret
                    refine ⟨ret_bool ?_, HB3.out⟩
                    simp only [taskOk, H8.out, Bool.false_and, Bool.and_false]
                · have h7' : inB t.apart (-1) (tasks - 1) = false := by simpa using h7
                  have H7 := Lib.hid h7'
                  rw [h7']
                  clear h7 h7'
                  go_wp2
                  go_ret
                  refine ⟨ret_bool ?_, HB3.out⟩
                  simp only [taskOk, H7.out, Bool.false_and, Bool.and_false]
              · have h6' : inB t.role 1 3 = false := by simpa using h6
                have H6 := Lib.hid h6'
                rw [h6']
                clear h6 h6'
                go_wp2
                go_ret
                refine ⟨ret_bool ?_, HB3.out⟩
                simp only [taskOk, H6.out, Bool.false_and, Bool.and_false]
            · have h5' : ascB places [0, 1] t.clear = false := by simpa using h5
              have H5 := Lib.hid h5'
              rw [h5']
              clear h5 h5'
              go_wp2
              go_ret
              refine ⟨ret_bool ?_, HB3.out⟩
              have hac := HAC.out
              rw [H5.out] at hac
              simp only [taskOk, ← hac, Bool.false_and, Bool.and_false]
          · have h4' : outB places t.split t.out = false := by simpa using h4
            have H4 := Lib.hid h4'
            rw [h4']
            clear h4 h4'
            go_wp2
            go_ret
            refine ⟨ret_bool ?_, HB2.out⟩
            simp only [taskOk, H4.out, Bool.false_and, Bool.and_false]
        · have h3' : ascB places [1] t.ins = false := by simpa using h3
          have H3 := Lib.hid h3'
          rw [h3']
          clear h3 h3'
          go_wp2
          go_ret
          refine ⟨ret_bool ?_, HB1.out⟩
          have hai := HAI.out
          rw [H3.out, Bool.and_false, eq_comm] at hai
          rw [Bool.and_eq_false_iff] at hai
          rcases hai with h | h
          · simp only [taskOk, h, Bool.false_and, Bool.and_false]
          · simp only [taskOk, h, Bool.false_and, Bool.and_false]
      · have h2' : inB t.ins.length 1 3 = false := by simpa using h2
        have H2 := Lib.hid h2'
        rw [h2']
        clear h2 h2'
        go_wp2
        go_ret
        refine ⟨ret_bool ?_, HB.out⟩
        have hai := HAI.out
        rw [H2.out, Bool.false_and, eq_comm] at hai
        rw [Bool.and_eq_false_iff] at hai
        rcases hai with h | h
        · simp only [taskOk, h, Bool.false_and, Bool.and_false]
        · simp only [taskOk, h, Bool.false_and, Bool.and_false]
    · have h1' : inB t.split 1 3 = false := by simpa using h1
      have H1 := Lib.hid h1'
      rw [h1']
      clear h1 h1'
      go_wp2
      go_ret
      refine ⟨ret_bool ?_, HB.out⟩
      simp only [taskOk, H1.out, Bool.false_and, Bool.and_false]
  · have h0' : inB t.join 1 3 = false := by simpa using h0
    have H0 := Lib.hid h0'
    rw [h0']
    clear h0 h0'
    go_wp2
    go_ret
    refine ⟨ret_bool ?_, HB.out⟩
    simp only [taskOk, H0.out, Bool.false_and, Bool.and_false]
end Go.Proofs.Ytoggdhbnkbdilaa
