/- Whether a task and a net are ok: the reference. -/
import Derived.Test.YtoggdhbnkbdilaaFlows
namespace Go.Proofs.Ytoggdhbnkbdilaa
open Go.RowKit
set_option linter.unusedVariables false
set_option linter.unusedSimpArgs false

def taskOk (t : NTask) (places tasks : Int) : Bool :=
  inB t.join 1 3 && (inB t.split 1 3 && (risesB t.ins 1 3 0 (places - 1) && (!decide (1 ∈ t.ins) && (outB places t.split t.out &&
    (risesB t.clear 0 places 2 (places - 1) && (inB t.role 1 3 && (inB t.apart (-1) (tasks - 1) && (inB t.all 1 3 && inB t.need 1 t.all))))))))
def netOk (n : NNet) : Bool := inB n.places 2 8 && (inB n.tasks.length 1 6 && n.tasks.all fun t => taskOk t n.places n.tasks.length)

set_option maxRecDepth 10000 in
set_option maxHeartbeats 2000000 in
theorem l2Task_c (t : NTask) (vi vo vc : Value) (lo hi : Nat) (places tasks : Int) (w : World) (hV : TaskV w lo hi t vi vo vc) (hhi : hi ≤ w.heap.size) (hp1 : 0 ≤ places) (hp2 : places ≤ 1000) (ht1 : 0 ≤ tasks) (ht2 : tasks ≤ 1000) :
    Calls Try.prog 52 #[.agg #[.int .i64 t.join, .int .i64 t.split, vi, vo, vc, .int .i64 t.role, .int .i64 t.apart, .int .i64 t.all, .int .i64 t.need], .int .i64 places, .int .i64 tasks] w
      fun e w' => e = .returned (.bool (taskOk t places tasks)) ∧ Below w.heap.size w w' := by
  obtain ⟨A1, b1, o1, c1, rfl, m1, hR1⟩ := hV.ins
  obtain ⟨A2, b2, o2, c2, rfl, m2, hR2⟩ := hV.out
  obtain ⟨A3, b3, o3, c3, rfl, m3, hR3⟩ := hV.clear
  go_enter Try.func52, Try.ntmps52
  have HR0 := Lib.hid (Row.newAt w #[.int .i64 t.join, .int .i64 t.split, .slice A1 t.ins.length c1, .slice A2 t.out.length c2, .slice A3 t.clear.length c3, .int .i64 t.role, .int .i64 t.apart, .int .i64 t.all, .int .i64 t.need] 38 _ rfl)
  have HB := Lib.hid ((Below.refl w.heap.size w).alloc (Nat.le_refl _) (.cells #[.int .i64 t.join, .int .i64 t.split, .slice A1 t.ins.length c1, .slice A2 t.out.length c2, .slice A3 t.clear.length c3, .int .i64 t.role, .int .i64 t.apart, .int .i64 t.all, .int .i64 t.need] 38))
  have HV := Lib.hid hV
  have HR1 := Lib.hid hR1
  have HR3 := Lib.hid hR3
  clear hV hR1 hR2 hR3
  go_wp2_with fail
  refine (l1In_c _ _ _ _).mono ?_
  rintro e w' ⟨rfl, rfl⟩
  by_cases h0 : inB t.join 1 3 = true
  · have H0 := Lib.hid h0
    rw [h0]
    clear h0
    go_wp2_with fail
    refine (l1In_c _ _ _ _).mono ?_
    rintro e w' ⟨rfl, rfl⟩
    by_cases h1 : inB t.split 1 3 = true
    · have H1 := Lib.hid h1
      rw [h1]
      clear h1
      go_wp2_with fail
      refine (l2Rises_c t.ins lo hi A1 b1 o1 c1 1 3 0 (places - 1) _ (HR1.out.below HB.out hhi) m1).mono ?_
      rintro e w' ⟨rfl, m2_, rfl⟩
      have HB := Lib.hid (below_drewN HB.out m2_)
      have HR0 := Lib.hid (HR0.out.drewN m2_)
      by_cases h2 : risesB t.ins 1 3 0 (places - 1) = true
      · have H2 := Lib.hid h2
        rw [h2]
        clear h2
        go_wp2_with fail
        refine (l2Has_c t.ins lo hi A1 b1 o1 c1 1 _ (HR1.out.below HB.out hhi) m1).mono ?_
        rintro e w' ⟨rfl, rfl⟩
        by_cases h3 : decide (1 ∈ t.ins) = true
        · have h3' := h3
          have H3 := Lib.hid h3'
          rw [h3']
          clear h3 h3'
          go_wp2
          go_ret
          exact ⟨ret_bool (by simp [taskOk, H3.out]), HB.out⟩
        · have h3' : decide (1 ∈ t.ins) = false := by simpa using h3
          have H3 := Lib.hid h3'
          rw [h3']
          clear h3 h3'
          go_wp2_with fail
          refine (l2Flows_c t _ _ _ lo hi places _ (HV.out.keep (fun g _ h => HB.out.block g (by omega))) (Nat.le_trans hhi HB.out.size) hp1 hp2).mono ?_
          rintro e w2 ⟨rfl, hb2⟩
          have hR0 := HR0.out.below hb2 (by show _ ≤ (w.alloc _).heap.size; simp)
          have HB := Lib.hid (HB.out.trans (hb2.mono HB.out.size))
          obtain ⟨⟨s0, s1, s2, s3, s4, s5, s6, s7, s8⟩, _⟩ := hR0.nine
          clear hb2 hR0
          by_cases h4 : outB places t.split t.out = true
          · have H4 := Lib.hid h4
            rw [h4]
            clear h4
            go_wp2_with fail
            refine (l2Rises_c t.clear lo hi A3 b3 o3 c3 0 places 2 (places - 1) _ (HR3.out.below HB.out hhi) m3).mono ?_
            rintro e w' ⟨rfl, m5_, rfl⟩
            have HB := Lib.hid (below_drewN HB.out m5_)
            by_cases h5 : risesB t.clear 0 places 2 (places - 1) = true
            · have H5 := Lib.hid h5
              rw [h5]
              clear h5
              go_wp2_with fail
              refine (l1In_c _ _ _ _).mono ?_
              rintro e w' ⟨rfl, rfl⟩
              by_cases h6 : inB t.role 1 3 = true
              · have H6 := Lib.hid h6
                rw [h6]
                clear h6
                go_wp2_with fail
                refine (l1In_c _ _ _ _).mono ?_
                rintro e w' ⟨rfl, rfl⟩
                by_cases h7 : inB t.apart (-1) (tasks - 1) = true
                · have H7 := Lib.hid h7
                  rw [h7]
                  clear h7
                  go_wp2_with fail
                  refine (l1In_c _ _ _ _).mono ?_
                  rintro e w' ⟨rfl, rfl⟩
                  by_cases h8 : inB t.all 1 3 = true
                  · have H8 := Lib.hid h8
                    rw [h8]
                    clear h8
                    go_wp2_with fail
                    refine (l1In_c _ _ _ _).mono ?_
                    rintro e w' ⟨rfl, rfl⟩
                    go_wp2
                    go_ret
                    exact ⟨ret_bool (by simp [taskOk, H0.out, H1.out, H2.out, H3.out, H4.out, H5.out, H6.out, H7.out, H8.out]), HB.out⟩
                  · have h8' : inB t.all 1 3 = false := by simpa using h8
                    have H8 := Lib.hid h8'
                    rw [h8']
                    clear h8 h8'
                    go_wp2
                    go_ret
                    exact ⟨ret_bool (by simp [taskOk, H8.out]), HB.out⟩
                · have h7' : inB t.apart (-1) (tasks - 1) = false := by simpa using h7
                  have H7 := Lib.hid h7'
                  rw [h7']
                  clear h7 h7'
                  go_wp2
                  go_ret
                  exact ⟨ret_bool (by simp [taskOk, H7.out]), HB.out⟩
              · have h6' : inB t.role 1 3 = false := by simpa using h6
                have H6 := Lib.hid h6'
                rw [h6']
                clear h6 h6'
                go_wp2
                go_ret
                exact ⟨ret_bool (by simp [taskOk, H6.out]), HB.out⟩
            · have h5' : risesB t.clear 0 places 2 (places - 1) = false := by simpa using h5
              have H5 := Lib.hid h5'
              rw [h5']
              clear h5 h5'
              go_wp2
              go_ret
              exact ⟨ret_bool (by simp [taskOk, H5.out]), HB.out⟩
          · have h4' : outB places t.split t.out = false := by simpa using h4
            have H4 := Lib.hid h4'
            rw [h4']
            clear h4 h4'
            go_wp2
            go_ret
            exact ⟨ret_bool (by simp [taskOk, H4.out]), HB.out⟩
      · have h2' : risesB t.ins 1 3 0 (places - 1) = false := by simpa using h2
        have H2 := Lib.hid h2'
        rw [h2']
        clear h2 h2'
        go_wp2
        go_ret
        exact ⟨ret_bool (by simp [taskOk, H2.out]), HB.out⟩
    · have h1' : inB t.split 1 3 = false := by simpa using h1
      have H1 := Lib.hid h1'
      rw [h1']
      clear h1 h1'
      go_wp2
      go_ret
      exact ⟨ret_bool (by simp [taskOk, H1.out]), HB.out⟩
  · have h0' : inB t.join 1 3 = false := by simpa using h0
    have H0 := Lib.hid h0'
    rw [h0']
    clear h0 h0'
    go_wp2
    go_ret
    exact ⟨ret_bool (by simp [taskOk, H0.out]), HB.out⟩
end Go.Proofs.Ytoggdhbnkbdilaa
