/- EnaCan: the program and the reference. -/
import Derived.Test.YtililbgpjbpnkaaCan
import Derived.Test.YtililbgpjbpnkaaBusyOk
namespace Go.Proofs.Ytililbgpjbpnkaa
open Go.RowKit
set_option linter.unusedVariables false
set_option linter.unusedSimpArgs false

set_option maxRecDepth 10000 in
set_option maxHeartbeats 2000000 in
theorem implEnaCan_c (n : NNet) (v : Value) (zs : List Int) (bs : List NItem) (lo0 hi0 lo hi lo2 hi2 : Nat) (A1 : Option Addr) (b1 off1 c1 : Nat) (Ai : Option Addr) (bi oi ci : Nat) (t : Int) (w : World) (hN : NetV w lo0 hi0 v n) (hhi0 : hi0 ≤ w.heap.size) (hlen : ∀ t ∈ n.tasks, t.out.length ≤ 1048576)
    (hV : Row w lo hi A1 b1 off1 (ints zs)) (hhi : hi ≤ w.heap.size) (hI : Row w lo2 hi2 Ai bi oi (itemCells bs)) (hhi2 : hi2 ≤ w.heap.size) (hm1 : zs.length ≤ maxLen) (hm2 : bs.length ≤ maxLen) :
    Calls Try.prog 47 #[v, .slice A1 zs.length c1, .slice Ai bs.length ci, .int .i64 t] w fun e w' => e = .returned (.bool (enaB n zs bs t)) ∧ Below w.heap.size w w' := by
  have HN := Lib.hid hN
  obtain ⟨A, b, off, c, ms, rfl, hm, hT⟩ := hN
  unfold maxLen at hm
  clear hT
  generalize hob : Obj.cells #[.int .i64 n.places, .slice A n.tasks.length c] 29 = ob
  have hR := (Row.newAt w #[.int .i64 n.places, .slice A n.tasks.length c] 29 _ rfl)
  rw [hob] at hR
  have HR := Lib.hid hR
  have HB := Lib.hid ((Below.refl w.heap.size w).alloc (Nat.le_refl _) ob)
  have HNA := Lib.hid (HN.out.keep (w' := w.alloc ob) fun g _ h => Below.heap_alloc w _ g (by omega))
  have HV := Lib.hid (hV.alloc hhi ob)
  have HI := Lib.hid (hI.alloc hhi2 ob)
  have HC := Lib.hid (implMrkOk_c n _ zs lo0 hi0 lo hi A1 b1 off1 c1 (w.alloc ob) HNA.out (by simp; omega) hlen (hV.alloc hhi ob) (by simp; omega) hm1)
  have HM2 := Lib.hid hm2
  have HO := Lib.hid hob
  clear hR hob hV hI hlen hm1 hm2
  go_enter Try.func47, Try.ntmps47
  go_wp2_with fail
  rw [HO.out]
  refine HC.out.mono ?_
  rintro e w1 ⟨rfl, hb1⟩
  have hR1 := HR.out.below hb1 (by simp)
  have s0 := (hR1.cell (j := 0) rfl).1
  have s1 := (hR1.cell (j := 1) rfl).1
  have hz1 : w.heap.size + 1 ≤ w1.heap.size := by simpa using hb1.size
  have HB1 := Lib.hid (hb1.mono (by simp : w.heap.size + 1 ≤ _))
  clear hb1 hR1
  by_cases h1 : mrkOk n zs = true
  · have H1 := Lib.hid h1
    have hnok := (mrkOk_parts h1).1
    have HNOK := Lib.hid hnok
    rw [h1]
    clear h1 hnok
    go_wp2_with fail
    refine (busyOk_c n _ bs lo0 hi0 lo2 hi2 Ai bi oi ci w1 (HNA.out.below HB1.out (by omega)) (by omega) HNOK.out (HI.out.below HB1.out (by omega)) (by omega) HM2.out).mono ?_
    rintro e w2 ⟨rfl, hb2⟩
    have hz2 : w1.heap.size ≤ w2.heap.size := hb2.size
    have hb02 := HB1.out.trans (hb2.mono (by omega))
    have hR2 := HR.out.below hb02 (by simp)
    clear s0 s1
    have s0 := (hR2.cell (j := 0) rfl).1
    have s1 := (hR2.cell (j := 1) rfl).1
    have HB2 := Lib.hid hb02
    clear hb2 hb02 hR2
    by_cases h2 : busyB n bs = true
    · have H2 := Lib.hid h2
      rw [h2]
      clear h2
      go_wp2_with fail
      refine (hasTask_c n _ t lo0 hi0 w2 (HNA.out.below HB2.out (by omega))).mono ?_
      rintro e w3 ⟨rfl, hb3⟩
      have hz3 : w2.heap.size ≤ w3.heap.size := hb3.size
      have hb03 := HB2.out.trans (hb3.mono (by omega))
      have hR3 := HR.out.below hb03 (by simp)
      clear s0 s1
      have s0 := (hR3.cell (j := 0) rfl).1
      have s1 := (hR3.cell (j := 1) rfl).1
      have HB3 := Lib.hid hb03
      clear hb3 hb03 hR3
      by_cases h3 : inB t 0 ((n.tasks.length : Int) - 1) = true
      · have H3 := Lib.hid h3
        rw [h3]
        have hpl := inB_iff.1 h3
        obtain ⟨tn, rfl⟩ := Int.eq_ofNat_of_zero_le hpl.1
        have htn : tn < n.tasks.length := by omega
        clear h3
        go_wp2_with fail
        refine (can_c n _ zs bs lo0 hi0 lo hi lo2 hi2 A1 b1 off1 c1 Ai bi oi ci tn w3 (HNA.out.below HB3.out (by omega)) (by omega) (HV.out.below HB3.out (by omega)) (by omega) (HI.out.below HB3.out (by omega)) (by omega) H1.out H2.out htn).mono ?_
        rintro e w4 ⟨rfl, hb4⟩
        have HB4 := Lib.hid (HB3.out.trans (hb4.mono (by omega)))
        clear hb4 s0 s1
        generalize hcb : canB n zs bs (tn : Int) = cb
        have HCB := Lib.hid hcb
        clear hcb
        go_wp2
        go_ret
        exact ⟨ret_bool (by rw [enaB, H1.out, H2.out, H3.out, HCB.out]; rfl), HB.out.trans (HB4.out.mono (by omega))⟩
      · have h3' : inB t 0 ((n.tasks.length : Int) - 1) = false := by simpa using h3
        have H3 := Lib.hid h3'
        rw [h3']
        clear h3 h3'
        go_wp2
        go_ret
        exact ⟨ret_bool (by rw [enaB, H1.out, H2.out, H3.out]; rfl), HB.out.trans (HB3.out.mono (by omega))⟩
    · have h2' : busyB n bs = false := by simpa using h2
      have H2 := Lib.hid h2'
      rw [h2']
      clear h2 h2'
      go_wp2
      go_ret
      exact ⟨ret_bool (by rw [enaB, H1.out, H2.out]; rfl), HB.out.trans (HB2.out.mono (by omega))⟩
  · have h1' : mrkOk n zs = false := by simpa using h1
    have H1 := Lib.hid h1'
    rw [h1']
    clear h1 h1'
    go_wp2
    go_ret
    exact ⟨ret_bool (by rw [enaB, H1.out]; rfl), HB.out.trans (HB1.out.mono (by omega))⟩

set_option maxRecDepth 10000 in
set_option maxHeartbeats 2000000 in
theorem specEnaCan_c (n : NNet) (v : Value) (zs : List Int) (bs : List NItem) (lo0 hi0 lo hi lo2 hi2 : Nat) (A1 : Option Addr) (b1 off1 c1 : Nat) (Ai : Option Addr) (bi oi ci : Nat) (t : Int) (w : World) (hN : NetV w lo0 hi0 v n) (hhi0 : hi0 ≤ w.heap.size)
    (hV : Row w lo hi A1 b1 off1 (ints zs)) (hhi : hi ≤ w.heap.size) (hI : Row w lo2 hi2 Ai bi oi (itemCells bs)) (hhi2 : hi2 ≤ w.heap.size) (hm1 : zs.length ≤ maxLen) (hm2 : bs.length ≤ maxLen) :
    Calls Try.prog 45 #[v, .slice A1 zs.length c1, .slice Ai bs.length ci, .int .i64 t] w fun e w' => e = .returned (.bool (enaB n zs bs t)) ∧ Below w.heap.size w w' := by
  have HN := Lib.hid hN
  obtain ⟨A, b, off, c, ms, rfl, hm, hT⟩ := hN
  unfold maxLen at hm
  clear hT
  generalize hob : Obj.cells #[.int .i64 n.places, .slice A n.tasks.length c] 29 = ob
  have hR := (Row.newAt w #[.int .i64 n.places, .slice A n.tasks.length c] 29 _ rfl)
  rw [hob] at hR
  have HR := Lib.hid hR
  have HB := Lib.hid ((Below.refl w.heap.size w).alloc (Nat.le_refl _) ob)
  have HNA := Lib.hid (HN.out.keep (w' := w.alloc ob) fun g _ h => Below.heap_alloc w _ g (by omega))
  have HV := Lib.hid (hV.alloc hhi ob)
  have HI := Lib.hid (hI.alloc hhi2 ob)
  have HC := Lib.hid (specMrkOk_c n _ zs lo0 hi0 lo hi A1 b1 off1 c1 (w.alloc ob) HNA.out (by simp; omega) (hV.alloc hhi ob) (by simp; omega) hm1)
  have HM2 := Lib.hid hm2
  have HO := Lib.hid hob
  clear hR hob hV hI hm1 hm2
  go_enter Try.func45, Try.ntmps45
  go_wp2_with fail
  rw [HO.out]
  refine HC.out.mono ?_
  rintro e w1 ⟨rfl, hb1⟩
  have hR1 := HR.out.below hb1 (by simp)
  have s0 := (hR1.cell (j := 0) rfl).1
  have s1 := (hR1.cell (j := 1) rfl).1
  have hz1 : w.heap.size + 1 ≤ w1.heap.size := by simpa using hb1.size
  have HB1 := Lib.hid (hb1.mono (by simp : w.heap.size + 1 ≤ _))
  clear hb1 hR1
  by_cases h1 : mrkOk n zs = true
  · have H1 := Lib.hid h1
    have hnok := (mrkOk_parts h1).1
    have HNOK := Lib.hid hnok
    rw [h1]
    clear h1 hnok
    go_wp2_with fail
    refine (l3Busy_c n _ bs lo0 hi0 lo2 hi2 Ai bi oi ci w1 (HNA.out.below HB1.out (by omega)) (by omega) HNOK.out (HI.out.below HB1.out (by omega)) (by omega) HM2.out).mono ?_
    rintro e w2 ⟨rfl, hb2⟩
    have hz2 : w1.heap.size ≤ w2.heap.size := hb2.size
    have hb02 := HB1.out.trans (hb2.mono (by omega))
    have hR2 := HR.out.below hb02 (by simp)
    clear s0 s1
    have s0 := (hR2.cell (j := 0) rfl).1
    have s1 := (hR2.cell (j := 1) rfl).1
    have HB2 := Lib.hid hb02
    clear hb2 hb02 hR2
    by_cases h2 : busyB n bs = true
    · have H2 := Lib.hid h2
      rw [h2]
      clear h2
      go_wp2_with fail
      refine (l1In_c _ _ _ _).mono ?_
      rintro e w3 ⟨rfl, hw3⟩
      have hz3 : w2.heap.size ≤ w3.heap.size := by rw [hw3]; exact Nat.le_refl _
      have HB3 := Lib.hid (show Below (w.heap.size + 1) (w.alloc ob) w3 by rw [← hw3]; exact HB2.out)
      rw [hw3] at s0 s1
      clear hw3
      by_cases h3 : inB t 0 ((n.tasks.length : Int) - 1) = true
      · have H3 := Lib.hid h3
        rw [h3]
        have hpl := inB_iff.1 h3
        obtain ⟨tn, rfl⟩ := Int.eq_ofNat_of_zero_le hpl.1
        have htn : tn < n.tasks.length := by omega
        clear h3
        go_wp2_with fail
        refine (l3Can_c n _ zs bs lo0 hi0 lo hi lo2 hi2 A1 b1 off1 c1 Ai bi oi ci tn w3 (HNA.out.below HB3.out (by omega)) (by omega) (HV.out.below HB3.out (by omega)) (by omega) (HI.out.below HB3.out (by omega)) (by omega) H1.out H2.out htn).mono ?_
        rintro e w4 ⟨rfl, hb4⟩
        have HB4 := Lib.hid (HB3.out.trans (hb4.mono (by omega)))
        clear hb4 s0 s1
        generalize hcb : canB n zs bs (tn : Int) = cb
        have HCB := Lib.hid hcb
        clear hcb
        go_wp2
        go_ret
        exact ⟨ret_bool (by rw [enaB, H1.out, H2.out, H3.out, HCB.out]; rfl), HB.out.trans (HB4.out.mono (by omega))⟩
      · have h3' : inB t 0 ((n.tasks.length : Int) - 1) = false := by simpa using h3
        have H3 := Lib.hid h3'
        rw [h3']
        clear h3 h3'
        go_wp2
        go_ret
        exact ⟨ret_bool (by rw [enaB, H1.out, H2.out, H3.out]; rfl), HB.out.trans (HB3.out.mono (by omega))⟩
    · have h2' : busyB n bs = false := by simpa using h2
      have H2 := Lib.hid h2'
      rw [h2']
      clear h2 h2'
      go_wp2
      go_ret
      exact ⟨ret_bool (by rw [enaB, H1.out, H2.out]; rfl), HB.out.trans (HB2.out.mono (by omega))⟩
  · have h1' : mrkOk n zs = false := by simpa using h1
    have H1 := Lib.hid h1'
    rw [h1']
    clear h1 h1'
    go_wp2
    go_ret
    exact ⟨ret_bool (by rw [enaB, H1.out]; rfl), HB.out.trans (HB1.out.mono (by omega))⟩
end Go.Proofs.Ytililbgpjbpnkaa
