/- NetReach of the program. -/
import Derived.Test.YtoggdhbnkbdilaaImplReach
namespace Go.Proofs.Ytoggdhbnkbdilaa
open Go.RowKit
set_option linter.unusedVariables false
set_option linter.unusedSimpArgs false

theorem implNetReach_c (n : NNet) (v : Value) (lo hi : Nat) (place but : Int) (w : World) (hN : NetV w lo hi v n) (hhi : hi ≤ w.heap.size) (hlen : ∀ t ∈ n.tasks, t.out.length ≤ 1048576) :
    Calls Try.prog 28 #[v, .int .i64 place, .int .i64 but] w fun e w' => ∃ v', e = .returned v' ∧ MadeB w' w.heap.size 4 (reachN n place but) v' ∧ Below w.heap.size w w' := by
  have HN := Lib.hid hN
  obtain ⟨A, b, off, c, ms, rfl, hm, hT⟩ := hN
  unfold maxLen at hm
  clear hT
  generalize hob : Obj.cells #[.int .i64 n.places, .slice A n.tasks.length c] 25 = ob
  have hR := (Row.newAt w #[.int .i64 n.places, .slice A n.tasks.length c] 25 _ rfl)
  rw [hob] at hR
  have HR := Lib.hid hR
  have HB := Lib.hid ((Below.refl w.heap.size w).alloc (Nat.le_refl _) ob)
  have HC := Lib.hid (implNetOk_c n _ lo hi (w.alloc ob) (HN.out.keep fun g _ h => Below.heap_alloc w _ g (by omega)) (by simp; omega) hlen)
  have HO := Lib.hid hob
  clear hR hob hlen
  go_enter Try.func28, Try.ntmps28
  go_wp2_with fail
  rw [HO.out]
  refine HC.out.mono ?_
  rintro e w1 ⟨rfl, hb1⟩
  have hR1 := HR.out.below hb1 (by simp)
  have s0 := (hR1.cell (j := 0) rfl).1
  have s1 := (hR1.cell (j := 1) rfl).1
  have hz1' : w.heap.size + 1 ≤ w1.heap.size := by simpa using hb1.size
  have HB1 := Lib.hid (HB.out.trans (hb1.mono (by simp)))
  clear hb1 hR1
  by_cases h1 : netOk n = true
  · have H1 := Lib.hid h1
    have hp := netOk_parts h1
    rw [h1]
    clear h1
    go_wp2_with fail
    refine (implIn_c _ _ _ _).mono ?_
    rintro e w' ⟨rfl, rfl⟩
    by_cases h2 : inB place 0 (n.places - 1) = true
    · have H2 := Lib.hid h2
      rw [h2]
      have hpl := inB_iff.1 h2
      obtain ⟨pn, rfl⟩ := Int.eq_ofNat_of_zero_le hpl.1
      clear h2
      go_wp2_with fail
      refine (implReach_c n _ lo hi pn but _ (HN.out.below HB1.out hhi) (by omega) H1.out (by omega)).mono ?_
      rintro e w4 ⟨v', rfl, hM, hb4⟩
      have HM := Lib.hid hM
      have HB4 := Lib.hid (HB1.out.trans (hb4.mono (by omega)))
      clear hM hb4
      go_wp2
      go_ret
      exact ⟨v', rfl, by rw [reachN_yes H1.out H2.out]; exact HM.out.base (by omega), HB4.out⟩
    · have h2' : inB place 0 (n.places - 1) = false := by simpa using h2
      have H2 := Lib.hid h2'
      rw [h2']
      clear h2 h2'
      go_wp2
      go_ret
      exact ⟨_, rfl, by rw [reachN_no2 H1.out H2.out]; exact MadeB.nil_ _ _ _, HB1.out⟩
  · have h1' : netOk n = false := by simpa using h1
    have H1 := Lib.hid h1'
    rw [h1']
    clear h1 h1'
    go_wp2
    go_ret
    exact ⟨_, rfl, by rw [reachN_no1 H1.out]; exact MadeB.nil_ _ _ _, HB1.out⟩
end Go.Proofs.Ytoggdhbnkbdilaa
