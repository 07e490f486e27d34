/- Whether a net is ok: the reference. -/
import Derived.Test.YtoggdhbnkbdilaaSpecNet
namespace Go.Proofs.Ytoggdhbnkbdilaa
open Go.RowKit
set_option linter.unusedVariables false
set_option linter.unusedSimpArgs false

set_option maxRecDepth 10000 in
set_option maxHeartbeats 1000000 in
theorem specNetOk_c (n : NNet) (v : Value) (lo hi : Nat) (w : World) (hV : NetV w lo hi v n) (hhi : hi ≤ w.heap.size) :
    Calls Try.prog 19 #[v] w fun e w' => e = .returned (.bool (netOk n)) ∧ Below w.heap.size w w' := by
  obtain ⟨A, b, off, c, ms, rfl, hm, hT⟩ := hV
  unfold maxLen at hm
  go_enter Try.func19, Try.ntmps19
  go_wp2_with fail
  refine (l1In_c _ _ _ _).mono ?_
  rintro e w' ⟨rfl, rfl⟩
  by_cases h1 : inB n.places 2 8 = true
  · have H1 := Lib.hid h1
    have h1' := inB_iff.1 h1
    rw [h1]
    clear h1
    go_wp2_with fail
    refine (l1In_c _ _ _ _).mono ?_
    rintro e w' ⟨rfl, rfl⟩
    by_cases h2 : inB n.tasks.length 1 6 = true
    · have H2 := Lib.hid h2
      have h2' := inB_iff.1 h2
      rw [h2]
      clear h2
      have hR := Row.newAt w #[.int .i64 n.places, .slice A n.tasks.length c] 25 _ rfl
      have hB := (Below.refl w.heap.size w).alloc (Nat.le_refl _) (.cells #[.int .i64 n.places, .slice A n.tasks.length c] 25)
      go_wp2
      go_loopw [3] (fun i wr => ∃ k : Nat, k ≤ n.tasks.length ∧ i = .int .i64 k ∧ (∀ j t, j < k → n.tasks[j]? = some t → taskOk t n.places n.tasks.length = true) ∧ Row wr w.heap.size (w.heap.size + 1) (some ⟨w.heap.size, 0, none⟩) w.heap.size 0 [.int .i64 n.places, .slice A n.tasks.length c] ∧ Below w.heap.size w wr ∧ w.heap.size + 1 ≤ wr.heap.size) (fun i _ => n.tasks.length - (intOf i).toNat)
      case atStart => exact ⟨0, Nat.zero_le _, rfl, fun j t hj => absurd hj (Nat.not_lt_zero _), hR, hB, by simp⟩
      case round =>
        obtain ⟨k, hk, rfl, hn, hR', hb, hsz⟩ := hrel
        clear hR hB
        have s0 := (hR'.cell (j := 0) rfl).1
        have s1 := (hR'.cell (j := 1) rfl).1
        have HN := Lib.hid hn
        have HR := Lib.hid hR'
        have HB := Lib.hid hb
        have HS := Lib.hid hsz
        clear hn hR' hsz
        by_cases hlt : k < n.tasks.length
        · obtain ⟨rfl, _, h3, t, vi, vo, vc, hx, _, hTV, ⟨c0, c1, c2, c3, c4, c5, c6, c7, c8⟩, _⟩ := hT.task hlt
          replace c0 := (hb.cell (p := ⟨b, off + k * 9, none⟩) (by show b < _; omega)).trans c0
          replace c1 := (hb.cell (p := ⟨b, off + k * 9 + 1, none⟩) (by show b < _; omega)).trans c1
          replace c2 := (hb.cell (p := ⟨b, off + k * 9 + 2, none⟩) (by show b < _; omega)).trans c2
          replace c3 := (hb.cell (p := ⟨b, off + k * 9 + 3, none⟩) (by show b < _; omega)).trans c3
          replace c4 := (hb.cell (p := ⟨b, off + k * 9 + 4, none⟩) (by show b < _; omega)).trans c4
          replace c5 := (hb.cell (p := ⟨b, off + k * 9 + 5, none⟩) (by show b < _; omega)).trans c5
          replace c6 := (hb.cell (p := ⟨b, off + k * 9 + 6, none⟩) (by show b < _; omega)).trans c6
          replace c7 := (hb.cell (p := ⟨b, off + k * 9 + 7, none⟩) (by show b < _; omega)).trans c7
          replace c8 := (hb.cell (p := ⟨b, off + k * 9 + 8, none⟩) (by show b < _; omega)).trans c8
          have HT := Lib.hid (hTV.keep (w' := wr.drew) fun g _ h => hb.block g (by omega))
          have HX := Lib.hid hx
          have HTT := Lib.hid hT
          have hlt1 : (k : Int) < (n.tasks.length : Int) := by omega
          clear hb hx hTV hT
          go_wp2
          go_still_tail 10, (by kernel_rfl)
          change wpList _ _ _ _ _ wr.drew
          go_wp2_with fail
          refine (l2Task_c t vi vo vc lo hi n.places n.tasks.length _ HT.out (Nat.le_trans hhi HB.out.size) (by omega) (by omega) (by omega) (by omega)).mono ?_
          rintro e w2 ⟨rfl, hb2⟩
          have HB2 := Lib.hid (HB.out.drew.trans (hb2.mono HB.out.size))
          have HR2 := Lib.hid (HR.out.drew.below hb2 HS.out)
          have HS2 := Lib.hid (Nat.le_trans HS.out hb2.size)
          clear hb2
          by_cases h4 : taskOk t n.places n.tasks.length = true
          · have H4 := Lib.hid h4
            rw [h4]
            clear h4
            go_wp2_with fail
            go_roundw
            case rel =>
              refine ⟨k + 1, by omega, by go_num, fun j u hj hu => ?_, HR2.out, HB2.out, HS2.out⟩
              by_cases hjk : j = k
              · subst hjk
                have e := HX.out.symm.trans hu
                injection e with e; rw [← e]; exact H4.out
              · exact HN.out j u (by omega) hu
            case measure => simp [intOf]; omega
          · have h4' : taskOk t n.places n.tasks.length = false := by simpa using h4
            have H4 := Lib.hid h4'
            rw [h4']
            clear h4 h4'
            go_wp2_with fail
            go_ret
            exact ⟨ret_bool (by rw [netOk, not_all_of (p := fun t => taskOk t n.places n.tasks.length) HX.out H4.out]; simp), HB2.out⟩
        · clear hb
          go_wp2
          go_ret
          exact ⟨ret_bool (by rw [netOk, H1.out, H2.out, all_of (p := fun t => taskOk t n.places n.tasks.length) (fun j y hj hy => HN.out j y (by omega) hy)]; rfl), HB.out⟩
    · have h2' : inB n.tasks.length 1 6 = false := by simpa using h2
      have H2 := Lib.hid h2'
      rw [h2']
      clear h2 h2'
      go_wp2
      go_ret
      exact ⟨ret_bool (by simp [netOk, H2.out]), (Below.refl _ _).alloc (Nat.le_refl _) _⟩
  · have h1' : inB n.places 2 8 = false := by simpa using h1
    have H1 := Lib.hid h1'
    rw [h1']
    clear h1 h1'
    go_wp2
    go_ret
    exact ⟨ret_bool (by simp [netOk, H1.out]), (Below.refl _ _).alloc (Nat.le_refl _) _⟩
end Go.Proofs.Ytoggdhbnkbdilaa
