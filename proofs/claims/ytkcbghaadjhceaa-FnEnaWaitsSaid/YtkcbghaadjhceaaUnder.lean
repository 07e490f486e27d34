/- Whether tasks under way are ok: as a law asks it. -/
import Derived.Test.YtkcbghaadjhceaaEB
import Derived.BigQuiet
namespace Go.Proofs.Ytkcbghaadjhceaa
open Go.RowKit
set_option linter.unusedVariables false
set_option linter.unusedSimpArgs false

set_option maxRecDepth 100000 in
set_option maxHeartbeats 4000000 in
theorem guUnderWay_c {w0 w : World} {B b1 k c1 b9 o9 bi oi ci : Nat} {P : Int} {n : NNet} {A9 Ai : Option Addr} {ys : List Int} {bs : List NItem} (h : EB w0 B P b1 k c1 n A9 b9 o9 ys Ai bi oi bs w) (hs : Small n) (hk : n.tasks.length = k) (hb4 : bs.length ≤ 4) :
    Calls Try.prog 26 #[.agg #[.int .i64 P, .slice (some ⟨b1, 0, none⟩) k c1], .slice Ai bs.length ci] w fun e w' => e = .returned (.bool (busyB n bs)) ∧ Below w.heap.size w w' := by
  have hk6 : k ≤ 6 := by have := hs.2.2.2.1; omega
  have HK := Lib.hid hk
  have HS := Lib.hid hs
  generalize hob : Obj.cells #[.int .i64 P, .slice (some ⟨b1, 0, none⟩) k c1] 25 = ob
  have HO := Lib.hid hob
  have HR := Lib.hid (show Blk (w.alloc ob) w.heap.size 25 #[.int .i64 P, .slice (some ⟨b1, 0, none⟩) k c1] by rw [← hob]; exact Blk.new_ _ _ _)
  have HE := Lib.hid (h.alloc ob)
  have HB := Lib.hid ((Below.refl w.heap.size w).alloc (Nat.le_refl _) ob)
  clear h hk hs hob
  go_enter Try.func26, Try.ntmps26
  go_wp2
  rw [HO.out]
  go_loopw [5] (fun i wr => ∃ j d : Nat, j ≤ bs.length ∧ i = .int .i64 j ∧ (∀ (q : Nat) (y : NItem), q < j → bs[q]? = some y → itemOk n y = true) ∧ wr = (w.alloc ob).drewN d) (fun i _ => bs.length - (intOf i).toNat)
  case atStart => exact ⟨0, 0, Nat.zero_le _, rfl, fun q y hq => absurd hq (Nat.not_lt_zero _), rfl⟩
  case round =>
    obtain ⟨j, d, hj, rfl, hn, hw⟩ := hrel
    have HNN := Lib.hid hn
    have HW := Lib.hid hw
    have s1 : wr.cell? ⟨w.heap.size, 1, none⟩ = some (.slice (some ⟨b1, 0, none⟩) k c1) := by rw [hw]; exact HR.out.cell 1
    clear hn hw
    by_cases hlt : j < bs.length
    · have hlt1 : (j : Int) < (bs.length : Int) := by omega
      obtain ⟨rfl, _, _, y, hy, ⟨y0, y1, y2⟩, _⟩ := HE.out.is.item hlt
      replace y0 : wr.cell? ⟨bi, oi + j * 3, none⟩ = some (.int .i64 y.task) := by rw [HW.out]; exact y0
      replace y1 : wr.cell? ⟨bi, oi + j * 3 + 1, none⟩ = some (.int .i64 y.who) := by rw [HW.out]; exact y1
      replace y2 : wr.cell? ⟨bi, oi + j * 3 + 2, none⟩ = some (.int .i64 y.did) := by rw [HW.out]; exact y2
      have HY := Lib.hid hy
      clear hy
      obtain ⟨yt, yw, yd⟩ := y
      dsimp only at y0 y1 y2
      by_cases hA : yt < 0
      · have fA : decide (yt < 0) = true := decide_eq_true hA
        have HNO := Lib.hid (show itemOk n ⟨yt, yw, yd⟩ = false from itemOk_no (Bool.eq_false_iff.2 fun h => by have := (inB_iff.1 h).1; dsimp only at this; omega))
        go_wp2
        go_quiet (fail)
        go_wp2
        go_ret
        exact ⟨ret_bool (busy_no HY.out HNO.out).symm, by rw [HW.out]; first | exact below_drewN (below_drewN HB.out _) _ | exact below_drewN HB.out _⟩
      · obtain ⟨tn, rfl⟩ := Int.eq_ofNat_of_zero_le (show 0 ≤ yt by omega)
        have fA : decide ((tn : Int) < 0) = false := decide_eq_false hA
        by_cases hT : tn < k
        · have fT : decide (k ≤ tn) = false := decide_eq_false (by omega)
          have hT1 : (tn : Int) < (k : Int) := by omega
          have hT2 : ¬ ((k : Int) ≤ (tn : Int)) := by omega
          obtain ⟨t, _, _, _, _, _, _, _, _, _, _, _, _, ht, _, _, _, _, _, _, _, _, _, _, _, _, d8⟩ := HE.out.nb.task (i := tn) (by rw [HK.out]; exact hT)
          replace d8 : wr.cell? ⟨b1, tn * 9 + 8, none⟩ = some (.int .i64 t.need) := by rw [HW.out]; exact d8
          have HIT := Lib.hid (itemOk_at (n := n) (b := ⟨(tn : Int), yw, yd⟩) rfl ht)
          have HTR := Lib.hid (show inB (tn : Int) 0 ((n.tasks.length : Int) - 1) = true from inB_iff.2 ⟨by omega, by have := HK.out; omega⟩)
          clear ht
          by_cases hC : yw < 1
          · have fC : decide (yw < 1) = true := decide_eq_true hC
            have HNO := Lib.hid (show itemOk n ⟨(tn : Int), yw, yd⟩ = false by rw [HIT.out, (Bool.eq_false_iff.2 fun h => by have := (inB_iff.1 h).1; dsimp only at this; omega : inB (NItem.who ⟨(tn : Int), yw, yd⟩) 1 4 = false)]; simp)
            go_wp2
            go_quiet (fail)
            go_wp2
            go_ret
            exact ⟨ret_bool (busy_no HY.out HNO.out).symm, by rw [HW.out]; first | exact below_drewN (below_drewN HB.out _) _ | exact below_drewN HB.out _⟩
          · have fC : decide (yw < 1) = false := decide_eq_false hC
            by_cases hD : 4 < yw
            · have fD : decide (4 < yw) = true := decide_eq_true hD
              have HNO := Lib.hid (show itemOk n ⟨(tn : Int), yw, yd⟩ = false by rw [HIT.out, (Bool.eq_false_iff.2 fun h => by have := (inB_iff.1 h).2; dsimp only at this; omega : inB (NItem.who ⟨(tn : Int), yw, yd⟩) 1 4 = false)]; simp)
              go_wp2
              go_quiet (fail)
              go_wp2
              go_ret
              exact ⟨ret_bool (busy_no HY.out HNO.out).symm, by rw [HW.out]; first | exact below_drewN (below_drewN HB.out _) _ | exact below_drewN HB.out _⟩
            · have fD : decide (4 < yw) = false := decide_eq_false hD
              by_cases hE : yd < 0
              · have fE : decide (yd < 0) = true := decide_eq_true hE
                have HNO := Lib.hid (show itemOk n ⟨(tn : Int), yw, yd⟩ = false by rw [HIT.out, (Bool.eq_false_iff.2 fun h => by have := (inB_iff.1 h).1; dsimp only at this; omega : inB (NItem.did ⟨(tn : Int), yw, yd⟩) 0 (t.need - 1) = false)]; simp)
                go_wp2
                go_quiet (fail)
                go_wp2
                go_ret
                exact ⟨ret_bool (busy_no HY.out HNO.out).symm, by rw [HW.out]; first | exact below_drewN (below_drewN HB.out _) _ | exact below_drewN HB.out _⟩
              · have fE : decide (yd < 0) = false := decide_eq_false hE
                by_cases hF : t.need ≤ yd
                · have fF : decide (t.need ≤ yd) = true := decide_eq_true hF
                  have HNO := Lib.hid (show itemOk n ⟨(tn : Int), yw, yd⟩ = false by rw [HIT.out, (Bool.eq_false_iff.2 fun h => by have := (inB_iff.1 h).2; dsimp only at this; omega : inB (NItem.did ⟨(tn : Int), yw, yd⟩) 0 (t.need - 1) = false)]; simp)
                  go_wp2
                  go_quiet (fail)
                  go_wp2
                  go_ret
                  exact ⟨ret_bool (busy_no HY.out HNO.out).symm, by rw [HW.out]; first | exact below_drewN (below_drewN HB.out _) _ | exact below_drewN HB.out _⟩
                · have fF : decide (t.need ≤ yd) = false := decide_eq_false hF
                  have HYES := Lib.hid (show itemOk n ⟨(tn : Int), yw, yd⟩ = true by rw [HIT.out, HTR.out, (inB_iff.2 ⟨by dsimp only; omega, by dsimp only; omega⟩ : inB (NItem.who ⟨(tn : Int), yw, yd⟩) 1 4 = true), (inB_iff.2 ⟨by dsimp only; omega, by dsimp only; omega⟩ : inB (NItem.did ⟨(tn : Int), yw, yd⟩) 0 (t.need - 1) = true)]; rfl)
                  go_wp2
                  go_quiet (fail)
                  go_wp2
                  go_roundw
                  case rel =>
                    refine ⟨j + 1, _, by omega, by go_num, fun q z hq hz => ?_, by rw [HW.out, World.drewN_drewN]⟩
                    by_cases hqj : q = j
                    · rw [hqj] at hz
                      have e := HY.out.symm.trans hz
                      injection e with e
                      rw [← e]; exact HYES.out
                    · exact HNN.out q z (by omega) hz
                  case measure => simp [intOf]; omega
        · have fT : decide (k ≤ tn) = true := decide_eq_true (by omega)
          have hT2 : (k : Int) ≤ (tn : Int) := by omega
          have HNO := Lib.hid (show itemOk n ⟨(tn : Int), yw, yd⟩ = false from itemOk_no (Bool.eq_false_iff.2 fun h => by have := (inB_iff.1 h).2; have := HK.out; dsimp only at *; omega))
          go_wp2
          go_quiet (fail)
          go_wp2
          go_ret
          exact ⟨ret_bool (busy_no HY.out HNO.out).symm, by rw [HW.out]; first | exact below_drewN (below_drewN HB.out _) _ | exact below_drewN HB.out _⟩
    · have hlt1 : ¬ ((j : Int) < (bs.length : Int)) := by omega
      have HBU := Lib.hid (show busyB n bs = true by rw [busyB, decide_eq_true (by omega), all_of (p := itemOk n) (fun q y hq hy => HNN.out q y (by omega) hy)]; rfl)
      have h6 : decide ((bs.length : Int) ≤ 6) = true := decide_eq_true (by omega)
      have h6b : (bs.length : Int) ≤ 6 := by omega
      go_wp2
      go_ret
      exact ⟨ret_bool HBU.out.symm, by rw [HW.out]; exact below_drewN HB.out _⟩
end Go.Proofs.Ytkcbghaadjhceaa
