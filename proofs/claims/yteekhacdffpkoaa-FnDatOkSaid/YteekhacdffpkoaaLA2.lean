/- Laws over what is drawn of a code: data. -/
import Derived.Test.YteekhacdffpkoaaDraw4
import Derived.Test.YteekhacdffpkoaaHolds
import Derived.Test.YteekhacdffpkoaaMore
import Derived.Test.YteekhacdffpkoaaInts
namespace Go.Proofs.Yteekhacdffpkoaa
open Go.RowKit
set_option linter.unusedVariables false
set_option linter.unusedSimpArgs false

theorem datOk_one (x : Int) : datOk [0, x, 0] = datumB x := by
  have h0 : datumB 0 = true := by decide
  simp [datOk, h0]
theorem all_take_succ {p : Int → Bool} {zs : List Int} {k : Nat} {x : Int} (h : zs[k]? = some x) : (zs.take (k + 1)).all p = ((zs.take k).all p && p x) := by
  rw [take_succ_of h]; simp

theorem datOk_walk {zs : List Int} {A : Option Addr} {b off c : Nat} (w : World) (hV : Row w 0 w.heap.size A b off (bytesC zs)) (hz : ∀ x ∈ zs, 0 ≤ x ∧ x ≤ 255) (hm : zs.length ≤ maxLen) (hcap : zs.length ≤ c) :
    Calls Try.prog 8 #[.slice A zs.length c] w fun e w' => e = .returned (.bool true) ∧ Below w.heap.size w w' := by
  have hm0 := hm
  have HZ := Lib.hid hz
  clear hz
  unfold maxLen at hm
  go_enter Try.func8, Try.ntmps8
  by_cases hbig : 1048576 < zs.length
  · go_wp2; go_ret; exact ⟨rfl, Below.refl _ _⟩
  · go_wp2_with fail
    refine (drawDatOk_c zs A b off c w hV HZ.out hm0 hcap).mono ?_
    rintro e w1 ⟨v, ys, rfl, hys, hv, hb⟩
    obtain ⟨A1, b1, o1, c1, rfl, hc1, hrow⟩ := hv
    have HB1 := Lib.hid hb
    have HROW := Lib.hid hrow
    have hs1 := hb.size
    clear hb hrow
    have h99 : datOk [99, -99, 0] = true := by decide
    go_wp2_with fail
    go_loopw [4, 5] (fun s4 i wr => ∃ k : Nat, k ≤ ys.length ∧ i = .int .i64 k ∧ s4 = .bool (decide (ys.length = 3) && (ys.take k).all datumB) ∧ Below w1.heap.size w1 wr) (fun _ i _ => ys.length - (intOf i).toNat)
    case atStart => exact ⟨0, Nat.zero_le _, rfl, by simp; rw [Bool.eq_iff_iff]; simp; omega, Below.refl _ _⟩
    case round =>
      obtain ⟨k, hk, rfl, rfl, hb⟩ := hrel
      have HB := Lib.hid hb
      have hs := hb.size
      clear hb
      by_cases hlt : k < ys.length
      · obtain ⟨rfl, hb1, hb2, x, hx, hc, _⟩ := HROW.out.int hlt
        have hc1' := (HB.out.cell (p := ⟨b1, o1 + k, none⟩) (by dsimp only; omega)).trans hc
        have HX := Lib.hid (all_take_succ (p := datumB) hx)
        clear hx hc
        generalize hok : (decide (ys.length = 3) && (ys.take k).all datumB) = ok
        have HOK := Lib.hid hok
        clear hok
        by_cases ht : ok = true
        · subst ht
          go_wp2_with fail
          refine (implDatOk_c [0, x, 0] wr.heap.size (wr.heap.size + 1) _ wr.heap.size 0 _ _ (row_lit wr [0, x, 0] 3) (by simp) (by unfold maxLen; simp)).mono ?_
          rintro e w2 ⟨rfl, hb2⟩
          rw [datOk_one]
          have HB2 := Lib.hid ((HB.out.alloc (by omega) _).trans (hb2.mono (by simp; omega)))
          clear hb2
          generalize hd : datumB x = d
          have HD := Lib.hid hd
          clear hd
          go_wp2_with fail
          go_roundw
          case rel => exact ⟨k + 1, by omega, by go_num, by rw [HX.out, HD.out, ← Bool.and_assoc, HOK.out]; simp, HB2.out⟩
          case measure => simp [intOf]; omega
        · have ht' : ok = false := by simpa using ht
          subst ht'
          clear ht
          go_wp2
          go_roundw
          case rel => exact ⟨k + 1, by omega, by go_num, by rw [HX.out, ← Bool.and_assoc, HOK.out]; simp, HB.out⟩
          case measure => simp [intOf]; omega
      · have hke : k = ys.length := by omega
        subst hke
        have hfull : (decide (ys.length = 3) && (ys.take ys.length).all datumB) = datOk ys := by rw [List.take_length]; rfl
        rw [hfull]
        clear hfull
        generalize hok : datOk ys = ok
        have HOK := Lib.hid hok
        clear hok
        go_wp2_with fail
        refine (implDatOk_c ys w.heap.size w1.heap.size A1 b1 o1 c1 wr (HROW.out.below HB.out (Nat.le_refl _)) (by omega) (by unfold maxLen; omega)).mono ?_
        rintro e w2 ⟨rfl, hb2⟩
        rw [HOK.out]
        have HB2 := Lib.hid (HB.out.trans (hb2.mono hs))
        have hs2 := hb2.size
        clear hb2
        go_wp2_with fail
        refine (implDatOk_c ys w.heap.size w1.heap.size A1 b1 o1 c1 w2 (HROW.out.below HB2.out (Nat.le_refl _)) (by omega) (by unfold maxLen; omega)).mono ?_
        rintro e w3 ⟨rfl, hb3⟩
        rw [HOK.out]
        have HB3 := Lib.hid (HB2.out.trans (hb3.mono (by omega)))
        have hs3 := hb3.size
        clear hb3
        go_wp2_with fail
        refine (specDatOk_c ys w.heap.size w1.heap.size A1 b1 o1 c1 w3 (HROW.out.below HB3.out (Nat.le_refl _)) (by unfold maxLen; omega)).mono ?_
        rintro e w4 ⟨rfl, rfl⟩
        rw [HOK.out]
        go_wp2_with fail
        refine (implDatOk_c [99, -99, 0] w3.heap.size (w3.heap.size + 1) _ w3.heap.size 0 _ _ (row_lit w3 [99, -99, 0] 3) (by simp) (by unfold maxLen; simp)).mono ?_
        rintro e w5 ⟨rfl, hb5⟩
        rw [h99]
        have HB5 := Lib.hid ((HB3.out.alloc (by omega) _).trans (hb5.mono (by simp; omega)))
        clear hb5
        go_wp2
        go_ret
        exact ⟨rfl, HB1.out.trans (HB5.out.mono hs1)⟩

end Go.Proofs.Yteekhacdffpkoaa
