/- A law over what is drawn of a code: a whole net. -/
import Derived.Test.YtoggdhbnkbdilaaNB
import Derived.Test.YtoggdhbnkbdilaaSpecWhole
import Derived.Test.YtoggdhbnkbdilaaReader
import Derived.BigQuiet
import Derived.Deep.DeepCutAuto
namespace Go.Proofs.Ytoggdhbnkbdilaa
open Go.RowKit
set_option linter.unusedVariables false
set_option linter.unusedSimpArgs false

def wholeAt (n : NNet) (p : Nat) : Bool := (fromP n 0).getD p false && (fromP n p).getD 1 false
theorem whole_all {n : NNet} (h : netOk n = true) : wholeB n = (List.range n.places.toNat).all (wholeAt n) := by
  rw [Bool.eq_iff_iff, List.all_eq_true]
  unfold wholeB wholeAt
  rw [h]
  simp only [Bool.true_and, Bool.and_eq_true, List.all_eq_true]
  exact ⟨fun h x hx => ⟨h.1 x hx, h.2 x hx⟩, fun h => ⟨fun x hx => (h x hx).1, fun x hx => (h x hx).2⟩⟩
theorem all_snoc (f : Nat → Bool) (p : Nat) : (List.range (p + 1)).all f = ((List.range p).all f && f p) := by rw [List.range_succ, List.all_append]; simp

set_option maxRecDepth 100000 in
set_option maxHeartbeats 4000000 in
theorem netWhole_walk {zs : List Int} {A : Option Addr} {b off c : Nat} (w : World) (hV : Row w 0 w.heap.size A b off (bytesC zs)) (hz : ∀ x ∈ zs, 0 ≤ x ∧ x ≤ 255) (hm : zs.length ≤ maxLen) (hcap : zs.length ≤ c) :
    Calls Try.prog 8 #[.slice A zs.length c] w fun e w' => e = .returned (.bool true) ∧ Below w.heap.size w w' := by
  have hm0 := hm
  have HZ := Lib.hid hz
  clear hz
  unfold maxLen at hm
  go_enter Try.func8, Try.ntmps8
  by_cases hbig : 1048576 < zs.length
  · go_wp2; go_ret; exact ⟨rfl, Below.refl _ _⟩
  · go_wp2_with fail
    refine (drawNetWhole_c zs A b off c w hV HZ.out hm0 hcap).mono ?_
    rintro e w1 ⟨P, b1, k, c1, n, rfl, hg, hb⟩
    have HN1 := Lib.hid (NB.start hg hb)
    have HSM := Lib.hid hg.1
    have HPK := Lib.hid (And.intro hg.2.1 hg.2.2.1)
    clear hg hb
    generalize hBB : w1.heap.size = B at HN1
    have cB0 := HN1.out.cell0
    have cB1 := HN1.out.cell1
    go_wp2_with fail
    refine (implNetWhole_c n _ _ _ _ HN1.out.nv (Nat.le_of_lt HN1.out.lt) (small_out HSM.out)).mono ?_
    rintro e w2 ⟨rfl, hbw2⟩
    have HNw2 := Lib.hid (HN1.out.below hbw2)
    clear hbw2
    have dB0 := HNw2.out.cell0
    have dB1 := HNw2.out.cell1
    go_wp2_with fail
    refine (specNetWhole_c n _ _ _ _ HNw2.out.nv (Nat.le_of_lt HNw2.out.lt)).mono ?_
    rintro e w3 ⟨rfl, hbw3⟩
    have HNw3 := Lib.hid (HNw2.out.below hbw3)
    clear hbw3
    generalize hwb : wholeB n = wb
    have HWB := Lib.hid hwb
    clear hwb
    have eB0 := HNw3.out.cell0
    have eB1 := HNw3.out.cell1
    have hne : (wb != wb) = false := by simp
    have hne2 : (wb == wb) = true := by simp
    go_wp2_with fail
    refine (specNetOk_c n _ _ _ _ HNw3.out.nv (Nat.le_of_lt HNw3.out.lt)).mono ?_
    rintro e w4 ⟨rfl, hbw4⟩
    have HNw4 := Lib.hid (HNw3.out.below hbw4)
    clear hbw4
    have fB0 := HNw4.out.cell0
    have fB1 := HNw4.out.cell1
    by_cases hok : netOk n = true
    · have HOK := Lib.hid hok
      have h1 := netOk_parts hok
      have hall := whole_all hok
      rw [hok]
      clear hok
      have hP : n.places = P := HPK.out.1
      rw [hP] at h1 hall
      obtain ⟨h2, h8, _⟩ := h1
      obtain ⟨pn, rfl⟩ := Int.eq_ofNat_of_zero_le (show 0 ≤ P by omega)
      have HP := Lib.hid hP
      rw [HWB.out] at hall
      have HALL := Lib.hid hall
      clear hP hall
      go_wp2
      go_loopw [5, 6] (fun a i wr => ∃ p : Nat, p ≤ pn ∧ i = .int .i64 p ∧ a = .bool ((List.range p).all (wholeAt n)) ∧ NB w B pn b1 k c1 n wr) (fun _ i _ => pn - (intOf i).toNat)
      case atStart => exact ⟨0, Nat.zero_le _, rfl, rfl, HNw4.out⟩
      case round =>
        obtain ⟨p, hp, rfl, rfl, hn⟩ := hrel
        have HN := Lib.hid hn
        clear hn
        have gB0 := HN.out.cell0
        have gB1 := HN.out.cell1
        by_cases hlt : p < pn
        · have hlt1 : (p : Int) < (pn : Int) := by omega
          have hsn := all_snoc (wholeAt n) p
          have HSN := Lib.hid hsn
          clear hsn
          cases hal : (List.range p).all (wholeAt n) with
          | false =>
            have HAL := Lib.hid hal
            clear hal
            go_wp2
            go_roundw
            case rel => exact ⟨p + 1, by omega, by go_num, by rw [HSN.out, HAL.out]; rfl, HN.out⟩
            case measure => simp [intOf]; omega
          | true =>
            have HAL := Lib.hid hal
            clear hal
            go_wp2_with fail
            refine (implNetReach_c n _ _ _ 0 (-1) wr HN.out.nv (Nat.le_of_lt HN.out.lt) (small_out HSM.out)).mono ?_
            rintro e w5 ⟨v5, rfl, hM5, hb5⟩
            have HN5 := Lib.hid (HN.out.below hb5)
            rw [show ((0 : Int)) = ((0 : Nat) : Int) from rfl, fromP_reachN HOK.out (by rw [HP.out]; omega)] at hM5
            have hl0 := fromP_length n 0
            rw [HP.out, Int.toNat_natCast] at hl0
            obtain ⟨g5, c5, rfl, _, hg5⟩ := hM5.len (by rw [hl0]; omega)
            rw [hl0] at hM5 ⊢
            obtain ⟨e5, _, _⟩ := hM5.at_ hl0 (k := p) (by rw [hl0]; exact hlt)
            have hB5 := HN5.out.cell0
            have hB5' := HN5.out.cell1
            generalize hv5 : (fromP n 0).getD p false = x5 at e5
            have HV5 := Lib.hid hv5
            clear hb5 hM5 hv5 hl0
            cases x5 with
            | false =>
              go_wp2
              go_roundw
              case rel => exact ⟨p + 1, by omega, by go_num, by rw [HSN.out, HAL.out, wholeAt, HV5.out]; rfl, HN5.out⟩
              case measure => simp [intOf]; omega
            | true =>
              go_wp2_with fail
              refine (implNetReach_c n _ _ _ (p : Int) (-1) w5 HN5.out.nv (Nat.le_of_lt HN5.out.lt) (small_out HSM.out)).mono ?_
              rintro e w6 ⟨v6, rfl, hM6, hb6⟩
              have HN6 := Lib.hid (HN5.out.below hb6)
              rw [fromP_reachN HOK.out (by rw [HP.out]; omega)] at hM6
              have hl0 := fromP_length n p
              rw [HP.out, Int.toNat_natCast] at hl0
              obtain ⟨g6, c6, rfl, _, hg6⟩ := hM6.len (by rw [hl0]; omega)
              rw [hl0] at hM6 ⊢
              obtain ⟨e6, _, _⟩ := hM6.at_ hl0 (k := 1) (by rw [hl0]; omega)
              generalize hv6 : (fromP n p).getD 1 false = x6 at e6
              have HV6 := Lib.hid hv6
              have hpn1 : (1 : Int) < (pn : Int) := by omega
              clear hb6 hM6 hv6 hl0
              go_wp2
              go_roundw
              case rel => exact ⟨p + 1, by omega, by go_num, by rw [HSN.out, HAL.out, wholeAt, HV5.out, HV6.out]; simp, HN6.out⟩
              case measure => simp [intOf]; omega
        · have hpp : p = pn := by omega
          have hlt1 : ¬ ((p : Int) < (pn : Int)) := by omega
          have hal : (List.range p).all (wholeAt n) = wb := by rw [HALL.out, hpp, Int.toNat_natCast]
          have HAL := Lib.hid hal
          clear hal
          rw [HAL.out]
          go_wp2_with fail
          refine (guOk_c wr).mono ?_
          rintro e w8 ⟨rfl, hb8⟩
          have HB8 := Lib.hid (HN.out.below hb8).bl
          clear hb8
          go_wp2
          go_ret
          exact ⟨rfl, HB8.out⟩
    · have hok' : netOk n = false := by simpa using hok
      have hwf : wb = false := by rw [← HWB.out]; exact whole_no hok'
      subst hwf
      rw [hok']
      clear hok hok'
      go_wp2_with fail
      refine (guOk_c w4).mono ?_
      rintro e w8 ⟨rfl, hb8⟩
      have HB8 := Lib.hid (HNw4.out.below hb8).bl
      clear hb8
      go_wp2
      go_ret
      exact ⟨rfl, HB8.out⟩
end Go.Proofs.Ytoggdhbnkbdilaa
