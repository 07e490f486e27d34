/- Whether marks are ok in a net: the program and the reference. -/
import Derived.Test.YtoggdhbnkbdilaaImplNet
import Derived.Test.YtoggdhbnkbdilaaSpecNetOk
namespace Go.Proofs.Ytoggdhbnkbdilaa
open Go.RowKit
set_option linter.unusedVariables false
set_option linter.unusedSimpArgs false

def marksB (places : Int) (zs : List Int) : Bool := decide ((zs.length : Int) = places) && zs.all fun m => inB m 0 4
def mrkOk (n : NNet) (zs : List Int) : Bool := netOk n && marksB n.places zs
/-- The boxed net. -/
abbrev netBox (places : Int) (A : Option Addr) (m c : Nat) : List Value := [.int .i64 places, .slice A m c]

theorem marksOk1_c (x : Int) (w : World) :
    Calls Try.prog 77 #[.int .i64 x] w fun e w' => e = .returned (.bool (!inB x 0 4)) ∧ w = w' := by
  go_enter Try.func77, Try.ntmps77
  go_wp2_with (go_at_call 62; refine (implIn_c _ _ _ _).mono ?_; rintro e w' ⟨rfl, rfl⟩)
  go_ret; exact ⟨rfl, rfl⟩

theorem marksOk_c (places : Int) (A0 : Option Addr) (m0 c0 : Nat) (zs : List Int) (lo hi : Nat) (A : Option Addr) (b off c : Nat) (w : World) (hV : Row w lo hi A b off (ints zs)) (hhi : hi ≤ w.heap.size) (hm : zs.length ≤ maxLen) :
    Calls Try.prog 49 #[.agg #[.int .i64 places, .slice A0 m0 c0], .slice A zs.length c] w fun e w' => e = .returned (.bool (marksB places zs)) ∧ Below w.heap.size w w' := by
  have hm0 := hm
  unfold maxLen at hm
  have eg : EntersF Try.prog 77 := entersF Try.func77 (by kernel_rfl) rfl
  have hp : PredInt Try.prog 77 #[] (fun x => !inB x 0 4) (w.alloc (.cells #[.int .i64 places, .slice A0 m0 c0] 25)) := fun x W _ => (marksOk1_c x W).mono fun e w' ⟨h1, h2⟩ => ⟨h1, by subst h2; exact Below.refl _ _⟩
  have HC := Lib.hid (containsFuncInt_c zs lo hi A b off c _ #[] _ _ (hV.alloc hhi _) (by simp; omega) hm0 hp eg)
  clear hp eg
  by_cases h3 : (zs.length : Int) = places
  · have hne : ((zs.length : Int) == places) = true := by simp [h3]
    have H3 := Lib.hid h3
    clear h3
    go_enter Try.func49, Try.ntmps49
    go_wp2_with fail
    refine HC.out.mono ?_
    rintro e w1 ⟨rfl, hb1⟩
    have HB1 := Lib.hid (((Below.refl w.heap.size w).alloc (Nat.le_refl _) _).trans (hb1.mono (by simp)))
    clear hb1
    generalize hr : (zs.any fun x => !inB x 0 4) = r
    have HR := Lib.hid hr
    clear hr
    go_wp2
    go_ret
    exact ⟨ret_bool (by rw [← HR.out]; simp [marksB, H3.out, List.any_eq_not_all_not]), HB1.out⟩
  · have hne : ((zs.length : Int) == places) = false := by simpa using h3
    have H3 := Lib.hid h3
    clear h3
    go_enter Try.func49, Try.ntmps49
    go_wp2
    go_ret
    exact ⟨ret_bool (by simp [marksB, H3.out]), (Below.refl _ _).alloc (Nat.le_refl _) _⟩

theorem implMrkOk_c (n : NNet) (v : Value) (zs : List Int) (lo0 hi0 lo hi : Nat) (A : Option Addr) (b off c : Nat) (w : World) (hN : NetV w lo0 hi0 v n) (hhi0 : hi0 ≤ w.heap.size) (hlen : ∀ t ∈ n.tasks, t.out.length ≤ 1048576) (hV : Row w lo hi A b off (ints zs)) (hhi : hi ≤ w.heap.size) (hm : zs.length ≤ maxLen) :
    Calls Try.prog 13 #[v, .slice A zs.length c] w fun e w' => e = .returned (.bool (mrkOk n zs)) ∧ Below w.heap.size w w' := by
  have hN' := hN
  obtain ⟨A0, b0, o0, c0, ms, rfl, hm0, hT⟩ := hN
  clear hT
  have HC := Lib.hid (implNetOk_c n _ lo0 hi0 (w.alloc (.cells #[.int .i64 n.places, .slice A0 n.tasks.length c0] 25)) (hN'.keep fun g _ h => Below.heap_alloc w _ g (by omega)) (by simp; omega) hlen)
  have hR := Row.newAt w #[.int .i64 n.places, .slice A0 n.tasks.length c0] 25 _ rfl
  have HR := Lib.hid hR
  have HV := Lib.hid hV
  clear hN' hR hV hlen
  go_enter Try.func13, Try.ntmps13
  go_wp2_with fail
  refine HC.out.mono ?_
  rintro e w1 ⟨rfl, hb1⟩
  have hR1 := HR.out.below hb1 (by simp)
  have hB1 := ((Below.refl w.heap.size w).alloc (Nat.le_refl _) (.cells #[.int .i64 n.places, .slice A0 n.tasks.length c0] 25)).trans (hb1.mono (by simp))
  have s0 := (hR1.cell (j := 0) rfl).1
  have s1 := (hR1.cell (j := 1) rfl).1
  have HB1 := Lib.hid hB1
  clear hb1 hR1 hB1
  by_cases h1 : netOk n = true
  · have H1 := Lib.hid h1
    rw [h1]
    clear h1
    go_wp2_with fail
    refine (marksOk_c n.places A0 n.tasks.length c0 zs lo hi A b off c w1 (HV.out.below HB1.out hhi) (Nat.le_trans hhi HB1.out.size) hm).mono ?_
    rintro e w2 ⟨rfl, hb2⟩
    have HB2 := Lib.hid (HB1.out.trans (hb2.mono HB1.out.size))
    clear hb2
    go_wp2
    go_ret
    exact ⟨ret_bool (by rw [mrkOk, H1.out]; rfl), HB2.out⟩
  · have h1' : netOk n = false := by simpa using h1
    have H1 := Lib.hid h1'
    rw [h1']
    clear h1 h1'
    go_wp2
    go_ret
    exact ⟨ret_bool (by rw [mrkOk, H1.out]; rfl), HB1.out⟩

theorem specMrkOk_c (n : NNet) (v : Value) (zs : List Int) (lo0 hi0 lo hi : Nat) (A : Option Addr) (b off c : Nat) (w : World) (hN : NetV w lo0 hi0 v n) (hhi0 : hi0 ≤ w.heap.size) (hV : Row w lo hi A b off (ints zs)) (hhi : hi ≤ w.heap.size) (hm : zs.length ≤ maxLen) :
    Calls Try.prog 14 #[v, .slice A zs.length c] w fun e w' => e = .returned (.bool (mrkOk n zs)) ∧ Below w.heap.size w w' := by
  have hN' := hN
  unfold maxLen at hm
  obtain ⟨A0, b0, o0, c0, ms, rfl, hm0, hT⟩ := hN
  clear hT
  have HC := Lib.hid (specNetOk_c n _ lo0 hi0 (w.alloc (.cells #[.int .i64 n.places, .slice A0 n.tasks.length c0] 25)) (hN'.keep fun g _ h => Below.heap_alloc w _ g (by omega)) (by simp; omega))
  have hR := Row.newAt w #[.int .i64 n.places, .slice A0 n.tasks.length c0] 25 _ rfl
  have HR := Lib.hid hR
  clear hN' hR
  go_enter Try.func14, Try.ntmps14
  go_wp2_with fail
  refine HC.out.mono ?_
  rintro e w1 ⟨rfl, hb1⟩
  have hR1 := HR.out.below hb1 (by simp)
  have hB1 := ((Below.refl w.heap.size w).alloc (Nat.le_refl _) (.cells #[.int .i64 n.places, .slice A0 n.tasks.length c0] 25)).trans (hb1.mono (by simp))
  have s0 := (hR1.cell (j := 0) rfl).1
  have s1 := (hR1.cell (j := 1) rfl).1
  have hV1 := hV.below hB1 hhi
  have HB1 := Lib.hid hB1
  clear hb1 hR1 hB1 hV
  by_cases h1 : netOk n = true
  · have H1 := Lib.hid h1
    rw [h1]
    clear h1
    by_cases h3 : (zs.length : Int) = n.places
    · have hne : ((zs.length : Int) != n.places) = false := by simp [h3]
      have H3 := Lib.hid h3
      clear h3
      go_wp2
      go_loop [5] (fun i => ∃ k : Nat, k ≤ zs.length ∧ i = .int .i64 k ∧ (∀ j y, j < k → zs[j]? = some y → inB y 0 4 = true)) (fun i => zs.length - (intOf i).toNat)
      case atStart => exact ⟨0, Nat.zero_le _, rfl, fun j y hj => absurd hj (Nat.not_lt_zero _)⟩
      case round =>
        obtain ⟨k, hk, rfl, hn⟩ := hrel
        have HN := Lib.hid hn
        clear hn
        by_cases hlt : k < zs.length
        · obtain ⟨rfl, _, _, x, hx, hc, _⟩ := hV1.int hlt
          have HX := Lib.hid hx
          clear hx
          go_wp2_with fail
          refine (l1In_c _ _ _ _).mono ?_
          rintro e w' ⟨rfl, rfl⟩
          by_cases hd : inB x 0 4 = true
          · have HD := Lib.hid hd
            rw [hd]
            clear hd
            go_wp2
            go_round
            case rel =>
              refine ⟨k + 1, by omega, by go_num, fun j y hj hy => ?_⟩
              by_cases hjk : j = k
              · subst hjk
                have e := HX.out.symm.trans hy
                injection e with e; rw [← e]; exact HD.out
              · exact HN.out j y (by omega) hy
            case measure => simp [intOf]; omega
          · have hd' : inB x 0 4 = false := by simpa using hd
            have HD := Lib.hid hd'
            rw [hd']
            clear hd hd'
            go_wp2
            go_ret
            exact ⟨ret_bool (by rw [mrkOk, marksB, not_all_of (p := fun m => inB m 0 4) HX.out HD.out]; simp), HB1.out⟩
        · go_wp2
          go_ret
          exact ⟨ret_bool (by rw [mrkOk, marksB, H1.out, all_of (p := fun m => inB m 0 4) (fun j y hj => HN.out j y (by omega))]; simp [H3.out]), HB1.out⟩
    · have hne : ((zs.length : Int) != n.places) = true := by simpa using h3
      have H3 := Lib.hid h3
      clear h3
      go_wp2
      go_ret
      exact ⟨ret_bool (by simp [mrkOk, marksB, H3.out]), HB1.out⟩
  · have h1' : netOk n = false := by simpa using h1
    have H1 := Lib.hid h1'
    rw [h1']
    clear h1 h1'
    go_wp2
    go_ret
    exact ⟨ret_bool (by rw [mrkOk, H1.out]; rfl), HB1.out⟩
end Go.Proofs.Ytoggdhbnkbdilaa
