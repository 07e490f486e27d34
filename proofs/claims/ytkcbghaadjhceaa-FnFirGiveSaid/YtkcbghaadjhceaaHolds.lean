/- Whether a question holds of data: the program and the reference return the same plain function. -/
import Derived.Test.YtkcbghaadjhceaaMore
namespace Go.Proofs.Ytkcbghaadjhceaa
open Go.RowKit
set_option linter.unusedVariables false
set_option linter.unusedSimpArgs false

/-- A question holds of data. -/
def holdsB (e : Ask) (zs : List Int) : Bool :=
  if askOk e && datOk zs then
    if e.op = 1 then decide (zs.getD e.var.toNat 0 < e.k)
    else if e.op = 2 then decide (zs.getD e.var.toNat 0 = e.k)
    else if e.op = 3 then decide (e.k < zs.getD e.var.toNat 0)
    else true
  else false
theorem askOk_var {o v k : Int} (h : askOk ⟨o, v, k⟩ = true) : 0 ≤ v ∧ v ≤ 2 := by
  unfold askOk at h
  by_cases h0 : o = 0
  · simp [h0] at h; omega
  · simp [h0, inB] at h; omega

theorem holdsB_1 {v k x : Int} {zs : List Int} (ha : askOk ⟨1, v, k⟩ = true) (hd : datOk zs = true) (hx : zs.getD v.toNat 0 = x) : decide (x < k) = holdsB ⟨1, v, k⟩ zs := by
  unfold holdsB; rw [ha, hd, hx]; rfl
theorem holdsB_2 {v k x : Int} {zs : List Int} (ha : askOk ⟨2, v, k⟩ = true) (hd : datOk zs = true) (hx : zs.getD v.toNat 0 = x) : (x == k) = holdsB ⟨2, v, k⟩ zs := by
  unfold holdsB; rw [ha, hd, hx]; rfl
theorem holdsB_3 {v k x : Int} {zs : List Int} (ha : askOk ⟨3, v, k⟩ = true) (hd : datOk zs = true) (hx : zs.getD v.toNat 0 = x) : decide (k < x) = holdsB ⟨3, v, k⟩ zs := by
  unfold holdsB; rw [ha, hd, hx]; rfl

theorem specExpHolds_c (o v k : Int) (zs : List Int) (lo hi : Nat) (A : Option Addr) (b off c : Nat) (w : World) (hV : Row w lo hi A b off (ints zs)) (hhi : hi ≤ w.heap.size) (hm : zs.length ≤ maxLen) :
    Calls Try.prog 66 #[.agg #[.int .i64 o, .int .i64 v, .int .i64 k], .slice A zs.length c] w fun e w' => e = .returned (.bool (holdsB ⟨o, v, k⟩ zs)) ∧ Below w.heap.size w w' := by
  have hV1 := fun ob => hV.alloc hhi ob
  go_enter Try.func66, Try.ntmps66
  go_wp2_with fail
  refine (specExpOk_c _ _ _ _).mono ?_
  rintro e w1 ⟨rfl, hb1⟩
  have HB1 := Lib.hid (((Below.refl w.heap.size w).alloc (Nat.le_refl _) _).trans (hb1.mono (by simp)))
  have hc0 : w1.cell? ⟨w.heap.size, 0, none⟩ = some (.int .i64 o) := (hb1.cell (p := ⟨w.heap.size, 0, none⟩) (by simp)).trans (by simp [World.cell?_alloc_at])
  have hc1 : w1.cell? ⟨w.heap.size, 1, none⟩ = some (.int .i64 v) := (hb1.cell (p := ⟨w.heap.size, 1, none⟩) (by simp)).trans (by simp [World.cell?_alloc_at])
  have hc2 : w1.cell? ⟨w.heap.size, 2, none⟩ = some (.int .i64 k) := (hb1.cell (p := ⟨w.heap.size, 2, none⟩) (by simp)).trans (by simp [World.cell?_alloc_at])
  have hR1 : Row w1 lo hi A b off (ints zs) := hV.below HB1.out hhi
  have HZ1 := Lib.hid hb1.size
  clear hb1 hV1
  by_cases hask : askOk ⟨o, v, k⟩ = true
  · have hvar := askOk_var hask
    have HA := Lib.hid hask
    rw [hask]
    clear hask
    go_wp2_with fail
    refine (specDatOk_c zs lo hi A b off c w1 hR1 hm).mono ?_
    rintro e w2 ⟨rfl, rfl⟩
    have HB2 := HB1
    have hR2 := hR1
    by_cases hdat : datOk zs = true
    · have hz3 : zs.length = 3 := by simp [datOk] at hdat; exact hdat.1
      have HD := Lib.hid hdat
      rw [hdat]
      clear hdat
      obtain ⟨j, rfl⟩ := Int.eq_ofNat_of_zero_le hvar.1
      have hj : j < zs.length := by omega
      have hj2 : (j : Int) < (zs.length : Int) := by omega
      obtain ⟨rfl, _, _, x, hx, hc, _⟩ := hR2.int hj
      have HX := Lib.hid (show zs.getD (j : Int).toNat 0 = x by simp [List.getD, hx])
      clear hx hvar hz3
      by_cases h1 : o = 1
      · subst h1
        go_wp2
        go_quiet (fail)
        go_wp2
        go_ret
        exact ⟨ret_bool (holdsB_1 HA.out HD.out HX.out), below_drewN HB2.out _⟩
      · have e1 : (o == 1) = false := by simpa using h1
        have H1 := Lib.hid h1
        clear h1
        by_cases h2 : o = 2
        · subst h2
          go_wp2
          go_quiet (fail)
          go_wp2
          go_ret
          exact ⟨ret_bool (holdsB_2 HA.out HD.out HX.out), below_drewN HB2.out _⟩
        · have e2 : (o == 2) = false := by simpa using h2
          have H2 := Lib.hid h2
          clear h2
          by_cases h3 : o = 3
          · subst h3
            go_wp2
            go_quiet (fail)
            go_wp2
            go_ret
            exact ⟨ret_bool (holdsB_3 HA.out HD.out HX.out), below_drewN HB2.out _⟩
          · have e3 : (o == 3) = false := by simpa using h3
            have H3 := Lib.hid h3
            clear h3
            go_wp2
            go_ret
            exact ⟨ret_bool (by unfold holdsB; rw [HA.out, HD.out]; simp [H1.out, H2.out, H3.out]), HB2.out⟩
    · have hdat' : datOk zs = false := by simpa using hdat
      have HD := Lib.hid hdat'
      rw [hdat']
      clear hdat hdat'
      go_wp2
      go_ret
      exact ⟨ret_bool (by simp [holdsB, HD.out]), HB2.out⟩
  · have hask' : askOk ⟨o, v, k⟩ = false := by simpa using hask
    have HA := Lib.hid hask'
    rw [hask']
    clear hask hask'
    go_wp2
    go_ret
    exact ⟨ret_bool (by simp [holdsB, HA.out]), HB1.out⟩

theorem implExpHolds_c (o v k : Int) (zs : List Int) (lo hi : Nat) (A : Option Addr) (b off c : Nat) (w : World) (hV : Row w lo hi A b off (ints zs)) (hhi : hi ≤ w.heap.size) (hm : zs.length ≤ maxLen) :
    Calls Try.prog 48 #[.agg #[.int .i64 o, .int .i64 v, .int .i64 k], .slice A zs.length c] w fun e w' => e = .returned (.bool (holdsB ⟨o, v, k⟩ zs)) ∧ Below w.heap.size w w' := by
  have hV1 := fun ob => hV.alloc hhi ob
  go_enter Try.func48, Try.ntmps48
  go_wp2_with fail
  refine (implExpOk_c _ _ _ _).mono ?_
  rintro e w1 ⟨rfl, hb1⟩
  have HB1 := Lib.hid (((Below.refl w.heap.size w).alloc (Nat.le_refl _) _).trans (hb1.mono (by simp)))
  have hc0 : w1.cell? ⟨w.heap.size, 0, none⟩ = some (.int .i64 o) := (hb1.cell (p := ⟨w.heap.size, 0, none⟩) (by simp)).trans (by simp [World.cell?_alloc_at])
  have hc1 : w1.cell? ⟨w.heap.size, 1, none⟩ = some (.int .i64 v) := (hb1.cell (p := ⟨w.heap.size, 1, none⟩) (by simp)).trans (by simp [World.cell?_alloc_at])
  have hc2 : w1.cell? ⟨w.heap.size, 2, none⟩ = some (.int .i64 k) := (hb1.cell (p := ⟨w.heap.size, 2, none⟩) (by simp)).trans (by simp [World.cell?_alloc_at])
  have hR1 : Row w1 lo hi A b off (ints zs) := hV.below HB1.out hhi
  have HZ1 := Lib.hid hb1.size
  clear hb1 hV1
  by_cases hask : askOk ⟨o, v, k⟩ = true
  · have hvar := askOk_var hask
    have HA := Lib.hid hask
    rw [hask]
    clear hask
    go_wp2_with fail
    refine (implDatOk_c zs lo hi A b off c w1 hR1 (Nat.le_trans hhi HB1.out.size) hm).mono ?_
    rintro e w2 ⟨rfl, hb2⟩
    have hz := HZ1.out
    simp at hz
    replace hc0 := (hb2.cell (p := ⟨w.heap.size, 0, none⟩) (by show w.heap.size < _; omega)).trans hc0
    replace hc1 := (hb2.cell (p := ⟨w.heap.size, 1, none⟩) (by show w.heap.size < _; omega)).trans hc1
    replace hc2 := (hb2.cell (p := ⟨w.heap.size, 2, none⟩) (by show w.heap.size < _; omega)).trans hc2
    have HB2 := Lib.hid (HB1.out.trans (hb2.mono HB1.out.size))
    have hR2 : Row w2 lo hi A b off (ints zs) := hV.below HB2.out hhi
    clear hb2 hR1 hz
    by_cases hdat : datOk zs = true
    · have hz3 : zs.length = 3 := by simp [datOk] at hdat; exact hdat.1
      have HD := Lib.hid hdat
      rw [hdat]
      clear hdat
      obtain ⟨j, rfl⟩ := Int.eq_ofNat_of_zero_le hvar.1
      have hj : j < zs.length := by omega
      have hj2 : (j : Int) < (zs.length : Int) := by omega
      obtain ⟨rfl, _, _, x, hx, hc, _⟩ := hR2.int hj
      have HX := Lib.hid (show zs.getD (j : Int).toNat 0 = x by simp [List.getD, hx])
      clear hx hvar hz3
      by_cases h1 : o = 1
      · subst h1
        go_wp2
        go_quiet (fail)
        go_wp2
        go_ret
        exact ⟨ret_bool (holdsB_1 HA.out HD.out HX.out), below_drewN HB2.out _⟩
      · have e1 : (o == 1) = false := by simpa using h1
        have H1 := Lib.hid h1
        clear h1
        by_cases h2 : o = 2
        · subst h2
          go_wp2
          go_quiet (fail)
          go_wp2
          go_ret
          exact ⟨ret_bool (holdsB_2 HA.out HD.out HX.out), below_drewN HB2.out _⟩
        · have e2 : (o == 2) = false := by simpa using h2
          have H2 := Lib.hid h2
          clear h2
          by_cases h3 : o = 3
          · subst h3
            go_wp2
            go_quiet (fail)
            go_wp2
            go_ret
            exact ⟨ret_bool (holdsB_3 HA.out HD.out HX.out), below_drewN HB2.out _⟩
          · have e3 : (o == 3) = false := by simpa using h3
            have H3 := Lib.hid h3
            clear h3
            go_wp2
            go_ret
            exact ⟨ret_bool (by unfold holdsB; rw [HA.out, HD.out]; simp [H1.out, H2.out, H3.out]), HB2.out⟩
    · have hdat' : datOk zs = false := by simpa using hdat
      have HD := Lib.hid hdat'
      rw [hdat']
      clear hdat hdat'
      go_wp2
      go_ret
      exact ⟨ret_bool (by simp [holdsB, HD.out]), HB2.out⟩
  · have hask' : askOk ⟨o, v, k⟩ = false := by simpa using hask
    have HA := Lib.hid hask'
    rw [hask']
    clear hask hask'
    go_wp2
    go_ret
    exact ⟨ret_bool (by simp [holdsB, HA.out]), HB1.out⟩

end Go.Proofs.Ytkcbghaadjhceaa
