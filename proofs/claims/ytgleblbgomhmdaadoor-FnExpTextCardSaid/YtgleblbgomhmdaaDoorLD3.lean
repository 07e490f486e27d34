/- The law FnExpText: the walk. -/
import Derived.Test.YtgleblbgomhmdaaDoorDrawX
import Derived.Test.YtgleblbgomhmdaaDoorLD2
namespace Go.Proofs.YtgleblbgomhmdaaDoor
open Go.RowKit
set_option linter.unusedVariables false
set_option linter.unusedSimpArgs false

theorem TxB.grow {w0 w W : World} {o v k : Int} (h : TxB w o v k W) (hb : Below w0.heap.size w0 w) : Below w0.heap.size w0 W := Below.trans hb (h.bel.mono hb.size)
theorem bytes_list (t : ByteArray) : ∃ l : List UInt8, t = ⟨l.toArray⟩ ∧ l.length = t.size := ⟨t.data.toList, by cases t; simp, by rw [Array.length_toList]; rfl⟩
theorem ok11 : askOk ⟨1, 1, -5⟩ = true := by decide
theorem text11 : askV ⟨1, 1, -5⟩ = .string ⟨#[98, 60, 45, 53]⟩ := by
  unfold askV
  rw [askT_text ok11 (by decide), itoa_pos_neg (by decide)]
  have : Lib.itoa (- -5) = [53] := by
    show Lib.itoa ((5 : Nat) : Int) = _
    rw [Lib.itoa_nonneg, Lib.decDigits_one (by decide)]
    rfl
  rw [this]
  rfl
theorem askT_nil {o v k : Int} (h : askOk ⟨o, v, k⟩ = true) : askT ⟨o, v, k⟩ ≠ [] := by
  by_cases h0 : o = 0
  · subst h0; rw [askT_always h]; simp
  · rw [askT_text h h0]; simp

set_option maxRecDepth 100000 in
set_option maxHeartbeats 8000000 in
theorem expText_walk {zs : List Int} {A : Option Addr} {b off c : Nat} {zs' : List Int} {A' : Option Addr} {b' off' c' : Nat} (w : World) (hV : Row w 0 w.heap.size A b off (bytesC zs)) (hz : ∀ x ∈ zs, 0 ≤ x ∧ x ≤ 255) (hm : zs.length ≤ maxLen) (hcap : zs.length ≤ c)
    (hV' : Row w 0 w.heap.size A' b' off' (bytesC zs')) (hz' : ∀ x ∈ zs', 0 ≤ x ∧ x ≤ 255) (hm' : zs'.length ≤ maxLen) (hcap' : zs'.length ≤ c') (hT : PowTab w) (hE : ErrVars w) :
    Calls Tryd.prog 4 #[.slice A zs.length c, .slice A' zs'.length c'] w fun e w' => e = .returned (.bool true) ∧ Below w.heap.size w w' := by
  have HT := Lib.hid hT
  have HE := Lib.hid hE
  have hm0 := hm
  have hm0' := hm'
  have HZ := Lib.hid hz
  have HZ' := Lib.hid hz'
  clear hz hz' hT hE
  unfold maxLen at hm hm'
  go_enter Tryd.func4, Tryd.ntmps4
  by_cases hbig : 1048576 < zs.length
  · go_wp2; go_ret; exact ⟨rfl, Below.refl _ _⟩
  · by_cases hbig' : 1048576 < zs'.length
    · go_wp2; go_ret; exact ⟨rfl, Below.refl _ _⟩
    · go_wp2_with fail
      refine (drawExpText_c zs A b off c _ hV HZ.out hm0 hcap).mono ?_
      rintro e w1 ⟨o, v, k, rfl, hb1⟩
      have h5 : TxB w1 o v k (w1.alloc (.cells #[.int .i64 o, .int .i64 v, .int .i64 k] 25)) := ⟨new_cells w1 _ _ 0, new_cells w1 _ _ 1, new_cells w1 _ _ 2, by simp, Below.alloc (Below.refl _ w1) (Nat.le_refl _) _⟩
      clear hV
      go_wp2_with fail
      refine (implExpText_c o v k _ (Go.Joins.tab_stays pow_named HT.out (h5.grow hb1) (Nat.le_refl _))).mono ?_
      rintro e w2 ⟨rfl, hb2⟩
      replace h5 := h5.below hb2
      have hB := h5.grow hb1
      clear hb1 hb2
      go_wp2_with fail
      refine (drawExpRead_c zs' A' b' off' c' _ ((hV'.below hB (Nat.le_refl _)).more (Nat.le_refl _) hB.size) HZ'.out hm0' hcap').mono ?_
      rintro e w3 ⟨t, rfl, ht, hb3⟩
      obtain ⟨l, rfl, hl⟩ := bytes_list t
      have hll : l.length ≤ 1048576 := by omega
      replace h5 := h5.below hb3
      replace hB := Below.trans hB (hb3.mono hB.size)
      clear hb3 hV' ht hl
      go_wp2_with fail
      refine (implExpRead_c l hll _ (Go.Joins.tab_stays pow_named HT.out hB (Nat.le_refl _)) (HE.out.below hB)).mono ?_
      rintro e w4 ⟨⟨o1, v1, k1, b1, rfl, hr⟩, hb4⟩
      replace h5 := h5.below hb4
      replace hB := Below.trans hB (hb4.mono hB.size)
      clear hb4
      have h8 : TxB w4 o1 v1 k1 (w4.alloc (.cells #[.int .i64 o1, .int .i64 v1, .int .i64 k1] 25)) := ⟨new_cells w4 _ _ 0, new_cells w4 _ _ 1, new_cells w4 _ _ 2, by simp, Below.alloc (Below.refl _ w4) (Nat.le_refl _) _⟩
      replace h5 := h5.alloc (.cells #[.int .i64 o1, .int .i64 v1, .int .i64 k1] 25)
      go_wp2_with fail
      refine (specExpRead_c l hll _).mono ?_
      rintro e w5 ⟨⟨o2, v2, k2, b2, rfl, hr2⟩, hb5⟩
      obtain ⟨rfl, rfl, rfl, rfl⟩ := hr.unique hr2
      clear hr2
      replace h5 := h5.below hb5
      replace h8 := h8.below hb5
      replace hB := h8.grow hB
      clear hb5
      have h10 : TxB w5 o1 v1 k1 (w5.alloc (.cells #[.int .i64 o1, .int .i64 v1, .int .i64 k1] 25)) := ⟨new_cells w5 _ _ 0, new_cells w5 _ _ 1, new_cells w5 _ _ 2, by simp, Below.alloc (Below.refl _ w5) (Nat.le_refl _) _⟩
      replace h5 := h5.alloc (.cells #[.int .i64 o1, .int .i64 v1, .int .i64 k1] 25)
      replace h8 := h8.alloc (.cells #[.int .i64 o1, .int .i64 v1, .int .i64 k1] 25)
      replace hB := h10.grow hB
      obtain ⟨x0, x1, x2, _, _⟩ := id h5
      go_wp2_with fail
      refine (specExpText_c o v k _).mono ?_
      rintro e w6 ⟨rfl, hb6⟩
      replace h5 := h5.below hb6
      replace h8 := h8.below hb6
      replace h10 := h10.below hb6
      replace hB := Below.trans hB (hb6.mono hB.size)
      clear hb6 x0 x1 x2
      obtain ⟨x0, x1, x2, _, _⟩ := id h5
      obtain ⟨y0, y1, y2, _, _⟩ := id h8
      obtain ⟨z0, z1, z2, _, _⟩ := id h10
      rcases hr with ⟨rfl, hok1, ht1⟩ | ⟨rfl, rfl, rfl, rfl, hno⟩
      · unfold askV
        go_wp2_with fail
        refine (implExpText_c o1 v1 k1 _ (Go.Joins.tab_stays pow_named HT.out hB (Nat.le_refl _))).mono ?_
        rintro e w7 ⟨rfl, hb7⟩
        replace h5 := h5.below hb7
        replace hB := Below.trans hB (hb7.mono hB.size)
        clear hb7 x0 x1 x2 y0 y1 y2 z0 z1 z2 h8 h10
        obtain ⟨x0, x1, x2, _, _⟩ := id h5
        unfold askV
        rw [ht1]
        go_wp2_with fail
        refine (implExpOk_c o v k _).mono ?_
        rintro e w8 ⟨rfl, hb8⟩
        replace h5 := h5.below hb8
        replace hB := Below.trans hB (hb8.mono hB.size)
        clear hb8 x0 x1 x2
        obtain ⟨x0, x1, x2, _, _⟩ := id h5
        by_cases hok : askOk ⟨o, v, k⟩ = true
        · have hne := askT_nil hok
          have hnb : (askT ⟨o, v, k⟩ == []) = false := by simpa using hne
          have hie : (askT ⟨o, v, k⟩).isEmpty = false := by simpa using hne
          rw [hok]
          go_wp2_with fail
          refine (implExpRead_c (askT ⟨o, v, k⟩) (Nat.le_trans (askT_len o v k) (by omega)) _ (Go.Joins.tab_stays pow_named HT.out hB (Nat.le_refl _)) (HE.out.below hB)).mono ?_
          rintro e w9 ⟨⟨o3, v3, k3, b3, rfl, hr3⟩, hb9⟩
          obtain ⟨rfl, rfl, rfl, rfl⟩ := hr3.unique (.inl ⟨rfl, hok, rfl⟩)
          replace h5 := h5.below hb9
          replace hB := Below.trans hB (hb9.mono hB.size)
          clear hb9 x0 x1 x2
          have h12 : TxB w9 o3 v3 k3 (w9.alloc (.cells #[.int .i64 o3, .int .i64 v3, .int .i64 k3] 25)) := ⟨new_cells w9 _ _ 0, new_cells w9 _ _ 1, new_cells w9 _ _ 2, by simp, Below.alloc (Below.refl _ w9) (Nat.le_refl _) _⟩
          replace h5 := h5.alloc (.cells #[.int .i64 o3, .int .i64 v3, .int .i64 k3] 25)
          replace hB := h12.grow hB
          obtain ⟨x0, x1, x2, _, _⟩ := id h5
          obtain ⟨y0, y1, y2, _, _⟩ := id h12
          go_wp2_with fail
          go_ret
          exact ⟨rfl, hB⟩
        · rw [Bool.not_eq_true] at hok
          have hno' := askT_no hok
          rw [hok]
          rw [hno']
          go_wp2_with fail
          refine (implExpText_c 1 1 (-5) _ (Go.Joins.tab_stays pow_named HT.out hB (Nat.le_refl _))).mono ?_
          rintro e w9 ⟨rfl, hb9⟩
          rw [text11]
          go_wp2_with fail
          go_ret
          exact ⟨rfl, Below.trans hB (hb9.mono hB.size)⟩
      · unfold askV
        go_wp2_with fail
        refine (implExpOk_c o v k _).mono ?_
        rintro e w8 ⟨rfl, hb8⟩
        replace h5 := h5.below hb8
        replace hB := Below.trans hB (hb8.mono hB.size)
        clear hb8 x0 x1 x2
        obtain ⟨x0, x1, x2, _, _⟩ := id h5
        by_cases hok : askOk ⟨o, v, k⟩ = true
        · have hne := askT_nil hok
          have hnb : (askT ⟨o, v, k⟩ == []) = false := by simpa using hne
          have hie : (askT ⟨o, v, k⟩).isEmpty = false := by simpa using hne
          rw [hok]
          go_wp2_with fail
          refine (implExpRead_c (askT ⟨o, v, k⟩) (Nat.le_trans (askT_len o v k) (by omega)) _ (Go.Joins.tab_stays pow_named HT.out hB (Nat.le_refl _)) (HE.out.below hB)).mono ?_
          rintro e w9 ⟨⟨o3, v3, k3, b3, rfl, hr3⟩, hb9⟩
          obtain ⟨rfl, rfl, rfl, rfl⟩ := hr3.unique (.inl ⟨rfl, hok, rfl⟩)
          replace h5 := h5.below hb9
          replace hB := Below.trans hB (hb9.mono hB.size)
          clear hb9 x0 x1 x2
          have h12 : TxB w9 o3 v3 k3 (w9.alloc (.cells #[.int .i64 o3, .int .i64 v3, .int .i64 k3] 25)) := ⟨new_cells w9 _ _ 0, new_cells w9 _ _ 1, new_cells w9 _ _ 2, by simp, Below.alloc (Below.refl _ w9) (Nat.le_refl _) _⟩
          replace h5 := h5.alloc (.cells #[.int .i64 o3, .int .i64 v3, .int .i64 k3] 25)
          replace hB := h12.grow hB
          obtain ⟨x0, x1, x2, _, _⟩ := id h5
          obtain ⟨y0, y1, y2, _, _⟩ := id h12
          go_wp2_with fail
          go_ret
          exact ⟨rfl, hB⟩
        · rw [Bool.not_eq_true] at hok
          have hno' := askT_no hok
          rw [hok]
          rw [hno']
          go_wp2_with fail
          refine (implExpText_c 1 1 (-5) _ (Go.Joins.tab_stays pow_named HT.out hB (Nat.le_refl _))).mono ?_
          rintro e w9 ⟨rfl, hb9⟩
          rw [text11]
          go_wp2_with fail
          go_ret
          exact ⟨rfl, Below.trans hB (hb9.mono hB.size)⟩
end Go.Proofs.YtgleblbgomhmdaaDoor
