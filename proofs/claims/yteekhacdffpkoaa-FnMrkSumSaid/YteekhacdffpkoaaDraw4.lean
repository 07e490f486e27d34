/- What is drawn of a code: data, marks, questions. -/
import Derived.Test.YteekhacdffpkoaaDraw3
import Derived.Deep.RegionWith
namespace Go.Proofs.Yteekhacdffpkoaa
open Go.RowKit
set_option linter.unusedVariables false
set_option linter.unusedSimpArgs false

/-- A slice of numbers that a call has made, given by its value. -/
def NumsV (w : World) (lo : Nat) (v : Value) (zs : List Int) : Prop := ∃ A b o c, v = .slice A zs.length c ∧ zs.length ≤ c ∧ Row w lo w.heap.size A b o (ints zs)
theorem NumsV.below {w w' : World} {lo : Nat} {v : Value} {zs : List Int} (h : NumsV w lo v zs) (hb : Below w.heap.size w w') : NumsV w' lo v zs := by
  obtain ⟨A, b, o, c, h1, h2, h3⟩ := h
  exact ⟨A, b, o, c, h1, h2, (h3.below hb (Nat.le_refl _)).more (Nat.le_refl _) hb.size⟩
theorem NumsV.grown {w w' : World} {lo R : Nat} {v : Value} {zs : List Int} (h : NumsV w lo v zs) (hg : w.grownBy w' (some R)) (hR : R < lo) : NumsV w' lo v zs := by
  obtain ⟨A, b, o, c, h1, h2, h3⟩ := h
  exact ⟨A, b, o, c, h1, h2, (h3.grown hg (.inr hR) (Nat.le_refl _)).more (Nat.le_refl _) hg.size⟩
theorem NumsV.lo {w : World} {lo lo' : Nat} {v : Value} {zs : List Int} (h : NumsV w lo v zs) (hl : lo' ≤ lo) : NumsV w lo' v zs := by
  obtain ⟨A, b, o, c, h1, h2, h3⟩ := h
  exact ⟨A, b, o, c, h1, h2, h3.more hl (Nat.le_refl _)⟩

theorem row_lit (w : World) (zs : List Int) (T : TypeId) : Row (w.alloc (.cells (ints zs).toArray T)) w.heap.size (w.heap.size + 1) (some ⟨w.heap.size, 0, none⟩) w.heap.size 0 (ints zs) :=
  ⟨fun _ => ⟨rfl, Nat.le_refl _, Nat.lt_succ_self _⟩, fun j u hu => ⟨by rw [World.cell?_alloc_at _ _ _ _ rfl]; simpa using hu, World.frozen?_alloc_at _ _ _ _ rfl⟩⟩

theorem guOk_c (w : World) : Calls Try.prog 36 #[] w fun e w' => e = .returned (.bool true) ∧ Below w.heap.size w w' := by
  go_enter Try.func36, Try.ntmps36
  go_wp2_with fail
  refine (implDatOk_c [0, 0, 0] w.heap.size (w.heap.size + 1) _ w.heap.size 0 _ _ (row_lit w [0, 0, 0] 3) (by simp) (by unfold maxLen; simp)).mono ?_
  rintro e w1 ⟨rfl, hb⟩
  have hd : datOk [0, 0, 0] = true := by decide
  rw [hd]
  have HB := Lib.hid hb
  clear hb hd
  go_wp2
  go_ret
  exact ⟨rfl, ((Below.refl w.heap.size w).alloc (Nat.le_refl _) _).trans (HB.out.mono (by simp))⟩

theorem drawDatOk_c (zs : List Int) (A : Option Addr) (b off c : Nat) (w : World) (hV : Row w 0 w.heap.size A b off (bytesC zs)) (hz : ∀ x ∈ zs, 0 ≤ x ∧ x ≤ 255) (hm : zs.length ≤ maxLen) (hcap : zs.length ≤ c) :
    Calls Try.prog 25 #[.slice A zs.length c] w fun e w' => ∃ (v : Value) (ys : List Int), e = .returned v ∧ ys.length ≤ 4 ∧ NumsV w' w.heap.size v ys ∧ Below w.heap.size w w' := by
  go_enter Try.func25, Try.ntmps25
  go_wp2_with fail
  refine (l20Open_c zs A b off c w hV hz hm hcap).mono ?_
  rintro e w1 ⟨R, rfl, hR, hrd, hb⟩
  have HR := Lib.hid hR
  have HB := Lib.hid hb
  have HRD := Lib.hid hrd
  clear hR hb hrd
  go_wp2_with fail
  refine (l20Data_c R 0 2 w1 HRD.out (by omega) (by omega) (by omega)).mono ?_
  rintro e w2 ⟨v, ys, p, rfl, hys, hp, hv, hrd, hg⟩
  have HG := Lib.hid hg
  have HV := Lib.hid hv
  clear hrd hg hv
  go_wp2
  go_ret
  exact ⟨v, ys, rfl, hys, NumsV.lo HV.out HB.out.size, below_grown HB.out HG.out HB.out.size HR.out⟩

theorem drawMrkSum_c (zs : List Int) (A : Option Addr) (b off c : Nat) (w : World) (hV : Row w 0 w.heap.size A b off (bytesC zs)) (hz : ∀ x ∈ zs, 0 ≤ x ∧ x ≤ 255) (hm : zs.length ≤ maxLen) (hcap : zs.length ≤ c) :
    Calls Try.prog 30 #[.slice A zs.length c] w fun e w' => ∃ (v : Value) (ys : List Int), e = .returned v ∧ ys.length ≤ 10 ∧ (∀ x ∈ ys, -1 ≤ x ∧ x ≤ 5) ∧ NumsV w' w.heap.size v ys ∧ Below w.heap.size w w' := by
  go_enter Try.func30, Try.ntmps30
  go_wp2_with fail
  refine (l20Open_c zs A b off c w hV hz hm hcap).mono ?_
  rintro e w1 ⟨R, rfl, hR, hrd, hb⟩
  have HR := Lib.hid hR
  have HB := Lib.hid hb
  have HRD := Lib.hid hrd
  clear hR hb hrd
  go_wp2_with fail
  refine (pick_c R 0 9 w1 HRD.out (by omega) (by omega) (by omega)).mono ?_
  rintro e w2 ⟨r, rfl, hr, hrd, hu⟩
  have HG1 := Lib.hid (grown_upd hu)
  have HR1 := Lib.hid hrd
  have hr' := pick_lt hr (by omega)
  clear hrd hu hr
  go_wp2_with fail
  refine (l20Marks_c R (0 + 1) r 9 w2 HR1.out (by omega) (by omega) (by omega) (by omega)).mono ?_
  rintro e w3 ⟨v, ys, p, rfl, hys, hyb, hp, hv, hrd, hg⟩
  have HG := Lib.hid (grown_tr HG1.out hg)
  have HV := Lib.hid hv
  have HYB := Lib.hid hyb
  have hs2 := HG1.out.size
  clear hrd hg hv hyb
  go_wp2
  go_ret
  exact ⟨v, ys, rfl, by omega, HYB.out, NumsV.lo HV.out (Nat.le_trans HB.out.size hs2), below_grown HB.out HG.out HB.out.size HR.out⟩

theorem drawMrkMore_c (zs : List Int) (A : Option Addr) (b off c : Nat) (w : World) (hV : Row w 0 w.heap.size A b off (bytesC zs)) (hz : ∀ x ∈ zs, 0 ≤ x ∧ x ≤ 255) (hm : zs.length ≤ maxLen) (hcap : zs.length ≤ c) :
    Calls Try.prog 31 #[.slice A zs.length c] w fun e w' => ∃ (v u : Value) (ys xs : List Int), e = .returned (.tuple #[v, u]) ∧ ys.length ≤ 10 ∧ (∀ x ∈ ys, -1 ≤ x ∧ x ≤ 5) ∧ xs.length ≤ 10 ∧ (∀ x ∈ xs, -1 ≤ x ∧ x ≤ 5) ∧ NumsV w' w.heap.size v ys ∧ NumsV w' w.heap.size u xs ∧ Below w.heap.size w w' := by
  obtain ⟨i0, hi0, hz0, hz1, hz2⟩ := info_parts Try.info3
  go_enter Try.func31, Try.ntmps31
  go_wp2_with fail
  refine (l20Open_c zs A b off c w hV hz hm hcap).mono ?_
  rintro e w1 ⟨R, rfl, hR, hrd, hb⟩
  have HR := Lib.hid hR
  have HB := Lib.hid hb
  have HRD := Lib.hid hrd
  clear hR hb hrd
  go_wp2_with fail
  refine (pick_c R 0 6 w1 HRD.out (by omega) (by omega) (by omega)).mono ?_
  rintro e w2 ⟨r, rfl, hr, hrd, hu⟩
  have HG1 := Lib.hid (grown_upd hu)
  have HR1 := Lib.hid hrd
  have hr' := pick_lt hr (by omega)
  clear hrd hu hr
  go_wp2_with fail
  refine (l20Marks_c R (0 + 1) r 12 w2 HR1.out (by omega) (by omega) (by omega) (by omega)).mono ?_
  rintro e w3 ⟨v, ys, p, rfl, hys, hyb, hp, hv, hrd, hg⟩
  have HRlt := Lib.hid (HR1.out.lt)
  have HG3 := Lib.hid (grown_tr HG1.out hg)
  have HYB := Lib.hid hyb
  have HR3 := Lib.hid hrd
  have hs2 := HG1.out.size
  have hs3 := hg.size
  obtain ⟨A1, b1, o1, c1, rfl, hc1, hrow⟩ := hv
  have HROW := Lib.hid hrow
  clear hrd hg hyb hrow
  go_wp2_with fail
  refine (pick_c R p 2 w3 HR3.out (by omega) (by omega) (by omega)).mono ?_
  rintro e w4 ⟨r4, rfl, hr4, hrd, hu⟩
  have HG4 := Lib.hid (grown_tr HG3.out (grown_upd hu))
  have HR4 := Lib.hid hrd
  have hs4 := hu.size
  have HROW4 := Lib.hid (HROW.out.upd hu (.inr (by have := HRlt.out; omega)))
  have HS4 := Lib.hid hs4
  clear hrd hu hr4 hs4
  by_cases h4 : r4 = 0
  · have h4' : ((r4 : Int) == 0) = true := by simp [h4]
    clear h4
    by_cases h0 : 0 < ys.length
    · have h0' : (0 : Int) < (ys.length : Int) := by omega
      go_wp2_with (at_builtin; refine wpList_append_row rfl _ _ 29 rfl w4.heap.size 3 i0 _ 1 8 Try.underlying29 hi0 hz0 hz1 hz2 rfl (by omega) (.slice (some ⟨w4.heap.size, 0, none⟩) 0 0) 0 [] rfl (own_lit0 w4 3) w2.heap.size w3.heap.size A1 b1 o1 ys.length c1 (ints ys) rfl (by simp) (HROW4.out.alloc (by have := HS4.out; omega) _) (ints_one ys) (by unfold maxLen; omega) (by omega) (by simp) ?_; intro v' w5 hown5 hg5; obtain ⟨A2, b2, o2, c2, rfl, hc2, hrow2⟩ := draw_row (v := v') (zs := ys) (by simpa using hown5))
      have HO5 : Hid (w5.ownsRow w4.heap.size 3 1 (.slice A2 ys.length c2) ys.length (ints ys)) := Lib.hid (by simpa using hown5)
      have hB5 : Below w4.heap.size w4 w5 := ((Below.refl w4.heap.size w4).alloc (Nat.le_refl _) _).grown hg5 (by simp) (fun k hk => by simp [Value.ownBlock] at hk; omega)
      have HG5 := Lib.hid (grown_tr HG4.out (grown_below (some R) hB5))
      have HR5 := Lib.hid (HR4.out.below hB5)
      have HROW5 := Lib.hid (HROW4.out.below hB5 (by have := HS4.out; omega))
      have hs5 := hB5.size
      have hR4 := HR4.out.lt
      have HS := HS4.out
      clear hown5 hg5 hB5
      obtain ⟨g, cc, hgg, hg1, hg2, hcc⟩ := own_form HO5.out h0
      injection hgg with hg3 _ hg4
      subst hg3 hg4
      refine (pick_c R (p + 1) ys.length w5 HR5.out (by omega) (by omega) (by omega)).mono ?_
      rintro e w6 ⟨r6, rfl, hr6, hrd, hu⟩
      have HO6 := Lib.hid (own_upd HO5.out hu (by omega))
      have HG6 := Lib.hid (grown_tr HG5.out (grown_upd hu))
      have HR6 := Lib.hid hrd
      have HROW6 := Lib.hid (HROW5.out.upd hu (.inr (by have := HRlt.out; omega)))
      have hr6' := pick_lt hr6 h0'
      clear hrd hu hr6
      go_wp2_with fail
      refine (pick_c R (p + 1 + 1) 3 w6 HR6.out (by omega) (by omega) (by omega)).mono ?_
      rintro e w7 ⟨r7, rfl, hr7, hrd, hu⟩
      have HO7 := Lib.hid (own_upd HO6.out hu (by omega))
      have HG7 := Lib.hid (grown_tr HG6.out (grown_upd hu))
      have HR7 := Lib.hid hrd
      have HROW7 := Lib.hid (HROW6.out.upd hu (.inr (by have := HRlt.out; omega)))
      have hr7' := pick_lt hr7 (by omega)
      clear hrd hu hr7
      obtain ⟨y, hy⟩ : ∃ y, ys[r6]? = some y := ⟨_, List.getElem?_eq_getElem (by omega)⟩
      have hcy : w7.cell? ⟨g, r6, none⟩ = some (.int .i64 y) := by rw [HO7.out.cellAt r6 (by omega)]; exact ints_at hy
      have hfy := HO7.out.frozenAt r6
      have HS8 := Lib.hid (HO7.out.stored r6 (.int .i64 (r7 : Int)))
      clear hy
      go_wp2
      go_ret2
      have hz7 := HG7.out.size
      have hw3 : w2.heap.size ≤ w3.heap.size := hs3
      have hB := HB.out.size
      have hG2 := HS8.out.2.size
      refine ⟨_, _, ys, ys.set r6 (r7 : Int), rfl, by omega, HYB.out, by simp; omega, mem_set_bound HYB.out (by omega), ⟨A1, b1, o1, c1, rfl, hc1, ?_⟩, NumsV.lo (lo := w4.heap.size) (draw_row (by have := HS8.out.1; simpa [ints, List.map_set] using this)) (by omega), ?_⟩
      · have h := HROW7.out.setCell (p := ⟨g, r6, none⟩) (.inr (by dsimp only; omega)) (.int .i64 (r7 : Int))
        refine h.more (by omega) ?_
        have := HO6.out.lt g rfl
        have hw7 : w3.heap.size ≤ w7.heap.size := by have := (HO7.out.lt g rfl).2; omega
        simpa using hw7
      · exact below_grown HB.out (grown_setCell HG7.out (p := ⟨g, r6, none⟩) (by dsimp only; omega) _) HB.out.size HR.out
    · have h0' : ¬ ((0 : Int) < (ys.length : Int)) := by omega
      go_wp2_with (at_builtin; refine wpList_append_row rfl _ _ 29 rfl w4.heap.size 3 i0 _ 1 8 Try.underlying29 hi0 hz0 hz1 hz2 rfl (by omega) (.slice (some ⟨w4.heap.size, 0, none⟩) 0 0) 0 [] rfl (own_lit0 w4 3) w2.heap.size w3.heap.size A1 b1 o1 ys.length c1 (ints ys) rfl (by simp) (HROW4.out.alloc (by have := HS4.out; omega) _) (ints_one ys) (by unfold maxLen; omega) (by omega) (by simp) ?_; intro v' w5 hown5 hg5; obtain ⟨A2, b2, o2, c2, rfl, hc2, hrow2⟩ := draw_row (v := v') (zs := ys) (by simpa using hown5))
      have HO5 : Hid (w5.ownsRow w4.heap.size 3 1 (.slice A2 ys.length c2) ys.length (ints ys)) := Lib.hid (by simpa using hown5)
      have hB5 : Below w4.heap.size w4 w5 := ((Below.refl w4.heap.size w4).alloc (Nat.le_refl _) _).grown hg5 (by simp) (fun k hk => by simp [Value.ownBlock] at hk; omega)
      have HG5 := Lib.hid (grown_tr HG4.out (grown_below (some R) hB5))
      have HR5 := Lib.hid (HR4.out.below hB5)
      have HROW5 := Lib.hid (HROW4.out.below hB5 (by have := HS4.out; omega))
      have hs5 := hB5.size
      have hR4 := HR4.out.lt
      have HS := HS4.out
      clear hown5 hg5 hB5
      go_wp2
      go_ret2
      have hB := HB.out.size
      have hG5 := HG5.out.size
      refine ⟨_, _, ys, ys, rfl, by omega, HYB.out, by omega, HYB.out, ⟨A1, b1, o1, c1, rfl, hc1, HROW5.out.more (by omega) (by omega)⟩, NumsV.lo (lo := w4.heap.size) ⟨A2, b2, o2, c2, rfl, hc2, hrow2⟩ (by omega), below_grown HB.out HG5.out HB.out.size HR.out⟩
  · have h4' : ((r4 : Int) == 0) = false := by simp [h4]
    clear h4
    go_wp2_with fail
    refine (l20Marks_c R (p + 1) r 12 w4 HR4.out (by omega) (by omega) (by omega) (by omega)).mono ?_
    rintro e w5 ⟨v5, xs, p5, rfl, hxs, hxb, hp5, hv5, hrd, hg⟩
    have hR4 := HR4.out.lt
    have HG5 := Lib.hid (grown_tr HG4.out hg)
    have HXB := Lib.hid hxb
    have HV5 := Lib.hid hv5
    have HROW5 := Lib.hid (HROW4.out.grown hg (.inr (by have := HRlt.out; omega)) (by have := HS4.out; omega))
    have hs5 := hg.size
    clear hrd hg hxb hv5
    go_wp2
    go_ret2
    have hB := HB.out.size
    have hS4 := HS4.out
    refine ⟨_, _, ys, xs, rfl, by omega, HYB.out, by omega, HXB.out, ⟨A1, b1, o1, c1, rfl, hc1, HROW5.out.more (by omega) (by omega)⟩, NumsV.lo (lo := w4.heap.size) HV5.out (by omega), below_grown HB.out HG5.out HB.out.size HR.out⟩

theorem drawExpHolds_c (zs : List Int) (A : Option Addr) (b off c : Nat) (w : World) (hV : Row w 0 w.heap.size A b off (bytesC zs)) (hz : ∀ x ∈ zs, 0 ≤ x ∧ x ≤ 255) (hm : zs.length ≤ maxLen) (hcap : zs.length ≤ c) :
    Calls Try.prog 37 #[.slice A zs.length c] w fun e w' => ∃ (o v k : Int) (u : Value) (ys : List Int), e = .returned (.tuple #[.agg #[.int .i64 o, .int .i64 v, .int .i64 k], u]) ∧ ys.length ≤ 4 ∧ NumsV w' w.heap.size u ys ∧ Below w.heap.size w w' := by
  have hV1 := fun ob => hV.alloc (Nat.le_refl _) ob
  go_enter Try.func37, Try.ntmps37
  go_wp2_with fail
  refine (l20Open_c zs A b off c _ ((hV1 _).more (Nat.le_refl _) (by simp)) hz hm hcap).mono ?_
  rintro e w1 ⟨R, rfl, hR, hrd, hb⟩
  have hR' : w.heap.size + 1 ≤ R := by simpa using hR
  have HB := Lib.hid (((Below.refl w.heap.size w).alloc (Nat.le_refl _) _).trans (hb.mono (by simp)))
  have HBK := Lib.hid (Blk.below (Blk.new_ w 26 #[.int .i64 0, .int .i64 0, .int .i64 0]) hb (by simp))
  have HRD := Lib.hid hrd
  clear hR hb hrd hV1
  go_wp2_with fail
  refine (l20Ask_c R 0 12 w1 HRD.out (by omega) (by omega) (by omega)).mono ?_
  rintro e w2 ⟨o, v, k, p, rfl, hp, hrd, hg⟩
  have HG2 := Lib.hid hg
  have HR2 := Lib.hid hrd
  have HBK2 := Lib.hid (HBK.out.grown hg (by omega))
  clear hrd hg
  go_wp2_with fail
  refine (l20Data_c R p 12 w2 HR2.out (by omega) (by omega) (by omega)).mono ?_
  rintro e w3 ⟨u, ys, p3, rfl, hys, hp3, hv, hrd, hg⟩
  have HG3 := Lib.hid (grown_tr HG2.out hg)
  have HV := Lib.hid hv
  have hBK := HBK2.out.grown hg (by omega)
  have hs := HB.out.size
  have hs2 := HG2.out.size
  have hs3 := hg.size
  clear hrd hg hv
  have hb0 : w3.cell? ⟨w.heap.size, 0, none⟩ = some (.int .i64 0) := hBK.cell 0
  have hb1 : w3.cell? ⟨w.heap.size, 1, none⟩ = some (.int .i64 0) := hBK.cell 1
  have hb2 : w3.cell? ⟨w.heap.size, 2, none⟩ = some (.int .i64 0) := hBK.cell 2
  have hf0 := hBK.free 0
  have hf1 := hBK.free 1
  have hf2 := hBK.free 2
  have hlt := HBK2.out.lt
  clear hBK
  go_wp2
  refine bodyPost_ret (v := .tuple #[.agg #[.int .i64 o, .int .i64 v, .int .i64 k], u]) (by simp [results, Try.results37, go_sem, hb0, hb1, hb2]) rfl ⟨o, v, k, u, ys, rfl, hys, ?_, ?_⟩
  · obtain ⟨A1, b1, o1, c1, rfl, hc1, hrow⟩ := HV.out
    refine ⟨A1, b1, o1, c1, rfl, hc1, ?_⟩
    exact ((((hrow.setCell (p := ⟨w.heap.size, 0, none⟩) (.inl (by dsimp only; omega)) _).setCell (p := ⟨w.heap.size, 1, none⟩) (.inl (by dsimp only; omega)) _).setCell (p := ⟨w.heap.size, 2, none⟩) (.inl (by dsimp only; omega)) _)).more (by omega) (by simp [World.setCell])
  · exact (((below_grown HB.out HG3.out HB.out.size (by omega)).setCell (p := ⟨w.heap.size, 0, none⟩) (Nat.le_refl _) _).setCell (p := ⟨w.heap.size, 1, none⟩) (Nat.le_refl _) _).setCell (p := ⟨w.heap.size, 2, none⟩) (Nat.le_refl _) _
end Go.Proofs.Yteekhacdffpkoaa
