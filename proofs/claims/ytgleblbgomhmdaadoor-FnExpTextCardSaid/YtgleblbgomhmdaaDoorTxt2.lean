/- What the program's and the reference's text of a question are. -/
import Derived.Test.YtgleblbgomhmdaaDoorTxt
import Derived.Deep.DeepCutAuto
import Derived.Lib.SmallJoins
namespace Go.Proofs.YtgleblbgomhmdaaDoor
open Go.RowKit
set_option linter.unusedVariables false
set_option linter.unusedSimpArgs false

theorem below_of {w w' : World} (h : ∃ k os, w' = Go.Sort.grow (w.drewN k) os) : Below w.heap.size w w' := by
  obtain ⟨k, os, rfl⟩ := h
  exact below_drewN (Below.refl _ _) k |>.trans ⟨rfl, rfl, rfl, by simp [Go.Sort.grow], fun i hi => by simp [Go.Sort.grow, World.drewN, Array.getElem?_append_left hi]⟩
theorem new_cells (w : World) (t : TypeId) (cs : Array Value) (i : Nat) : (w.alloc (.cells cs t)).cell? ⟨w.heap.size, i, none⟩ = cs[i]? := by
  have h := heap_alloc_new w (.cells cs t)
  unfold World.cell?
  dsimp only
  rw [h]
  rfl
theorem askOk_in {o v k : Int} (h : askOk ⟨o, v, k⟩ = true) (h0 : ¬ o = 0) : (1 ≤ o ∧ o ≤ 3) ∧ (0 ≤ v ∧ v ≤ 2) ∧ (-99 ≤ k ∧ k ≤ 99) := by
  unfold askOk at h
  rw [if_neg h0, Bool.and_eq_true, Bool.and_eq_true] at h
  exact ⟨inB_iff.1 h.1.1, inB_iff.1 h.1.2, inB_iff.1 h.2⟩
theorem pow_named : Tryd.prog.globalNamed "internal/strconv.uint64pow10" = some 2 := by kernel_rfl
abbrev PowTab (w : World) : Prop := Lib.TabIs Tryd.prog w "internal/strconv.uint64pow10" .u64 Lib.pow10Tab
theorem askV_no {o v k : Int} (h : askOk ⟨o, v, k⟩ = false) : askV ⟨o, v, k⟩ = .string ⟨#[]⟩ := by
  unfold askV askT; rw [h]; rfl
theorem askV_always {o v k : Int} (h : askOk ⟨o, v, k⟩ = true) (h0 : o = 0) : askV ⟨o, v, k⟩ = .string ⟨#[97, 108, 119, 97, 121, 115]⟩ := by
  subst h0
  unfold askV askT; rw [h]; rfl
theorem askV_text {o v k : Int} (h : askOk ⟨o, v, k⟩ = true) (h0 : ¬ o = 0) : askV ⟨o, v, k⟩ = .string ⟨(UInt8.ofNat (97 + v).toNat :: UInt8.ofNat (if o = 1 then 60 else if o = 2 then 61 else 62) :: Lib.itoa k).toArray⟩ := by
  unfold askV askT; rw [if_pos h, if_neg h0]
set_option maxRecDepth 100000 in
set_option maxHeartbeats 8000000 in
theorem implExpText_c (o v k : Int) (w : World) (hT : PowTab w) :
    Calls Tryd.prog 8 #[.agg #[.int .i64 o, .int .i64 v, .int .i64 k]] w fun e w' => e = .returned (askV ⟨o, v, k⟩) ∧ Below w.heap.size w w' := by
  go_enter Tryd.func8, Tryd.ntmps8
  go_wp2_with fail
  have x0 := new_cells w 25 #[.int .i64 o, .int .i64 v, .int .i64 k] 0
  have x1 := new_cells w 25 #[.int .i64 o, .int .i64 v, .int .i64 k] 1
  have x2 := new_cells w 25 #[.int .i64 o, .int .i64 v, .int .i64 k] 2
  have hs : w.heap.size < (w.alloc (.cells #[.int .i64 o, .int .i64 v, .int .i64 k] 25)).heap.size := by simp
  have ht0 := Go.Joins.tab_stays pow_named hT (Below.alloc (Below.refl _ w) (Nat.le_refl _) (.cells #[.int .i64 o, .int .i64 v, .int .i64 k] 25)) (Nat.le_refl _)
  refine (implExpOk_c o v k _).mono ?_
  rintro e w1 ⟨rfl, hb1⟩
  replace x0 := (hb1.cell (p := ⟨w.heap.size, 0, none⟩) hs).trans x0
  replace x1 := (hb1.cell (p := ⟨w.heap.size, 1, none⟩) hs).trans x1
  replace x2 := (hb1.cell (p := ⟨w.heap.size, 2, none⟩) hs).trans x2
  have HT := Lib.hid (Go.Joins.tab_stays pow_named ht0 hb1.drew (Nat.le_refl _))
  have hq : w.heap.size < w1.heap.size := Nat.lt_of_lt_of_le hs hb1.size
  have hb : Below w.heap.size w w1 := Below.trans (Below.alloc (Below.refl _ w) (Nat.le_refl _) _) (hb1.mono (by simp))
  clear hb1 ht0 hs hT
  simp only [List.getElem?_toArray, List.getElem?_cons_zero, List.getElem?_cons_succ] at x0 x1 x2
  by_cases hA : askOk ⟨o, v, k⟩ = false
  · have hno := askV_no hA
    rw [hA]
    go_wp2_with fail
    go_ret
    exact ⟨by rw [hno]; rfl, hb⟩
  · rw [Bool.not_eq_false] at hA
    by_cases ho : o = 0
    · have hno := askV_always hA ho
      rw [hA]
      subst ho
      go_wp2_with fail
      go_ret
      exact ⟨by rw [hno]; rfl, hb⟩
    · have hno := askV_text hA ho
      obtain ⟨⟨ho1, ho3⟩, ⟨hv0, hv2⟩, ⟨hk0, hk9⟩⟩ := askOk_in hA ho
      have hwo : IntKind.i64.wrap (o + 1) = o + 1 := by rcases (show o = 1 ∨ o = 2 ∨ o = 3 by omega) with rfl | rfl | rfl <;> rfl
      have hwv : IntKind.i64.wrap (v + 1) = v + 1 := by rcases (show v = 0 ∨ v = 1 ∨ v = 2 by omega) with rfl | rfl | rfl <;> rfl
      have he1 : (⟨#[97, 98, 99]⟩ : ByteArray).extract v.toNat (v + 1).toNat = ⟨#[UInt8.ofNat (97 + v).toNat]⟩ := by rcases (show v = 0 ∨ v = 1 ∨ v = 2 by omega) with rfl | rfl | rfl <;> rfl
      have he2 : (⟨#[63, 60, 61, 62]⟩ : ByteArray).extract o.toNat (o + 1).toNat = ⟨#[UInt8.ofNat (if o = 1 then 60 else if o = 2 then 61 else 62)]⟩ := by rcases (show o = 1 ∨ o = 2 ∨ o = 3 by omega) with rfl | rfl | rfl <;> rfl
      generalize hgo : UInt8.ofNat (if o = 1 then 60 else if o = 2 then 61 else 62) = co at he2 hno
      generalize hgv : UInt8.ofNat (97 + v).toNat = cv at he1 hno
      clear hgo hgv
      have hl := itoa_len hk0 hk9
      have hl2 : ¬ 9223372036854775807 < 1 + 1 + (Lib.itoa k).length := by omega
      have hl3 : ¬ 9223372036854775807 < 2 + (Lib.itoa k).length := by omega
      have hl4 : 1 + 1 + (Lib.itoa k).length ≤ 9223372036854775807 := by omega
      have hl5 : 2 + (Lib.itoa k).length ≤ 9223372036854775807 := by omega
      have ho0 : 0 ≤ o := by omega
      have ho4 : 0 ≤ o + 1 := by omega
      have ho5 : o + 1 ≤ 4 := by omega
      have ho6 : o ≤ o + 1 := by omega
      have hv4 : 0 ≤ v + 1 := by omega
      have hv5 : v + 1 ≤ 3 := by omega
      have hv6 : v ≤ v + 1 := by omega
      rw [hA]
      clear hA
      go_wp2_with fail
      refine wp_region_noPanic ?_
      refine wp_region_held_drew (S := fun w' => w'.cell? ⟨w.heap.size, 0, none⟩ = some (.int .i64 o) ∧ w'.cell? ⟨w.heap.size, 1, none⟩ = some (.int .i64 v) ∧ w'.cell? ⟨w.heap.size, 2, none⟩ = some (.int .i64 k)) (by kernel_rfl) ?_ (fun hHeld => ?_)
      · exact ⟨x0, x1, x2⟩
      refine take_yes (i := 0) (v := ?_) rfl (by kernel_rfl) (by kernel_rfl) (by kernel_rfl) (fun _ _ _ h => h) (by kernel_rfl) ?_ (by assumption) ?_
      rotate_left
      · (intro w hSw; (try dsimp only at hSw); go_simp; try with_reducible rfl)
      try simp only [Act.put, List.setIfInBounds_toArray, List.set_cons_zero, List.set_cons_succ]
      refine take_yes (i := 1) (v := ?_) rfl (by kernel_rfl) (by kernel_rfl) (by kernel_rfl) (fun _ _ _ h => h) (by kernel_rfl) ?_ (by assumption) ?_
      rotate_left
      · (intro w hSw; (try dsimp only at hSw); go_simp; try with_reducible rfl)
      try simp only [Act.put, List.setIfInBounds_toArray, List.set_cons_zero, List.set_cons_succ]
      refine take_yes (i := 2) (v := ?_) rfl (by kernel_rfl) (by kernel_rfl) (by kernel_rfl) (fun _ _ _ h => h) (by kernel_rfl) ?_ (by assumption) ?_
      rotate_left
      · (intro w hSw; (try dsimp only at hSw); go_simp; try with_reducible rfl)
      try simp only [Act.put, List.setIfInBounds_toArray, List.set_cons_zero, List.set_cons_succ]
      refine take_yes (i := 3) (v := ?_) rfl (by kernel_rfl) (by kernel_rfl) (by kernel_rfl) (fun _ _ _ h => h) (by kernel_rfl) ?_ (by assumption) ?_
      rotate_left
      · (intro w hSw; (try dsimp only at hSw); go_simp; try with_reducible rfl)
      try simp only [Act.put, List.setIfInBounds_toArray, List.set_cons_zero, List.set_cons_succ]
      refine take_yes (i := 4) (v := ?_) rfl (by kernel_rfl) (by kernel_rfl) (by kernel_rfl) (fun _ _ _ h => h) (by kernel_rfl) ?_ (by assumption) ?_
      rotate_left
      · (intro w hSw; (try dsimp only at hSw); go_simp; try with_reducible rfl)
      try simp only [Act.put, List.setIfInBounds_toArray, List.set_cons_zero, List.set_cons_succ]
      refine take_yes (i := 5) (v := ?_) rfl (by kernel_rfl) (by kernel_rfl) (by kernel_rfl) (fun _ _ _ h => h) (by kernel_rfl) ?_ (by assumption) ?_
      rotate_left
      · (intro w hSw; (try dsimp only at hSw); go_simp; try with_reducible rfl)
      try simp only [Act.put, List.setIfInBounds_toArray, List.set_cons_zero, List.set_cons_succ]
      refine take_yes (i := 6) (v := ?_) rfl (by kernel_rfl) (by kernel_rfl) (by kernel_rfl) (fun _ _ _ h => h) (by kernel_rfl) ?_ (by assumption) ?_
      rotate_left
      · (intro w hSw; (try dsimp only at hSw); go_simp; try with_reducible rfl)
      try simp only [Act.put, List.setIfInBounds_toArray, List.set_cons_zero, List.set_cons_succ]
      refine take_yes (i := 7) (v := ?_) rfl (by kernel_rfl) (by kernel_rfl) (by kernel_rfl) (fun _ _ _ h => h) (by kernel_rfl) ?_ (by assumption) ?_
      rotate_left
      · (intro w hSw; (try dsimp only at hSw); go_simp; try with_reducible rfl)
      try simp only [Act.put, List.setIfInBounds_toArray, List.set_cons_zero, List.set_cons_succ]
      refine take_yes (i := 8) (v := ?_) rfl (by kernel_rfl) (by kernel_rfl) (by kernel_rfl) (fun _ _ _ h => h) (by kernel_rfl) ?_ (by assumption) ?_
      rotate_left
      · (intro w hSw; (try dsimp only at hSw); go_simp; try with_reducible rfl)
      try simp only [Act.put, List.setIfInBounds_toArray, List.set_cons_zero, List.set_cons_succ]
      refine take_yes (i := 9) (v := ?_) rfl (by kernel_rfl) (by kernel_rfl) (by kernel_rfl) (fun _ _ _ h => h) (by kernel_rfl) ?_ (by assumption) ?_
      rotate_left
      · (intro w hSw; (try dsimp only at hSw); go_simp; try with_reducible rfl)
      try simp only [Act.put, List.setIfInBounds_toArray, List.set_cons_zero, List.set_cons_succ]
      refine take_yes (i := 10) (v := ?_) rfl (by kernel_rfl) (by kernel_rfl) (by kernel_rfl) (fun _ _ _ h => h) (by kernel_rfl) ?_ (by assumption) ?_
      rotate_left
      · (intro w hSw; (try dsimp only at hSw); go_simp; try with_reducible rfl)
      try simp only [Act.put, List.setIfInBounds_toArray, List.set_cons_zero, List.set_cons_succ]
      refine take_yes (i := 11) (v := ?_) rfl (by kernel_rfl) (by kernel_rfl) (by kernel_rfl) (fun _ _ _ h => h) (by kernel_rfl) ?_ (by assumption) ?_
      rotate_left
      · (intro w hSw; (try dsimp only at hSw); go_simp; try with_reducible rfl)
      try simp only [Act.put, List.setIfInBounds_toArray, List.set_cons_zero, List.set_cons_succ]
      refine take_yes (i := 12) (v := ?_) rfl (by kernel_rfl) (by kernel_rfl) (by kernel_rfl) (fun _ _ _ h => h) (by kernel_rfl) ?_ (by assumption) ?_
      rotate_left
      · (intro w hSw; (try dsimp only at hSw); go_simp; try with_reducible rfl)
      try simp only [Act.put, List.setIfInBounds_toArray, List.set_cons_zero, List.set_cons_succ]
      refine take_yes (i := 13) (v := ?_) rfl (by kernel_rfl) (by kernel_rfl) (by kernel_rfl) (fun _ _ _ h => h) (by kernel_rfl) ?_ (by assumption) ?_
      rotate_left
      · (intro w hSw; (try dsimp only at hSw); go_simp; try with_reducible rfl)
      try simp only [Act.put, List.setIfInBounds_toArray, List.set_cons_zero, List.set_cons_succ]
      refine take_yes (i := 14) (v := ?_) rfl (by kernel_rfl) (by kernel_rfl) (by kernel_rfl) (fun _ _ _ h => h) (by kernel_rfl) ?_ (by assumption) ?_
      rotate_left
      · (intro w hSw; (try dsimp only at hSw); go_simp; try with_reducible rfl)
      try simp only [Act.put, List.setIfInBounds_toArray, List.set_cons_zero, List.set_cons_succ]
      refine wpAnyH_ready (rs := [15]) (by kernel_rfl) (by simp) ?_
      refine AllReadyH.cons (of_drop rfl) (fun K hK => ?_) AllReadyH.nil
      go_simp
      (go_at_call 17; refine (Tryd.strconv_Itoa k (by omega) (by omega) w1.drew HT.out).mono ?_; rintro e w2 ⟨rfl, hw2⟩; have hb2 := below_of hw2; have y0 := (hb2.cell (p := ⟨w.heap.size, 0, none⟩) hq).trans x0; have y1 := (hb2.cell (p := ⟨w.heap.size, 1, none⟩) hq).trans x1; have y2 := (hb2.cell (p := ⟨w.heap.size, 2, none⟩) hq).trans x2)
      go_wp2_with fail
      refine hK.out _ _ ?_ (fun hHeld2 => ?_)
      · exact ⟨y0, y1, y2⟩
      clear hK K hHeld
      have hHeld := hHeld2
      clear hHeld2
      try simp only [Act.put, List.setIfInBounds_toArray, List.set_cons_zero, List.set_cons_succ]
      refine take_yes (i := 16) (v := ?_) rfl (by kernel_rfl) (by kernel_rfl) (by kernel_rfl) (fun _ _ _ h => h) (by kernel_rfl) ?_ (by assumption) ?_
      rotate_left
      · (intro w hSw; (try dsimp only at hSw); go_simp; try with_reducible rfl)
      try simp only [Act.put, List.setIfInBounds_toArray, List.set_cons_zero, List.set_cons_succ]
      refine take_yes (i := 17) (v := ?_) rfl (by kernel_rfl) (by kernel_rfl) (by kernel_rfl) (fun _ _ _ h => h) (by kernel_rfl) ?_ (by assumption) ?_
      rotate_left
      · (intro w hSw; (try dsimp only at hSw); go_simp; try with_reducible rfl)
      try simp only [Act.put, List.setIfInBounds_toArray, List.set_cons_zero, List.set_cons_succ]
      refine wpAnyH_done (by kernel_rfl) ?_ _
      refine NoPanic.normal ?_
      go_wp2
      refine bodyPost_ret (v := .string ⟨(cv :: co :: Lib.itoa k).toArray⟩) (by simp [results, Tryd.results8, go_sem, str_app]) rfl ⟨by rw [hno], ?_⟩
      exact Below.trans hb.drew (hb2.mono (Nat.le_of_lt hq))

/-- The box of the question in a later world. -/
structure TxB (w : World) (o v k : Int) (W : World) : Prop where
  c0 : W.cell? ⟨w.heap.size, 0, none⟩ = some (.int .i64 o)
  c1 : W.cell? ⟨w.heap.size, 1, none⟩ = some (.int .i64 v)
  c2 : W.cell? ⟨w.heap.size, 2, none⟩ = some (.int .i64 k)
  lt : w.heap.size < W.heap.size
  bel : Below w.heap.size w W
theorem TxB.below {w W W' : World} {o v k : Int} (h : TxB w o v k W) (hb : Below W.heap.size W W') : TxB w o v k W' :=
  ⟨(hb.cell (p := ⟨w.heap.size, 0, none⟩) h.lt).trans h.c0, (hb.cell (p := ⟨w.heap.size, 1, none⟩) h.lt).trans h.c1, (hb.cell (p := ⟨w.heap.size, 2, none⟩) h.lt).trans h.c2, Nat.lt_of_lt_of_le h.lt hb.size, Below.trans h.bel (hb.mono (Nat.le_of_lt h.lt))⟩
theorem TxB.alloc {w W : World} {o v k : Int} (h : TxB w o v k W) (ob : Obj) : TxB w o v k (W.alloc ob) := h.below (Below.alloc (Below.refl _ _) (Nat.le_refl _) ob)
structure AtB (W : World) (b : Nat) (x : Int) : Prop where
  lt : b < W.heap.size
  c : W.cell? ⟨b, 0, none⟩ = some (.int .u8 x)
theorem AtB.below {W W' : World} {b : Nat} {x : Int} (h : AtB W b x) (hb : Below W.heap.size W W') : AtB W' b x := ⟨Nat.lt_of_lt_of_le h.lt hb.size, (hb.cell (p := ⟨b, 0, none⟩) h.lt).trans h.c⟩
theorem AtB.alloc {W : World} {b : Nat} {x : Int} (h : AtB W b x) (ob : Obj) : AtB (W.alloc ob) b x := h.below (Below.alloc (Below.refl _ _) (Nat.le_refl _) ob)
theorem AtB.new (W : World) (x : Int) : AtB (W.alloc (.cells #[.int .u8 x] 5)) W.heap.size x := ⟨by simp, new_cell W x⟩
set_option maxRecDepth 100000 in
set_option maxHeartbeats 8000000 in
theorem specExpText_c (o v k : Int) (w : World) :
    Calls Tryd.prog 6 #[.agg #[.int .i64 o, .int .i64 v, .int .i64 k]] w fun e w' => e = .returned (askV ⟨o, v, k⟩) ∧ Below w.heap.size w w' := by
  go_enter Tryd.func6, Tryd.ntmps6
  go_wp2_with fail
  have x0 := new_cells w 25 #[.int .i64 o, .int .i64 v, .int .i64 k] 0
  have x1 := new_cells w 25 #[.int .i64 o, .int .i64 v, .int .i64 k] 1
  have x2 := new_cells w 25 #[.int .i64 o, .int .i64 v, .int .i64 k] 2
  simp only [List.getElem?_toArray, List.getElem?_cons_zero, List.getElem?_cons_succ] at x0 x1 x2
  have hX : TxB w o v k (w.alloc (.cells #[.int .i64 o, .int .i64 v, .int .i64 k] 25)) := ⟨x0, x1, x2, by simp, Below.alloc (Below.refl _ w) (Nat.le_refl _) _⟩
  clear x0 x1 x2
  refine (specExpOk_c o v k _).mono ?_
  rintro e w1 ⟨rfl, hb1⟩
  replace hX := hX.below hb1
  clear hb1
  have hb := hX.bel
  obtain ⟨x0, x1, x2, _, _⟩ := id hX
  by_cases hA : askOk ⟨o, v, k⟩ = false
  · have hno := askV_no hA
    rw [hA]
    go_wp2_with fail
    go_ret
    exact ⟨by rw [hno]; rfl, hb⟩
  · rw [Bool.not_eq_false] at hA
    by_cases ho : o = 0
    · have hno := askV_always hA ho
      rw [hA]
      subst ho
      go_wp2_with fail
      go_ret
      exact ⟨by rw [hno]; rfl, hb⟩
    · have hno := askV_text hA ho
      obtain ⟨⟨ho1, ho3⟩, ⟨hv0, hv2⟩, ⟨hk0, hk9⟩⟩ := askOk_in hA ho
      have hwv : IntKind.i64.wrap (97 + v) = 97 + v := by rcases (show v = 0 ∨ v = 1 ∨ v = 2 by omega) with rfl | rfl | rfl <;> rfl
      have hwu : IntKind.u8.wrap (97 + v) = 97 + v := by rcases (show v = 0 ∨ v = 1 ∨ v = 2 by omega) with rfl | rfl | rfl <;> rfl
      have hl := itoa_len hk0 hk9
      have hl2 : ¬ 9223372036854775807 < 1 + 1 + (Lib.itoa k).length := by omega
      have hl3 : ¬ 9223372036854775807 < 2 + (Lib.itoa k).length := by omega
      have hl4 : 1 + 1 + (Lib.itoa k).length ≤ 9223372036854775807 := by omega
      have hl5 : 2 + (Lib.itoa k).length ≤ 9223372036854775807 := by omega
      have ho0 : 0 ≤ o := by omega
      have ho4 : o < 4 := by omega
      obtain ⟨xo, hxo⟩ : ∃ xo : Int, (if o = 1 then 60 else if o = 2 then 61 else 62) = xo := ⟨_, rfl⟩
      have hxo0 : 0 ≤ xo := by rw [← hxo]; split; · omega
                               split <;> omega
      have hxo1 : xo ≤ 255 := by rw [← hxo]; split; · omega
                                 split <;> omega
      have hco : UInt8.ofNat (if o = 1 then 60 else if o = 2 then 61 else 62) = UInt8.ofNat xo.toNat := by
        rw [← hxo]
        rcases (show o = 1 ∨ o = 2 ∨ o = 3 by omega) with rfl | rfl | rfl <;> rfl
      rw [hco] at hno
      clear hco
      generalize hco : UInt8.ofNat xo.toNat = co at hno
      generalize hcv : UInt8.ofNat (97 + v).toNat = cv at hno
      rw [hA]
      clear hA
      go_wp2_with fail
      have hD := hX.below (Below.drew (Below.refl _ w1))
      refine wp_region_noPanic ?_
      refine wp_region_held_drew (S := fun w' => w'.cell? ⟨w.heap.size, 0, none⟩ = some (.int .i64 o) ∧ w'.cell? ⟨w.heap.size, 1, none⟩ = some (.int .i64 v) ∧ w'.cell? ⟨w.heap.size, 2, none⟩ = some (.int .i64 k)) (by kernel_rfl) ?_ (fun hHeld => ?_)
      · exact ⟨hD.c0, hD.c1, hD.c2⟩
      refine take_yes (i := 0) (v := ?_) rfl (by kernel_rfl) (by kernel_rfl) (by kernel_rfl) (fun _ _ _ h => h) (by kernel_rfl) ?_ (by assumption) ?_
      rotate_left
      · (intro w hSw; (try dsimp only at hSw); go_simp; try with_reducible rfl)
      try simp only [Act.put, List.setIfInBounds_toArray, List.set_cons_zero, List.set_cons_succ]
      refine take_yes (i := 1) (v := ?_) rfl (by kernel_rfl) (by kernel_rfl) (by kernel_rfl) (fun _ _ _ h => h) (by kernel_rfl) ?_ (by assumption) ?_
      rotate_left
      · (intro w hSw; (try dsimp only at hSw); go_simp; try with_reducible rfl)
      try simp only [Act.put, List.setIfInBounds_toArray, List.set_cons_zero, List.set_cons_succ]
      refine take_yes (i := 2) (v := ?_) rfl (by kernel_rfl) (by kernel_rfl) (by kernel_rfl) (fun _ _ _ h => h) (by kernel_rfl) ?_ (by assumption) ?_
      rotate_left
      · (intro w hSw; (try dsimp only at hSw); go_simp; try with_reducible rfl)
      try simp only [Act.put, List.setIfInBounds_toArray, List.set_cons_zero, List.set_cons_succ]
      refine take_yes (i := 3) (v := ?_) rfl (by kernel_rfl) (by kernel_rfl) (by kernel_rfl) (fun _ _ _ h => h) (by kernel_rfl) ?_ (by assumption) ?_
      rotate_left
      · (intro w hSw; (try dsimp only at hSw); go_simp; try with_reducible rfl)
      try simp only [Act.put, List.setIfInBounds_toArray, List.set_cons_zero, List.set_cons_succ]
      refine take_yes (i := 6) (v := ?_) rfl (by kernel_rfl) (by kernel_rfl) (by kernel_rfl) (fun _ _ _ h => h) (by kernel_rfl) ?_ (by assumption) ?_
      rotate_left
      · (intro w hSw; (try dsimp only at hSw); go_simp; try with_reducible rfl)
      try simp only [Act.put, List.setIfInBounds_toArray, List.set_cons_zero, List.set_cons_succ]
      refine take_yes (i := 7) (v := ?_) rfl (by kernel_rfl) (by kernel_rfl) (by kernel_rfl) (fun _ _ _ h => h) (by kernel_rfl) ?_ (by assumption) ?_
      rotate_left
      · (intro w hSw; (try dsimp only at hSw); go_simp; try with_reducible rfl)
      try simp only [Act.put, List.setIfInBounds_toArray, List.set_cons_zero, List.set_cons_succ]
      refine take_yes (i := 8) (v := .int .u8 xo) rfl (by kernel_rfl) (by kernel_rfl) (by kernel_rfl) (fun _ _ _ h => h) (by kernel_rfl) ?_ (by assumption) ?_
      skip
      · (intro w hSw; (try dsimp only at hSw); go_simp; rw [← hxo]; clear hxo hco hxo0 hxo1 hno hSw; rcases (show o = 1 ∨ o = 2 ∨ o = 3 by omega) with rfl | rfl | rfl <;> rfl)
      try simp only [Act.put, List.setIfInBounds_toArray, List.set_cons_zero, List.set_cons_succ]
      refine take_yes (i := 12) (v := ?_) rfl (by kernel_rfl) (by kernel_rfl) (by kernel_rfl) (fun _ _ _ h => h) (by kernel_rfl) ?_ (by assumption) ?_
      rotate_left
      · (intro w hSw; (try dsimp only at hSw); go_simp; try with_reducible rfl)
      try simp only [Act.put, List.setIfInBounds_toArray, List.set_cons_zero, List.set_cons_succ]
      refine take_yes (i := 13) (v := ?_) rfl (by kernel_rfl) (by kernel_rfl) (by kernel_rfl) (fun _ _ _ h => h) (by kernel_rfl) ?_ (by assumption) ?_
      rotate_left
      · (intro w hSw; (try dsimp only at hSw); go_simp; try with_reducible rfl)
      try simp only [Act.put, List.setIfInBounds_toArray, List.set_cons_zero, List.set_cons_succ]
      generalize w1.drew = W0 at hD hHeld ⊢
      refine wpAnyH_ready (rs := [4, 9, 14]) (by kernel_rfl) (by simp) ?_
      refine AllReadyH.cons (of_drop rfl) (fun K hK => ?_) (AllReadyH.cons (of_drop rfl) (fun K hK => ?_) (AllReadyH.cons (of_drop rfl) (fun K hK => ?_) (AllReadyH.nil)))
      · go_simp
        have hX1 := hD.alloc (.cells #[.int .u8 (97 + v)] 5)
        have hP1 := AtB.new W0 (97 + v)
        generalize hg1 : W0.heap.size = b1 at hP1 ⊢
        generalize World.alloc W0 (.cells #[.int .u8 (97 + v)] 5) = W1 at hX1 hP1 ⊢
        clear hg1 hD 
        go_wp2_with fail
        refine hK.out _ _ ?_ (fun hHeld2 => ?_)
        · exact ⟨hX1.c0, hX1.c1, hX1.c2⟩
        clear hK K hHeld
        have hHeld := hHeld2
        clear hHeld2
        try simp only [Act.put, List.setIfInBounds_toArray, List.set_cons_zero, List.set_cons_succ]
        refine wpAnyH_ready (rs := [5, 9, 14]) (by kernel_rfl) (by simp) ?_
        refine AllReadyH.cons (of_drop rfl) (fun K hK => ?_) (AllReadyH.cons (of_drop rfl) (fun K hK => ?_) (AllReadyH.cons (of_drop rfl) (fun K hK => ?_) (AllReadyH.nil)))
        · go_simp
          rw [str1 _ b1 (97 + v) (by omega) (by omega) hP1.c]
          rw [hcv]
          go_wp2_with fail
          refine hK.out _ _ ?_ (fun hHeld2 => ?_)
          · exact ⟨hX1.c0, hX1.c1, hX1.c2⟩
          clear hK K hHeld
          have hHeld := hHeld2
          clear hHeld2
          try simp only [Act.put, List.setIfInBounds_toArray, List.set_cons_zero, List.set_cons_succ]
          refine wpAnyH_ready (rs := [9, 14]) (by kernel_rfl) (by simp) ?_
          refine AllReadyH.cons (of_drop rfl) (fun K hK => ?_) (AllReadyH.cons (of_drop rfl) (fun K hK => ?_) (AllReadyH.nil))
          · go_simp
            have hX3 := hX1.alloc (.cells #[.int .u8 xo] 5)
            have hP3 := AtB.new W1 xo
            generalize hg3 : W1.heap.size = b3 at hP3 ⊢
            generalize World.alloc W1 (.cells #[.int .u8 xo] 5) = W3 at hX3 hP3 ⊢
            clear hg3 hX1 
            go_wp2_with fail
            refine hK.out _ _ ?_ (fun hHeld2 => ?_)
            · exact ⟨hX3.c0, hX3.c1, hX3.c2⟩
            clear hK K hHeld
            have hHeld := hHeld2
            clear hHeld2
            try simp only [Act.put, List.setIfInBounds_toArray, List.set_cons_zero, List.set_cons_succ]
            refine wpAnyH_ready (rs := [10, 14]) (by kernel_rfl) (by simp) ?_
            refine AllReadyH.cons (of_drop rfl) (fun K hK => ?_) (AllReadyH.cons (of_drop rfl) (fun K hK => ?_) (AllReadyH.nil))
            · go_simp
              rw [str1 _ b3 xo (by omega) (by omega) hP3.c]
              rw [hco]
              go_wp2_with fail
              refine hK.out _ _ ?_ (fun hHeld2 => ?_)
              · exact ⟨hX3.c0, hX3.c1, hX3.c2⟩
              clear hK K hHeld
              have hHeld := hHeld2
              clear hHeld2
              try simp only [Act.put, List.setIfInBounds_toArray, List.set_cons_zero, List.set_cons_succ]
              refine take_yes (i := 11) (v := ?_) rfl (by kernel_rfl) (by kernel_rfl) (by kernel_rfl) (fun _ _ _ h => h) (by kernel_rfl) ?_ (by assumption) ?_
              rotate_left
              · (intro w hSw; (try dsimp only at hSw); go_simp; try with_reducible rfl)
              try simp only [Act.put, List.setIfInBounds_toArray, List.set_cons_zero, List.set_cons_succ]
              refine wpAnyH_ready (rs := [14]) (by kernel_rfl) (by simp) ?_
              refine AllReadyH.cons (of_drop rfl) (fun K hK => ?_) (AllReadyH.nil)
              · go_simp
                go_at_call 16
                refine (l1Digits_c k (by omega) (by omega) _).mono ?_
                rintro e W5 ⟨rfl, hbb⟩
                have hX5 := hX3.below hbb
                clear hbb hX3 
                go_wp2_with fail
                refine hK.out _ _ ?_ (fun hHeld2 => ?_)
                · exact ⟨hX5.c0, hX5.c1, hX5.c2⟩
                clear hK K hHeld
                have hHeld := hHeld2
                clear hHeld2
                try simp only [Act.put, List.setIfInBounds_toArray, List.set_cons_zero, List.set_cons_succ]
                refine take_yes (i := 15) (v := ?_) rfl (by kernel_rfl) (by kernel_rfl) (by kernel_rfl) (fun _ _ _ h => h) (by kernel_rfl) ?_ (by assumption) ?_
                rotate_left
                · (intro w hSw; (try dsimp only at hSw); go_simp; try with_reducible rfl)
                try simp only [Act.put, List.setIfInBounds_toArray, List.set_cons_zero, List.set_cons_succ]
                refine take_yes (i := 16) (v := ?_) rfl (by kernel_rfl) (by kernel_rfl) (by kernel_rfl) (fun _ _ _ h => h) (by kernel_rfl) ?_ (by assumption) ?_
                rotate_left
                · (intro w hSw; (try dsimp only at hSw); go_simp; try with_reducible rfl)
                try simp only [Act.put, List.setIfInBounds_toArray, List.set_cons_zero, List.set_cons_succ]
                refine wpAnyH_done (by kernel_rfl) ?_ _
                refine NoPanic.normal ?_
                go_wp2_with fail
                refine bodyPost_ret (v := .string ⟨(cv :: co :: Lib.itoa k).toArray⟩) (by simp [results, Tryd.results6, go_sem, str_app]) rfl ⟨by rw [hno], hX5.bel⟩
            · go_simp
              go_at_call 16
              refine (l1Digits_c k (by omega) (by omega) _).mono ?_
              rintro e W6 ⟨rfl, hbb⟩
              have hX6 := hX3.below hbb
              have hP6q9 := hP3.below hbb
              clear hbb hX3 hP3
              go_wp2_with fail
              refine hK.out _ _ ?_ (fun hHeld2 => ?_)
              · exact ⟨hX6.c0, hX6.c1, hX6.c2⟩
              clear hK K hHeld
              have hHeld := hHeld2
              clear hHeld2
              try simp only [Act.put, List.setIfInBounds_toArray, List.set_cons_zero, List.set_cons_succ]
              refine wpAnyH_ready (rs := [10]) (by kernel_rfl) (by simp) ?_
              refine AllReadyH.cons (of_drop rfl) (fun K hK => ?_) (AllReadyH.nil)
              · go_simp
                rw [str1 _ b3 xo (by omega) (by omega) hP6q9.c]
                rw [hco]
                go_wp2_with fail
                refine hK.out _ _ ?_ (fun hHeld2 => ?_)
                · exact ⟨hX6.c0, hX6.c1, hX6.c2⟩
                clear hK K hHeld
                have hHeld := hHeld2
                clear hHeld2
                try simp only [Act.put, List.setIfInBounds_toArray, List.set_cons_zero, List.set_cons_succ]
                refine take_yes (i := 11) (v := ?_) rfl (by kernel_rfl) (by kernel_rfl) (by kernel_rfl) (fun _ _ _ h => h) (by kernel_rfl) ?_ (by assumption) ?_
                rotate_left
                · (intro w hSw; (try dsimp only at hSw); go_simp; try with_reducible rfl)
                try simp only [Act.put, List.setIfInBounds_toArray, List.set_cons_zero, List.set_cons_succ]
                refine take_yes (i := 15) (v := ?_) rfl (by kernel_rfl) (by kernel_rfl) (by kernel_rfl) (fun _ _ _ h => h) (by kernel_rfl) ?_ (by assumption) ?_
                rotate_left
                · (intro w hSw; (try dsimp only at hSw); go_simp; try with_reducible rfl)
                try simp only [Act.put, List.setIfInBounds_toArray, List.set_cons_zero, List.set_cons_succ]
                refine take_yes (i := 16) (v := ?_) rfl (by kernel_rfl) (by kernel_rfl) (by kernel_rfl) (fun _ _ _ h => h) (by kernel_rfl) ?_ (by assumption) ?_
                rotate_left
                · (intro w hSw; (try dsimp only at hSw); go_simp; try with_reducible rfl)
                try simp only [Act.put, List.setIfInBounds_toArray, List.set_cons_zero, List.set_cons_succ]
                refine wpAnyH_done (by kernel_rfl) ?_ _
                refine NoPanic.normal ?_
                go_wp2_with fail
                refine bodyPost_ret (v := .string ⟨(cv :: co :: Lib.itoa k).toArray⟩) (by simp [results, Tryd.results6, go_sem, str_app]) rfl ⟨by rw [hno], hX6.bel⟩
          · go_simp
            go_at_call 16
            refine (l1Digits_c k (by omega) (by omega) _).mono ?_
            rintro e W8 ⟨rfl, hbb⟩
            have hX8 := hX1.below hbb
            clear hbb hX1 
            go_wp2_with fail
            refine hK.out _ _ ?_ (fun hHeld2 => ?_)
            · exact ⟨hX8.c0, hX8.c1, hX8.c2⟩
            clear hK K hHeld
            have hHeld := hHeld2
            clear hHeld2
            try simp only [Act.put, List.setIfInBounds_toArray, List.set_cons_zero, List.set_cons_succ]
            refine wpAnyH_ready (rs := [9]) (by kernel_rfl) (by simp) ?_
            refine AllReadyH.cons (of_drop rfl) (fun K hK => ?_) (AllReadyH.nil)
            · go_simp
              have hX9 := hX8.alloc (.cells #[.int .u8 xo] 5)
              have hP9 := AtB.new W8 xo
              generalize hg9 : W8.heap.size = b9 at hP9 ⊢
              generalize World.alloc W8 (.cells #[.int .u8 xo] 5) = W9 at hX9 hP9 ⊢
              clear hg9 hX8 
              go_wp2_with fail
              refine hK.out _ _ ?_ (fun hHeld2 => ?_)
              · exact ⟨hX9.c0, hX9.c1, hX9.c2⟩
              clear hK K hHeld
              have hHeld := hHeld2
              clear hHeld2
              try simp only [Act.put, List.setIfInBounds_toArray, List.set_cons_zero, List.set_cons_succ]
              refine wpAnyH_ready (rs := [10]) (by kernel_rfl) (by simp) ?_
              refine AllReadyH.cons (of_drop rfl) (fun K hK => ?_) (AllReadyH.nil)
              · go_simp
                rw [str1 _ b9 xo (by omega) (by omega) hP9.c]
                rw [hco]
                go_wp2_with fail
                refine hK.out _ _ ?_ (fun hHeld2 => ?_)
                · exact ⟨hX9.c0, hX9.c1, hX9.c2⟩
                clear hK K hHeld
                have hHeld := hHeld2
                clear hHeld2
                try simp only [Act.put, List.setIfInBounds_toArray, List.set_cons_zero, List.set_cons_succ]
                refine take_yes (i := 11) (v := ?_) rfl (by kernel_rfl) (by kernel_rfl) (by kernel_rfl) (fun _ _ _ h => h) (by kernel_rfl) ?_ (by assumption) ?_
                rotate_left
                · (intro w hSw; (try dsimp only at hSw); go_simp; try with_reducible rfl)
                try simp only [Act.put, List.setIfInBounds_toArray, List.set_cons_zero, List.set_cons_succ]
                refine take_yes (i := 15) (v := ?_) rfl (by kernel_rfl) (by kernel_rfl) (by kernel_rfl) (fun _ _ _ h => h) (by kernel_rfl) ?_ (by assumption) ?_
                rotate_left
                · (intro w hSw; (try dsimp only at hSw); go_simp; try with_reducible rfl)
                try simp only [Act.put, List.setIfInBounds_toArray, List.set_cons_zero, List.set_cons_succ]
                refine take_yes (i := 16) (v := ?_) rfl (by kernel_rfl) (by kernel_rfl) (by kernel_rfl) (fun _ _ _ h => h) (by kernel_rfl) ?_ (by assumption) ?_
                rotate_left
                · (intro w hSw; (try dsimp only at hSw); go_simp; try with_reducible rfl)
                try simp only [Act.put, List.setIfInBounds_toArray, List.set_cons_zero, List.set_cons_succ]
                refine wpAnyH_done (by kernel_rfl) ?_ _
                refine NoPanic.normal ?_
                go_wp2_with fail
                refine bodyPost_ret (v := .string ⟨(cv :: co :: Lib.itoa k).toArray⟩) (by simp [results, Tryd.results6, go_sem, str_app]) rfl ⟨by rw [hno], hX9.bel⟩
        · go_simp
          have hX11 := hX1.alloc (.cells #[.int .u8 xo] 5)
          have hP11 := AtB.new W1 xo
          have hP11q4 := hP1.alloc (.cells #[.int .u8 xo] 5)
          generalize hg11 : W1.heap.size = b11 at hP11 ⊢
          generalize World.alloc W1 (.cells #[.int .u8 xo] 5) = W11 at hX11 hP11 hP11q4 ⊢
          clear hg11 hX1 hP1
          go_wp2_with fail
          refine hK.out _ _ ?_ (fun hHeld2 => ?_)
          · exact ⟨hX11.c0, hX11.c1, hX11.c2⟩
          clear hK K hHeld
          have hHeld := hHeld2
          clear hHeld2
          try simp only [Act.put, List.setIfInBounds_toArray, List.set_cons_zero, List.set_cons_succ]
          refine wpAnyH_ready (rs := [5, 10, 14]) (by kernel_rfl) (by simp) ?_
          refine AllReadyH.cons (of_drop rfl) (fun K hK => ?_) (AllReadyH.cons (of_drop rfl) (fun K hK => ?_) (AllReadyH.cons (of_drop rfl) (fun K hK => ?_) (AllReadyH.nil)))
          · go_simp
            rw [str1 _ b1 (97 + v) (by omega) (by omega) hP11q4.c]
            rw [hcv]
            go_wp2_with fail
            refine hK.out _ _ ?_ (fun hHeld2 => ?_)
            · exact ⟨hX11.c0, hX11.c1, hX11.c2⟩
            clear hK K hHeld
            have hHeld := hHeld2
            clear hHeld2
            try simp only [Act.put, List.setIfInBounds_toArray, List.set_cons_zero, List.set_cons_succ]
            refine wpAnyH_ready (rs := [10, 14]) (by kernel_rfl) (by simp) ?_
            refine AllReadyH.cons (of_drop rfl) (fun K hK => ?_) (AllReadyH.cons (of_drop rfl) (fun K hK => ?_) (AllReadyH.nil))
            · go_simp
              rw [str1 _ b11 xo (by omega) (by omega) hP11.c]
              rw [hco]
              go_wp2_with fail
              refine hK.out _ _ ?_ (fun hHeld2 => ?_)
              · exact ⟨hX11.c0, hX11.c1, hX11.c2⟩
              clear hK K hHeld
              have hHeld := hHeld2
              clear hHeld2
              try simp only [Act.put, List.setIfInBounds_toArray, List.set_cons_zero, List.set_cons_succ]
              refine take_yes (i := 11) (v := ?_) rfl (by kernel_rfl) (by kernel_rfl) (by kernel_rfl) (fun _ _ _ h => h) (by kernel_rfl) ?_ (by assumption) ?_
              rotate_left
              · (intro w hSw; (try dsimp only at hSw); go_simp; try with_reducible rfl)
              try simp only [Act.put, List.setIfInBounds_toArray, List.set_cons_zero, List.set_cons_succ]
              refine wpAnyH_ready (rs := [14]) (by kernel_rfl) (by simp) ?_
              refine AllReadyH.cons (of_drop rfl) (fun K hK => ?_) (AllReadyH.nil)
              · go_simp
                go_at_call 16
                refine (l1Digits_c k (by omega) (by omega) _).mono ?_
                rintro e W14 ⟨rfl, hbb⟩
                have hX14 := hX11.below hbb
                clear hbb hX11 
                go_wp2_with fail
                refine hK.out _ _ ?_ (fun hHeld2 => ?_)
                · exact ⟨hX14.c0, hX14.c1, hX14.c2⟩
                clear hK K hHeld
                have hHeld := hHeld2
                clear hHeld2
                try simp only [Act.put, List.setIfInBounds_toArray, List.set_cons_zero, List.set_cons_succ]
                refine take_yes (i := 15) (v := ?_) rfl (by kernel_rfl) (by kernel_rfl) (by kernel_rfl) (fun _ _ _ h => h) (by kernel_rfl) ?_ (by assumption) ?_
                rotate_left
                · (intro w hSw; (try dsimp only at hSw); go_simp; try with_reducible rfl)
                try simp only [Act.put, List.setIfInBounds_toArray, List.set_cons_zero, List.set_cons_succ]
                refine take_yes (i := 16) (v := ?_) rfl (by kernel_rfl) (by kernel_rfl) (by kernel_rfl) (fun _ _ _ h => h) (by kernel_rfl) ?_ (by assumption) ?_
                rotate_left
                · (intro w hSw; (try dsimp only at hSw); go_simp; try with_reducible rfl)
                try simp only [Act.put, List.setIfInBounds_toArray, List.set_cons_zero, List.set_cons_succ]
                refine wpAnyH_done (by kernel_rfl) ?_ _
                refine NoPanic.normal ?_
                go_wp2_with fail
                refine bodyPost_ret (v := .string ⟨(cv :: co :: Lib.itoa k).toArray⟩) (by simp [results, Tryd.results6, go_sem, str_app]) rfl ⟨by rw [hno], hX14.bel⟩
            · go_simp
              go_at_call 16
              refine (l1Digits_c k (by omega) (by omega) _).mono ?_
              rintro e W15 ⟨rfl, hbb⟩
              have hX15 := hX11.below hbb
              have hP15q9 := hP11.below hbb
              clear hbb hX11 hP11
              go_wp2_with fail
              refine hK.out _ _ ?_ (fun hHeld2 => ?_)
              · exact ⟨hX15.c0, hX15.c1, hX15.c2⟩
              clear hK K hHeld
              have hHeld := hHeld2
              clear hHeld2
              try simp only [Act.put, List.setIfInBounds_toArray, List.set_cons_zero, List.set_cons_succ]
              refine wpAnyH_ready (rs := [10]) (by kernel_rfl) (by simp) ?_
              refine AllReadyH.cons (of_drop rfl) (fun K hK => ?_) (AllReadyH.nil)
              · go_simp
                rw [str1 _ b11 xo (by omega) (by omega) hP15q9.c]
                rw [hco]
                go_wp2_with fail
                refine hK.out _ _ ?_ (fun hHeld2 => ?_)
                · exact ⟨hX15.c0, hX15.c1, hX15.c2⟩
                clear hK K hHeld
                have hHeld := hHeld2
                clear hHeld2
                try simp only [Act.put, List.setIfInBounds_toArray, List.set_cons_zero, List.set_cons_succ]
                refine take_yes (i := 11) (v := ?_) rfl (by kernel_rfl) (by kernel_rfl) (by kernel_rfl) (fun _ _ _ h => h) (by kernel_rfl) ?_ (by assumption) ?_
                rotate_left
                · (intro w hSw; (try dsimp only at hSw); go_simp; try with_reducible rfl)
                try simp only [Act.put, List.setIfInBounds_toArray, List.set_cons_zero, List.set_cons_succ]
                refine take_yes (i := 15) (v := ?_) rfl (by kernel_rfl) (by kernel_rfl) (by kernel_rfl) (fun _ _ _ h => h) (by kernel_rfl) ?_ (by assumption) ?_
                rotate_left
                · (intro w hSw; (try dsimp only at hSw); go_simp; try with_reducible rfl)
                try simp only [Act.put, List.setIfInBounds_toArray, List.set_cons_zero, List.set_cons_succ]
                refine take_yes (i := 16) (v := ?_) rfl (by kernel_rfl) (by kernel_rfl) (by kernel_rfl) (fun _ _ _ h => h) (by kernel_rfl) ?_ (by assumption) ?_
                rotate_left
                · (intro w hSw; (try dsimp only at hSw); go_simp; try with_reducible rfl)
                try simp only [Act.put, List.setIfInBounds_toArray, List.set_cons_zero, List.set_cons_succ]
                refine wpAnyH_done (by kernel_rfl) ?_ _
                refine NoPanic.normal ?_
                go_wp2_with fail
                refine bodyPost_ret (v := .string ⟨(cv :: co :: Lib.itoa k).toArray⟩) (by simp [results, Tryd.results6, go_sem, str_app]) rfl ⟨by rw [hno], hX15.bel⟩
          · go_simp
            rw [str1 _ b11 xo (by omega) (by omega) hP11.c]
            rw [hco]
            go_wp2_with fail
            refine hK.out _ _ ?_ (fun hHeld2 => ?_)
            · exact ⟨hX11.c0, hX11.c1, hX11.c2⟩
            clear hK K hHeld
            have hHeld := hHeld2
            clear hHeld2
            try simp only [Act.put, List.setIfInBounds_toArray, List.set_cons_zero, List.set_cons_succ]
            refine wpAnyH_ready (rs := [5, 14]) (by kernel_rfl) (by simp) ?_
            refine AllReadyH.cons (of_drop rfl) (fun K hK => ?_) (AllReadyH.cons (of_drop rfl) (fun K hK => ?_) (AllReadyH.nil))
            · go_simp
              rw [str1 _ b1 (97 + v) (by omega) (by omega) hP11q4.c]
              rw [hcv]
              go_wp2_with fail
              refine hK.out _ _ ?_ (fun hHeld2 => ?_)
              · exact ⟨hX11.c0, hX11.c1, hX11.c2⟩
              clear hK K hHeld
              have hHeld := hHeld2
              clear hHeld2
              try simp only [Act.put, List.setIfInBounds_toArray, List.set_cons_zero, List.set_cons_succ]
              refine take_yes (i := 11) (v := ?_) rfl (by kernel_rfl) (by kernel_rfl) (by kernel_rfl) (fun _ _ _ h => h) (by kernel_rfl) ?_ (by assumption) ?_
              rotate_left
              · (intro w hSw; (try dsimp only at hSw); go_simp; try with_reducible rfl)
              try simp only [Act.put, List.setIfInBounds_toArray, List.set_cons_zero, List.set_cons_succ]
              refine wpAnyH_ready (rs := [14]) (by kernel_rfl) (by simp) ?_
              refine AllReadyH.cons (of_drop rfl) (fun K hK => ?_) (AllReadyH.nil)
              · go_simp
                go_at_call 16
                refine (l1Digits_c k (by omega) (by omega) _).mono ?_
                rintro e W19 ⟨rfl, hbb⟩
                have hX19 := hX11.below hbb
                clear hbb hX11 
                go_wp2_with fail
                refine hK.out _ _ ?_ (fun hHeld2 => ?_)
                · exact ⟨hX19.c0, hX19.c1, hX19.c2⟩
                clear hK K hHeld
                have hHeld := hHeld2
                clear hHeld2
                try simp only [Act.put, List.setIfInBounds_toArray, List.set_cons_zero, List.set_cons_succ]
                refine take_yes (i := 15) (v := ?_) rfl (by kernel_rfl) (by kernel_rfl) (by kernel_rfl) (fun _ _ _ h => h) (by kernel_rfl) ?_ (by assumption) ?_
                rotate_left
                · (intro w hSw; (try dsimp only at hSw); go_simp; try with_reducible rfl)
                try simp only [Act.put, List.setIfInBounds_toArray, List.set_cons_zero, List.set_cons_succ]
                refine take_yes (i := 16) (v := ?_) rfl (by kernel_rfl) (by kernel_rfl) (by kernel_rfl) (fun _ _ _ h => h) (by kernel_rfl) ?_ (by assumption) ?_
                rotate_left
                · (intro w hSw; (try dsimp only at hSw); go_simp; try with_reducible rfl)
                try simp only [Act.put, List.setIfInBounds_toArray, List.set_cons_zero, List.set_cons_succ]
                refine wpAnyH_done (by kernel_rfl) ?_ _
                refine NoPanic.normal ?_
                go_wp2_with fail
                refine bodyPost_ret (v := .string ⟨(cv :: co :: Lib.itoa k).toArray⟩) (by simp [results, Tryd.results6, go_sem, str_app]) rfl ⟨by rw [hno], hX19.bel⟩
            · go_simp
              go_at_call 16
              refine (l1Digits_c k (by omega) (by omega) _).mono ?_
              rintro e W20 ⟨rfl, hbb⟩
              have hX20 := hX11.below hbb
              have hP20q4 := hP11q4.below hbb
              clear hbb hX11 hP11q4
              go_wp2_with fail
              refine hK.out _ _ ?_ (fun hHeld2 => ?_)
              · exact ⟨hX20.c0, hX20.c1, hX20.c2⟩
              clear hK K hHeld
              have hHeld := hHeld2
              clear hHeld2
              try simp only [Act.put, List.setIfInBounds_toArray, List.set_cons_zero, List.set_cons_succ]
              refine wpAnyH_ready (rs := [5]) (by kernel_rfl) (by simp) ?_
              refine AllReadyH.cons (of_drop rfl) (fun K hK => ?_) (AllReadyH.nil)
              · go_simp
                rw [str1 _ b1 (97 + v) (by omega) (by omega) hP20q4.c]
                rw [hcv]
                go_wp2_with fail
                refine hK.out _ _ ?_ (fun hHeld2 => ?_)
                · exact ⟨hX20.c0, hX20.c1, hX20.c2⟩
                clear hK K hHeld
                have hHeld := hHeld2
                clear hHeld2
                try simp only [Act.put, List.setIfInBounds_toArray, List.set_cons_zero, List.set_cons_succ]
                refine take_yes (i := 11) (v := ?_) rfl (by kernel_rfl) (by kernel_rfl) (by kernel_rfl) (fun _ _ _ h => h) (by kernel_rfl) ?_ (by assumption) ?_
                rotate_left
                · (intro w hSw; (try dsimp only at hSw); go_simp; try with_reducible rfl)
                try simp only [Act.put, List.setIfInBounds_toArray, List.set_cons_zero, List.set_cons_succ]
                refine take_yes (i := 15) (v := ?_) rfl (by kernel_rfl) (by kernel_rfl) (by kernel_rfl) (fun _ _ _ h => h) (by kernel_rfl) ?_ (by assumption) ?_
                rotate_left
                · (intro w hSw; (try dsimp only at hSw); go_simp; try with_reducible rfl)
                try simp only [Act.put, List.setIfInBounds_toArray, List.set_cons_zero, List.set_cons_succ]
                refine take_yes (i := 16) (v := ?_) rfl (by kernel_rfl) (by kernel_rfl) (by kernel_rfl) (fun _ _ _ h => h) (by kernel_rfl) ?_ (by assumption) ?_
                rotate_left
                · (intro w hSw; (try dsimp only at hSw); go_simp; try with_reducible rfl)
                try simp only [Act.put, List.setIfInBounds_toArray, List.set_cons_zero, List.set_cons_succ]
                refine wpAnyH_done (by kernel_rfl) ?_ _
                refine NoPanic.normal ?_
                go_wp2_with fail
                refine bodyPost_ret (v := .string ⟨(cv :: co :: Lib.itoa k).toArray⟩) (by simp [results, Tryd.results6, go_sem, str_app]) rfl ⟨by rw [hno], hX20.bel⟩
          · go_simp
            go_at_call 16
            refine (l1Digits_c k (by omega) (by omega) _).mono ?_
            rintro e W22 ⟨rfl, hbb⟩
            have hX22 := hX11.below hbb
            have hP22q4 := hP11q4.below hbb
            have hP22q9 := hP11.below hbb
            clear hbb hX11 hP11q4 hP11
            go_wp2_with fail
            refine hK.out _ _ ?_ (fun hHeld2 => ?_)
            · exact ⟨hX22.c0, hX22.c1, hX22.c2⟩
            clear hK K hHeld
            have hHeld := hHeld2
            clear hHeld2
            try simp only [Act.put, List.setIfInBounds_toArray, List.set_cons_zero, List.set_cons_succ]
            refine wpAnyH_ready (rs := [5, 10]) (by kernel_rfl) (by simp) ?_
            refine AllReadyH.cons (of_drop rfl) (fun K hK => ?_) (AllReadyH.cons (of_drop rfl) (fun K hK => ?_) (AllReadyH.nil))
            · go_simp
              rw [str1 _ b1 (97 + v) (by omega) (by omega) hP22q4.c]
              rw [hcv]
              go_wp2_with fail
              refine hK.out _ _ ?_ (fun hHeld2 => ?_)
              · exact ⟨hX22.c0, hX22.c1, hX22.c2⟩
              clear hK K hHeld
              have hHeld := hHeld2
              clear hHeld2
              try simp only [Act.put, List.setIfInBounds_toArray, List.set_cons_zero, List.set_cons_succ]
              refine wpAnyH_ready (rs := [10]) (by kernel_rfl) (by simp) ?_
              refine AllReadyH.cons (of_drop rfl) (fun K hK => ?_) (AllReadyH.nil)
              · go_simp
                rw [str1 _ b11 xo (by omega) (by omega) hP22q9.c]
                rw [hco]
                go_wp2_with fail
                refine hK.out _ _ ?_ (fun hHeld2 => ?_)
                · exact ⟨hX22.c0, hX22.c1, hX22.c2⟩
                clear hK K hHeld
                have hHeld := hHeld2
                clear hHeld2
                try simp only [Act.put, List.setIfInBounds_toArray, List.set_cons_zero, List.set_cons_succ]
                refine take_yes (i := 11) (v := ?_) rfl (by kernel_rfl) (by kernel_rfl) (by kernel_rfl) (fun _ _ _ h => h) (by kernel_rfl) ?_ (by assumption) ?_
                rotate_left
                · (intro w hSw; (try dsimp only at hSw); go_simp; try with_reducible rfl)
                try simp only [Act.put, List.setIfInBounds_toArray, List.set_cons_zero, List.set_cons_succ]
                refine take_yes (i := 15) (v := ?_) rfl (by kernel_rfl) (by kernel_rfl) (by kernel_rfl) (fun _ _ _ h => h) (by kernel_rfl) ?_ (by assumption) ?_
                rotate_left
                · (intro w hSw; (try dsimp only at hSw); go_simp; try with_reducible rfl)
                try simp only [Act.put, List.setIfInBounds_toArray, List.set_cons_zero, List.set_cons_succ]
                refine take_yes (i := 16) (v := ?_) rfl (by kernel_rfl) (by kernel_rfl) (by kernel_rfl) (fun _ _ _ h => h) (by kernel_rfl) ?_ (by assumption) ?_
                rotate_left
                · (intro w hSw; (try dsimp only at hSw); go_simp; try with_reducible rfl)
                try simp only [Act.put, List.setIfInBounds_toArray, List.set_cons_zero, List.set_cons_succ]
                refine wpAnyH_done (by kernel_rfl) ?_ _
                refine NoPanic.normal ?_
                go_wp2_with fail
                refine bodyPost_ret (v := .string ⟨(cv :: co :: Lib.itoa k).toArray⟩) (by simp [results, Tryd.results6, go_sem, str_app]) rfl ⟨by rw [hno], hX22.bel⟩
            · go_simp
              rw [str1 _ b11 xo (by omega) (by omega) hP22q9.c]
              rw [hco]
              go_wp2_with fail
              refine hK.out _ _ ?_ (fun hHeld2 => ?_)
              · exact ⟨hX22.c0, hX22.c1, hX22.c2⟩
              clear hK K hHeld
              have hHeld := hHeld2
              clear hHeld2
              try simp only [Act.put, List.setIfInBounds_toArray, List.set_cons_zero, List.set_cons_succ]
              refine wpAnyH_ready (rs := [5]) (by kernel_rfl) (by simp) ?_
              refine AllReadyH.cons (of_drop rfl) (fun K hK => ?_) (AllReadyH.nil)
              · go_simp
                rw [str1 _ b1 (97 + v) (by omega) (by omega) hP22q4.c]
                rw [hcv]
                go_wp2_with fail
                refine hK.out _ _ ?_ (fun hHeld2 => ?_)
                · exact ⟨hX22.c0, hX22.c1, hX22.c2⟩
                clear hK K hHeld
                have hHeld := hHeld2
                clear hHeld2
                try simp only [Act.put, List.setIfInBounds_toArray, List.set_cons_zero, List.set_cons_succ]
                refine take_yes (i := 11) (v := ?_) rfl (by kernel_rfl) (by kernel_rfl) (by kernel_rfl) (fun _ _ _ h => h) (by kernel_rfl) ?_ (by assumption) ?_
                rotate_left
                · (intro w hSw; (try dsimp only at hSw); go_simp; try with_reducible rfl)
                try simp only [Act.put, List.setIfInBounds_toArray, List.set_cons_zero, List.set_cons_succ]
                refine take_yes (i := 15) (v := ?_) rfl (by kernel_rfl) (by kernel_rfl) (by kernel_rfl) (fun _ _ _ h => h) (by kernel_rfl) ?_ (by assumption) ?_
                rotate_left
                · (intro w hSw; (try dsimp only at hSw); go_simp; try with_reducible rfl)
                try simp only [Act.put, List.setIfInBounds_toArray, List.set_cons_zero, List.set_cons_succ]
                refine take_yes (i := 16) (v := ?_) rfl (by kernel_rfl) (by kernel_rfl) (by kernel_rfl) (fun _ _ _ h => h) (by kernel_rfl) ?_ (by assumption) ?_
                rotate_left
                · (intro w hSw; (try dsimp only at hSw); go_simp; try with_reducible rfl)
                try simp only [Act.put, List.setIfInBounds_toArray, List.set_cons_zero, List.set_cons_succ]
                refine wpAnyH_done (by kernel_rfl) ?_ _
                refine NoPanic.normal ?_
                go_wp2_with fail
                refine bodyPost_ret (v := .string ⟨(cv :: co :: Lib.itoa k).toArray⟩) (by simp [results, Tryd.results6, go_sem, str_app]) rfl ⟨by rw [hno], hX22.bel⟩
        · go_simp
          go_at_call 16
          refine (l1Digits_c k (by omega) (by omega) _).mono ?_
          rintro e W27 ⟨rfl, hbb⟩
          have hX27 := hX1.below hbb
          have hP27q4 := hP1.below hbb
          clear hbb hX1 hP1
          go_wp2_with fail
          refine hK.out _ _ ?_ (fun hHeld2 => ?_)
          · exact ⟨hX27.c0, hX27.c1, hX27.c2⟩
          clear hK K hHeld
          have hHeld := hHeld2
          clear hHeld2
          try simp only [Act.put, List.setIfInBounds_toArray, List.set_cons_zero, List.set_cons_succ]
          refine wpAnyH_ready (rs := [5, 9]) (by kernel_rfl) (by simp) ?_
          refine AllReadyH.cons (of_drop rfl) (fun K hK => ?_) (AllReadyH.cons (of_drop rfl) (fun K hK => ?_) (AllReadyH.nil))
          · go_simp
            rw [str1 _ b1 (97 + v) (by omega) (by omega) hP27q4.c]
            rw [hcv]
            go_wp2_with fail
            refine hK.out _ _ ?_ (fun hHeld2 => ?_)
            · exact ⟨hX27.c0, hX27.c1, hX27.c2⟩
            clear hK K hHeld
            have hHeld := hHeld2
            clear hHeld2
            try simp only [Act.put, List.setIfInBounds_toArray, List.set_cons_zero, List.set_cons_succ]
            refine wpAnyH_ready (rs := [9]) (by kernel_rfl) (by simp) ?_
            refine AllReadyH.cons (of_drop rfl) (fun K hK => ?_) (AllReadyH.nil)
            · go_simp
              have hX29 := hX27.alloc (.cells #[.int .u8 xo] 5)
              have hP29 := AtB.new W27 xo
              generalize hg29 : W27.heap.size = b29 at hP29 ⊢
              generalize World.alloc W27 (.cells #[.int .u8 xo] 5) = W29 at hX29 hP29 ⊢
              clear hg29 hX27 
              go_wp2_with fail
              refine hK.out _ _ ?_ (fun hHeld2 => ?_)
              · exact ⟨hX29.c0, hX29.c1, hX29.c2⟩
              clear hK K hHeld
              have hHeld := hHeld2
              clear hHeld2
              try simp only [Act.put, List.setIfInBounds_toArray, List.set_cons_zero, List.set_cons_succ]
              refine wpAnyH_ready (rs := [10]) (by kernel_rfl) (by simp) ?_
              refine AllReadyH.cons (of_drop rfl) (fun K hK => ?_) (AllReadyH.nil)
              · go_simp
                rw [str1 _ b29 xo (by omega) (by omega) hP29.c]
                rw [hco]
                go_wp2_with fail
                refine hK.out _ _ ?_ (fun hHeld2 => ?_)
                · exact ⟨hX29.c0, hX29.c1, hX29.c2⟩
                clear hK K hHeld
                have hHeld := hHeld2
                clear hHeld2
                try simp only [Act.put, List.setIfInBounds_toArray, List.set_cons_zero, List.set_cons_succ]
                refine take_yes (i := 11) (v := ?_) rfl (by kernel_rfl) (by kernel_rfl) (by kernel_rfl) (fun _ _ _ h => h) (by kernel_rfl) ?_ (by assumption) ?_
                rotate_left
                · (intro w hSw; (try dsimp only at hSw); go_simp; try with_reducible rfl)
                try simp only [Act.put, List.setIfInBounds_toArray, List.set_cons_zero, List.set_cons_succ]
                refine take_yes (i := 15) (v := ?_) rfl (by kernel_rfl) (by kernel_rfl) (by kernel_rfl) (fun _ _ _ h => h) (by kernel_rfl) ?_ (by assumption) ?_
                rotate_left
                · (intro w hSw; (try dsimp only at hSw); go_simp; try with_reducible rfl)
                try simp only [Act.put, List.setIfInBounds_toArray, List.set_cons_zero, List.set_cons_succ]
                refine take_yes (i := 16) (v := ?_) rfl (by kernel_rfl) (by kernel_rfl) (by kernel_rfl) (fun _ _ _ h => h) (by kernel_rfl) ?_ (by assumption) ?_
                rotate_left
                · (intro w hSw; (try dsimp only at hSw); go_simp; try with_reducible rfl)
                try simp only [Act.put, List.setIfInBounds_toArray, List.set_cons_zero, List.set_cons_succ]
                refine wpAnyH_done (by kernel_rfl) ?_ _
                refine NoPanic.normal ?_
                go_wp2_with fail
                refine bodyPost_ret (v := .string ⟨(cv :: co :: Lib.itoa k).toArray⟩) (by simp [results, Tryd.results6, go_sem, str_app]) rfl ⟨by rw [hno], hX29.bel⟩
          · go_simp
            have hX31 := hX27.alloc (.cells #[.int .u8 xo] 5)
            have hP31 := AtB.new W27 xo
            have hP31q4 := hP27q4.alloc (.cells #[.int .u8 xo] 5)
            generalize hg31 : W27.heap.size = b31 at hP31 ⊢
            generalize World.alloc W27 (.cells #[.int .u8 xo] 5) = W31 at hX31 hP31 hP31q4 ⊢
            clear hg31 hX27 hP27q4
            go_wp2_with fail
            refine hK.out _ _ ?_ (fun hHeld2 => ?_)
            · exact ⟨hX31.c0, hX31.c1, hX31.c2⟩
            clear hK K hHeld
            have hHeld := hHeld2
            clear hHeld2
            try simp only [Act.put, List.setIfInBounds_toArray, List.set_cons_zero, List.set_cons_succ]
            refine wpAnyH_ready (rs := [5, 10]) (by kernel_rfl) (by simp) ?_
            refine AllReadyH.cons (of_drop rfl) (fun K hK => ?_) (AllReadyH.cons (of_drop rfl) (fun K hK => ?_) (AllReadyH.nil))
            · go_simp
              rw [str1 _ b1 (97 + v) (by omega) (by omega) hP31q4.c]
              rw [hcv]
              go_wp2_with fail
              refine hK.out _ _ ?_ (fun hHeld2 => ?_)
              · exact ⟨hX31.c0, hX31.c1, hX31.c2⟩
              clear hK K hHeld
              have hHeld := hHeld2
              clear hHeld2
              try simp only [Act.put, List.setIfInBounds_toArray, List.set_cons_zero, List.set_cons_succ]
              refine wpAnyH_ready (rs := [10]) (by kernel_rfl) (by simp) ?_
              refine AllReadyH.cons (of_drop rfl) (fun K hK => ?_) (AllReadyH.nil)
              · go_simp
                rw [str1 _ b31 xo (by omega) (by omega) hP31.c]
                rw [hco]
                go_wp2_with fail
                refine hK.out _ _ ?_ (fun hHeld2 => ?_)
                · exact ⟨hX31.c0, hX31.c1, hX31.c2⟩
                clear hK K hHeld
                have hHeld := hHeld2
                clear hHeld2
                try simp only [Act.put, List.setIfInBounds_toArray, List.set_cons_zero, List.set_cons_succ]
                refine take_yes (i := 11) (v := ?_) rfl (by kernel_rfl) (by kernel_rfl) (by kernel_rfl) (fun _ _ _ h => h) (by kernel_rfl) ?_ (by assumption) ?_
                rotate_left
                · (intro w hSw; (try dsimp only at hSw); go_simp; try with_reducible rfl)
                try simp only [Act.put, List.setIfInBounds_toArray, List.set_cons_zero, List.set_cons_succ]
                refine take_yes (i := 15) (v := ?_) rfl (by kernel_rfl) (by kernel_rfl) (by kernel_rfl) (fun _ _ _ h => h) (by kernel_rfl) ?_ (by assumption) ?_
                rotate_left
                · (intro w hSw; (try dsimp only at hSw); go_simp; try with_reducible rfl)
                try simp only [Act.put, List.setIfInBounds_toArray, List.set_cons_zero, List.set_cons_succ]
                refine take_yes (i := 16) (v := ?_) rfl (by kernel_rfl) (by kernel_rfl) (by kernel_rfl) (fun _ _ _ h => h) (by kernel_rfl) ?_ (by assumption) ?_
                rotate_left
                · (intro w hSw; (try dsimp only at hSw); go_simp; try with_reducible rfl)
                try simp only [Act.put, List.setIfInBounds_toArray, List.set_cons_zero, List.set_cons_succ]
                refine wpAnyH_done (by kernel_rfl) ?_ _
                refine NoPanic.normal ?_
                go_wp2_with fail
                refine bodyPost_ret (v := .string ⟨(cv :: co :: Lib.itoa k).toArray⟩) (by simp [results, Tryd.results6, go_sem, str_app]) rfl ⟨by rw [hno], hX31.bel⟩
            · go_simp
              rw [str1 _ b31 xo (by omega) (by omega) hP31.c]
              rw [hco]
              go_wp2_with fail
              refine hK.out _ _ ?_ (fun hHeld2 => ?_)
              · exact ⟨hX31.c0, hX31.c1, hX31.c2⟩
              clear hK K hHeld
              have hHeld := hHeld2
              clear hHeld2
              try simp only [Act.put, List.setIfInBounds_toArray, List.set_cons_zero, List.set_cons_succ]
              refine wpAnyH_ready (rs := [5]) (by kernel_rfl) (by simp) ?_
              refine AllReadyH.cons (of_drop rfl) (fun K hK => ?_) (AllReadyH.nil)
              · go_simp
                rw [str1 _ b1 (97 + v) (by omega) (by omega) hP31q4.c]
                rw [hcv]
                go_wp2_with fail
                refine hK.out _ _ ?_ (fun hHeld2 => ?_)
                · exact ⟨hX31.c0, hX31.c1, hX31.c2⟩
                clear hK K hHeld
                have hHeld := hHeld2
                clear hHeld2
                try simp only [Act.put, List.setIfInBounds_toArray, List.set_cons_zero, List.set_cons_succ]
                refine take_yes (i := 11) (v := ?_) rfl (by kernel_rfl) (by kernel_rfl) (by kernel_rfl) (fun _ _ _ h => h) (by kernel_rfl) ?_ (by assumption) ?_
                rotate_left
                · (intro w hSw; (try dsimp only at hSw); go_simp; try with_reducible rfl)
                try simp only [Act.put, List.setIfInBounds_toArray, List.set_cons_zero, List.set_cons_succ]
                refine take_yes (i := 15) (v := ?_) rfl (by kernel_rfl) (by kernel_rfl) (by kernel_rfl) (fun _ _ _ h => h) (by kernel_rfl) ?_ (by assumption) ?_
                rotate_left
                · (intro w hSw; (try dsimp only at hSw); go_simp; try with_reducible rfl)
                try simp only [Act.put, List.setIfInBounds_toArray, List.set_cons_zero, List.set_cons_succ]
                refine take_yes (i := 16) (v := ?_) rfl (by kernel_rfl) (by kernel_rfl) (by kernel_rfl) (fun _ _ _ h => h) (by kernel_rfl) ?_ (by assumption) ?_
                rotate_left
                · (intro w hSw; (try dsimp only at hSw); go_simp; try with_reducible rfl)
                try simp only [Act.put, List.setIfInBounds_toArray, List.set_cons_zero, List.set_cons_succ]
                refine wpAnyH_done (by kernel_rfl) ?_ _
                refine NoPanic.normal ?_
                go_wp2_with fail
                refine bodyPost_ret (v := .string ⟨(cv :: co :: Lib.itoa k).toArray⟩) (by simp [results, Tryd.results6, go_sem, str_app]) rfl ⟨by rw [hno], hX31.bel⟩
      · go_simp
        have hX36 := hD.alloc (.cells #[.int .u8 xo] 5)
        have hP36 := AtB.new W0 xo
        generalize hg36 : W0.heap.size = b36 at hP36 ⊢
        generalize World.alloc W0 (.cells #[.int .u8 xo] 5) = W36 at hX36 hP36 ⊢
        clear hg36 hD 
        go_wp2_with fail
        refine hK.out _ _ ?_ (fun hHeld2 => ?_)
        · exact ⟨hX36.c0, hX36.c1, hX36.c2⟩
        clear hK K hHeld
        have hHeld := hHeld2
        clear hHeld2
        try simp only [Act.put, List.setIfInBounds_toArray, List.set_cons_zero, List.set_cons_succ]
        refine wpAnyH_ready (rs := [4, 10, 14]) (by kernel_rfl) (by simp) ?_
        refine AllReadyH.cons (of_drop rfl) (fun K hK => ?_) (AllReadyH.cons (of_drop rfl) (fun K hK => ?_) (AllReadyH.cons (of_drop rfl) (fun K hK => ?_) (AllReadyH.nil)))
        · go_simp
          have hX37 := hX36.alloc (.cells #[.int .u8 (97 + v)] 5)
          have hP37 := AtB.new W36 (97 + v)
          have hP37q9 := hP36.alloc (.cells #[.int .u8 (97 + v)] 5)
          generalize hg37 : W36.heap.size = b37 at hP37 ⊢
          generalize World.alloc W36 (.cells #[.int .u8 (97 + v)] 5) = W37 at hX37 hP37 hP37q9 ⊢
          clear hg37 hX36 hP36
          go_wp2_with fail
          refine hK.out _ _ ?_ (fun hHeld2 => ?_)
          · exact ⟨hX37.c0, hX37.c1, hX37.c2⟩
          clear hK K hHeld
          have hHeld := hHeld2
          clear hHeld2
          try simp only [Act.put, List.setIfInBounds_toArray, List.set_cons_zero, List.set_cons_succ]
          refine wpAnyH_ready (rs := [5, 10, 14]) (by kernel_rfl) (by simp) ?_
          refine AllReadyH.cons (of_drop rfl) (fun K hK => ?_) (AllReadyH.cons (of_drop rfl) (fun K hK => ?_) (AllReadyH.cons (of_drop rfl) (fun K hK => ?_) (AllReadyH.nil)))
          · go_simp
            rw [str1 _ b37 (97 + v) (by omega) (by omega) hP37.c]
            rw [hcv]
            go_wp2_with fail
            refine hK.out _ _ ?_ (fun hHeld2 => ?_)
            · exact ⟨hX37.c0, hX37.c1, hX37.c2⟩
            clear hK K hHeld
            have hHeld := hHeld2
            clear hHeld2
            try simp only [Act.put, List.setIfInBounds_toArray, List.set_cons_zero, List.set_cons_succ]
            refine wpAnyH_ready (rs := [10, 14]) (by kernel_rfl) (by simp) ?_
            refine AllReadyH.cons (of_drop rfl) (fun K hK => ?_) (AllReadyH.cons (of_drop rfl) (fun K hK => ?_) (AllReadyH.nil))
            · go_simp
              rw [str1 _ b36 xo (by omega) (by omega) hP37q9.c]
              rw [hco]
              go_wp2_with fail
              refine hK.out _ _ ?_ (fun hHeld2 => ?_)
              · exact ⟨hX37.c0, hX37.c1, hX37.c2⟩
              clear hK K hHeld
              have hHeld := hHeld2
              clear hHeld2
              try simp only [Act.put, List.setIfInBounds_toArray, List.set_cons_zero, List.set_cons_succ]
              refine take_yes (i := 11) (v := ?_) rfl (by kernel_rfl) (by kernel_rfl) (by kernel_rfl) (fun _ _ _ h => h) (by kernel_rfl) ?_ (by assumption) ?_
              rotate_left
              · (intro w hSw; (try dsimp only at hSw); go_simp; try with_reducible rfl)
              try simp only [Act.put, List.setIfInBounds_toArray, List.set_cons_zero, List.set_cons_succ]
              refine wpAnyH_ready (rs := [14]) (by kernel_rfl) (by simp) ?_
              refine AllReadyH.cons (of_drop rfl) (fun K hK => ?_) (AllReadyH.nil)
              · go_simp
                go_at_call 16
                refine (l1Digits_c k (by omega) (by omega) _).mono ?_
                rintro e W40 ⟨rfl, hbb⟩
                have hX40 := hX37.below hbb
                clear hbb hX37 
                go_wp2_with fail
                refine hK.out _ _ ?_ (fun hHeld2 => ?_)
                · exact ⟨hX40.c0, hX40.c1, hX40.c2⟩
                clear hK K hHeld
                have hHeld := hHeld2
                clear hHeld2
                try simp only [Act.put, List.setIfInBounds_toArray, List.set_cons_zero, List.set_cons_succ]
                refine take_yes (i := 15) (v := ?_) rfl (by kernel_rfl) (by kernel_rfl) (by kernel_rfl) (fun _ _ _ h => h) (by kernel_rfl) ?_ (by assumption) ?_
                rotate_left
                · (intro w hSw; (try dsimp only at hSw); go_simp; try with_reducible rfl)
                try simp only [Act.put, List.setIfInBounds_toArray, List.set_cons_zero, List.set_cons_succ]
                refine take_yes (i := 16) (v := ?_) rfl (by kernel_rfl) (by kernel_rfl) (by kernel_rfl) (fun _ _ _ h => h) (by kernel_rfl) ?_ (by assumption) ?_
                rotate_left
                · (intro w hSw; (try dsimp only at hSw); go_simp; try with_reducible rfl)
                try simp only [Act.put, List.setIfInBounds_toArray, List.set_cons_zero, List.set_cons_succ]
                refine wpAnyH_done (by kernel_rfl) ?_ _
                refine NoPanic.normal ?_
                go_wp2_with fail
                refine bodyPost_ret (v := .string ⟨(cv :: co :: Lib.itoa k).toArray⟩) (by simp [results, Tryd.results6, go_sem, str_app]) rfl ⟨by rw [hno], hX40.bel⟩
            · go_simp
              go_at_call 16
              refine (l1Digits_c k (by omega) (by omega) _).mono ?_
              rintro e W41 ⟨rfl, hbb⟩
              have hX41 := hX37.below hbb
              have hP41q9 := hP37q9.below hbb
              clear hbb hX37 hP37q9
              go_wp2_with fail
              refine hK.out _ _ ?_ (fun hHeld2 => ?_)
              · exact ⟨hX41.c0, hX41.c1, hX41.c2⟩
              clear hK K hHeld
              have hHeld := hHeld2
              clear hHeld2
              try simp only [Act.put, List.setIfInBounds_toArray, List.set_cons_zero, List.set_cons_succ]
              refine wpAnyH_ready (rs := [10]) (by kernel_rfl) (by simp) ?_
              refine AllReadyH.cons (of_drop rfl) (fun K hK => ?_) (AllReadyH.nil)
              · go_simp
                rw [str1 _ b36 xo (by omega) (by omega) hP41q9.c]
                rw [hco]
                go_wp2_with fail
                refine hK.out _ _ ?_ (fun hHeld2 => ?_)
                · exact ⟨hX41.c0, hX41.c1, hX41.c2⟩
                clear hK K hHeld
                have hHeld := hHeld2
                clear hHeld2
                try simp only [Act.put, List.setIfInBounds_toArray, List.set_cons_zero, List.set_cons_succ]
                refine take_yes (i := 11) (v := ?_) rfl (by kernel_rfl) (by kernel_rfl) (by kernel_rfl) (fun _ _ _ h => h) (by kernel_rfl) ?_ (by assumption) ?_
                rotate_left
                · (intro w hSw; (try dsimp only at hSw); go_simp; try with_reducible rfl)
                try simp only [Act.put, List.setIfInBounds_toArray, List.set_cons_zero, List.set_cons_succ]
                refine take_yes (i := 15) (v := ?_) rfl (by kernel_rfl) (by kernel_rfl) (by kernel_rfl) (fun _ _ _ h => h) (by kernel_rfl) ?_ (by assumption) ?_
                rotate_left
                · (intro w hSw; (try dsimp only at hSw); go_simp; try with_reducible rfl)
                try simp only [Act.put, List.setIfInBounds_toArray, List.set_cons_zero, List.set_cons_succ]
                refine take_yes (i := 16) (v := ?_) rfl (by kernel_rfl) (by kernel_rfl) (by kernel_rfl) (fun _ _ _ h => h) (by kernel_rfl) ?_ (by assumption) ?_
                rotate_left
                · (intro w hSw; (try dsimp only at hSw); go_simp; try with_reducible rfl)
                try simp only [Act.put, List.setIfInBounds_toArray, List.set_cons_zero, List.set_cons_succ]
                refine wpAnyH_done (by kernel_rfl) ?_ _
                refine NoPanic.normal ?_
                go_wp2_with fail
                refine bodyPost_ret (v := .string ⟨(cv :: co :: Lib.itoa k).toArray⟩) (by simp [results, Tryd.results6, go_sem, str_app]) rfl ⟨by rw [hno], hX41.bel⟩
          · go_simp
            rw [str1 _ b36 xo (by omega) (by omega) hP37q9.c]
            rw [hco]
            go_wp2_with fail
            refine hK.out _ _ ?_ (fun hHeld2 => ?_)
            · exact ⟨hX37.c0, hX37.c1, hX37.c2⟩
            clear hK K hHeld
            have hHeld := hHeld2
            clear hHeld2
            try simp only [Act.put, List.setIfInBounds_toArray, List.set_cons_zero, List.set_cons_succ]
            refine wpAnyH_ready (rs := [5, 14]) (by kernel_rfl) (by simp) ?_
            refine AllReadyH.cons (of_drop rfl) (fun K hK => ?_) (AllReadyH.cons (of_drop rfl) (fun K hK => ?_) (AllReadyH.nil))
            · go_simp
              rw [str1 _ b37 (97 + v) (by omega) (by omega) hP37.c]
              rw [hcv]
              go_wp2_with fail
              refine hK.out _ _ ?_ (fun hHeld2 => ?_)
              · exact ⟨hX37.c0, hX37.c1, hX37.c2⟩
              clear hK K hHeld
              have hHeld := hHeld2
              clear hHeld2
              try simp only [Act.put, List.setIfInBounds_toArray, List.set_cons_zero, List.set_cons_succ]
              refine take_yes (i := 11) (v := ?_) rfl (by kernel_rfl) (by kernel_rfl) (by kernel_rfl) (fun _ _ _ h => h) (by kernel_rfl) ?_ (by assumption) ?_
              rotate_left
              · (intro w hSw; (try dsimp only at hSw); go_simp; try with_reducible rfl)
              try simp only [Act.put, List.setIfInBounds_toArray, List.set_cons_zero, List.set_cons_succ]
              refine wpAnyH_ready (rs := [14]) (by kernel_rfl) (by simp) ?_
              refine AllReadyH.cons (of_drop rfl) (fun K hK => ?_) (AllReadyH.nil)
              · go_simp
                go_at_call 16
                refine (l1Digits_c k (by omega) (by omega) _).mono ?_
                rintro e W45 ⟨rfl, hbb⟩
                have hX45 := hX37.below hbb
                clear hbb hX37 
                go_wp2_with fail
                refine hK.out _ _ ?_ (fun hHeld2 => ?_)
                · exact ⟨hX45.c0, hX45.c1, hX45.c2⟩
                clear hK K hHeld
                have hHeld := hHeld2
                clear hHeld2
                try simp only [Act.put, List.setIfInBounds_toArray, List.set_cons_zero, List.set_cons_succ]
                refine take_yes (i := 15) (v := ?_) rfl (by kernel_rfl) (by kernel_rfl) (by kernel_rfl) (fun _ _ _ h => h) (by kernel_rfl) ?_ (by assumption) ?_
                rotate_left
                · (intro w hSw; (try dsimp only at hSw); go_simp; try with_reducible rfl)
                try simp only [Act.put, List.setIfInBounds_toArray, List.set_cons_zero, List.set_cons_succ]
                refine take_yes (i := 16) (v := ?_) rfl (by kernel_rfl) (by kernel_rfl) (by kernel_rfl) (fun _ _ _ h => h) (by kernel_rfl) ?_ (by assumption) ?_
                rotate_left
                · (intro w hSw; (try dsimp only at hSw); go_simp; try with_reducible rfl)
                try simp only [Act.put, List.setIfInBounds_toArray, List.set_cons_zero, List.set_cons_succ]
                refine wpAnyH_done (by kernel_rfl) ?_ _
                refine NoPanic.normal ?_
                go_wp2_with fail
                refine bodyPost_ret (v := .string ⟨(cv :: co :: Lib.itoa k).toArray⟩) (by simp [results, Tryd.results6, go_sem, str_app]) rfl ⟨by rw [hno], hX45.bel⟩
            · go_simp
              go_at_call 16
              refine (l1Digits_c k (by omega) (by omega) _).mono ?_
              rintro e W46 ⟨rfl, hbb⟩
              have hX46 := hX37.below hbb
              have hP46q4 := hP37.below hbb
              clear hbb hX37 hP37
              go_wp2_with fail
              refine hK.out _ _ ?_ (fun hHeld2 => ?_)
              · exact ⟨hX46.c0, hX46.c1, hX46.c2⟩
              clear hK K hHeld
              have hHeld := hHeld2
              clear hHeld2
              try simp only [Act.put, List.setIfInBounds_toArray, List.set_cons_zero, List.set_cons_succ]
              refine wpAnyH_ready (rs := [5]) (by kernel_rfl) (by simp) ?_
              refine AllReadyH.cons (of_drop rfl) (fun K hK => ?_) (AllReadyH.nil)
              · go_simp
                rw [str1 _ b37 (97 + v) (by omega) (by omega) hP46q4.c]
                rw [hcv]
                go_wp2_with fail
                refine hK.out _ _ ?_ (fun hHeld2 => ?_)
                · exact ⟨hX46.c0, hX46.c1, hX46.c2⟩
                clear hK K hHeld
                have hHeld := hHeld2
                clear hHeld2
                try simp only [Act.put, List.setIfInBounds_toArray, List.set_cons_zero, List.set_cons_succ]
                refine take_yes (i := 11) (v := ?_) rfl (by kernel_rfl) (by kernel_rfl) (by kernel_rfl) (fun _ _ _ h => h) (by kernel_rfl) ?_ (by assumption) ?_
                rotate_left
                · (intro w hSw; (try dsimp only at hSw); go_simp; try with_reducible rfl)
                try simp only [Act.put, List.setIfInBounds_toArray, List.set_cons_zero, List.set_cons_succ]
                refine take_yes (i := 15) (v := ?_) rfl (by kernel_rfl) (by kernel_rfl) (by kernel_rfl) (fun _ _ _ h => h) (by kernel_rfl) ?_ (by assumption) ?_
                rotate_left
                · (intro w hSw; (try dsimp only at hSw); go_simp; try with_reducible rfl)
                try simp only [Act.put, List.setIfInBounds_toArray, List.set_cons_zero, List.set_cons_succ]
                refine take_yes (i := 16) (v := ?_) rfl (by kernel_rfl) (by kernel_rfl) (by kernel_rfl) (fun _ _ _ h => h) (by kernel_rfl) ?_ (by assumption) ?_
                rotate_left
                · (intro w hSw; (try dsimp only at hSw); go_simp; try with_reducible rfl)
                try simp only [Act.put, List.setIfInBounds_toArray, List.set_cons_zero, List.set_cons_succ]
                refine wpAnyH_done (by kernel_rfl) ?_ _
                refine NoPanic.normal ?_
                go_wp2_with fail
                refine bodyPost_ret (v := .string ⟨(cv :: co :: Lib.itoa k).toArray⟩) (by simp [results, Tryd.results6, go_sem, str_app]) rfl ⟨by rw [hno], hX46.bel⟩
          · go_simp
            go_at_call 16
            refine (l1Digits_c k (by omega) (by omega) _).mono ?_
            rintro e W48 ⟨rfl, hbb⟩
            have hX48 := hX37.below hbb
            have hP48q9 := hP37q9.below hbb
            have hP48q4 := hP37.below hbb
            clear hbb hX37 hP37q9 hP37
            go_wp2_with fail
            refine hK.out _ _ ?_ (fun hHeld2 => ?_)
            · exact ⟨hX48.c0, hX48.c1, hX48.c2⟩
            clear hK K hHeld
            have hHeld := hHeld2
            clear hHeld2
            try simp only [Act.put, List.setIfInBounds_toArray, List.set_cons_zero, List.set_cons_succ]
            refine wpAnyH_ready (rs := [5, 10]) (by kernel_rfl) (by simp) ?_
            refine AllReadyH.cons (of_drop rfl) (fun K hK => ?_) (AllReadyH.cons (of_drop rfl) (fun K hK => ?_) (AllReadyH.nil))
            · go_simp
              rw [str1 _ b37 (97 + v) (by omega) (by omega) hP48q4.c]
              rw [hcv]
              go_wp2_with fail
              refine hK.out _ _ ?_ (fun hHeld2 => ?_)
              · exact ⟨hX48.c0, hX48.c1, hX48.c2⟩
              clear hK K hHeld
              have hHeld := hHeld2
              clear hHeld2
              try simp only [Act.put, List.setIfInBounds_toArray, List.set_cons_zero, List.set_cons_succ]
              refine wpAnyH_ready (rs := [10]) (by kernel_rfl) (by simp) ?_
              refine AllReadyH.cons (of_drop rfl) (fun K hK => ?_) (AllReadyH.nil)
              · go_simp
                rw [str1 _ b36 xo (by omega) (by omega) hP48q9.c]
                rw [hco]
                go_wp2_with fail
                refine hK.out _ _ ?_ (fun hHeld2 => ?_)
                · exact ⟨hX48.c0, hX48.c1, hX48.c2⟩
                clear hK K hHeld
                have hHeld := hHeld2
                clear hHeld2
                try simp only [Act.put, List.setIfInBounds_toArray, List.set_cons_zero, List.set_cons_succ]
                refine take_yes (i := 11) (v := ?_) rfl (by kernel_rfl) (by kernel_rfl) (by kernel_rfl) (fun _ _ _ h => h) (by kernel_rfl) ?_ (by assumption) ?_
                rotate_left
                · (intro w hSw; (try dsimp only at hSw); go_simp; try with_reducible rfl)
                try simp only [Act.put, List.setIfInBounds_toArray, List.set_cons_zero, List.set_cons_succ]
                refine take_yes (i := 15) (v := ?_) rfl (by kernel_rfl) (by kernel_rfl) (by kernel_rfl) (fun _ _ _ h => h) (by kernel_rfl) ?_ (by assumption) ?_
                rotate_left
                · (intro w hSw; (try dsimp only at hSw); go_simp; try with_reducible rfl)
                try simp only [Act.put, List.setIfInBounds_toArray, List.set_cons_zero, List.set_cons_succ]
                refine take_yes (i := 16) (v := ?_) rfl (by kernel_rfl) (by kernel_rfl) (by kernel_rfl) (fun _ _ _ h => h) (by kernel_rfl) ?_ (by assumption) ?_
                rotate_left
                · (intro w hSw; (try dsimp only at hSw); go_simp; try with_reducible rfl)
                try simp only [Act.put, List.setIfInBounds_toArray, List.set_cons_zero, List.set_cons_succ]
                refine wpAnyH_done (by kernel_rfl) ?_ _
                refine NoPanic.normal ?_
                go_wp2_with fail
                refine bodyPost_ret (v := .string ⟨(cv :: co :: Lib.itoa k).toArray⟩) (by simp [results, Tryd.results6, go_sem, str_app]) rfl ⟨by rw [hno], hX48.bel⟩
            · go_simp
              rw [str1 _ b36 xo (by omega) (by omega) hP48q9.c]
              rw [hco]
              go_wp2_with fail
              refine hK.out _ _ ?_ (fun hHeld2 => ?_)
              · exact ⟨hX48.c0, hX48.c1, hX48.c2⟩
              clear hK K hHeld
              have hHeld := hHeld2
              clear hHeld2
              try simp only [Act.put, List.setIfInBounds_toArray, List.set_cons_zero, List.set_cons_succ]
              refine wpAnyH_ready (rs := [5]) (by kernel_rfl) (by simp) ?_
              refine AllReadyH.cons (of_drop rfl) (fun K hK => ?_) (AllReadyH.nil)
              · go_simp
                rw [str1 _ b37 (97 + v) (by omega) (by omega) hP48q4.c]
                rw [hcv]
                go_wp2_with fail
                refine hK.out _ _ ?_ (fun hHeld2 => ?_)
                · exact ⟨hX48.c0, hX48.c1, hX48.c2⟩
                clear hK K hHeld
                have hHeld := hHeld2
                clear hHeld2
                try simp only [Act.put, List.setIfInBounds_toArray, List.set_cons_zero, List.set_cons_succ]
                refine take_yes (i := 11) (v := ?_) rfl (by kernel_rfl) (by kernel_rfl) (by kernel_rfl) (fun _ _ _ h => h) (by kernel_rfl) ?_ (by assumption) ?_
                rotate_left
                · (intro w hSw; (try dsimp only at hSw); go_simp; try with_reducible rfl)
                try simp only [Act.put, List.setIfInBounds_toArray, List.set_cons_zero, List.set_cons_succ]
                refine take_yes (i := 15) (v := ?_) rfl (by kernel_rfl) (by kernel_rfl) (by kernel_rfl) (fun _ _ _ h => h) (by kernel_rfl) ?_ (by assumption) ?_
                rotate_left
                · (intro w hSw; (try dsimp only at hSw); go_simp; try with_reducible rfl)
                try simp only [Act.put, List.setIfInBounds_toArray, List.set_cons_zero, List.set_cons_succ]
                refine take_yes (i := 16) (v := ?_) rfl (by kernel_rfl) (by kernel_rfl) (by kernel_rfl) (fun _ _ _ h => h) (by kernel_rfl) ?_ (by assumption) ?_
                rotate_left
                · (intro w hSw; (try dsimp only at hSw); go_simp; try with_reducible rfl)
                try simp only [Act.put, List.setIfInBounds_toArray, List.set_cons_zero, List.set_cons_succ]
                refine wpAnyH_done (by kernel_rfl) ?_ _
                refine NoPanic.normal ?_
                go_wp2_with fail
                refine bodyPost_ret (v := .string ⟨(cv :: co :: Lib.itoa k).toArray⟩) (by simp [results, Tryd.results6, go_sem, str_app]) rfl ⟨by rw [hno], hX48.bel⟩
        · go_simp
          rw [str1 _ b36 xo (by omega) (by omega) hP36.c]
          rw [hco]
          go_wp2_with fail
          refine hK.out _ _ ?_ (fun hHeld2 => ?_)
          · exact ⟨hX36.c0, hX36.c1, hX36.c2⟩
          clear hK K hHeld
          have hHeld := hHeld2
          clear hHeld2
          try simp only [Act.put, List.setIfInBounds_toArray, List.set_cons_zero, List.set_cons_succ]
          refine wpAnyH_ready (rs := [4, 14]) (by kernel_rfl) (by simp) ?_
          refine AllReadyH.cons (of_drop rfl) (fun K hK => ?_) (AllReadyH.cons (of_drop rfl) (fun K hK => ?_) (AllReadyH.nil))
          · go_simp
            have hX54 := hX36.alloc (.cells #[.int .u8 (97 + v)] 5)
            have hP54 := AtB.new W36 (97 + v)
            generalize hg54 : W36.heap.size = b54 at hP54 ⊢
            generalize World.alloc W36 (.cells #[.int .u8 (97 + v)] 5) = W54 at hX54 hP54 ⊢
            clear hg54 hX36 
            go_wp2_with fail
            refine hK.out _ _ ?_ (fun hHeld2 => ?_)
            · exact ⟨hX54.c0, hX54.c1, hX54.c2⟩
            clear hK K hHeld
            have hHeld := hHeld2
            clear hHeld2
            try simp only [Act.put, List.setIfInBounds_toArray, List.set_cons_zero, List.set_cons_succ]
            refine wpAnyH_ready (rs := [5, 14]) (by kernel_rfl) (by simp) ?_
            refine AllReadyH.cons (of_drop rfl) (fun K hK => ?_) (AllReadyH.cons (of_drop rfl) (fun K hK => ?_) (AllReadyH.nil))
            · go_simp
              rw [str1 _ b54 (97 + v) (by omega) (by omega) hP54.c]
              rw [hcv]
              go_wp2_with fail
              refine hK.out _ _ ?_ (fun hHeld2 => ?_)
              · exact ⟨hX54.c0, hX54.c1, hX54.c2⟩
              clear hK K hHeld
              have hHeld := hHeld2
              clear hHeld2
              try simp only [Act.put, List.setIfInBounds_toArray, List.set_cons_zero, List.set_cons_succ]
              refine take_yes (i := 11) (v := ?_) rfl (by kernel_rfl) (by kernel_rfl) (by kernel_rfl) (fun _ _ _ h => h) (by kernel_rfl) ?_ (by assumption) ?_
              rotate_left
              · (intro w hSw; (try dsimp only at hSw); go_simp; try with_reducible rfl)
              try simp only [Act.put, List.setIfInBounds_toArray, List.set_cons_zero, List.set_cons_succ]
              refine wpAnyH_ready (rs := [14]) (by kernel_rfl) (by simp) ?_
              refine AllReadyH.cons (of_drop rfl) (fun K hK => ?_) (AllReadyH.nil)
              · go_simp
                go_at_call 16
                refine (l1Digits_c k (by omega) (by omega) _).mono ?_
                rintro e W56 ⟨rfl, hbb⟩
                have hX56 := hX54.below hbb
                clear hbb hX54 
                go_wp2_with fail
                refine hK.out _ _ ?_ (fun hHeld2 => ?_)
                · exact ⟨hX56.c0, hX56.c1, hX56.c2⟩
                clear hK K hHeld
                have hHeld := hHeld2
                clear hHeld2
                try simp only [Act.put, List.setIfInBounds_toArray, List.set_cons_zero, List.set_cons_succ]
                refine take_yes (i := 15) (v := ?_) rfl (by kernel_rfl) (by kernel_rfl) (by kernel_rfl) (fun _ _ _ h => h) (by kernel_rfl) ?_ (by assumption) ?_
                rotate_left
                · (intro w hSw; (try dsimp only at hSw); go_simp; try with_reducible rfl)
                try simp only [Act.put, List.setIfInBounds_toArray, List.set_cons_zero, List.set_cons_succ]
                refine take_yes (i := 16) (v := ?_) rfl (by kernel_rfl) (by kernel_rfl) (by kernel_rfl) (fun _ _ _ h => h) (by kernel_rfl) ?_ (by assumption) ?_
                rotate_left
                · (intro w hSw; (try dsimp only at hSw); go_simp; try with_reducible rfl)
                try simp only [Act.put, List.setIfInBounds_toArray, List.set_cons_zero, List.set_cons_succ]
                refine wpAnyH_done (by kernel_rfl) ?_ _
                refine NoPanic.normal ?_
                go_wp2_with fail
                refine bodyPost_ret (v := .string ⟨(cv :: co :: Lib.itoa k).toArray⟩) (by simp [results, Tryd.results6, go_sem, str_app]) rfl ⟨by rw [hno], hX56.bel⟩
            · go_simp
              go_at_call 16
              refine (l1Digits_c k (by omega) (by omega) _).mono ?_
              rintro e W57 ⟨rfl, hbb⟩
              have hX57 := hX54.below hbb
              have hP57q4 := hP54.below hbb
              clear hbb hX54 hP54
              go_wp2_with fail
              refine hK.out _ _ ?_ (fun hHeld2 => ?_)
              · exact ⟨hX57.c0, hX57.c1, hX57.c2⟩
              clear hK K hHeld
              have hHeld := hHeld2
              clear hHeld2
              try simp only [Act.put, List.setIfInBounds_toArray, List.set_cons_zero, List.set_cons_succ]
              refine wpAnyH_ready (rs := [5]) (by kernel_rfl) (by simp) ?_
              refine AllReadyH.cons (of_drop rfl) (fun K hK => ?_) (AllReadyH.nil)
              · go_simp
                rw [str1 _ b54 (97 + v) (by omega) (by omega) hP57q4.c]
                rw [hcv]
                go_wp2_with fail
                refine hK.out _ _ ?_ (fun hHeld2 => ?_)
                · exact ⟨hX57.c0, hX57.c1, hX57.c2⟩
                clear hK K hHeld
                have hHeld := hHeld2
                clear hHeld2
                try simp only [Act.put, List.setIfInBounds_toArray, List.set_cons_zero, List.set_cons_succ]
                refine take_yes (i := 11) (v := ?_) rfl (by kernel_rfl) (by kernel_rfl) (by kernel_rfl) (fun _ _ _ h => h) (by kernel_rfl) ?_ (by assumption) ?_
                rotate_left
                · (intro w hSw; (try dsimp only at hSw); go_simp; try with_reducible rfl)
                try simp only [Act.put, List.setIfInBounds_toArray, List.set_cons_zero, List.set_cons_succ]
                refine take_yes (i := 15) (v := ?_) rfl (by kernel_rfl) (by kernel_rfl) (by kernel_rfl) (fun _ _ _ h => h) (by kernel_rfl) ?_ (by assumption) ?_
                rotate_left
                · (intro w hSw; (try dsimp only at hSw); go_simp; try with_reducible rfl)
                try simp only [Act.put, List.setIfInBounds_toArray, List.set_cons_zero, List.set_cons_succ]
                refine take_yes (i := 16) (v := ?_) rfl (by kernel_rfl) (by kernel_rfl) (by kernel_rfl) (fun _ _ _ h => h) (by kernel_rfl) ?_ (by assumption) ?_
                rotate_left
                · (intro w hSw; (try dsimp only at hSw); go_simp; try with_reducible rfl)
                try simp only [Act.put, List.setIfInBounds_toArray, List.set_cons_zero, List.set_cons_succ]
                refine wpAnyH_done (by kernel_rfl) ?_ _
                refine NoPanic.normal ?_
                go_wp2_with fail
                refine bodyPost_ret (v := .string ⟨(cv :: co :: Lib.itoa k).toArray⟩) (by simp [results, Tryd.results6, go_sem, str_app]) rfl ⟨by rw [hno], hX57.bel⟩
          · go_simp
            go_at_call 16
            refine (l1Digits_c k (by omega) (by omega) _).mono ?_
            rintro e W59 ⟨rfl, hbb⟩
            have hX59 := hX36.below hbb
            clear hbb hX36 
            go_wp2_with fail
            refine hK.out _ _ ?_ (fun hHeld2 => ?_)
            · exact ⟨hX59.c0, hX59.c1, hX59.c2⟩
            clear hK K hHeld
            have hHeld := hHeld2
            clear hHeld2
            try simp only [Act.put, List.setIfInBounds_toArray, List.set_cons_zero, List.set_cons_succ]
            refine wpAnyH_ready (rs := [4]) (by kernel_rfl) (by simp) ?_
            refine AllReadyH.cons (of_drop rfl) (fun K hK => ?_) (AllReadyH.nil)
            · go_simp
              have hX60 := hX59.alloc (.cells #[.int .u8 (97 + v)] 5)
              have hP60 := AtB.new W59 (97 + v)
              generalize hg60 : W59.heap.size = b60 at hP60 ⊢
              generalize World.alloc W59 (.cells #[.int .u8 (97 + v)] 5) = W60 at hX60 hP60 ⊢
              clear hg60 hX59 
              go_wp2_with fail
              refine hK.out _ _ ?_ (fun hHeld2 => ?_)
              · exact ⟨hX60.c0, hX60.c1, hX60.c2⟩
              clear hK K hHeld
              have hHeld := hHeld2
              clear hHeld2
              try simp only [Act.put, List.setIfInBounds_toArray, List.set_cons_zero, List.set_cons_succ]
              refine wpAnyH_ready (rs := [5]) (by kernel_rfl) (by simp) ?_
              refine AllReadyH.cons (of_drop rfl) (fun K hK => ?_) (AllReadyH.nil)
              · go_simp
                rw [str1 _ b60 (97 + v) (by omega) (by omega) hP60.c]
                rw [hcv]
                go_wp2_with fail
                refine hK.out _ _ ?_ (fun hHeld2 => ?_)
                · exact ⟨hX60.c0, hX60.c1, hX60.c2⟩
                clear hK K hHeld
                have hHeld := hHeld2
                clear hHeld2
                try simp only [Act.put, List.setIfInBounds_toArray, List.set_cons_zero, List.set_cons_succ]
                refine take_yes (i := 11) (v := ?_) rfl (by kernel_rfl) (by kernel_rfl) (by kernel_rfl) (fun _ _ _ h => h) (by kernel_rfl) ?_ (by assumption) ?_
                rotate_left
                · (intro w hSw; (try dsimp only at hSw); go_simp; try with_reducible rfl)
                try simp only [Act.put, List.setIfInBounds_toArray, List.set_cons_zero, List.set_cons_succ]
                refine take_yes (i := 15) (v := ?_) rfl (by kernel_rfl) (by kernel_rfl) (by kernel_rfl) (fun _ _ _ h => h) (by kernel_rfl) ?_ (by assumption) ?_
                rotate_left
                · (intro w hSw; (try dsimp only at hSw); go_simp; try with_reducible rfl)
                try simp only [Act.put, List.setIfInBounds_toArray, List.set_cons_zero, List.set_cons_succ]
                refine take_yes (i := 16) (v := ?_) rfl (by kernel_rfl) (by kernel_rfl) (by kernel_rfl) (fun _ _ _ h => h) (by kernel_rfl) ?_ (by assumption) ?_
                rotate_left
                · (intro w hSw; (try dsimp only at hSw); go_simp; try with_reducible rfl)
                try simp only [Act.put, List.setIfInBounds_toArray, List.set_cons_zero, List.set_cons_succ]
                refine wpAnyH_done (by kernel_rfl) ?_ _
                refine NoPanic.normal ?_
                go_wp2_with fail
                refine bodyPost_ret (v := .string ⟨(cv :: co :: Lib.itoa k).toArray⟩) (by simp [results, Tryd.results6, go_sem, str_app]) rfl ⟨by rw [hno], hX60.bel⟩
        · go_simp
          go_at_call 16
          refine (l1Digits_c k (by omega) (by omega) _).mono ?_
          rintro e W62 ⟨rfl, hbb⟩
          have hX62 := hX36.below hbb
          have hP62q9 := hP36.below hbb
          clear hbb hX36 hP36
          go_wp2_with fail
          refine hK.out _ _ ?_ (fun hHeld2 => ?_)
          · exact ⟨hX62.c0, hX62.c1, hX62.c2⟩
          clear hK K hHeld
          have hHeld := hHeld2
          clear hHeld2
          try simp only [Act.put, List.setIfInBounds_toArray, List.set_cons_zero, List.set_cons_succ]
          refine wpAnyH_ready (rs := [4, 10]) (by kernel_rfl) (by simp) ?_
          refine AllReadyH.cons (of_drop rfl) (fun K hK => ?_) (AllReadyH.cons (of_drop rfl) (fun K hK => ?_) (AllReadyH.nil))
          · go_simp
            have hX63 := hX62.alloc (.cells #[.int .u8 (97 + v)] 5)
            have hP63 := AtB.new W62 (97 + v)
            have hP63q9 := hP62q9.alloc (.cells #[.int .u8 (97 + v)] 5)
            generalize hg63 : W62.heap.size = b63 at hP63 ⊢
            generalize World.alloc W62 (.cells #[.int .u8 (97 + v)] 5) = W63 at hX63 hP63 hP63q9 ⊢
            clear hg63 hX62 hP62q9
            go_wp2_with fail
            refine hK.out _ _ ?_ (fun hHeld2 => ?_)
            · exact ⟨hX63.c0, hX63.c1, hX63.c2⟩
            clear hK K hHeld
            have hHeld := hHeld2
            clear hHeld2
            try simp only [Act.put, List.setIfInBounds_toArray, List.set_cons_zero, List.set_cons_succ]
            refine wpAnyH_ready (rs := [5, 10]) (by kernel_rfl) (by simp) ?_
            refine AllReadyH.cons (of_drop rfl) (fun K hK => ?_) (AllReadyH.cons (of_drop rfl) (fun K hK => ?_) (AllReadyH.nil))
            · go_simp
              rw [str1 _ b63 (97 + v) (by omega) (by omega) hP63.c]
              rw [hcv]
              go_wp2_with fail
              refine hK.out _ _ ?_ (fun hHeld2 => ?_)
              · exact ⟨hX63.c0, hX63.c1, hX63.c2⟩
              clear hK K hHeld
              have hHeld := hHeld2
              clear hHeld2
              try simp only [Act.put, List.setIfInBounds_toArray, List.set_cons_zero, List.set_cons_succ]
              refine wpAnyH_ready (rs := [10]) (by kernel_rfl) (by simp) ?_
              refine AllReadyH.cons (of_drop rfl) (fun K hK => ?_) (AllReadyH.nil)
              · go_simp
                rw [str1 _ b36 xo (by omega) (by omega) hP63q9.c]
                rw [hco]
                go_wp2_with fail
                refine hK.out _ _ ?_ (fun hHeld2 => ?_)
                · exact ⟨hX63.c0, hX63.c1, hX63.c2⟩
                clear hK K hHeld
                have hHeld := hHeld2
                clear hHeld2
                try simp only [Act.put, List.setIfInBounds_toArray, List.set_cons_zero, List.set_cons_succ]
                refine take_yes (i := 11) (v := ?_) rfl (by kernel_rfl) (by kernel_rfl) (by kernel_rfl) (fun _ _ _ h => h) (by kernel_rfl) ?_ (by assumption) ?_
                rotate_left
                · (intro w hSw; (try dsimp only at hSw); go_simp; try with_reducible rfl)
                try simp only [Act.put, List.setIfInBounds_toArray, List.set_cons_zero, List.set_cons_succ]
                refine take_yes (i := 15) (v := ?_) rfl (by kernel_rfl) (by kernel_rfl) (by kernel_rfl) (fun _ _ _ h => h) (by kernel_rfl) ?_ (by assumption) ?_
                rotate_left
                · (intro w hSw; (try dsimp only at hSw); go_simp; try with_reducible rfl)
                try simp only [Act.put, List.setIfInBounds_toArray, List.set_cons_zero, List.set_cons_succ]
                refine take_yes (i := 16) (v := ?_) rfl (by kernel_rfl) (by kernel_rfl) (by kernel_rfl) (fun _ _ _ h => h) (by kernel_rfl) ?_ (by assumption) ?_
                rotate_left
                · (intro w hSw; (try dsimp only at hSw); go_simp; try with_reducible rfl)
                try simp only [Act.put, List.setIfInBounds_toArray, List.set_cons_zero, List.set_cons_succ]
                refine wpAnyH_done (by kernel_rfl) ?_ _
                refine NoPanic.normal ?_
                go_wp2_with fail
                refine bodyPost_ret (v := .string ⟨(cv :: co :: Lib.itoa k).toArray⟩) (by simp [results, Tryd.results6, go_sem, str_app]) rfl ⟨by rw [hno], hX63.bel⟩
            · go_simp
              rw [str1 _ b36 xo (by omega) (by omega) hP63q9.c]
              rw [hco]
              go_wp2_with fail
              refine hK.out _ _ ?_ (fun hHeld2 => ?_)
              · exact ⟨hX63.c0, hX63.c1, hX63.c2⟩
              clear hK K hHeld
              have hHeld := hHeld2
              clear hHeld2
              try simp only [Act.put, List.setIfInBounds_toArray, List.set_cons_zero, List.set_cons_succ]
              refine wpAnyH_ready (rs := [5]) (by kernel_rfl) (by simp) ?_
              refine AllReadyH.cons (of_drop rfl) (fun K hK => ?_) (AllReadyH.nil)
              · go_simp
                rw [str1 _ b63 (97 + v) (by omega) (by omega) hP63.c]
                rw [hcv]
                go_wp2_with fail
                refine hK.out _ _ ?_ (fun hHeld2 => ?_)
                · exact ⟨hX63.c0, hX63.c1, hX63.c2⟩
                clear hK K hHeld
                have hHeld := hHeld2
                clear hHeld2
                try simp only [Act.put, List.setIfInBounds_toArray, List.set_cons_zero, List.set_cons_succ]
                refine take_yes (i := 11) (v := ?_) rfl (by kernel_rfl) (by kernel_rfl) (by kernel_rfl) (fun _ _ _ h => h) (by kernel_rfl) ?_ (by assumption) ?_
                rotate_left
                · (intro w hSw; (try dsimp only at hSw); go_simp; try with_reducible rfl)
                try simp only [Act.put, List.setIfInBounds_toArray, List.set_cons_zero, List.set_cons_succ]
                refine take_yes (i := 15) (v := ?_) rfl (by kernel_rfl) (by kernel_rfl) (by kernel_rfl) (fun _ _ _ h => h) (by kernel_rfl) ?_ (by assumption) ?_
                rotate_left
                · (intro w hSw; (try dsimp only at hSw); go_simp; try with_reducible rfl)
                try simp only [Act.put, List.setIfInBounds_toArray, List.set_cons_zero, List.set_cons_succ]
                refine take_yes (i := 16) (v := ?_) rfl (by kernel_rfl) (by kernel_rfl) (by kernel_rfl) (fun _ _ _ h => h) (by kernel_rfl) ?_ (by assumption) ?_
                rotate_left
                · (intro w hSw; (try dsimp only at hSw); go_simp; try with_reducible rfl)
                try simp only [Act.put, List.setIfInBounds_toArray, List.set_cons_zero, List.set_cons_succ]
                refine wpAnyH_done (by kernel_rfl) ?_ _
                refine NoPanic.normal ?_
                go_wp2_with fail
                refine bodyPost_ret (v := .string ⟨(cv :: co :: Lib.itoa k).toArray⟩) (by simp [results, Tryd.results6, go_sem, str_app]) rfl ⟨by rw [hno], hX63.bel⟩
          · go_simp
            rw [str1 _ b36 xo (by omega) (by omega) hP62q9.c]
            rw [hco]
            go_wp2_with fail
            refine hK.out _ _ ?_ (fun hHeld2 => ?_)
            · exact ⟨hX62.c0, hX62.c1, hX62.c2⟩
            clear hK K hHeld
            have hHeld := hHeld2
            clear hHeld2
            try simp only [Act.put, List.setIfInBounds_toArray, List.set_cons_zero, List.set_cons_succ]
            refine wpAnyH_ready (rs := [4]) (by kernel_rfl) (by simp) ?_
            refine AllReadyH.cons (of_drop rfl) (fun K hK => ?_) (AllReadyH.nil)
            · go_simp
              have hX69 := hX62.alloc (.cells #[.int .u8 (97 + v)] 5)
              have hP69 := AtB.new W62 (97 + v)
              generalize hg69 : W62.heap.size = b69 at hP69 ⊢
              generalize World.alloc W62 (.cells #[.int .u8 (97 + v)] 5) = W69 at hX69 hP69 ⊢
              clear hg69 hX62 
              go_wp2_with fail
              refine hK.out _ _ ?_ (fun hHeld2 => ?_)
              · exact ⟨hX69.c0, hX69.c1, hX69.c2⟩
              clear hK K hHeld
              have hHeld := hHeld2
              clear hHeld2
              try simp only [Act.put, List.setIfInBounds_toArray, List.set_cons_zero, List.set_cons_succ]
              refine wpAnyH_ready (rs := [5]) (by kernel_rfl) (by simp) ?_
              refine AllReadyH.cons (of_drop rfl) (fun K hK => ?_) (AllReadyH.nil)
              · go_simp
                rw [str1 _ b69 (97 + v) (by omega) (by omega) hP69.c]
                rw [hcv]
                go_wp2_with fail
                refine hK.out _ _ ?_ (fun hHeld2 => ?_)
                · exact ⟨hX69.c0, hX69.c1, hX69.c2⟩
                clear hK K hHeld
                have hHeld := hHeld2
                clear hHeld2
                try simp only [Act.put, List.setIfInBounds_toArray, List.set_cons_zero, List.set_cons_succ]
                refine take_yes (i := 11) (v := ?_) rfl (by kernel_rfl) (by kernel_rfl) (by kernel_rfl) (fun _ _ _ h => h) (by kernel_rfl) ?_ (by assumption) ?_
                rotate_left
                · (intro w hSw; (try dsimp only at hSw); go_simp; try with_reducible rfl)
                try simp only [Act.put, List.setIfInBounds_toArray, List.set_cons_zero, List.set_cons_succ]
                refine take_yes (i := 15) (v := ?_) rfl (by kernel_rfl) (by kernel_rfl) (by kernel_rfl) (fun _ _ _ h => h) (by kernel_rfl) ?_ (by assumption) ?_
                rotate_left
                · (intro w hSw; (try dsimp only at hSw); go_simp; try with_reducible rfl)
                try simp only [Act.put, List.setIfInBounds_toArray, List.set_cons_zero, List.set_cons_succ]
                refine take_yes (i := 16) (v := ?_) rfl (by kernel_rfl) (by kernel_rfl) (by kernel_rfl) (fun _ _ _ h => h) (by kernel_rfl) ?_ (by assumption) ?_
                rotate_left
                · (intro w hSw; (try dsimp only at hSw); go_simp; try with_reducible rfl)
                try simp only [Act.put, List.setIfInBounds_toArray, List.set_cons_zero, List.set_cons_succ]
                refine wpAnyH_done (by kernel_rfl) ?_ _
                refine NoPanic.normal ?_
                go_wp2_with fail
                refine bodyPost_ret (v := .string ⟨(cv :: co :: Lib.itoa k).toArray⟩) (by simp [results, Tryd.results6, go_sem, str_app]) rfl ⟨by rw [hno], hX69.bel⟩
      · go_simp
        go_at_call 16
        refine (l1Digits_c k (by omega) (by omega) _).mono ?_
        rintro e W71 ⟨rfl, hbb⟩
        have hX71 := hD.below hbb
        clear hbb hD 
        go_wp2_with fail
        refine hK.out _ _ ?_ (fun hHeld2 => ?_)
        · exact ⟨hX71.c0, hX71.c1, hX71.c2⟩
        clear hK K hHeld
        have hHeld := hHeld2
        clear hHeld2
        try simp only [Act.put, List.setIfInBounds_toArray, List.set_cons_zero, List.set_cons_succ]
        refine wpAnyH_ready (rs := [4, 9]) (by kernel_rfl) (by simp) ?_
        refine AllReadyH.cons (of_drop rfl) (fun K hK => ?_) (AllReadyH.cons (of_drop rfl) (fun K hK => ?_) (AllReadyH.nil))
        · go_simp
          have hX72 := hX71.alloc (.cells #[.int .u8 (97 + v)] 5)
          have hP72 := AtB.new W71 (97 + v)
          generalize hg72 : W71.heap.size = b72 at hP72 ⊢
          generalize World.alloc W71 (.cells #[.int .u8 (97 + v)] 5) = W72 at hX72 hP72 ⊢
          clear hg72 hX71 
          go_wp2_with fail
          refine hK.out _ _ ?_ (fun hHeld2 => ?_)
          · exact ⟨hX72.c0, hX72.c1, hX72.c2⟩
          clear hK K hHeld
          have hHeld := hHeld2
          clear hHeld2
          try simp only [Act.put, List.setIfInBounds_toArray, List.set_cons_zero, List.set_cons_succ]
          refine wpAnyH_ready (rs := [5, 9]) (by kernel_rfl) (by simp) ?_
          refine AllReadyH.cons (of_drop rfl) (fun K hK => ?_) (AllReadyH.cons (of_drop rfl) (fun K hK => ?_) (AllReadyH.nil))
          · go_simp
            rw [str1 _ b72 (97 + v) (by omega) (by omega) hP72.c]
            rw [hcv]
            go_wp2_with fail
            refine hK.out _ _ ?_ (fun hHeld2 => ?_)
            · exact ⟨hX72.c0, hX72.c1, hX72.c2⟩
            clear hK K hHeld
            have hHeld := hHeld2
            clear hHeld2
            try simp only [Act.put, List.setIfInBounds_toArray, List.set_cons_zero, List.set_cons_succ]
            refine wpAnyH_ready (rs := [9]) (by kernel_rfl) (by simp) ?_
            refine AllReadyH.cons (of_drop rfl) (fun K hK => ?_) (AllReadyH.nil)
            · go_simp
              have hX74 := hX72.alloc (.cells #[.int .u8 xo] 5)
              have hP74 := AtB.new W72 xo
              generalize hg74 : W72.heap.size = b74 at hP74 ⊢
              generalize World.alloc W72 (.cells #[.int .u8 xo] 5) = W74 at hX74 hP74 ⊢
              clear hg74 hX72 
              go_wp2_with fail
              refine hK.out _ _ ?_ (fun hHeld2 => ?_)
              · exact ⟨hX74.c0, hX74.c1, hX74.c2⟩
              clear hK K hHeld
              have hHeld := hHeld2
              clear hHeld2
              try simp only [Act.put, List.setIfInBounds_toArray, List.set_cons_zero, List.set_cons_succ]
              refine wpAnyH_ready (rs := [10]) (by kernel_rfl) (by simp) ?_
              refine AllReadyH.cons (of_drop rfl) (fun K hK => ?_) (AllReadyH.nil)
              · go_simp
                rw [str1 _ b74 xo (by omega) (by omega) hP74.c]
                rw [hco]
                go_wp2_with fail
                refine hK.out _ _ ?_ (fun hHeld2 => ?_)
                · exact ⟨hX74.c0, hX74.c1, hX74.c2⟩
                clear hK K hHeld
                have hHeld := hHeld2
                clear hHeld2
                try simp only [Act.put, List.setIfInBounds_toArray, List.set_cons_zero, List.set_cons_succ]
                refine take_yes (i := 11) (v := ?_) rfl (by kernel_rfl) (by kernel_rfl) (by kernel_rfl) (fun _ _ _ h => h) (by kernel_rfl) ?_ (by assumption) ?_
                rotate_left
                · (intro w hSw; (try dsimp only at hSw); go_simp; try with_reducible rfl)
                try simp only [Act.put, List.setIfInBounds_toArray, List.set_cons_zero, List.set_cons_succ]
                refine take_yes (i := 15) (v := ?_) rfl (by kernel_rfl) (by kernel_rfl) (by kernel_rfl) (fun _ _ _ h => h) (by kernel_rfl) ?_ (by assumption) ?_
                rotate_left
                · (intro w hSw; (try dsimp only at hSw); go_simp; try with_reducible rfl)
                try simp only [Act.put, List.setIfInBounds_toArray, List.set_cons_zero, List.set_cons_succ]
                refine take_yes (i := 16) (v := ?_) rfl (by kernel_rfl) (by kernel_rfl) (by kernel_rfl) (fun _ _ _ h => h) (by kernel_rfl) ?_ (by assumption) ?_
                rotate_left
                · (intro w hSw; (try dsimp only at hSw); go_simp; try with_reducible rfl)
                try simp only [Act.put, List.setIfInBounds_toArray, List.set_cons_zero, List.set_cons_succ]
                refine wpAnyH_done (by kernel_rfl) ?_ _
                refine NoPanic.normal ?_
                go_wp2_with fail
                refine bodyPost_ret (v := .string ⟨(cv :: co :: Lib.itoa k).toArray⟩) (by simp [results, Tryd.results6, go_sem, str_app]) rfl ⟨by rw [hno], hX74.bel⟩
          · go_simp
            have hX76 := hX72.alloc (.cells #[.int .u8 xo] 5)
            have hP76 := AtB.new W72 xo
            have hP76q4 := hP72.alloc (.cells #[.int .u8 xo] 5)
            generalize hg76 : W72.heap.size = b76 at hP76 ⊢
            generalize World.alloc W72 (.cells #[.int .u8 xo] 5) = W76 at hX76 hP76 hP76q4 ⊢
            clear hg76 hX72 hP72
            go_wp2_with fail
            refine hK.out _ _ ?_ (fun hHeld2 => ?_)
            · exact ⟨hX76.c0, hX76.c1, hX76.c2⟩
            clear hK K hHeld
            have hHeld := hHeld2
            clear hHeld2
            try simp only [Act.put, List.setIfInBounds_toArray, List.set_cons_zero, List.set_cons_succ]
            refine wpAnyH_ready (rs := [5, 10]) (by kernel_rfl) (by simp) ?_
            refine AllReadyH.cons (of_drop rfl) (fun K hK => ?_) (AllReadyH.cons (of_drop rfl) (fun K hK => ?_) (AllReadyH.nil))
            · go_simp
              rw [str1 _ b72 (97 + v) (by omega) (by omega) hP76q4.c]
              rw [hcv]
              go_wp2_with fail
              refine hK.out _ _ ?_ (fun hHeld2 => ?_)
              · exact ⟨hX76.c0, hX76.c1, hX76.c2⟩
              clear hK K hHeld
              have hHeld := hHeld2
              clear hHeld2
              try simp only [Act.put, List.setIfInBounds_toArray, List.set_cons_zero, List.set_cons_succ]
              refine wpAnyH_ready (rs := [10]) (by kernel_rfl) (by simp) ?_
              refine AllReadyH.cons (of_drop rfl) (fun K hK => ?_) (AllReadyH.nil)
              · go_simp
                rw [str1 _ b76 xo (by omega) (by omega) hP76.c]
                rw [hco]
                go_wp2_with fail
                refine hK.out _ _ ?_ (fun hHeld2 => ?_)
                · exact ⟨hX76.c0, hX76.c1, hX76.c2⟩
                clear hK K hHeld
                have hHeld := hHeld2
                clear hHeld2
                try simp only [Act.put, List.setIfInBounds_toArray, List.set_cons_zero, List.set_cons_succ]
                refine take_yes (i := 11) (v := ?_) rfl (by kernel_rfl) (by kernel_rfl) (by kernel_rfl) (fun _ _ _ h => h) (by kernel_rfl) ?_ (by assumption) ?_
                rotate_left
                · (intro w hSw; (try dsimp only at hSw); go_simp; try with_reducible rfl)
                try simp only [Act.put, List.setIfInBounds_toArray, List.set_cons_zero, List.set_cons_succ]
                refine take_yes (i := 15) (v := ?_) rfl (by kernel_rfl) (by kernel_rfl) (by kernel_rfl) (fun _ _ _ h => h) (by kernel_rfl) ?_ (by assumption) ?_
                rotate_left
                · (intro w hSw; (try dsimp only at hSw); go_simp; try with_reducible rfl)
                try simp only [Act.put, List.setIfInBounds_toArray, List.set_cons_zero, List.set_cons_succ]
                refine take_yes (i := 16) (v := ?_) rfl (by kernel_rfl) (by kernel_rfl) (by kernel_rfl) (fun _ _ _ h => h) (by kernel_rfl) ?_ (by assumption) ?_
                rotate_left
                · (intro w hSw; (try dsimp only at hSw); go_simp; try with_reducible rfl)
                try simp only [Act.put, List.setIfInBounds_toArray, List.set_cons_zero, List.set_cons_succ]
                refine wpAnyH_done (by kernel_rfl) ?_ _
                refine NoPanic.normal ?_
                go_wp2_with fail
                refine bodyPost_ret (v := .string ⟨(cv :: co :: Lib.itoa k).toArray⟩) (by simp [results, Tryd.results6, go_sem, str_app]) rfl ⟨by rw [hno], hX76.bel⟩
            · go_simp
              rw [str1 _ b76 xo (by omega) (by omega) hP76.c]
              rw [hco]
              go_wp2_with fail
              refine hK.out _ _ ?_ (fun hHeld2 => ?_)
              · exact ⟨hX76.c0, hX76.c1, hX76.c2⟩
              clear hK K hHeld
              have hHeld := hHeld2
              clear hHeld2
              try simp only [Act.put, List.setIfInBounds_toArray, List.set_cons_zero, List.set_cons_succ]
              refine wpAnyH_ready (rs := [5]) (by kernel_rfl) (by simp) ?_
              refine AllReadyH.cons (of_drop rfl) (fun K hK => ?_) (AllReadyH.nil)
              · go_simp
                rw [str1 _ b72 (97 + v) (by omega) (by omega) hP76q4.c]
                rw [hcv]
                go_wp2_with fail
                refine hK.out _ _ ?_ (fun hHeld2 => ?_)
                · exact ⟨hX76.c0, hX76.c1, hX76.c2⟩
                clear hK K hHeld
                have hHeld := hHeld2
                clear hHeld2
                try simp only [Act.put, List.setIfInBounds_toArray, List.set_cons_zero, List.set_cons_succ]
                refine take_yes (i := 11) (v := ?_) rfl (by kernel_rfl) (by kernel_rfl) (by kernel_rfl) (fun _ _ _ h => h) (by kernel_rfl) ?_ (by assumption) ?_
                rotate_left
                · (intro w hSw; (try dsimp only at hSw); go_simp; try with_reducible rfl)
                try simp only [Act.put, List.setIfInBounds_toArray, List.set_cons_zero, List.set_cons_succ]
                refine take_yes (i := 15) (v := ?_) rfl (by kernel_rfl) (by kernel_rfl) (by kernel_rfl) (fun _ _ _ h => h) (by kernel_rfl) ?_ (by assumption) ?_
                rotate_left
                · (intro w hSw; (try dsimp only at hSw); go_simp; try with_reducible rfl)
                try simp only [Act.put, List.setIfInBounds_toArray, List.set_cons_zero, List.set_cons_succ]
                refine take_yes (i := 16) (v := ?_) rfl (by kernel_rfl) (by kernel_rfl) (by kernel_rfl) (fun _ _ _ h => h) (by kernel_rfl) ?_ (by assumption) ?_
                rotate_left
                · (intro w hSw; (try dsimp only at hSw); go_simp; try with_reducible rfl)
                try simp only [Act.put, List.setIfInBounds_toArray, List.set_cons_zero, List.set_cons_succ]
                refine wpAnyH_done (by kernel_rfl) ?_ _
                refine NoPanic.normal ?_
                go_wp2_with fail
                refine bodyPost_ret (v := .string ⟨(cv :: co :: Lib.itoa k).toArray⟩) (by simp [results, Tryd.results6, go_sem, str_app]) rfl ⟨by rw [hno], hX76.bel⟩
        · go_simp
          have hX81 := hX71.alloc (.cells #[.int .u8 xo] 5)
          have hP81 := AtB.new W71 xo
          generalize hg81 : W71.heap.size = b81 at hP81 ⊢
          generalize World.alloc W71 (.cells #[.int .u8 xo] 5) = W81 at hX81 hP81 ⊢
          clear hg81 hX71 
          go_wp2_with fail
          refine hK.out _ _ ?_ (fun hHeld2 => ?_)
          · exact ⟨hX81.c0, hX81.c1, hX81.c2⟩
          clear hK K hHeld
          have hHeld := hHeld2
          clear hHeld2
          try simp only [Act.put, List.setIfInBounds_toArray, List.set_cons_zero, List.set_cons_succ]
          refine wpAnyH_ready (rs := [4, 10]) (by kernel_rfl) (by simp) ?_
          refine AllReadyH.cons (of_drop rfl) (fun K hK => ?_) (AllReadyH.cons (of_drop rfl) (fun K hK => ?_) (AllReadyH.nil))
          · go_simp
            have hX82 := hX81.alloc (.cells #[.int .u8 (97 + v)] 5)
            have hP82 := AtB.new W81 (97 + v)
            have hP82q9 := hP81.alloc (.cells #[.int .u8 (97 + v)] 5)
            generalize hg82 : W81.heap.size = b82 at hP82 ⊢
            generalize World.alloc W81 (.cells #[.int .u8 (97 + v)] 5) = W82 at hX82 hP82 hP82q9 ⊢
            clear hg82 hX81 hP81
            go_wp2_with fail
            refine hK.out _ _ ?_ (fun hHeld2 => ?_)
            · exact ⟨hX82.c0, hX82.c1, hX82.c2⟩
            clear hK K hHeld
            have hHeld := hHeld2
            clear hHeld2
            try simp only [Act.put, List.setIfInBounds_toArray, List.set_cons_zero, List.set_cons_succ]
            refine wpAnyH_ready (rs := [5, 10]) (by kernel_rfl) (by simp) ?_
            refine AllReadyH.cons (of_drop rfl) (fun K hK => ?_) (AllReadyH.cons (of_drop rfl) (fun K hK => ?_) (AllReadyH.nil))
            · go_simp
              rw [str1 _ b82 (97 + v) (by omega) (by omega) hP82.c]
              rw [hcv]
              go_wp2_with fail
              refine hK.out _ _ ?_ (fun hHeld2 => ?_)
              · exact ⟨hX82.c0, hX82.c1, hX82.c2⟩
              clear hK K hHeld
              have hHeld := hHeld2
              clear hHeld2
              try simp only [Act.put, List.setIfInBounds_toArray, List.set_cons_zero, List.set_cons_succ]
              refine wpAnyH_ready (rs := [10]) (by kernel_rfl) (by simp) ?_
              refine AllReadyH.cons (of_drop rfl) (fun K hK => ?_) (AllReadyH.nil)
              · go_simp
                rw [str1 _ b81 xo (by omega) (by omega) hP82q9.c]
                rw [hco]
                go_wp2_with fail
                refine hK.out _ _ ?_ (fun hHeld2 => ?_)
                · exact ⟨hX82.c0, hX82.c1, hX82.c2⟩
                clear hK K hHeld
                have hHeld := hHeld2
                clear hHeld2
                try simp only [Act.put, List.setIfInBounds_toArray, List.set_cons_zero, List.set_cons_succ]
                refine take_yes (i := 11) (v := ?_) rfl (by kernel_rfl) (by kernel_rfl) (by kernel_rfl) (fun _ _ _ h => h) (by kernel_rfl) ?_ (by assumption) ?_
                rotate_left
                · (intro w hSw; (try dsimp only at hSw); go_simp; try with_reducible rfl)
                try simp only [Act.put, List.setIfInBounds_toArray, List.set_cons_zero, List.set_cons_succ]
                refine take_yes (i := 15) (v := ?_) rfl (by kernel_rfl) (by kernel_rfl) (by kernel_rfl) (fun _ _ _ h => h) (by kernel_rfl) ?_ (by assumption) ?_
                rotate_left
                · (intro w hSw; (try dsimp only at hSw); go_simp; try with_reducible rfl)
                try simp only [Act.put, List.setIfInBounds_toArray, List.set_cons_zero, List.set_cons_succ]
                refine take_yes (i := 16) (v := ?_) rfl (by kernel_rfl) (by kernel_rfl) (by kernel_rfl) (fun _ _ _ h => h) (by kernel_rfl) ?_ (by assumption) ?_
                rotate_left
                · (intro w hSw; (try dsimp only at hSw); go_simp; try with_reducible rfl)
                try simp only [Act.put, List.setIfInBounds_toArray, List.set_cons_zero, List.set_cons_succ]
                refine wpAnyH_done (by kernel_rfl) ?_ _
                refine NoPanic.normal ?_
                go_wp2_with fail
                refine bodyPost_ret (v := .string ⟨(cv :: co :: Lib.itoa k).toArray⟩) (by simp [results, Tryd.results6, go_sem, str_app]) rfl ⟨by rw [hno], hX82.bel⟩
            · go_simp
              rw [str1 _ b81 xo (by omega) (by omega) hP82q9.c]
              rw [hco]
              go_wp2_with fail
              refine hK.out _ _ ?_ (fun hHeld2 => ?_)
              · exact ⟨hX82.c0, hX82.c1, hX82.c2⟩
              clear hK K hHeld
              have hHeld := hHeld2
              clear hHeld2
              try simp only [Act.put, List.setIfInBounds_toArray, List.set_cons_zero, List.set_cons_succ]
              refine wpAnyH_ready (rs := [5]) (by kernel_rfl) (by simp) ?_
              refine AllReadyH.cons (of_drop rfl) (fun K hK => ?_) (AllReadyH.nil)
              · go_simp
                rw [str1 _ b82 (97 + v) (by omega) (by omega) hP82.c]
                rw [hcv]
                go_wp2_with fail
                refine hK.out _ _ ?_ (fun hHeld2 => ?_)
                · exact ⟨hX82.c0, hX82.c1, hX82.c2⟩
                clear hK K hHeld
                have hHeld := hHeld2
                clear hHeld2
                try simp only [Act.put, List.setIfInBounds_toArray, List.set_cons_zero, List.set_cons_succ]
                refine take_yes (i := 11) (v := ?_) rfl (by kernel_rfl) (by kernel_rfl) (by kernel_rfl) (fun _ _ _ h => h) (by kernel_rfl) ?_ (by assumption) ?_
                rotate_left
                · (intro w hSw; (try dsimp only at hSw); go_simp; try with_reducible rfl)
                try simp only [Act.put, List.setIfInBounds_toArray, List.set_cons_zero, List.set_cons_succ]
                refine take_yes (i := 15) (v := ?_) rfl (by kernel_rfl) (by kernel_rfl) (by kernel_rfl) (fun _ _ _ h => h) (by kernel_rfl) ?_ (by assumption) ?_
                rotate_left
                · (intro w hSw; (try dsimp only at hSw); go_simp; try with_reducible rfl)
                try simp only [Act.put, List.setIfInBounds_toArray, List.set_cons_zero, List.set_cons_succ]
                refine take_yes (i := 16) (v := ?_) rfl (by kernel_rfl) (by kernel_rfl) (by kernel_rfl) (fun _ _ _ h => h) (by kernel_rfl) ?_ (by assumption) ?_
                rotate_left
                · (intro w hSw; (try dsimp only at hSw); go_simp; try with_reducible rfl)
                try simp only [Act.put, List.setIfInBounds_toArray, List.set_cons_zero, List.set_cons_succ]
                refine wpAnyH_done (by kernel_rfl) ?_ _
                refine NoPanic.normal ?_
                go_wp2_with fail
                refine bodyPost_ret (v := .string ⟨(cv :: co :: Lib.itoa k).toArray⟩) (by simp [results, Tryd.results6, go_sem, str_app]) rfl ⟨by rw [hno], hX82.bel⟩
          · go_simp
            rw [str1 _ b81 xo (by omega) (by omega) hP81.c]
            rw [hco]
            go_wp2_with fail
            refine hK.out _ _ ?_ (fun hHeld2 => ?_)
            · exact ⟨hX81.c0, hX81.c1, hX81.c2⟩
            clear hK K hHeld
            have hHeld := hHeld2
            clear hHeld2
            try simp only [Act.put, List.setIfInBounds_toArray, List.set_cons_zero, List.set_cons_succ]
            refine wpAnyH_ready (rs := [4]) (by kernel_rfl) (by simp) ?_
            refine AllReadyH.cons (of_drop rfl) (fun K hK => ?_) (AllReadyH.nil)
            · go_simp
              have hX88 := hX81.alloc (.cells #[.int .u8 (97 + v)] 5)
              have hP88 := AtB.new W81 (97 + v)
              generalize hg88 : W81.heap.size = b88 at hP88 ⊢
              generalize World.alloc W81 (.cells #[.int .u8 (97 + v)] 5) = W88 at hX88 hP88 ⊢
              clear hg88 hX81 
              go_wp2_with fail
              refine hK.out _ _ ?_ (fun hHeld2 => ?_)
              · exact ⟨hX88.c0, hX88.c1, hX88.c2⟩
              clear hK K hHeld
              have hHeld := hHeld2
              clear hHeld2
              try simp only [Act.put, List.setIfInBounds_toArray, List.set_cons_zero, List.set_cons_succ]
              refine wpAnyH_ready (rs := [5]) (by kernel_rfl) (by simp) ?_
              refine AllReadyH.cons (of_drop rfl) (fun K hK => ?_) (AllReadyH.nil)
              · go_simp
                rw [str1 _ b88 (97 + v) (by omega) (by omega) hP88.c]
                rw [hcv]
                go_wp2_with fail
                refine hK.out _ _ ?_ (fun hHeld2 => ?_)
                · exact ⟨hX88.c0, hX88.c1, hX88.c2⟩
                clear hK K hHeld
                have hHeld := hHeld2
                clear hHeld2
                try simp only [Act.put, List.setIfInBounds_toArray, List.set_cons_zero, List.set_cons_succ]
                refine take_yes (i := 11) (v := ?_) rfl (by kernel_rfl) (by kernel_rfl) (by kernel_rfl) (fun _ _ _ h => h) (by kernel_rfl) ?_ (by assumption) ?_
                rotate_left
                · (intro w hSw; (try dsimp only at hSw); go_simp; try with_reducible rfl)
                try simp only [Act.put, List.setIfInBounds_toArray, List.set_cons_zero, List.set_cons_succ]
                refine take_yes (i := 15) (v := ?_) rfl (by kernel_rfl) (by kernel_rfl) (by kernel_rfl) (fun _ _ _ h => h) (by kernel_rfl) ?_ (by assumption) ?_
                rotate_left
                · (intro w hSw; (try dsimp only at hSw); go_simp; try with_reducible rfl)
                try simp only [Act.put, List.setIfInBounds_toArray, List.set_cons_zero, List.set_cons_succ]
                refine take_yes (i := 16) (v := ?_) rfl (by kernel_rfl) (by kernel_rfl) (by kernel_rfl) (fun _ _ _ h => h) (by kernel_rfl) ?_ (by assumption) ?_
                rotate_left
                · (intro w hSw; (try dsimp only at hSw); go_simp; try with_reducible rfl)
                try simp only [Act.put, List.setIfInBounds_toArray, List.set_cons_zero, List.set_cons_succ]
                refine wpAnyH_done (by kernel_rfl) ?_ _
                refine NoPanic.normal ?_
                go_wp2_with fail
                refine bodyPost_ret (v := .string ⟨(cv :: co :: Lib.itoa k).toArray⟩) (by simp [results, Tryd.results6, go_sem, str_app]) rfl ⟨by rw [hno], hX88.bel⟩
end Go.Proofs.YtgleblbgomhmdaaDoor
