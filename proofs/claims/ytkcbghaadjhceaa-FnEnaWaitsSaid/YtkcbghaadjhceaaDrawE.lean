/- Draws of nets with marks, tasks under way and a task. -/
import Derived.Test.YtkcbghaadjhceaaBusyD
namespace Go.Proofs.Ytkcbghaadjhceaa
open Go.RowKit
set_option linter.unusedVariables false
set_option linter.unusedSimpArgs false

/-- A net, marks, tasks under way and a task that are drawn. -/
def NetEna (w : World) (e : Ending) (w' : World) : Prop := ∃ (P : Int) (b1 k c1 : Nat) (n : NNet) (A9 : Option Addr) (b9 o9 c9 : Nat) (ys : List Int) (Ai : Option Addr) (bi oi ci : Nat) (bs : List NItem) (x : Int),
  e = .returned (.tuple #[.agg #[.int .i64 P, .slice (some ⟨b1, 0, none⟩) k c1], .slice A9 ys.length c9, .slice Ai bs.length ci, .int .i64 x]) ∧ ys.length ≤ 10 ∧ ys.length ≤ c9 ∧ (∀ x ∈ ys, -1 ≤ x ∧ x ≤ 5) ∧ bs.length ≤ 4 ∧ -1 ≤ x ∧ x ≤ 10 ∧
  Row w' w.heap.size w'.heap.size A9 b9 o9 (ints ys) ∧ Row w' w.heap.size w'.heap.size Ai bi oi (itemCells bs) ∧ NetG w w' P b1 k c1 n ∧ Below w.heap.size w w'

theorem tb_size (w : World) (b : Nat) (u v : Value) (ob : Obj) : (((w.setCell ⟨b, 0, none⟩ u).setCell ⟨b, 1, none⟩ v).alloc ob).heap.size = w.heap.size + 1 := by
  simp [World.setCell]
theorem tb_block (w : World) {b g : Nat} (hg : g ≠ b) (hl : g < w.heap.size) (u v : Value) (ob : Obj) : (((w.setCell ⟨b, 0, none⟩ u).setCell ⟨b, 1, none⟩ v).alloc ob).heap[g]? = w.heap[g]? :=
  (Below.heap_alloc _ ob g (by rw [two_size]; exact hl)).trans (two_block w hg u v)
theorem tb_below {B : Nat} {a w : World} (h : Below B a w) {b : Nat} (hb : B ≤ b) (hs : B ≤ w.heap.size) (u v : Value) (ob : Obj) : Below B a (((w.setCell ⟨b, 0, none⟩ u).setCell ⟨b, 1, none⟩ v).alloc ob) :=
  (below_two h hb u v).alloc (by rw [two_size]; exact hs) ob
set_option maxRecDepth 20000 in
set_option maxHeartbeats 1000000 in
theorem drawEnaCan_c (zs : List Int) (A : Option Addr) (b off c : Nat) (w : World) (hV : Row w 0 w.heap.size A b off (bytesC zs)) (hz : ∀ x ∈ zs, 0 ≤ x ∧ x ≤ 255) (hm : zs.length ≤ maxLen) (hcap : zs.length ≤ c) :
    Calls Try.prog 23 #[.slice A zs.length c] w fun e w' => NetEna w e w' := by
  have hV1 := fun ob => hV.alloc (Nat.le_refl _) ob
  go_enter Try.func23, Try.ntmps23
  go_wp2_with fail
  refine (l20Open_c zs A b off c _ ((hV1 _).more (Nat.le_refl _) (by simp)) hz hm hcap).mono ?_
  rintro e w1 ⟨R, rfl, hR, hrd, hb⟩
  have hR' : w.heap.size + 1 ≤ R := by simpa using hR
  have HB := Lib.hid (((Below.refl w.heap.size w).alloc (Nat.le_refl _) _).trans (hb.mono (by simp)))
  have HBK := Lib.hid (Blk.below (Blk.new_ w 25 #[.int .i64 0, .slice none 0 0]) hb (by simp))
  have HRD := Lib.hid hrd
  have hRl := hrd.lt
  clear hR hb hrd hV1
  go_wp2_with fail
  refine (l20AnyNet_c R 0 20 w1 HRD.out (by omega) (by omega) (by omega)).mono ?_
  rintro e w2 ⟨P, b1, k, c1, n, p2, rfl, hsm, hp2, hfn, hrd2, hg2⟩
  have HG := Lib.hid (NetG.of (w := w) hsm hfn (by omega))
  have HB2 := Lib.hid (below_grown HB.out hg2 (by omega) (by omega))
  have HBK2 := Lib.hid (HBK.out.grown hg2 (by omega))
  have HRD2 := Lib.hid hrd2
  have hs2 : w.heap.size + 1 ≤ w2.heap.size := by have := hg2.size; omega
  have HF2 := Lib.hid hfn
  have hs12 : w1.heap.size ≤ w2.heap.size := hg2.size
  have hR2 : R < w1.heap.size := hRl
  have HSM := Lib.hid hsm
  clear hfn hrd2 hg2 hsm HRD HBK HB
  have hPb : 0 ≤ P ∧ P ≤ 9 := by obtain ⟨h1, h2, _⟩ := HSM.out; rw [HG.out.2.1] at h1 h2; exact ⟨h1, h2⟩
  obtain ⟨pn, rfl⟩ := Int.eq_ofNat_of_zero_le hPb.1
  have hpn : pn ≤ 9 := by omega
  have hkb : k ≤ 6 := by obtain ⟨_, _, _, h4, _⟩ := HSM.out; rw [HG.out.2.2.1] at h4; exact h4
  have hwk : IntKind.i64.wrap ((k : Int) + 2) = (k : Int) + 2 := IntWalk.i64_in _ (by omega)
  have HKN := Lib.hid HG.out.2.2.1
  have HNB := Lib.hid (Blk.new_ w2 25 #[.int .i64 (pn : Int), .slice (some ⟨b1, 0, none⟩) k c1])
  have HX := Lib.hid (show RdV (w2.alloc (.cells #[.int .i64 (pn : Int), .slice (some ⟨b1, 0, none⟩) k c1] 25)) R p2 from HRD2.out.alloc _)
  have HFX := Lib.hid (HF2.out.alloc (Nat.le_refl _) (.cells #[.int .i64 (pn : Int), .slice (some ⟨b1, 0, none⟩) k c1] 25))
  have HBX := Lib.hid (HBK2.out.alloc (.cells #[.int .i64 (pn : Int), .slice (some ⟨b1, 0, none⟩) k c1] 25))
  have HLX := Lib.hid (HB2.out.alloc (by omega) (.cells #[.int .i64 (pn : Int), .slice (some ⟨b1, 0, none⟩) k c1] 25))
  have hsX : w2.heap.size < (w2.alloc (.cells #[.int .i64 (pn : Int), .slice (some ⟨b1, 0, none⟩) k c1] 25)).heap.size := by simp
  clear HRD2 HF2 HBK2 HB2
  go_wp2
  generalize hX : w2.alloc (.cells #[.int .i64 (pn : Int), .slice (some ⟨b1, 0, none⟩) k c1] 25) = wx at HNB HX HFX HBX HLX hsX ⊢
  clear hX
  generalize hN5 : w2.heap.size = N5 at HNB HFX hsX hs2 hs12 ⊢
  have hc0 : wx.cell? ⟨N5, 0, none⟩ = some (.int .i64 (pn : Int)) := HNB.out.cell 0
  have hc1 : wx.cell? ⟨N5, 1, none⟩ = some (.slice (some ⟨b1, 0, none⟩) k c1) := HNB.out.cell 1
  have hRX : R < wx.heap.size := HX.out.lt
  have hlow : w.heap.size < wx.heap.size := by omega
  refine wp_region_noPanic ?_
  refine wp_region_held_drew (S := fun w' => (w'.cell? ⟨N5, 0, none⟩ = some (.int .i64 (pn : Int)) ∧ w'.cell? ⟨N5, 1, none⟩ = some (.slice (some ⟨b1, 0, none⟩) k c1))) (by kernel_rfl) ?_ (fun hHeld => ?_)
  · exact ⟨hc0, hc1⟩
  refine take_yes (i := 0) (v := ?_) rfl (by kernel_rfl) (by kernel_rfl) (by kernel_rfl) (fun _ _ _ h => h) (by kernel_rfl) ?_ (by assumption) ?_
  rotate_left
  · (intro w hSw; (try dsimp only at hSw); go_simp; try with_reducible rfl)
  try simp only [Act.put, List.setIfInBounds_toArray, List.set_cons_zero, List.set_cons_succ]
  refine take_yes (i := 1) (v := ?_) rfl (by kernel_rfl) (by kernel_rfl) (by kernel_rfl) (fun _ _ _ h => h) (by kernel_rfl) ?_ (by assumption) ?_
  rotate_left
  · (intro w hSw; (try dsimp only at hSw); go_simp; try with_reducible rfl)
  try simp only [Act.put, List.setIfInBounds_toArray, List.set_cons_zero, List.set_cons_succ]
  refine take_yes (i := 2) (v := ?_) rfl (by kernel_rfl) (by kernel_rfl) (by kernel_rfl) (fun _ _ _ h => h) (by kernel_rfl) ?_ (by assumption) ?_
  rotate_left
  · (intro w hSw; (try dsimp only at hSw); go_simp; try with_reducible rfl)
  try simp only [Act.put, List.setIfInBounds_toArray, List.set_cons_zero, List.set_cons_succ]
  refine take_yes (i := 3) (v := ?_) rfl (by kernel_rfl) (by kernel_rfl) (by kernel_rfl) (fun _ _ _ h => h) (by kernel_rfl) ?_ (by assumption) ?_
  rotate_left
  · (intro w hSw; (try dsimp only at hSw); go_simp; try with_reducible rfl)
  try simp only [Act.put, List.setIfInBounds_toArray, List.set_cons_zero, List.set_cons_succ]
  refine take_yes (i := 5) (v := ?_) rfl (by kernel_rfl) (by kernel_rfl) (by kernel_rfl) (fun _ _ _ h => h) (by kernel_rfl) ?_ (by assumption) ?_
  rotate_left
  · (intro w hSw; (try dsimp only at hSw); go_simp; try with_reducible rfl)
  try simp only [Act.put, List.setIfInBounds_toArray, List.set_cons_zero, List.set_cons_succ]
  refine take_yes (i := 6) (v := ?_) rfl (by kernel_rfl) (by kernel_rfl) (by kernel_rfl) (fun _ _ _ h => h) (by kernel_rfl) ?_ (by assumption) ?_
  rotate_left
  · (intro w hSw; (try dsimp only at hSw); go_simp; try with_reducible rfl)
  try simp only [Act.put, List.setIfInBounds_toArray, List.set_cons_zero, List.set_cons_succ]
  refine take_yes (i := 8) (v := ?_) rfl (by kernel_rfl) (by kernel_rfl) (by kernel_rfl) (fun _ _ _ h => h) (by kernel_rfl) ?_ (by assumption) ?_
  rotate_left
  · (intro w hSw; (try dsimp only at hSw); go_simp; try with_reducible rfl)
  try simp only [Act.put, List.setIfInBounds_toArray, List.set_cons_zero, List.set_cons_succ]
  refine take_yes (i := 9) (v := ?_) rfl (by kernel_rfl) (by kernel_rfl) (by kernel_rfl) (fun _ _ _ h => h) (by kernel_rfl) ?_ (by assumption) ?_
  rotate_left
  · (intro w hSw; (try dsimp only at hSw); go_simp; try with_reducible rfl)
  try simp only [Act.put, List.setIfInBounds_toArray, List.set_cons_zero, List.set_cons_succ]
  refine take_yes (i := 10) (v := ?_) rfl (by kernel_rfl) (by kernel_rfl) (by kernel_rfl) (fun _ _ _ h => h) (by kernel_rfl) ?_ (by assumption) ?_
  rotate_left
  · (intro w hSw; (try dsimp only at hSw); go_simp; try with_reducible rfl)
  try simp only [Act.put, List.setIfInBounds_toArray, List.set_cons_zero, List.set_cons_succ]
  refine take_yes (i := 11) (v := ?_) rfl (by kernel_rfl) (by kernel_rfl) (by kernel_rfl) (fun _ _ _ h => h) (by kernel_rfl) ?_ (by assumption) ?_
  rotate_left
  · (intro w hSw; (try dsimp only at hSw); go_simp; try with_reducible rfl)
  try simp only [Act.put, List.setIfInBounds_toArray, List.set_cons_zero, List.set_cons_succ]
  refine take_yes (i := 12) (v := ?_) rfl (by kernel_rfl) (by kernel_rfl) (by kernel_rfl) (fun _ _ _ h => h) (by kernel_rfl) ?_ (by assumption) ?_
  rotate_left
  · (intro w hSw; (try dsimp only at hSw); go_simp; try with_reducible rfl)
  try simp only [Act.put, List.setIfInBounds_toArray, List.set_cons_zero, List.set_cons_succ]
  refine wpAnyH_ready (rs := [4]) (by kernel_rfl) (by simp) ?_
  refine AllReadyH.cons (of_drop rfl) (fun K hK => ?_) AllReadyH.nil
  go_simp
  (go_at_call 42; refine (l20Marks_c R p2 pn 20 wx.drew (show RdV wx.drew R p2 from HX.out) (by omega) (by omega) (by omega) (by omega)).mono ?_; rintro e w3 ⟨v, ys, p3, rfl, hys, hyb, hp3, hv3, hrd3, hg3⟩)
  have hg3' : wx.grownBy w3 (some R) := grown_tr (grown_drew wx R) hg3
  have hv3' : NumsV w3 wx.heap.size v ys := hv3
  have HB3 := Lib.hid (HBX.out.grown hg3' (by omega))
  have HL3 := Lib.hid (below_grown HLX.out hg3' (by omega) (by omega))
  have HF3 := Lib.hid ((HFX.out.grown hg3' hR2 (Nat.le_of_lt hsX)).more (Nat.le_refl _) (Nat.le_refl _))
  have HV3 := Lib.hid hv3'
  have HN3 := Lib.hid (HNB.out.grown hg3' (by omega))
  have hs3 := hg3'.size
  have HX3 := Lib.hid hrd3
  have hRX3 := hrd3.lt
  have HYB := Lib.hid hyb
  have hd0 : w3.cell? ⟨N5, 0, none⟩ = some (.int .i64 (pn : Int)) := HN3.out.cell 0
  have hd1 : w3.cell? ⟨N5, 1, none⟩ = some (.slice (some ⟨b1, 0, none⟩) k c1) := HN3.out.cell 1
  clear hrd3 hg3 hg3' hv3 hv3' hyb
  have hwl3 : w.heap.size < w3.heap.size := by omega
  obtain ⟨A9, b9, o9, c9, rfl, hc9, hrow9⟩ := HV3.out
  have HC9 := Lib.hid hc9
  have HR9 := Lib.hid hrow9
  clear hrow9 hc9
  go_wp2_with fail
  refine hK.out _ _ ?_ (fun hHeld2 => ?_)
  · exact ⟨hd0, hd1⟩
  clear hK K hHeld
  have hHeld := hHeld2
  clear hHeld2
  try simp only [Act.put, List.setIfInBounds_toArray, List.set_cons_zero, List.set_cons_succ]
  refine wpAnyH_ready (rs := [7]) (by kernel_rfl) (by simp) ?_
  refine AllReadyH.cons (of_drop rfl) (fun K hK => ?_) AllReadyH.nil
  go_simp
  (go_at_call 49; refine (l20Busy_c R p3 20 (pn : Int) b1 k c1 _ _ n w3 HX3.out (by omega) (by omega) (by omega) HSM.out HKN.out HF3.out.net (by omega) hR2).mono ?_; rintro e w4 ⟨vb, bs, p4, rfl, hbs, hp4, hv4, hrd4, hg4⟩)
  have HB4 := Lib.hid (HB3.out.grown hg4 (by omega))
  have HL4 := Lib.hid (below_grown HL3.out hg4 (by omega) (by omega))
  have HF4 := Lib.hid (HF3.out.grown hg4 hR2 (by omega))
  have HN4 := Lib.hid (HN3.out.grown hg4 (by omega))
  have HR94 := Lib.hid (HR9.out.grown hg4 (.inr (by omega)) (Nat.le_refl _))
  have hs4 := hg4.size
  have HX4 := Lib.hid hrd4
  have hRX4 := hrd4.lt
  have he0 : w4.cell? ⟨N5, 0, none⟩ = some (.int .i64 (pn : Int)) := HN4.out.cell 0
  have he1 : w4.cell? ⟨N5, 1, none⟩ = some (.slice (some ⟨b1, 0, none⟩) k c1) := HN4.out.cell 1
  obtain ⟨Ai, bi, oi, ci, rfl, hrowi⟩ := hv4
  have HRI := Lib.hid hrowi
  clear hrd4 hg4 hrowi
  go_wp2_with fail
  refine hK.out _ _ ?_ (fun hHeld2 => ?_)
  · exact ⟨he0, he1⟩
  clear hK K hHeld
  have hHeld := hHeld2
  clear hHeld2
  try simp only [Act.put, List.setIfInBounds_toArray, List.set_cons_zero, List.set_cons_succ]
  refine wpAnyH_ready (rs := [13]) (by kernel_rfl) (by simp) ?_
  refine AllReadyH.cons (of_drop rfl) (fun K hK => ?_) AllReadyH.nil
  go_simp
  (go_at_call 43; refine (pick_c R p4 ((k : Int) + 2) w4 HX4.out (by omega) (by omega) (by omega)).mono ?_; rintro e w5 ⟨r5, rfl, hr5, hrd5, hu5⟩)
  have hr5' := pick_lt hr5 (by omega)
  have hwr5 : IntKind.i64.wrap ((r5 : Int) - 1) = (r5 : Int) - 1 := IntWalk.i64_in _ (by omega)
  have hg5 : w4.grownBy w5 (some R) := grown_upd hu5
  have HB5 := Lib.hid (HB4.out.grown hg5 (by omega))
  have HL5 := Lib.hid (below_grown HL4.out hg5 (by omega) (by omega))
  have HF5 := Lib.hid (HF4.out.grown hg5 hR2 (by omega))
  have HN5 := Lib.hid (HN4.out.grown hg5 (by omega))
  have HR95 := Lib.hid (HR94.out.grown hg5 (.inr (by omega)) (by omega))
  have HRI5 := Lib.hid (HRI.out.grown hg5 (.inr (by omega)) (Nat.le_refl _))
  have HX5 := Lib.hid hrd5
  have hs5 := hg5.size
  have hRX5 := hrd5.lt
  have hf5a : w5.cell? ⟨N5, 0, none⟩ = some (.int .i64 (pn : Int)) := HN5.out.cell 0
  have hf5b : w5.cell? ⟨N5, 1, none⟩ = some (.slice (some ⟨b1, 0, none⟩) k c1) := HN5.out.cell 1
  have hlow5 : w.heap.size < w5.heap.size := by omega
  clear hrd5 hu5 hg5 hr5
  obtain ⟨hb0, hb1, hf0, hf1⟩ : w5.cell? ⟨w.heap.size, 0, none⟩ = some (.int .i64 0) ∧ w5.cell? ⟨w.heap.size, 1, none⟩ = some (.slice none 0 0) ∧ w5.frozen? ⟨w.heap.size, 0, none⟩ = false ∧ w5.frozen? ⟨w.heap.size, 1, none⟩ = false := ⟨HB5.out.cell 0, HB5.out.cell 1, HB5.out.free 0, HB5.out.free 1⟩
  go_wp2_with fail
  refine hK.out _ _ ?_ (fun hHeld2 => ?_)
  · exact ⟨hf5a, hf5b⟩
  clear hK K hHeld
  have hHeld := hHeld2
  clear hHeld2
  try simp only [Act.put, List.setIfInBounds_toArray, List.set_cons_zero, List.set_cons_succ]
  refine take_yes (i := 14) (v := ?_) rfl (by kernel_rfl) (by kernel_rfl) (by kernel_rfl) (fun _ _ _ h => h) (by kernel_rfl) ?_ (by assumption) ?_
  rotate_left
  · (intro w hSw; (try dsimp only at hSw); go_simp; try with_reducible rfl)
  try simp only [Act.put, List.setIfInBounds_toArray, List.set_cons_zero, List.set_cons_succ]
  refine wpAnyH_ready (rs := [15]) (by kernel_rfl) (by simp) ?_
  refine AllReadyH.cons (of_drop rfl) (fun K hK => ?_) AllReadyH.nil
  go_simp
  skip
  go_wp2_with fail
  refine hK.out _ _ ?_ (fun hHeld2 => ?_)
  · exact ⟨(by rw [World.cell?_setCell_far _ _ _ _ (by dsimp only; omega), World.cell?_setCell_far _ _ _ _ (by dsimp only; omega)]; exact hf5a), (by rw [World.cell?_setCell_far _ _ _ _ (by dsimp only; omega), World.cell?_setCell_far _ _ _ _ (by dsimp only; omega)]; exact hf5b)⟩
  clear hK K hHeld
  have hHeld := hHeld2
  clear hHeld2
  try simp only [Act.put, List.setIfInBounds_toArray, List.set_cons_zero, List.set_cons_succ]
  refine take_yes (i := 16) (v := ?_) rfl (by kernel_rfl) (by kernel_rfl) (by kernel_rfl) (fun _ _ _ h => h) (by kernel_rfl) ?_ (by assumption) ?_
  rotate_left
  · (intro w hSw; (try dsimp only at hSw); go_simp; try with_reducible rfl)
  try simp only [Act.put, List.setIfInBounds_toArray, List.set_cons_zero, List.set_cons_succ]
  refine take_yes (i := 17) (v := ?_) rfl (by kernel_rfl) (by kernel_rfl) (by kernel_rfl) (fun _ _ _ h => h) (by kernel_rfl) ?_ (by assumption) ?_
  rotate_left
  · (intro w hSw; (try dsimp only at hSw); go_simp; try with_reducible rfl)
  try simp only [Act.put, List.setIfInBounds_toArray, List.set_cons_zero, List.set_cons_succ]
  refine take_yes (i := 18) (v := ?_) rfl (by kernel_rfl) (by kernel_rfl) (by kernel_rfl) (fun _ _ _ h => h) (by kernel_rfl) ?_ (by assumption) ?_
  rotate_left
  · (intro w hSw; (try dsimp only at hSw); go_simp; try with_reducible rfl)
  try simp only [Act.put, List.setIfInBounds_toArray, List.set_cons_zero, List.set_cons_succ]
  refine wpAnyH_done (by kernel_rfl) ?_ _
  refine NoPanic.normal ?_
  go_wp2
  refine bodyPost_ret (v := .tuple #[.agg #[.int .i64 (pn : Int), .slice (some ⟨b1, 0, none⟩) k c1], .slice A9 ys.length c9, .slice Ai bs.length ci, .int .i64 ((r5 : Int) - 1)]) (by simp [results, Try.results23, go_sem, hb0, hb1]) rfl ?_
  exact ⟨(pn : Int), b1, k, c1, n, A9, b9, o9, c9, ys, Ai, bi, oi, ci, bs, (r5 : Int) - 1, rfl, by omega, HC9.out, HYB.out, by omega, by omega, by omega, (HR95.out.keep fun g h1 h2 => two_block w5 (by omega) _ _).more (by omega) (by rw [two_size]; omega), (HRI5.out.keep fun g h1 h2 => two_block w5 (by omega) _ _).more (by omega) (by rw [two_size]; omega), NetG.of (w1 := w1) HSM.out ((HF5.out.keep fun g h1 h2 => two_block w5 (by omega) _ _).more (Nat.le_refl _) (by rw [two_size]; omega)) (by omega), below_two HL5.out (Nat.le_refl _) _ _⟩
def NetDrawEnaTake (w : World) (e : Ending) (w' : World) : Prop := ∃ (P : Int) (b1 k c1 : Nat) (n : NNet) (A9 : Option Addr) (b9 o9 c9 : Nat) (ys : List Int) (x : Int), e = .returned (.tuple #[.agg #[.int .i64 P, .slice (some ⟨b1, 0, none⟩) k c1], .slice A9 ys.length c9, .int .i64 x]) ∧ ys.length ≤ 10 ∧ ys.length ≤ c9 ∧ (∀ x ∈ ys, -1 ≤ x ∧ x ≤ 5) ∧ -1 ≤ x ∧ x ≤ 10 ∧ Row w' w.heap.size w'.heap.size A9 b9 o9 (ints ys) ∧ NetG w w' P b1 k c1 n ∧ Below w.heap.size w w'
set_option maxRecDepth 20000 in
set_option maxHeartbeats 1000000 in
theorem drawEnaTake_c (zs : List Int) (A : Option Addr) (b off c : Nat) (w : World) (hV : Row w 0 w.heap.size A b off (bytesC zs)) (hz : ∀ x ∈ zs, 0 ≤ x ∧ x ≤ 255) (hm : zs.length ≤ maxLen) (hcap : zs.length ≤ c) :
    Calls Try.prog 10 #[.slice A zs.length c] w fun e w' => NetDrawEnaTake w e w' := by
  have hV1 := fun ob => hV.alloc (Nat.le_refl _) ob
  go_enter Try.func10, Try.ntmps10
  go_wp2_with fail
  refine (drawEnaCan_c zs A b off c _ ((hV1 _).more (Nat.le_refl _) (by simp)) hz hm hcap).mono ?_
  rintro e w1 ⟨P, b1, k, c1, n, A9, b9, o9, c9, ys, Ai, bi, oi, ci, bs, x, rfl, hy1, hyc, hyb, hbs, hx1, hx2, hry, hri, hg, hb⟩
  have hsz : (w.alloc (.cells #[.int .i64 0, .slice none 0 0] 25)).heap.size = w.heap.size + 1 := by simp
  have HB := Lib.hid (((Below.refl w.heap.size w).alloc (Nat.le_refl _) _).trans (hb.mono (by rw [hsz]; omega)))
  have hBK := Blk.below (Blk.new_ w 25 #[.int .i64 0, .slice none 0 0]) hb (by simp)
  have hNV := hg.2.2.2
  rw [hsz] at hNV hry hri
  have hs1 := HB.out.size
  have hlt1 := hBK.lt
  have hlow := hlt1
  have HNV := Lib.hid ((hNV.keep (w' := (((w1.setCell ⟨w.heap.size, 0, none⟩ (.int .i64 P)).setCell ⟨w.heap.size, 1, none⟩ (.slice (some ⟨b1, 0, none⟩) k c1)).alloc (.cells #[.int .i64 P, .slice (some ⟨b1, 0, none⟩) k c1] 25))) fun g h1 h2 => tb_block w1 (by omega) h2 _ _ _).more (show w.heap.size ≤ w.heap.size + 1 by omega) (show w1.heap.size ≤ (((w1.setCell ⟨w.heap.size, 0, none⟩ (.int .i64 P)).setCell ⟨w.heap.size, 1, none⟩ (.slice (some ⟨b1, 0, none⟩) k c1)).alloc (.cells #[.int .i64 P, .slice (some ⟨b1, 0, none⟩) k c1] 25)).heap.size by rw [tb_size]; omega))
  have HRY := Lib.hid ((hry.keep (w' := (((w1.setCell ⟨w.heap.size, 0, none⟩ (.int .i64 P)).setCell ⟨w.heap.size, 1, none⟩ (.slice (some ⟨b1, 0, none⟩) k c1)).alloc (.cells #[.int .i64 P, .slice (some ⟨b1, 0, none⟩) k c1] 25))) fun g h1 h2 => tb_block w1 (by omega) h2 _ _ _).more (show w.heap.size ≤ w.heap.size + 1 by omega) (show w1.heap.size ≤ (((w1.setCell ⟨w.heap.size, 0, none⟩ (.int .i64 P)).setCell ⟨w.heap.size, 1, none⟩ (.slice (some ⟨b1, 0, none⟩) k c1)).alloc (.cells #[.int .i64 P, .slice (some ⟨b1, 0, none⟩) k c1] 25)).heap.size by rw [tb_size]; omega))
  have HRI := Lib.hid ((hri.keep (w' := (((w1.setCell ⟨w.heap.size, 0, none⟩ (.int .i64 P)).setCell ⟨w.heap.size, 1, none⟩ (.slice (some ⟨b1, 0, none⟩) k c1)).alloc (.cells #[.int .i64 P, .slice (some ⟨b1, 0, none⟩) k c1] 25))) fun g h1 h2 => tb_block w1 (by omega) h2 _ _ _).more (show w.heap.size ≤ w.heap.size + 1 by omega) (show w1.heap.size ≤ (((w1.setCell ⟨w.heap.size, 0, none⟩ (.int .i64 P)).setCell ⟨w.heap.size, 1, none⟩ (.slice (some ⟨b1, 0, none⟩) k c1)).alloc (.cells #[.int .i64 P, .slice (some ⟨b1, 0, none⟩) k c1] 25)).heap.size by rw [tb_size]; omega))
  have HYB := Lib.hid (And.intro hyc hyb)
  have HG := Lib.hid (And.intro hg.1 (And.intro hg.2.1 hg.2.2.1))
  have HB2 := Lib.hid (tb_below HB.out (Nat.le_refl _) hs1 (.int .i64 P) (.slice (some ⟨b1, 0, none⟩) k c1) (.cells #[.int .i64 P, .slice (some ⟨b1, 0, none⟩) k c1] 25))
  have hBKW := ((hBK.set_ 0 (.int .i64 P)).set_ 1 (.slice (some ⟨b1, 0, none⟩) k c1)).alloc (.cells #[.int .i64 P, .slice (some ⟨b1, 0, none⟩) k c1] 25)
  clear hb hg hV1 hNV hsz hry hri hyb hyc HB
  obtain ⟨hb0, hb1, hf0, hf1⟩ : w1.cell? ⟨w.heap.size, 0, none⟩ = some (.int .i64 0) ∧ w1.cell? ⟨w.heap.size, 1, none⟩ = some (.slice none 0 0) ∧ w1.frozen? ⟨w.heap.size, 0, none⟩ = false ∧ w1.frozen? ⟨w.heap.size, 1, none⟩ = false := ⟨hBK.cell 0, hBK.cell 1, hBK.free 0, hBK.free 1⟩
  have HW := Lib.hid hBKW
  clear hBK hBKW
  go_wp2
  have g0 := HW.out.cell 0
  have g1 := HW.out.cell 1
  simp only [List.setIfInBounds_toArray, List.set_cons_zero, List.set_cons_succ, List.getElem?_toArray, List.getElem?_cons_zero, List.getElem?_cons_succ] at g0 g1
  refine bodyPost_ret (v := .tuple #[.agg #[.int .i64 P, .slice (some ⟨b1, 0, none⟩) k c1], .slice A9 ys.length c9, .int .i64 x]) (by simp [results, Try.results10, go_sem, g0, g1]) rfl ?_
  exact ⟨P, b1, k, c1, n, A9, b9, o9, c9, ys, x, rfl, hy1, HYB.out.1, HYB.out.2, hx1, hx2, HRY.out, ⟨HG.out.1, HG.out.2.1, HG.out.2.2, HNV.out⟩, HB2.out⟩
def NetDrawEnaTasks (w : World) (e : Ending) (w' : World) : Prop := ∃ (P : Int) (b1 k c1 : Nat) (n : NNet) (A9 : Option Addr) (b9 o9 c9 : Nat) (ys : List Int) (Ai : Option Addr) (bi oi ci : Nat) (bs : List NItem), e = .returned (.tuple #[.agg #[.int .i64 P, .slice (some ⟨b1, 0, none⟩) k c1], .slice A9 ys.length c9, .slice Ai bs.length ci]) ∧ ys.length ≤ 10 ∧ ys.length ≤ c9 ∧ (∀ x ∈ ys, -1 ≤ x ∧ x ≤ 5) ∧ bs.length ≤ 4 ∧ Row w' w.heap.size w'.heap.size A9 b9 o9 (ints ys) ∧ Row w' w.heap.size w'.heap.size Ai bi oi (itemCells bs) ∧ NetG w w' P b1 k c1 n ∧ Below w.heap.size w w'
set_option maxRecDepth 20000 in
set_option maxHeartbeats 1000000 in
theorem drawEnaTasks_c (zs : List Int) (A : Option Addr) (b off c : Nat) (w : World) (hV : Row w 0 w.heap.size A b off (bytesC zs)) (hz : ∀ x ∈ zs, 0 ≤ x ∧ x ≤ 255) (hm : zs.length ≤ maxLen) (hcap : zs.length ≤ c) :
    Calls Try.prog 28 #[.slice A zs.length c] w fun e w' => NetDrawEnaTasks w e w' := by
  have hV1 := fun ob => hV.alloc (Nat.le_refl _) ob
  go_enter Try.func28, Try.ntmps28
  go_wp2_with fail
  refine (drawEnaCan_c zs A b off c _ ((hV1 _).more (Nat.le_refl _) (by simp)) hz hm hcap).mono ?_
  rintro e w1 ⟨P, b1, k, c1, n, A9, b9, o9, c9, ys, Ai, bi, oi, ci, bs, x, rfl, hy1, hyc, hyb, hbs, hx1, hx2, hry, hri, hg, hb⟩
  have hsz : (w.alloc (.cells #[.int .i64 0, .slice none 0 0] 25)).heap.size = w.heap.size + 1 := by simp
  have HB := Lib.hid (((Below.refl w.heap.size w).alloc (Nat.le_refl _) _).trans (hb.mono (by rw [hsz]; omega)))
  have hBK := Blk.below (Blk.new_ w 25 #[.int .i64 0, .slice none 0 0]) hb (by simp)
  have hNV := hg.2.2.2
  rw [hsz] at hNV hry hri
  have hs1 := HB.out.size
  have hlt1 := hBK.lt
  have hlow := hlt1
  have HNV := Lib.hid ((hNV.keep (w' := (((w1.setCell ⟨w.heap.size, 0, none⟩ (.int .i64 P)).setCell ⟨w.heap.size, 1, none⟩ (.slice (some ⟨b1, 0, none⟩) k c1)).alloc (.cells #[.int .i64 P, .slice (some ⟨b1, 0, none⟩) k c1] 25))) fun g h1 h2 => tb_block w1 (by omega) h2 _ _ _).more (show w.heap.size ≤ w.heap.size + 1 by omega) (show w1.heap.size ≤ (((w1.setCell ⟨w.heap.size, 0, none⟩ (.int .i64 P)).setCell ⟨w.heap.size, 1, none⟩ (.slice (some ⟨b1, 0, none⟩) k c1)).alloc (.cells #[.int .i64 P, .slice (some ⟨b1, 0, none⟩) k c1] 25)).heap.size by rw [tb_size]; omega))
  have HRY := Lib.hid ((hry.keep (w' := (((w1.setCell ⟨w.heap.size, 0, none⟩ (.int .i64 P)).setCell ⟨w.heap.size, 1, none⟩ (.slice (some ⟨b1, 0, none⟩) k c1)).alloc (.cells #[.int .i64 P, .slice (some ⟨b1, 0, none⟩) k c1] 25))) fun g h1 h2 => tb_block w1 (by omega) h2 _ _ _).more (show w.heap.size ≤ w.heap.size + 1 by omega) (show w1.heap.size ≤ (((w1.setCell ⟨w.heap.size, 0, none⟩ (.int .i64 P)).setCell ⟨w.heap.size, 1, none⟩ (.slice (some ⟨b1, 0, none⟩) k c1)).alloc (.cells #[.int .i64 P, .slice (some ⟨b1, 0, none⟩) k c1] 25)).heap.size by rw [tb_size]; omega))
  have HRI := Lib.hid ((hri.keep (w' := (((w1.setCell ⟨w.heap.size, 0, none⟩ (.int .i64 P)).setCell ⟨w.heap.size, 1, none⟩ (.slice (some ⟨b1, 0, none⟩) k c1)).alloc (.cells #[.int .i64 P, .slice (some ⟨b1, 0, none⟩) k c1] 25))) fun g h1 h2 => tb_block w1 (by omega) h2 _ _ _).more (show w.heap.size ≤ w.heap.size + 1 by omega) (show w1.heap.size ≤ (((w1.setCell ⟨w.heap.size, 0, none⟩ (.int .i64 P)).setCell ⟨w.heap.size, 1, none⟩ (.slice (some ⟨b1, 0, none⟩) k c1)).alloc (.cells #[.int .i64 P, .slice (some ⟨b1, 0, none⟩) k c1] 25)).heap.size by rw [tb_size]; omega))
  have HYB := Lib.hid (And.intro hyc hyb)
  have HG := Lib.hid (And.intro hg.1 (And.intro hg.2.1 hg.2.2.1))
  have HB2 := Lib.hid (tb_below HB.out (Nat.le_refl _) hs1 (.int .i64 P) (.slice (some ⟨b1, 0, none⟩) k c1) (.cells #[.int .i64 P, .slice (some ⟨b1, 0, none⟩) k c1] 25))
  have hBKW := ((hBK.set_ 0 (.int .i64 P)).set_ 1 (.slice (some ⟨b1, 0, none⟩) k c1)).alloc (.cells #[.int .i64 P, .slice (some ⟨b1, 0, none⟩) k c1] 25)
  clear hb hg hV1 hNV hsz hry hri hyb hyc HB
  obtain ⟨hb0, hb1, hf0, hf1⟩ : w1.cell? ⟨w.heap.size, 0, none⟩ = some (.int .i64 0) ∧ w1.cell? ⟨w.heap.size, 1, none⟩ = some (.slice none 0 0) ∧ w1.frozen? ⟨w.heap.size, 0, none⟩ = false ∧ w1.frozen? ⟨w.heap.size, 1, none⟩ = false := ⟨hBK.cell 0, hBK.cell 1, hBK.free 0, hBK.free 1⟩
  have HW := Lib.hid hBKW
  clear hBK hBKW
  go_wp2
  have g0 := HW.out.cell 0
  have g1 := HW.out.cell 1
  simp only [List.setIfInBounds_toArray, List.set_cons_zero, List.set_cons_succ, List.getElem?_toArray, List.getElem?_cons_zero, List.getElem?_cons_succ] at g0 g1
  refine bodyPost_ret (v := .tuple #[.agg #[.int .i64 P, .slice (some ⟨b1, 0, none⟩) k c1], .slice A9 ys.length c9, .slice Ai bs.length ci]) (by simp [results, Try.results28, go_sem, g0, g1]) rfl ?_
  exact ⟨P, b1, k, c1, n, A9, b9, o9, c9, ys, Ai, bi, oi, ci, bs, rfl, hy1, HYB.out.1, HYB.out.2, hbs, HRY.out, HRI.out, ⟨HG.out.1, HG.out.2.1, HG.out.2.2, HNV.out⟩, HB2.out⟩
def NetDrawEnaWaits (w : World) (e : Ending) (w' : World) : Prop := ∃ (P : Int) (b1 k c1 : Nat) (n : NNet) (A9 : Option Addr) (b9 o9 c9 : Nat) (ys : List Int) (Ai : Option Addr) (bi oi ci : Nat) (bs : List NItem), e = .returned (.tuple #[.agg #[.int .i64 P, .slice (some ⟨b1, 0, none⟩) k c1], .slice A9 ys.length c9, .slice Ai bs.length ci]) ∧ ys.length ≤ 10 ∧ ys.length ≤ c9 ∧ (∀ x ∈ ys, -1 ≤ x ∧ x ≤ 5) ∧ bs.length ≤ 4 ∧ Row w' w.heap.size w'.heap.size A9 b9 o9 (ints ys) ∧ Row w' w.heap.size w'.heap.size Ai bi oi (itemCells bs) ∧ NetG w w' P b1 k c1 n ∧ Below w.heap.size w w'
set_option maxRecDepth 20000 in
set_option maxHeartbeats 1000000 in
theorem drawEnaWaits_c (zs : List Int) (A : Option Addr) (b off c : Nat) (w : World) (hV : Row w 0 w.heap.size A b off (bytesC zs)) (hz : ∀ x ∈ zs, 0 ≤ x ∧ x ≤ 255) (hm : zs.length ≤ maxLen) (hcap : zs.length ≤ c) :
    Calls Try.prog 31 #[.slice A zs.length c] w fun e w' => NetDrawEnaWaits w e w' := by
  have hV1 := fun ob => hV.alloc (Nat.le_refl _) ob
  go_enter Try.func31, Try.ntmps31
  go_wp2_with fail
  refine (drawEnaCan_c zs A b off c _ ((hV1 _).more (Nat.le_refl _) (by simp)) hz hm hcap).mono ?_
  rintro e w1 ⟨P, b1, k, c1, n, A9, b9, o9, c9, ys, Ai, bi, oi, ci, bs, x, rfl, hy1, hyc, hyb, hbs, hx1, hx2, hry, hri, hg, hb⟩
  have hsz : (w.alloc (.cells #[.int .i64 0, .slice none 0 0] 25)).heap.size = w.heap.size + 1 := by simp
  have HB := Lib.hid (((Below.refl w.heap.size w).alloc (Nat.le_refl _) _).trans (hb.mono (by rw [hsz]; omega)))
  have hBK := Blk.below (Blk.new_ w 25 #[.int .i64 0, .slice none 0 0]) hb (by simp)
  have hNV := hg.2.2.2
  rw [hsz] at hNV hry hri
  have hs1 := HB.out.size
  have hlt1 := hBK.lt
  have hlow := hlt1
  have HNV := Lib.hid ((hNV.keep (w' := (((w1.setCell ⟨w.heap.size, 0, none⟩ (.int .i64 P)).setCell ⟨w.heap.size, 1, none⟩ (.slice (some ⟨b1, 0, none⟩) k c1)).alloc (.cells #[.int .i64 P, .slice (some ⟨b1, 0, none⟩) k c1] 25))) fun g h1 h2 => tb_block w1 (by omega) h2 _ _ _).more (show w.heap.size ≤ w.heap.size + 1 by omega) (show w1.heap.size ≤ (((w1.setCell ⟨w.heap.size, 0, none⟩ (.int .i64 P)).setCell ⟨w.heap.size, 1, none⟩ (.slice (some ⟨b1, 0, none⟩) k c1)).alloc (.cells #[.int .i64 P, .slice (some ⟨b1, 0, none⟩) k c1] 25)).heap.size by rw [tb_size]; omega))
  have HRY := Lib.hid ((hry.keep (w' := (((w1.setCell ⟨w.heap.size, 0, none⟩ (.int .i64 P)).setCell ⟨w.heap.size, 1, none⟩ (.slice (some ⟨b1, 0, none⟩) k c1)).alloc (.cells #[.int .i64 P, .slice (some ⟨b1, 0, none⟩) k c1] 25))) fun g h1 h2 => tb_block w1 (by omega) h2 _ _ _).more (show w.heap.size ≤ w.heap.size + 1 by omega) (show w1.heap.size ≤ (((w1.setCell ⟨w.heap.size, 0, none⟩ (.int .i64 P)).setCell ⟨w.heap.size, 1, none⟩ (.slice (some ⟨b1, 0, none⟩) k c1)).alloc (.cells #[.int .i64 P, .slice (some ⟨b1, 0, none⟩) k c1] 25)).heap.size by rw [tb_size]; omega))
  have HRI := Lib.hid ((hri.keep (w' := (((w1.setCell ⟨w.heap.size, 0, none⟩ (.int .i64 P)).setCell ⟨w.heap.size, 1, none⟩ (.slice (some ⟨b1, 0, none⟩) k c1)).alloc (.cells #[.int .i64 P, .slice (some ⟨b1, 0, none⟩) k c1] 25))) fun g h1 h2 => tb_block w1 (by omega) h2 _ _ _).more (show w.heap.size ≤ w.heap.size + 1 by omega) (show w1.heap.size ≤ (((w1.setCell ⟨w.heap.size, 0, none⟩ (.int .i64 P)).setCell ⟨w.heap.size, 1, none⟩ (.slice (some ⟨b1, 0, none⟩) k c1)).alloc (.cells #[.int .i64 P, .slice (some ⟨b1, 0, none⟩) k c1] 25)).heap.size by rw [tb_size]; omega))
  have HYB := Lib.hid (And.intro hyc hyb)
  have HG := Lib.hid (And.intro hg.1 (And.intro hg.2.1 hg.2.2.1))
  have HB2 := Lib.hid (tb_below HB.out (Nat.le_refl _) hs1 (.int .i64 P) (.slice (some ⟨b1, 0, none⟩) k c1) (.cells #[.int .i64 P, .slice (some ⟨b1, 0, none⟩) k c1] 25))
  have hBKW := ((hBK.set_ 0 (.int .i64 P)).set_ 1 (.slice (some ⟨b1, 0, none⟩) k c1)).alloc (.cells #[.int .i64 P, .slice (some ⟨b1, 0, none⟩) k c1] 25)
  clear hb hg hV1 hNV hsz hry hri hyb hyc HB
  obtain ⟨hb0, hb1, hf0, hf1⟩ : w1.cell? ⟨w.heap.size, 0, none⟩ = some (.int .i64 0) ∧ w1.cell? ⟨w.heap.size, 1, none⟩ = some (.slice none 0 0) ∧ w1.frozen? ⟨w.heap.size, 0, none⟩ = false ∧ w1.frozen? ⟨w.heap.size, 1, none⟩ = false := ⟨hBK.cell 0, hBK.cell 1, hBK.free 0, hBK.free 1⟩
  have HW := Lib.hid hBKW
  clear hBK hBKW
  go_wp2
  have g0 := HW.out.cell 0
  have g1 := HW.out.cell 1
  simp only [List.setIfInBounds_toArray, List.set_cons_zero, List.set_cons_succ, List.getElem?_toArray, List.getElem?_cons_zero, List.getElem?_cons_succ] at g0 g1
  refine bodyPost_ret (v := .tuple #[.agg #[.int .i64 P, .slice (some ⟨b1, 0, none⟩) k c1], .slice A9 ys.length c9, .slice Ai bs.length ci]) (by simp [results, Try.results31, go_sem, g0, g1]) rfl ?_
  exact ⟨P, b1, k, c1, n, A9, b9, o9, c9, ys, Ai, bi, oi, ci, bs, rfl, hy1, HYB.out.1, HYB.out.2, hbs, HRY.out, HRI.out, ⟨HG.out.1, HG.out.2.1, HG.out.2.2, HNV.out⟩, HB2.out⟩
end Go.Proofs.Ytkcbghaadjhceaa
