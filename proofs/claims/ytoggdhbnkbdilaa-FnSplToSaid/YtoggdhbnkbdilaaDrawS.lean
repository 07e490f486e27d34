/- The draw of a task and data. -/
import Derived.Test.YtoggdhbnkbdilaaDrawN
namespace Go.Proofs.Ytoggdhbnkbdilaa
open Go.RowKit
set_option linter.unusedVariables false
set_option linter.unusedSimpArgs false

def TaskData (w : World) (e : Ending) (w' : World) : Prop := ∃ (t : NTask) (Ai : Option Addr) (ci : Nat) (Ao : Option Addr) (co : Nat) (Ac : Option Addr) (cc : Nat) (v : Value) (ys : List Int),
  e = .returned (.tuple #[.agg #[.int .i64 t.join, .int .i64 t.split, .slice Ai t.ins.length ci, .slice Ao t.out.length co, .slice Ac t.clear.length cc, .int .i64 t.role, .int .i64 t.apart, .int .i64 t.all, .int .i64 t.need], v]) ∧ SmallT t ∧
  TaskV w' w.heap.size w'.heap.size t (.slice Ai t.ins.length ci) (.slice Ao t.out.length co) (.slice Ac t.clear.length cc) ∧ ys.length ≤ 4 ∧ NumsV w' w.heap.size v ys ∧ Below w.heap.size w w'
set_option maxRecDepth 20000 in
set_option maxHeartbeats 1000000 in
theorem drawSplTo_c (zs : List Int) (A : Option Addr) (b off c : Nat) (w : World) (hV : Row w 0 w.heap.size A b off (bytesC zs)) (hz : ∀ x ∈ zs, 0 ≤ x ∧ x ≤ 255) (hm : zs.length ≤ maxLen) (hcap : zs.length ≤ c) :
    Calls Try.prog 22 #[.slice A zs.length c] w fun e w' => TaskData w e w' := by
  have hV1 := fun ob => hV.alloc (Nat.le_refl _) ob
  go_enter Try.func22, Try.ntmps22
  go_wp2_with fail
  refine (l20Open_c zs A b off c _ ((hV1 _).more (Nat.le_refl _) (by simp)) hz hm hcap).mono ?_
  rintro e w1 ⟨R, rfl, hR, hrd, hb⟩
  have hR' : w.heap.size + 1 ≤ R := by simpa using hR
  have HB := Lib.hid (((Below.refl w.heap.size w).alloc (Nat.le_refl _) _).trans (hb.mono (by simp)))
  have HBK := Lib.hid (Blk.below (Blk.new_ w 38 #[.int .i64 0, .int .i64 0, .slice none 0 0, .slice none 0 0, .slice none 0 0, .int .i64 0, .int .i64 0, .int .i64 0, .int .i64 0]) hb (by simp))
  have HRD := Lib.hid hrd
  have hRl := hrd.lt
  clear hR hb hrd hV1
  go_wp2_with fail
  refine (l20AnyNet_c R 0 9 w1 HRD.out (by omega) (by omega) (by omega)).mono ?_
  rintro e w2 ⟨P, b1, k, c1, n, p2, rfl, hsm, hp2, hfn, hrd2, hg2⟩
  have HG := Lib.hid (NetG.of (w := w) hsm hfn (by omega))
  have HB2 := Lib.hid (below_grown HB.out hg2 (by omega) (by omega))
  have HBK2 := Lib.hid (HBK.out.grown hg2 (by omega))
  have HRD2 := Lib.hid hrd2
  have hs2 : w.heap.size + 1 ≤ w2.heap.size := by have := hg2.size; omega
  have HF2 := Lib.hid hfn
  have hs12 : w1.heap.size ≤ w2.heap.size := hg2.size
  have hR2 : R < w1.heap.size := hRl
  have HSM := Lib.hid hsm
  clear hfn hrd2 hg2 hsm HRD HBK HB
  have hkb : 1 ≤ k ∧ k ≤ 6 := by obtain ⟨_, _, h3, h4, _⟩ := HSM.out; rw [HG.out.2.2.1] at h3 h4; exact ⟨h3, h4⟩
  have hk1 := hkb.1
  have hk6 := hkb.2
  have HNB := Lib.hid (Blk.new_ w2 25 #[.int .i64 P, .slice (some ⟨b1, 0, none⟩) k c1])
  have HX := Lib.hid (show RdV (w2.alloc (.cells #[.int .i64 P, .slice (some ⟨b1, 0, none⟩) k c1] 25)) R p2 from HRD2.out.alloc _)
  have HFX := Lib.hid (HF2.out.alloc (Nat.le_refl _) (.cells #[.int .i64 P, .slice (some ⟨b1, 0, none⟩) k c1] 25))
  have HBX := Lib.hid (HBK2.out.alloc (.cells #[.int .i64 P, .slice (some ⟨b1, 0, none⟩) k c1] 25))
  have HLX := Lib.hid (HB2.out.alloc (by omega) (.cells #[.int .i64 P, .slice (some ⟨b1, 0, none⟩) k c1] 25))
  have hsX : w2.heap.size < (w2.alloc (.cells #[.int .i64 P, .slice (some ⟨b1, 0, none⟩) k c1] 25)).heap.size := by simp
  clear HRD2 HF2 HBK2 HB2
  go_wp2
  generalize hX : w2.alloc (.cells #[.int .i64 P, .slice (some ⟨b1, 0, none⟩) k c1] 25) = wx at HNB HX HFX HBX HLX hsX ⊢
  clear hX
  generalize hN5 : w2.heap.size = N5 at HNB HFX hsX hs2 hs12 ⊢
  have hc0 : wx.cell? ⟨N5, 0, none⟩ = some (.int .i64 P) := HNB.out.cell 0
  have hc1 : wx.cell? ⟨N5, 1, none⟩ = some (.slice (some ⟨b1, 0, none⟩) k c1) := HNB.out.cell 1
  have hRX : R < wx.heap.size := HX.out.lt
  have hlow : w.heap.size < wx.heap.size := by omega
  refine wp_region_noPanic ?_
  refine wp_region_held_drew (S := fun w' => (w'.cell? ⟨N5, 0, none⟩ = some (.int .i64 P) ∧ w'.cell? ⟨N5, 1, none⟩ = some (.slice (some ⟨b1, 0, none⟩) k c1))) (by kernel_rfl) ⟨hc0, hc1⟩ (fun hHeld => ?_)
  refine take_yes (i := 0) (v := ?_) rfl (by kernel_rfl) (by kernel_rfl) (by kernel_rfl) (fun _ _ _ h => h) (by kernel_rfl) ?_ (by assumption) ?_
  rotate_left
  · (intro w hSw; (try dsimp only at hSw); go_simp; try with_reducible rfl)
  try simp only [Act.put, List.setIfInBounds_toArray, List.set_cons_zero, List.set_cons_succ]
  refine take_yes (i := 1) (v := ?_) rfl (by kernel_rfl) (by kernel_rfl) (by kernel_rfl) (fun _ _ _ h => h) (by kernel_rfl) ?_ (by assumption) ?_
  rotate_left
  · (intro w hSw; (try dsimp only at hSw); go_simp; try with_reducible rfl)
  try simp only [Act.put, List.setIfInBounds_toArray, List.set_cons_zero, List.set_cons_succ]
  refine take_yes (i := 2) (v := ?_) rfl (by kernel_rfl) (by kernel_rfl) (by kernel_rfl) (fun _ _ _ h => h) (by kernel_rfl) ?_ (by assumption) ?_
  rotate_left
  · (intro w hSw; (try dsimp only at hSw); go_simp; try with_reducible rfl)
  try simp only [Act.put, List.setIfInBounds_toArray, List.set_cons_zero, List.set_cons_succ]
  refine take_yes (i := 3) (v := ?_) rfl (by kernel_rfl) (by kernel_rfl) (by kernel_rfl) (fun _ _ _ h => h) (by kernel_rfl) ?_ (by assumption) ?_
  rotate_left
  · (intro w hSw; (try dsimp only at hSw); go_simp; try with_reducible rfl)
  try simp only [Act.put, List.setIfInBounds_toArray, List.set_cons_zero, List.set_cons_succ]
  refine take_yes (i := 4) (v := ?_) rfl (by kernel_rfl) (by kernel_rfl) (by kernel_rfl) (fun _ _ _ h => h) (by kernel_rfl) ?_ (by assumption) ?_
  rotate_left
  · (intro w hSw; (try dsimp only at hSw); go_simp; try with_reducible rfl)
  try simp only [Act.put, List.setIfInBounds_toArray, List.set_cons_zero, List.set_cons_succ]
  refine take_yes (i := 5) (v := ?_) rfl (by kernel_rfl) (by kernel_rfl) (by kernel_rfl) (fun _ _ _ h => h) (by kernel_rfl) ?_ (by assumption) ?_
  rotate_left
  · (intro w hSw; (try dsimp only at hSw); go_simp; try with_reducible rfl)
  try simp only [Act.put, List.setIfInBounds_toArray, List.set_cons_zero, List.set_cons_succ]
  refine take_yes (i := 9) (v := ?_) rfl (by kernel_rfl) (by kernel_rfl) (by kernel_rfl) (fun _ _ _ h => h) (by kernel_rfl) ?_ (by assumption) ?_
  rotate_left
  · (intro w hSw; (try dsimp only at hSw); go_simp; try with_reducible rfl)
  try simp only [Act.put, List.setIfInBounds_toArray, List.set_cons_zero, List.set_cons_succ]
  refine wpAnyH_ready (rs := [6]) (by kernel_rfl) (by simp) ?_
  refine AllReadyH.cons (of_drop rfl) (fun K hK => ?_) AllReadyH.nil
  go_simp
  (go_at_call 58; refine (pick_c R p2 k wx.drew (show RdV wx.drew R p2 from HX.out) (by omega) (by omega) (by omega)).mono ?_; rintro e w3 ⟨r3, rfl, hr3, hrd3, hu3⟩)
  have hr3' : (r3 : Int) < (k : Int) := pick_lt hr3 (by omega)
  have hg3 : wx.grownBy w3 (some R) := grown_tr (grown_drew wx R) (grown_upd hu3)
  have HB3 := Lib.hid (HBX.out.grown hg3 (by omega))
  have HL3 := Lib.hid (below_grown HLX.out hg3 (by omega) (by omega))
  have HF3 := Lib.hid (HFX.out.grown hg3 hR2 (Nat.le_of_lt hsX))
  have HN3 := Lib.hid (HNB.out.grown hg3 (by omega))
  have HX3 := Lib.hid hrd3
  have hs3 := hg3.size
  have hRX3 := hrd3.lt
  have hd0 : w3.cell? ⟨N5, 0, none⟩ = some (.int .i64 P) := HN3.out.cell 0
  have hd1 : w3.cell? ⟨N5, 1, none⟩ = some (.slice (some ⟨b1, 0, none⟩) k c1) := HN3.out.cell 1
  clear hrd3 hu3 hg3 hr3
  try go_wp2_with fail
  refine hK.out _ _ (⟨hd0, hd1⟩) (fun hHeld2 => ?_)
  clear hK K hHeld
  have hHeld := hHeld2
  clear hHeld2
  try simp only [Act.put, List.setIfInBounds_toArray, List.set_cons_zero, List.set_cons_succ]
  refine take_yes (i := 7) (v := ?_) rfl (by kernel_rfl) (by kernel_rfl) (by kernel_rfl) (fun _ _ _ h => h) (by kernel_rfl) ?_ (by assumption) ?_
  rotate_left
  · (intro w hSw; (try dsimp only at hSw); go_simp; try with_reducible rfl)
  try simp only [Act.put, List.setIfInBounds_toArray, List.set_cons_zero, List.set_cons_succ]
  refine wpAnyH_ready (rs := [8, 10]) (by kernel_rfl) (by simp) ?_
  refine AllReadyH.cons (of_drop rfl) (fun K hK => ?_) (AllReadyH.cons (of_drop rfl) (fun K hK => ?_) AllReadyH.nil)
  · skip
    obtain ⟨⟨t, vi, vo, vc⟩, hnt, hta, hcm, _⟩ := HF3.out.task (i := r3) (by omega)
    have hfo := hta.task.forms
    dsimp only at hfo
    obtain ⟨Ai, ci, Ao, co, Ac, cc, rfl, rfl, rfl⟩ := hfo
    have q0 : w3.cell? ⟨b1, r3 * 9, none⟩ = some (.int .i64 t.join) := hcm 0 _ rfl
    have q1 : w3.cell? ⟨b1, r3 * 9 + 1, none⟩ = some (.int .i64 t.split) := hcm 1 _ rfl
    have q2 : w3.cell? ⟨b1, r3 * 9 + 2, none⟩ = some (.slice Ai t.ins.length ci) := hcm 2 _ rfl
    have q3 : w3.cell? ⟨b1, r3 * 9 + 3, none⟩ = some (.slice Ao t.out.length co) := hcm 3 _ rfl
    have q4 : w3.cell? ⟨b1, r3 * 9 + 4, none⟩ = some (.slice Ac t.clear.length cc) := hcm 4 _ rfl
    have q5 : w3.cell? ⟨b1, r3 * 9 + 5, none⟩ = some (.int .i64 t.role) := hcm 5 _ rfl
    have q6 : w3.cell? ⟨b1, r3 * 9 + 6, none⟩ = some (.int .i64 t.apart) := hcm 6 _ rfl
    have q7 : w3.cell? ⟨b1, r3 * 9 + 7, none⟩ = some (.int .i64 t.all) := hcm 7 _ rfl
    have q8 : w3.cell? ⟨b1, r3 * 9 + 8, none⟩ = some (.int .i64 t.need) := hcm 8 _ rfl
    have HTA := Lib.hid hta.task
    have HST := Lib.hid (HSM.out.2.2.2.2 t (List.mem_of_getElem? hnt))
    clear hcm hta hnt
    go_simp
    try go_wp2_with fail
    refine hK.out _ _ (⟨hd0, hd1⟩) (fun hHeld2 => ?_)
    clear hK K hHeld
    have hHeld := hHeld2
    clear hHeld2
    try simp only [Act.put, List.setIfInBounds_toArray, List.set_cons_zero, List.set_cons_succ]
    refine wpAnyH_ready (rs := [10]) (by kernel_rfl) (by simp) ?_
    refine AllReadyH.cons (of_drop rfl) (fun K hK => ?_) AllReadyH.nil
    go_simp
    (go_at_call 59; refine (l20Data_c R (p2 + 1) 12 w3 HX3.out (by omega) (by omega) (by omega)).mono ?_; rintro e w4 ⟨v4, ys, p4, rfl, hys, hp4, hv4, hrd4, hg4⟩)
    have HB4 := Lib.hid (HB3.out.grown hg4 (by omega))
    have HL4 := Lib.hid (below_grown HL3.out hg4 (by omega) (by omega))
    have HF4 := Lib.hid (HF3.out.grown hg4 hR2 (by omega))
    have HN4 := Lib.hid (HN3.out.grown hg4 (by omega))
    have hs4 := hg4.size
    have he0 : w4.cell? ⟨N5, 0, none⟩ = some (.int .i64 P) := HN4.out.cell 0
    have he1 : w4.cell? ⟨N5, 1, none⟩ = some (.slice (some ⟨b1, 0, none⟩) k c1) := HN4.out.cell 1
    obtain ⟨A9, b9, o9, c9, rfl, hc9, hrow9⟩ := hv4
    have HG4 := Lib.hid hg4
    have HV4 := Lib.hid (show NumsV w4 w3.heap.size (.slice A9 ys.length c9) ys from ⟨A9, b9, o9, c9, rfl, hc9, hrow9⟩)
    clear hrd4 hg4 hrow9
    try go_wp2_with fail
    refine hK.out _ _ (⟨he0, he1⟩) (fun hHeld2 => ?_)
    clear hK K hHeld
    have hHeld := hHeld2
    clear hHeld2
    try simp only [Act.put, List.setIfInBounds_toArray, List.set_cons_zero, List.set_cons_succ]
    have HTV := Lib.hid ((HTA.out.keep (w' := w4) fun g h1 h2 => HG4.out.block g (by omega) (fun e => by injection e with e; omega)))
    have x0 : w4.cell? ⟨w.heap.size, 0, none⟩ = some (.int .i64 0) := HB4.out.cell 0
    have x1 : w4.cell? ⟨w.heap.size, 1, none⟩ = some (.int .i64 0) := HB4.out.cell 1
    have x2 : w4.cell? ⟨w.heap.size, 2, none⟩ = some (.slice none 0 0) := HB4.out.cell 2
    have x3 : w4.cell? ⟨w.heap.size, 3, none⟩ = some (.slice none 0 0) := HB4.out.cell 3
    have x4 : w4.cell? ⟨w.heap.size, 4, none⟩ = some (.slice none 0 0) := HB4.out.cell 4
    have x5 : w4.cell? ⟨w.heap.size, 5, none⟩ = some (.int .i64 0) := HB4.out.cell 5
    have x6 : w4.cell? ⟨w.heap.size, 6, none⟩ = some (.int .i64 0) := HB4.out.cell 6
    have x7 : w4.cell? ⟨w.heap.size, 7, none⟩ = some (.int .i64 0) := HB4.out.cell 7
    have x8 : w4.cell? ⟨w.heap.size, 8, none⟩ = some (.int .i64 0) := HB4.out.cell 8
    have y0 := HB4.out.free 0
    have y1 := HB4.out.free 1
    have y2 := HB4.out.free 2
    have y3 := HB4.out.free 3
    have y4 := HB4.out.free 4
    have y5 := HB4.out.free 5
    have y6 := HB4.out.free 6
    have y7 := HB4.out.free 7
    have y8 := HB4.out.free 8
    have hU := upd_put (lo := w.heap.size) (hi := w.heap.size + 1) (b := w.heap.size) (Nat.le_refl _) (by omega) (t.cells (.slice Ai t.ins.length ci) (.slice Ao t.out.length co) (.slice Ac t.clear.length cc)) 0 (Upd.refl w.heap.size (w.heap.size + 1) w4)
    have HU := Lib.hid hU
    have hz0 := (hU.cell (p := ⟨N5, 0, none⟩) (by dsimp only; omega)).trans he0
    have hz1 := (hU.cell (p := ⟨N5, 1, none⟩) (by dsimp only; omega)).trans he1
    have HZZ := Lib.hid (And.intro hz0 hz1)
    clear hU hz0 hz1
    refine wpAnyH_ready (rs := [11]) (by kernel_rfl) (by simp) ?_
    refine AllReadyH.cons (of_drop rfl) (fun K hK => ?_) AllReadyH.nil
    go_simp
    try go_wp2_with fail
    refine hK.out _ _ (HZZ.out) (fun hHeld2 => ?_)
    clear hK K hHeld
    have hHeld := hHeld2
    clear hHeld2
    try simp only [Act.put, List.setIfInBounds_toArray, List.set_cons_zero, List.set_cons_succ]
    refine take_yes (i := 12) (v := ?_) rfl (by kernel_rfl) (by kernel_rfl) (by kernel_rfl) (fun _ _ _ h => h) (by kernel_rfl) ?_ (by assumption) ?_
    rotate_left
    · (intro w hSw; (try dsimp only at hSw); go_simp; try with_reducible rfl)
    try simp only [Act.put, List.setIfInBounds_toArray, List.set_cons_zero, List.set_cons_succ]
    refine wpAnyH_done (by kernel_rfl) ?_ _
    refine NoPanic.normal ?_
    go_wp2
    refine bodyPost_ret (v := .tuple #[.agg #[.int .i64 t.join, .int .i64 t.split, .slice Ai t.ins.length ci, .slice Ao t.out.length co, .slice Ac t.clear.length cc, .int .i64 t.role, .int .i64 t.apart, .int .i64 t.all, .int .i64 t.need], .slice A9 ys.length c9]) (by simp [results, Try.results22, go_sem, x0, x1, x2, x3, x4, x5, x6, x7, x8]) rfl ?_
    have hsz := HU.out.size
    refine ⟨t, Ai, ci, Ao, co, Ac, cc, _, ys, rfl, HST.out, ?_, hys, ?_, ?_⟩
    · exact (HTV.out.keep fun g h1 h2 => HU.out.block g (by omega)).more (by omega) (by have := Nat.le_of_eq hsz.symm; exact Nat.le_trans (by omega) this)
    · exact (HV4.out.keep (fun g h1 h2 => HU.out.block g (by omega)) (Nat.le_of_eq hsz.symm)).lo (by omega)
    · exact HL4.out.trans ⟨HU.out.os, HU.out.tape, HU.out.output, by have := Nat.le_of_eq hsz.symm; exact Nat.le_trans (by have := HL4.out.size; omega) this, fun g hg => HU.out.block g (by omega)⟩
  · skip
    go_simp
    (go_at_call 59; refine (l20Data_c R (p2 + 1) 12 w3 HX3.out (by omega) (by omega) (by omega)).mono ?_; rintro e w4 ⟨v4, ys, p4, rfl, hys, hp4, hv4, hrd4, hg4⟩)
    have HB4 := Lib.hid (HB3.out.grown hg4 (by omega))
    have HL4 := Lib.hid (below_grown HL3.out hg4 (by omega) (by omega))
    have HF4 := Lib.hid (HF3.out.grown hg4 hR2 (by omega))
    have HN4 := Lib.hid (HN3.out.grown hg4 (by omega))
    have hs4 := hg4.size
    have he0 : w4.cell? ⟨N5, 0, none⟩ = some (.int .i64 P) := HN4.out.cell 0
    have he1 : w4.cell? ⟨N5, 1, none⟩ = some (.slice (some ⟨b1, 0, none⟩) k c1) := HN4.out.cell 1
    obtain ⟨A9, b9, o9, c9, rfl, hc9, hrow9⟩ := hv4
    have HG4 := Lib.hid hg4
    have HV4 := Lib.hid (show NumsV w4 w3.heap.size (.slice A9 ys.length c9) ys from ⟨A9, b9, o9, c9, rfl, hc9, hrow9⟩)
    clear hrd4 hg4 hrow9
    try go_wp2_with fail
    refine hK.out _ _ (⟨he0, he1⟩) (fun hHeld2 => ?_)
    clear hK K hHeld
    have hHeld := hHeld2
    clear hHeld2
    try simp only [Act.put, List.setIfInBounds_toArray, List.set_cons_zero, List.set_cons_succ]
    refine wpAnyH_ready (rs := [8]) (by kernel_rfl) (by simp) ?_
    refine AllReadyH.cons (of_drop rfl) (fun K hK => ?_) AllReadyH.nil
    obtain ⟨⟨t, vi, vo, vc⟩, hnt, hta, hcm, _⟩ := HF4.out.task (i := r3) (by omega)
    have hfo := hta.task.forms
    dsimp only at hfo
    obtain ⟨Ai, ci, Ao, co, Ac, cc, rfl, rfl, rfl⟩ := hfo
    have q0 : w4.cell? ⟨b1, r3 * 9, none⟩ = some (.int .i64 t.join) := hcm 0 _ rfl
    have q1 : w4.cell? ⟨b1, r3 * 9 + 1, none⟩ = some (.int .i64 t.split) := hcm 1 _ rfl
    have q2 : w4.cell? ⟨b1, r3 * 9 + 2, none⟩ = some (.slice Ai t.ins.length ci) := hcm 2 _ rfl
    have q3 : w4.cell? ⟨b1, r3 * 9 + 3, none⟩ = some (.slice Ao t.out.length co) := hcm 3 _ rfl
    have q4 : w4.cell? ⟨b1, r3 * 9 + 4, none⟩ = some (.slice Ac t.clear.length cc) := hcm 4 _ rfl
    have q5 : w4.cell? ⟨b1, r3 * 9 + 5, none⟩ = some (.int .i64 t.role) := hcm 5 _ rfl
    have q6 : w4.cell? ⟨b1, r3 * 9 + 6, none⟩ = some (.int .i64 t.apart) := hcm 6 _ rfl
    have q7 : w4.cell? ⟨b1, r3 * 9 + 7, none⟩ = some (.int .i64 t.all) := hcm 7 _ rfl
    have q8 : w4.cell? ⟨b1, r3 * 9 + 8, none⟩ = some (.int .i64 t.need) := hcm 8 _ rfl
    have HTA := Lib.hid hta.task
    have HST := Lib.hid (HSM.out.2.2.2.2 t (List.mem_of_getElem? hnt))
    clear hcm hta hnt
    go_simp
    try go_wp2_with fail
    refine hK.out _ _ (⟨he0, he1⟩) (fun hHeld2 => ?_)
    clear hK K hHeld
    have hHeld := hHeld2
    clear hHeld2
    try simp only [Act.put, List.setIfInBounds_toArray, List.set_cons_zero, List.set_cons_succ]
    have HTV := Lib.hid (HTA.out)
    have x0 : w4.cell? ⟨w.heap.size, 0, none⟩ = some (.int .i64 0) := HB4.out.cell 0
    have x1 : w4.cell? ⟨w.heap.size, 1, none⟩ = some (.int .i64 0) := HB4.out.cell 1
    have x2 : w4.cell? ⟨w.heap.size, 2, none⟩ = some (.slice none 0 0) := HB4.out.cell 2
    have x3 : w4.cell? ⟨w.heap.size, 3, none⟩ = some (.slice none 0 0) := HB4.out.cell 3
    have x4 : w4.cell? ⟨w.heap.size, 4, none⟩ = some (.slice none 0 0) := HB4.out.cell 4
    have x5 : w4.cell? ⟨w.heap.size, 5, none⟩ = some (.int .i64 0) := HB4.out.cell 5
    have x6 : w4.cell? ⟨w.heap.size, 6, none⟩ = some (.int .i64 0) := HB4.out.cell 6
    have x7 : w4.cell? ⟨w.heap.size, 7, none⟩ = some (.int .i64 0) := HB4.out.cell 7
    have x8 : w4.cell? ⟨w.heap.size, 8, none⟩ = some (.int .i64 0) := HB4.out.cell 8
    have y0 := HB4.out.free 0
    have y1 := HB4.out.free 1
    have y2 := HB4.out.free 2
    have y3 := HB4.out.free 3
    have y4 := HB4.out.free 4
    have y5 := HB4.out.free 5
    have y6 := HB4.out.free 6
    have y7 := HB4.out.free 7
    have y8 := HB4.out.free 8
    have hU := upd_put (lo := w.heap.size) (hi := w.heap.size + 1) (b := w.heap.size) (Nat.le_refl _) (by omega) (t.cells (.slice Ai t.ins.length ci) (.slice Ao t.out.length co) (.slice Ac t.clear.length cc)) 0 (Upd.refl w.heap.size (w.heap.size + 1) w4)
    have HU := Lib.hid hU
    have hz0 := (hU.cell (p := ⟨N5, 0, none⟩) (by dsimp only; omega)).trans he0
    have hz1 := (hU.cell (p := ⟨N5, 1, none⟩) (by dsimp only; omega)).trans he1
    have HZZ := Lib.hid (And.intro hz0 hz1)
    clear hU hz0 hz1
    refine wpAnyH_ready (rs := [11]) (by kernel_rfl) (by simp) ?_
    refine AllReadyH.cons (of_drop rfl) (fun K hK => ?_) AllReadyH.nil
    go_simp
    try go_wp2_with fail
    refine hK.out _ _ (HZZ.out) (fun hHeld2 => ?_)
    clear hK K hHeld
    have hHeld := hHeld2
    clear hHeld2
    try simp only [Act.put, List.setIfInBounds_toArray, List.set_cons_zero, List.set_cons_succ]
    refine take_yes (i := 12) (v := ?_) rfl (by kernel_rfl) (by kernel_rfl) (by kernel_rfl) (fun _ _ _ h => h) (by kernel_rfl) ?_ (by assumption) ?_
    rotate_left
    · (intro w hSw; (try dsimp only at hSw); go_simp; try with_reducible rfl)
    try simp only [Act.put, List.setIfInBounds_toArray, List.set_cons_zero, List.set_cons_succ]
    refine wpAnyH_done (by kernel_rfl) ?_ _
    refine NoPanic.normal ?_
    go_wp2
    refine bodyPost_ret (v := .tuple #[.agg #[.int .i64 t.join, .int .i64 t.split, .slice Ai t.ins.length ci, .slice Ao t.out.length co, .slice Ac t.clear.length cc, .int .i64 t.role, .int .i64 t.apart, .int .i64 t.all, .int .i64 t.need], .slice A9 ys.length c9]) (by simp [results, Try.results22, go_sem, x0, x1, x2, x3, x4, x5, x6, x7, x8]) rfl ?_
    have hsz := HU.out.size
    refine ⟨t, Ai, ci, Ao, co, Ac, cc, _, ys, rfl, HST.out, ?_, hys, ?_, ?_⟩
    · exact (HTV.out.keep fun g h1 h2 => HU.out.block g (by omega)).more (by omega) (by have := Nat.le_of_eq hsz.symm; exact Nat.le_trans (by omega) this)
    · exact (HV4.out.keep (fun g h1 h2 => HU.out.block g (by omega)) (Nat.le_of_eq hsz.symm)).lo (by omega)
    · exact HL4.out.trans ⟨HU.out.os, HU.out.tape, HU.out.output, by have := Nat.le_of_eq hsz.symm; exact Nat.le_trans (by have := HL4.out.size; omega) this, fun g hg => HU.out.block g (by omega)⟩
end Go.Proofs.Ytoggdhbnkbdilaa
