/- The laws' conversions of flows, tasks, nets and items: fresh memory that reads as what was given. -/
import Derived.Test.YteedgmaeopnidaaNet
import Derived.Test.YteedgmaeopnidaaInts
import Derived.Test.YteedgmaeopnidaaData
namespace Go.Proofs.Yteedgmaeopnidaa
open Go.RowKit
set_option linter.unusedVariables false
set_option linter.unusedSimpArgs false

theorem Try.infoFlow : (Try.prog.info? 72).map (fun i => (i.zero, i.size, i.bytes)) = some (some (.agg #[.int .i64 0, .int .i64 0, .int .i64 0, .int .i64 0]), 4, 32) := by kernel_rfl
theorem Try.infoTask : (Try.prog.info? 44).map (fun i => (i.zero, i.size, i.bytes)) = some (some (.agg #[.int .i64 0, .int .i64 0, .slice none 0 0, .slice none 0 0, .slice none 0 0, .int .i64 0, .int .i64 0, .int .i64 0, .int .i64 0]), 9, 120) := by kernel_rfl

set_option maxHeartbeats 2000000 in
theorem toNetFlow_c (a o v k : Int) (w : World) :
    Calls Try.prog 58 #[.agg #[.int .i64 a, .int .i64 o, .int .i64 v, .int .i64 k]] w fun e w' => e = .returned (.agg #[.int .i64 a, .int .i64 o, .int .i64 v, .int .i64 k]) ∧ Below w.heap.size w w' := by
  go_enter Try.func58, Try.ntmps58
  go_wp2_with fail
  refine (toExpAsk_c _ _ _ _).mono ?_
  rintro e w1 ⟨rfl, hb1⟩
  have cx0 := hb1.cell (p := ⟨w.heap.size + 1 + 1, 0, none⟩) (by simp)
  have fx0 := hb1.frozen (p := ⟨w.heap.size + 1 + 1, 0, none⟩) (by simp)
  have cx1 := hb1.cell (p := ⟨w.heap.size + 1 + 1, 1, none⟩) (by simp)
  have fx1 := hb1.frozen (p := ⟨w.heap.size + 1 + 1, 1, none⟩) (by simp)
  have cx2 := hb1.cell (p := ⟨w.heap.size + 1 + 1, 2, none⟩) (by simp)
  have fx2 := hb1.frozen (p := ⟨w.heap.size + 1 + 1, 2, none⟩) (by simp)
  have cx3 := hb1.cell (p := ⟨w.heap.size + 1 + 1, 3, none⟩) (by simp)
  have fx3 := hb1.frozen (p := ⟨w.heap.size + 1 + 1, 3, none⟩) (by simp)
  simp [World.cell?_alloc_at, World.frozen?_alloc_at, World.cell?_alloc_past, World.frozen?_alloc_past] at cx0 fx0 cx1 fx1 cx2 fx2 cx3 fx3
  have cy0 := hb1.cell (p := ⟨w.heap.size + 1, 0, none⟩) (by simp)
  have fy0 := hb1.frozen (p := ⟨w.heap.size + 1, 0, none⟩) (by simp)
  have cy1 := hb1.cell (p := ⟨w.heap.size + 1, 1, none⟩) (by simp)
  have fy1 := hb1.frozen (p := ⟨w.heap.size + 1, 1, none⟩) (by simp)
  have cy2 := hb1.cell (p := ⟨w.heap.size + 1, 2, none⟩) (by simp)
  have fy2 := hb1.frozen (p := ⟨w.heap.size + 1, 2, none⟩) (by simp)
  have cy3 := hb1.cell (p := ⟨w.heap.size + 1, 3, none⟩) (by simp)
  have fy3 := hb1.frozen (p := ⟨w.heap.size + 1, 3, none⟩) (by simp)
  simp [World.cell?_alloc_at, World.frozen?_alloc_at, World.cell?_alloc_past, World.frozen?_alloc_past] at cy0 fy0 cy1 fy1 cy2 fy2 cy3 fy3
  have HB := Lib.hid ((((Below.refl w.heap.size w).alloc (Nat.le_refl _) _).alloc (by simp) _).alloc (by simp; omega) _ |>.trans (hb1.mono (by simp; omega)))
  clear hb1
  go_wp2
  refine bodyPost_ret (v := .agg #[.int .i64 a, .int .i64 o, .int .i64 v, .int .i64 k]) (by simp [results, Try.results58, go_sem, cx0, cx1, cx2, cx3, cy0, cy1, cy2, cy3, fx0, fx1, fx2, fx3, fy0, fy1, fy2, fy3]) rfl ⟨rfl, ?_⟩
  have h1 : w.heap.size ≤ w.heap.size + 1 := Nat.le_succ _
  have h2 : w.heap.size ≤ w.heap.size + 1 + 1 := Nat.le_trans h1 (Nat.le_succ _)
  exact ((((((HB.out.setCell h2 _).setCell h2 _).setCell h2 _).setCell h1 _).setCell h1 _).setCell h1 _).setCell h1 _

set_option maxHeartbeats 1000000 in
theorem toNetFlowS_c (l : List NFlow) (lo hi : Nat) (A : Option Addr) (b off c : Nat) (w : World) (hV : Row w lo hi A b off (flowCells l)) (hhi : hi ≤ w.heap.size) (hm : l.length ≤ 1048576) :
    Calls Try.prog 45 #[.slice A l.length c] w fun e w' => ∃ b', e = .returned (.slice (some ⟨b', 0, none⟩) l.length l.length) ∧ w.heap.size ≤ b' ∧ b' < w'.heap.size ∧ Row w' b' (b' + 1) (some ⟨b', 0, none⟩) b' 0 (flowCells l) ∧ Below w.heap.size w w' := by
  obtain ⟨i0, hi0, hz0, hz1, hz2⟩ := info_parts Try.infoFlow
  go_enter Try.func45, Try.ntmps45
  go_wp2_with (at_make; refine wpList_make_full _ rfl (.tmp 6) (.tmp 6) 42 rfl w.heap.size 72 i0 _ 4 Try.underlying42 hi0 hz0 hz1 .i64 .i64 _ _ l.length rfl rfl rfl rfl (by rw [hz2]; omega) (by unfold maxLen; omega) (Nat.le_refl _) ?_; intro w1 hown1 hg1)
  have hb1 : Below w.heap.size w w1 := (Below.refl _ _).grown hg1 (Nat.le_refl _) (fun k hk => by cases hk)
  have hsz : w.heap.size < w1.heap.size := (hown1.lt _ rfl).2
  obtain ⟨xs1, hxl1, hR1⟩ : ∃ xs, xs.length = l.length * 4 ∧ Row w1 w.heap.size (w.heap.size + 1) (some ⟨w.heap.size, 0, none⟩) w.heap.size 0 xs := ⟨_, hown1.1, Row.made hown1⟩
  clear hg1 hown1
  go_loopw [4] (fun i wr => ∃ (k : Nat) (xs : List Value), k ≤ l.length ∧ i = .int .i64 k ∧ xs.length = l.length * 4 ∧ Row wr w.heap.size (w.heap.size + 1) (some ⟨w.heap.size, 0, none⟩) w.heap.size 0 xs ∧
      (∀ j, j < k * 4 → xs[j]? = (flowCells l)[j]?) ∧ Below w.heap.size w wr ∧ w.heap.size < wr.heap.size) (fun i _ => l.length - (intOf i).toNat)
  case atStart => exact ⟨0, xs1, Nat.zero_le _, rfl, hxl1, hR1, fun j hj => absurd hj (by omega), hb1, hsz⟩
  case round =>
    obtain ⟨k, xs, hk, rfl, hxl, hR, hxs, hb, hsz'⟩ := hrel
    clear hR1 hxl1 hb1 hsz
    by_cases hlt : k < l.length
    · obtain ⟨rfl, _, h3, x, hx, ⟨c0, c1, c2, c3⟩, _⟩ := hV.flow hlt
      have d0 := (hb.cell (p := ⟨b, off + k * 4, none⟩) (by show b < _; omega)).trans c0
      have d1 := (hb.cell (p := ⟨b, off + k * 4 + 1, none⟩) (by show b < _; omega)).trans c1
      have d2 := (hb.cell (p := ⟨b, off + k * 4 + 2, none⟩) (by show b < _; omega)).trans c2
      have d3 := (hb.cell (p := ⟨b, off + k * 4 + 3, none⟩) (by show b < _; omega)).trans c3
      clear c0 c1 c2 c3
      have HX := Lib.hid hx
      have HB := Lib.hid hb
      have HXS := Lib.hid hxs
      have HR := Lib.hid hR
      have HV := Lib.hid hV
      have HL := Lib.hid hxl
      have HS := Lib.hid hsz'
      clear hx hb hxs hR hV hxl hsz'
      go_wp2_with fail
      refine (toNetFlow_c _ _ _ _ _).mono ?_
      rintro e w2 ⟨rfl, hb2⟩
      have hR2 := HR.out.below hb2 HS.out
      obtain ⟨u0_, _, e0, g0⟩ := hR2.at_ (k := k * 4) (by have := HL.out; omega)
      obtain ⟨u1_, _, e1, g1⟩ := hR2.at_ (k := k * 4 + 1) (by have := HL.out; omega)
      obtain ⟨u2_, _, e2, g2⟩ := hR2.at_ (k := k * 4 + 2) (by have := HL.out; omega)
      obtain ⟨u3_, _, e3, g3⟩ := hR2.at_ (k := k * 4 + 3) (by have := HL.out; omega)
      simp only [Nat.zero_add] at e0 g0 e1 g1 e2 g2 e3 g3
      have hP := Row.put (NFlow.cells x) xs (k * 4) hR2 (by have := HL.out; show _ + 4 ≤ _; omega)
      rw [Nat.zero_add] at hP
      have HP := Lib.hid hP
      have HF := Lib.hid (fill_step (f := NFlow.cells) (d := 4) (fun _ _ => rfl) HX.out HL.out HXS.out)
      have HB2 := Lib.hid (below_put (Nat.le_refl w.heap.size) (NFlow.cells x) (k * 4) (HB.out.trans (hb2.mono HB.out.size)))
      have HS2 := Lib.hid (Nat.lt_of_lt_of_le HS.out hb2.size)
      clear hR2 hP hb2
      go_wp2
      go_roundw
      case rel => exact ⟨k + 1, _, by omega, by go_num, HF.out.1, HP.out, HF.out.2, HB2.out, by simpa [World.setCell] using HS2.out⟩
      case measure => simp [intOf]; omega
    · have hkn : k = l.length := by omega
      subst hkn
      obtain rfl := fill_end (f := NFlow.cells) (d := 4) (fun _ _ => rfl) hxl hxs
      have HB := Lib.hid hb
      have HR := Lib.hid hR
      have HS := Lib.hid hsz'
      clear hxs hb hR hsz'
      go_wp2
      go_ret
      exact ⟨_, rfl, Nat.le_refl _, HS.out, HR.out, HB.out⟩



set_option maxHeartbeats 2000000 in
theorem toNetTask_c (t : NTask) (vi vo vc : Value) (lo hi : Nat) (w : World) (hV : TaskV w lo hi t vi vo vc) (hhi : hi ≤ w.heap.size) (hm1 : t.ins.length ≤ 1048576) (hm2 : t.out.length ≤ 1048576) (hm3 : t.clear.length ≤ 1048576) :
    Calls Try.prog 20 #[.agg #[.int .i64 t.join, .int .i64 t.split, vi, vo, vc, .int .i64 t.role, .int .i64 t.apart, .int .i64 t.all, .int .i64 t.need]] w fun e w' =>
      ∃ ui uo uc, e = .returned (.agg #[.int .i64 t.join, .int .i64 t.split, ui, uo, uc, .int .i64 t.role, .int .i64 t.apart, .int .i64 t.all, .int .i64 t.need]) ∧ TaskV w' w.heap.size w'.heap.size t ui uo uc ∧ Below w.heap.size w w' := by
  obtain ⟨⟨Ai, bi, oi, ci, rfl, hmi, hRi⟩, ⟨Ao, bo, oo, co, rfl, hmo, hRo⟩, ⟨Ac, bc, oc, cc, rfl, hmc, hRc⟩⟩ := hV
  go_enter Try.func20, Try.ntmps20
  go_wp2_with fail
  refine (toIntS_c t.ins lo hi Ai bi oi ci _ (((hRi.alloc hhi _).alloc (by simp; omega) _).alloc (by simp; omega) _) (by simp; omega) hm1).mono ?_
  rintro e w1 ⟨b1, rfl, hr1, hb1⟩
  have R0 := (((Row.newAt w _ _ _ rfl).alloc (by simp) _).alloc (by simp) _).below hb1 (by simp)
  have R1 := ((Row.newAt (w.alloc _) _ _ (w.heap.size + 1) (by simp)).alloc (by simp) _).below hb1 (by simp)
  have R2 := (Row.newAt ((w.alloc _).alloc _) _ _ (w.heap.size + 1 + 1) (by simp)).below hb1 (by simp)
  have hB1 : Below w.heap.size w w1 := (((Below.refl w.heap.size w).alloc (Nat.le_refl _) _).alloc (by simp) _).alloc (by simp; omega) _ |>.trans (hb1.mono (by simp; omega))
  have hz1 : w.heap.size + 1 + 1 + 1 ≤ w1.heap.size := by simpa using hb1.size
  have S1 := hr1.more (lo' := w.heap.size + 1 + 1 + 1) (hi' := w1.heap.size) (by simp) (Nat.le_refl _)
  clear hb1 hr1
  obtain ⟨⟨c0, c1, c2, c3, c4, c5, c6, c7, c8⟩, _⟩ := Row.nine R0
  obtain ⟨⟨d0, d1, d2, d3, d4, d5, d6, d7, d8⟩, ⟨f0, f1, f2, f3, f4, f5, f6, f7, f8⟩⟩ := Row.nine R2
  have hR0 := Lib.hid R0
  have hR1 := Lib.hid R1
  have hR2 := Lib.hid R2
  have HB1 := Lib.hid hB1
  have HS1 := Lib.hid S1
  have HZ1 := Lib.hid hz1
  clear R0 R1 R2 hB1 S1
  go_wp2_with fail
  refine (toNetFlowS_c t.out lo hi Ao bo oo co _ ((hRo.below HB1.out hhi).setCell (by right; show hi ≤ w.heap.size + 1 + 1; omega) _) (by simp [World.setCell]; omega) hm2).mono ?_
  rintro e w2 ⟨b2, rfl, hl2, hg2, hr2, hb2⟩
  rw [World.size_setCell] at hb2 hl2
  have hu1 : Upd (w.heap.size + 1 + 1) (w.heap.size + 1 + 1 + 1) w1 (w1.setCell ⟨w.heap.size + 1 + 1, 2, none⟩ (.slice (some ⟨b1, 0, none⟩) t.ins.length t.ins.length)) := Upd.one _ _ _ _
  have hz2 : w.heap.size + 1 + 1 + 1 ≤ w2.heap.size := Nat.le_trans (by simpa [World.size_setCell] using HZ1.out) hb2.size
  have R0 := (hR0.out.upd hu1 (by omega)).below hb2 (by omega)
  have R1 := (hR1.out.upd hu1 (by omega)).below hb2 (by omega)
  have R2 := (hR2.out.set_ 2 (.slice (some ⟨b1, 0, none⟩) t.ins.length t.ins.length) (by simp))
  rw [Nat.zero_add] at R2
  replace R2 := R2.below hb2 (by omega)
  have S1 := (HS1.out.upd hu1 (by omega)).below hb2 (Nat.le_refl _)
  have hB2 := (HB1.out.setCell (p := ⟨w.heap.size + 1 + 1, 2, none⟩) (by show _ ≤ w.heap.size + 1 + 1; omega) (.slice (some ⟨b1, 0, none⟩) t.ins.length t.ins.length)).trans (hb2.mono (by omega))
  have S2 := hr2
  have hz12 : w1.heap.size ≤ w2.heap.size := by have := hb2.size; rwa [World.size_setCell] at this
  clear hb2 hR0 hR1 hR2 HS1 hr2 c0 c1 c2 c3 c4 c5 c6 c7 c8 d0 d1 d2 d3 d4 d5 d6 d7 d8 f0 f1 f2 f3 f4 f5 f6 f7 f8 hu1
  obtain ⟨⟨c0, c1, c2, c3, c4, c5, c6, c7, c8⟩, _⟩ := Row.nine R0
  obtain ⟨⟨d0, d1, d2, d3, d4, d5, d6, d7, d8⟩, ⟨f0, f1, f2, f3, f4, f5, f6, f7, f8⟩⟩ := Row.nine R2
  have hR0 := Lib.hid R0
  have hR1 := Lib.hid R1
  have hR2 := Lib.hid R2
  have HB2 := Lib.hid hB2
  have HS1 := Lib.hid S1
  have HS2 := Lib.hid S2
  have HZ2 := Lib.hid hz2
  have HL := Lib.hid (And.intro hl2 (And.intro hg2 hz12))
  clear R0 R1 R2 hB2 S1 S2 hl2 hg2 hz12
  go_wp2_with fail
  refine (toIntS_c t.clear lo hi Ac bc oc cc _ ((hRc.below HB2.out hhi).setCell (by right; show hi ≤ w.heap.size + 1 + 1; omega) _) (by simp [World.setCell]; omega) hm3).mono ?_
  rintro e w3 ⟨b3, rfl, hr3, hb3⟩
  rw [World.size_setCell] at hb3 hr3
  have hu2 : Upd (w.heap.size + 1 + 1) (w.heap.size + 1 + 1 + 1) w2 (w2.setCell ⟨w.heap.size + 1 + 1, 3, none⟩ (.slice (some ⟨b2, 0, none⟩) t.out.length t.out.length)) := Upd.one _ _ _ _
  have hz3 : w.heap.size + 1 + 1 + 1 ≤ w3.heap.size := Nat.le_trans (by simpa [World.size_setCell] using HZ2.out) hb3.size
  have hz23 : w2.heap.size ≤ w3.heap.size := by have := hb3.size; rwa [World.size_setCell] at this
  have R0 := (hR0.out.upd hu2 (by omega)).below hb3 (by omega)
  have R1 := (hR1.out.upd hu2 (by omega)).below hb3 (by omega)
  have R2 := (hR2.out.set_ 3 (.slice (some ⟨b2, 0, none⟩) t.out.length t.out.length) (by simp))
  rw [Nat.zero_add] at R2
  replace R2 := R2.below hb3 (by omega)
  have hl := HL.out
  have S1 := (HS1.out.upd hu2 (by omega)).below hb3 (by omega)
  have S2 := (HS2.out.upd hu2 (by omega)).below hb3 (by omega)
  have hB3 := (HB2.out.setCell (p := ⟨w.heap.size + 1 + 1, 3, none⟩) (by show _ ≤ w.heap.size + 1 + 1; omega) (.slice (some ⟨b2, 0, none⟩) t.out.length t.out.length)).trans (hb3.mono (by omega))
  clear hb3 hR0 hR1 hR2 HS1 HS2 c0 c1 c2 c3 c4 c5 c6 c7 c8 d0 d1 d2 d3 d4 d5 d6 d7 d8 f0 f1 f2 f3 f4 f5 f6 f7 f8 hu2
  obtain ⟨⟨c0, c1, c2, c3, c4, c5, c6, c7, c8⟩, _⟩ := Row.nine R0
  obtain ⟨⟨x0, x1, x2, x3, x4, x5, x6, x7, x8⟩, ⟨y0, y1, y2, y3, y4, y5, y6, y7, y8⟩⟩ := Row.nine R1
  obtain ⟨⟨d0, d1, d2, d3, d4, d5, d6, d7, d8⟩, ⟨f0, f1, f2, f3, f4, f5, f6, f7, f8⟩⟩ := Row.nine R2
  have HB3 := Lib.hid hB3
  have HS := Lib.hid (show TaskV w3 (w.heap.size + 1 + 1 + 1) w3.heap.size t (.slice (some ⟨b1, 0, none⟩) t.ins.length t.ins.length) (.slice (some ⟨b2, 0, none⟩) t.out.length t.out.length) (.slice (some ⟨b3, 0, none⟩) t.clear.length t.clear.length) from
    ⟨⟨_, _, _, _, rfl, hmi, S1.more (Nat.le_refl _) (by omega)⟩, ⟨_, _, _, _, rfl, hmo, S2.more (by omega) (by omega)⟩, ⟨_, _, _, _, rfl, hmc, hr3.more (by omega) (Nat.le_refl _)⟩⟩)
  have HZ3 := Lib.hid hz3
  clear R0 R1 R2 hB3 S1 S2 hr3 hl HL
  go_wp2
  have hU := upd_put (lo := w.heap.size + 1) (hi := w.heap.size + 1 + 1 + 1) (b := w.heap.size + 1) (Nat.le_refl _) (by omega) (t.cells (.slice (some ⟨b1, 0, none⟩) t.ins.length t.ins.length) (.slice (some ⟨b2, 0, none⟩) t.out.length t.out.length) (.slice (some ⟨b3, 0, none⟩) t.clear.length t.clear.length)) 0 (upd_put (b := w.heap.size + 1 + 1) (by omega) (by omega) [(.slice (some ⟨b3, 0, none⟩) t.clear.length t.clear.length), .int .i64 t.role, .int .i64 t.apart, .int .i64 t.all, .int .i64 t.need] 4 (Upd.refl (w.heap.size + 1) (w.heap.size + 1 + 1 + 1) w3))
  refine bodyPost_ret (v := .agg #[.int .i64 t.join, .int .i64 t.split, (.slice (some ⟨b1, 0, none⟩) t.ins.length t.ins.length), (.slice (some ⟨b2, 0, none⟩) t.out.length t.out.length), (.slice (some ⟨b3, 0, none⟩) t.clear.length t.clear.length), .int .i64 t.role, .int .i64 t.apart, .int .i64 t.all, .int .i64 t.need]) (by simp [results, Try.results20, go_sem, x0, x1, x2, x3, x4, x5, x6, x7, x8, y0, y1, y2, y3, y4, y5, y6, y7, y8, d0, d1, d2, d3, d4, d5, d6, d7, d8, f0, f1, f2, f3, f4, f5, f6, f7, f8]) rfl ⟨_, _, _, rfl, ?_, ?_⟩
  · have h := (HS.out.keep (fun g h _ => hU.block g (by omega))).more (lo' := w.heap.size) (by omega) (Nat.le_refl _)
    rw [← hU.size] at h
    exact h
  · exact HB3.out.trans (hU.below (by omega))

/-- The three slices of a task are not too long to be copied. -/
def taskSmall (t : NTask) : Prop := t.ins.length ≤ 1048576 ∧ t.out.length ≤ 1048576 ∧ t.clear.length ≤ 1048576

set_option maxHeartbeats 1000000 in
theorem toNetTaskS_c (ts : List NTask) (ms : List TaskM) (lo hi lo2 hi2 : Nat) (A : Option Addr) (b off c : Nat) (w : World) (hV : TasksV w lo hi lo2 hi2 A b off ts ms) (hhi : hi ≤ w.heap.size) (hhi2 : hi2 ≤ w.heap.size) (hm : ts.length ≤ 1048576) (hsm : ∀ t ∈ ts, taskSmall t) :
    Calls Try.prog 50 #[.slice A ts.length c] w fun e w' => ∃ b' ms', e = .returned (.slice (some ⟨b', 0, none⟩) ts.length ts.length) ∧ w.heap.size ≤ b' ∧ b' < w'.heap.size ∧ TasksV w' b' (b' + 1) (b' + 1) w'.heap.size (some ⟨b', 0, none⟩) b' 0 ts ms' ∧ Below w.heap.size w w' := by
  obtain ⟨i0, hi0, hz0, hz1, hz2⟩ := info_parts Try.infoTask
  go_enter Try.func50, Try.ntmps50
  go_wp2_with (at_make; refine wpList_make_full _ rfl (.tmp 6) (.tmp 6) 56 rfl w.heap.size 44 i0 _ 9 Try.underlying56 hi0 hz0 hz1 .i64 .i64 _ _ ts.length rfl rfl rfl rfl (by rw [hz2]; omega) (by unfold maxLen; omega) (Nat.le_refl _) ?_; intro w1 hown1 hg1)
  have hb1 : Below w.heap.size w w1 := (Below.refl _ _).grown hg1 (Nat.le_refl _) (fun k hk => by cases hk)
  have hsz : w.heap.size < w1.heap.size := (hown1.lt _ rfl).2
  obtain ⟨xs1, hxl1, hR1⟩ : ∃ xs, xs.length = ts.length * 9 ∧ Row w1 w.heap.size (w.heap.size + 1) (some ⟨w.heap.size, 0, none⟩) w.heap.size 0 xs := ⟨_, hown1.1, Row.made hown1⟩
  clear hg1 hown1
  go_loopw [4] (fun i wr => ∃ (ns : List TaskM) (xs : List Value), ns.length ≤ ts.length ∧ i = .int .i64 ns.length ∧ xs.length = ts.length * 9 ∧ Row wr w.heap.size (w.heap.size + 1) (some ⟨w.heap.size, 0, none⟩) w.heap.size 0 xs ∧
      (∀ j, j < ns.length * 9 → xs[j]? = (taskCells ns)[j]?) ∧ ns.map TaskM.t = ts.take ns.length ∧ (∀ m ∈ ns, TaskV wr (w.heap.size + 1) wr.heap.size m.t m.vi m.vo m.vc) ∧ Below w.heap.size w wr ∧ w.heap.size < wr.heap.size) (fun i _ => ts.length - (intOf i).toNat)
  case atStart => exact ⟨[], xs1, Nat.zero_le _, rfl, hxl1, hR1, fun j hj => absurd hj (by simp), by simp, by simp, hb1, hsz⟩
  case round =>
    obtain ⟨ns, xs, hk, rfl, hxl, hR, hxs, hmap, heach, hb, hsz'⟩ := hrel
    clear hR1 hxl1 hb1 hsz
    obtain ⟨k, hkd⟩ : ∃ k, k = ns.length := ⟨_, rfl⟩
    rw [← hkd] at hk hxs hmap ⊢
    by_cases hlt : k < ts.length
    · obtain ⟨rfl, _, h3, t, vi, vo, vc, hx, _, hT, ⟨c0, c1, c2, c3, c4, c5, c6, c7, c8⟩, _⟩ := hV.task hlt
      have d0 := (hb.cell (p := ⟨b, off + k * 9, none⟩) (by show b < _; omega)).trans c0
      have d1 := (hb.cell (p := ⟨b, off + k * 9 + 1, none⟩) (by show b < _; omega)).trans c1
      have d2 := (hb.cell (p := ⟨b, off + k * 9 + 2, none⟩) (by show b < _; omega)).trans c2
      have d3 := (hb.cell (p := ⟨b, off + k * 9 + 3, none⟩) (by show b < _; omega)).trans c3
      have d4 := (hb.cell (p := ⟨b, off + k * 9 + 4, none⟩) (by show b < _; omega)).trans c4
      have d5 := (hb.cell (p := ⟨b, off + k * 9 + 5, none⟩) (by show b < _; omega)).trans c5
      have d6 := (hb.cell (p := ⟨b, off + k * 9 + 6, none⟩) (by show b < _; omega)).trans c6
      have d7 := (hb.cell (p := ⟨b, off + k * 9 + 7, none⟩) (by show b < _; omega)).trans c7
      have d8 := (hb.cell (p := ⟨b, off + k * 9 + 8, none⟩) (by show b < _; omega)).trans c8
      clear c0 c1 c2 c3 c4 c5 c6 c7 c8
      have hts := hsm t (List.mem_of_getElem? hx)
      have HT := Lib.hid (hT.keep (w' := wr) fun g _ h => hb.block g (by omega))
      have HX := Lib.hid hx
      have HB := Lib.hid hb
      have HXS := Lib.hid hxs
      have HR := Lib.hid hR
      have HV := Lib.hid hV
      have HL := Lib.hid hxl
      have HS := Lib.hid hsz'
      have HM := Lib.hid hmap
      have HE := Lib.hid heach
      have HTS := Lib.hid hts
      have HSM := Lib.hid hsm
      have HKD := Lib.hid hkd
      clear hx hb hxs hR hV hxl hsz' hmap heach hT hts hsm hkd
      go_wp2_with fail
      refine (toNetTask_c t vi vo vc lo2 hi2 _ HT.out (Nat.le_trans hhi2 HB.out.size) HTS.out.1 HTS.out.2.1 HTS.out.2.2).mono ?_
      rintro e w2 ⟨ui, uo, uc, rfl, hT2, hb2⟩
      obtain ⟨A1, q1, A2, q2, A3, q3, rfl, rfl, rfl⟩ := hT2.forms
      have hR2 := HR.out.below hb2 HS.out
      obtain ⟨u0_, _, e0, g0⟩ := hR2.at_ (k := k * 9) (by have := HL.out; omega)
      obtain ⟨u1_, _, e1, g1⟩ := hR2.at_ (k := k * 9 + 1) (by have := HL.out; omega)
      obtain ⟨u2_, _, e2, g2⟩ := hR2.at_ (k := k * 9 + 2) (by have := HL.out; omega)
      obtain ⟨u3_, _, e3, g3⟩ := hR2.at_ (k := k * 9 + 3) (by have := HL.out; omega)
      obtain ⟨u4_, _, e4, g4⟩ := hR2.at_ (k := k * 9 + 4) (by have := HL.out; omega)
      obtain ⟨u5_, _, e5, g5⟩ := hR2.at_ (k := k * 9 + 5) (by have := HL.out; omega)
      obtain ⟨u6_, _, e6, g6⟩ := hR2.at_ (k := k * 9 + 6) (by have := HL.out; omega)
      obtain ⟨u7_, _, e7, g7⟩ := hR2.at_ (k := k * 9 + 7) (by have := HL.out; omega)
      obtain ⟨u8_, _, e8, g8⟩ := hR2.at_ (k := k * 9 + 8) (by have := HL.out; omega)
      simp only [Nat.zero_add] at e0 g0 e1 g1 e2 g2 e3 g3 e4 g4 e5 g5 e6 g6 e7 g7 e8 g8
      have hP := Row.put (t.cells (.slice A1 t.ins.length q1) (.slice A2 t.out.length q2) (.slice A3 t.clear.length q3)) xs (k * 9) hR2 (by have := HL.out; show _ + 9 ≤ _; omega)
      rw [Nat.zero_add] at hP
      have HP := Lib.hid hP
      have HF := Lib.hid (fill_more (f := TaskM.cells) (d := 9) (l := ns) (xs := xs) (x := (⟨t, (.slice A1 t.ins.length q1), (.slice A2 t.out.length q2), (.slice A3 t.clear.length q3)⟩ : TaskM)) (fun _ _ => rfl) (by have := HL.out; have := HKD.out; omega) (by have := HXS.out; rwa [HKD.out] at this))
      have HB2 := Lib.hid (below_put (Nat.le_refl w.heap.size) (t.cells (.slice A1 t.ins.length q1) (.slice A2 t.out.length q2) (.slice A3 t.clear.length q3)) (k * 9) (HB.out.trans (hb2.mono HB.out.size)))
      have HS2 := Lib.hid (Nat.lt_of_lt_of_le HS.out hb2.size)
      have hu := upd_put (lo := w.heap.size) (hi := w.heap.size + 1) (b := w.heap.size) (Nat.le_refl _) (Nat.lt_succ_self _) (t.cells (.slice A1 t.ins.length q1) (.slice A2 t.out.length q2) (.slice A3 t.clear.length q3)) (k * 9) (Upd.refl _ _ w2)
      have HE2 := Lib.hid (show ∀ m ∈ ns ++ [(⟨t, (.slice A1 t.ins.length q1), (.slice A2 t.out.length q2), (.slice A3 t.clear.length q3)⟩ : TaskM)], TaskV (putAt w2 w.heap.size (k * 9) (t.cells (.slice A1 t.ins.length q1) (.slice A2 t.out.length q2) (.slice A3 t.clear.length q3))) (w.heap.size + 1) (putAt w2 w.heap.size (k * 9) (t.cells (.slice A1 t.ins.length q1) (.slice A2 t.out.length q2) (.slice A3 t.clear.length q3))).heap.size m.t m.vi m.vo m.vc from by
        intro m hm
        rw [hu.size]
        refine TaskV.keep (w := w2) ?_ (fun g h _ => hu.block g (by omega))
        rcases List.mem_append.1 hm with h | h
        · exact ((HE.out m h).keep (fun g _ h => hb2.block g h)).more (Nat.le_refl _) hb2.size
        · simp only [List.mem_singleton] at h; subst h; exact hT2.more HS.out (Nat.le_refl _))
      have HM2 := Lib.hid (show (ns ++ [(⟨t, (.slice A1 t.ins.length q1), (.slice A2 t.out.length q2), (.slice A3 t.clear.length q3)⟩ : TaskM)]).map TaskM.t = ts.take (k + 1) from by rw [take_succ_of HX.out, List.map_append, HM.out]; rfl)
      have hkl : (ns ++ [(⟨t, (.slice A1 t.ins.length q1), (.slice A2 t.out.length q2), (.slice A3 t.clear.length q3)⟩ : TaskM)]).length = k + 1 := by have := HKD.out; simp; omega
      have HKL := Lib.hid hkl
      clear hR2 hP hb2 hT2 hu hkl
      go_wp2
      go_roundw
      case rel => exact ⟨ns ++ [(⟨t, (.slice A1 t.ins.length q1), (.slice A2 t.out.length q2), (.slice A3 t.clear.length q3)⟩ : TaskM)], putL xs (k * 9) (t.cells (.slice A1 t.ins.length q1) (.slice A2 t.out.length q2) (.slice A3 t.clear.length q3)), by have := HKL.out; omega, by rw [HKL.out]; go_num, by rw [putL_length]; exact HL.out, HP.out, by have h := HF.out.2; rw [← HKD.out] at h; exact h, by rw [HKL.out]; exact HM2.out, HE2.out, HB2.out, by simpa [World.size_setCell] using HS2.out⟩
      case measure => simp [intOf]; omega
    · have hkn : k = ts.length := by omega
      have hnl : ns.length = ts.length := by omega
      obtain rfl := fill_end (f := TaskM.cells) (d := 9) (l := ns) (xs := xs) (fun _ _ => rfl) (by omega) (by rw [← hkd]; exact hxs)
      have HV2 := Lib.hid (show TasksV wr w.heap.size (w.heap.size + 1) (w.heap.size + 1) wr.heap.size (some ⟨w.heap.size, 0, none⟩) w.heap.size 0 ts ns from ⟨hR, by rw [hmap]; exact List.take_of_length_le (by omega), heach⟩)
      have HB := Lib.hid hb
      have HS := Lib.hid hsz'
      clear hxs hb hR hsz' hmap heach hsm
      go_wp2
      go_ret
      exact ⟨_, _, rfl, Nat.le_refl _, HS.out, HV2.out, HB.out⟩

end Go.Proofs.Yteedgmaeopnidaa
