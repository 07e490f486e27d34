/- The laws' comparisons of flows, tasks, nets and items: what reads alike is alike. -/
import Derived.Test.YteedgmaeopnidaaNetNet
import Derived.StillTailTactics
namespace Go.Proofs.Yteedgmaeopnidaa
open Go.RowKit
set_option linter.unusedVariables false
set_option linter.unusedSimpArgs false

theorem eqExpAsk_t (o v k : Int) (w : World) :
    Calls Try.prog 69 #[.agg #[.int .i64 o, .int .i64 v, .int .i64 k], .agg #[.int .i64 o, .int .i64 v, .int .i64 k]] w fun e w' => e = .returned (.bool true) ∧ Below w.heap.size w w' := by
  go_enter Try.func69, Try.ntmps69
  go_wp2
  go_ret
  exact ⟨rfl, ((Below.refl w.heap.size w).alloc (Nat.le_refl _) _).alloc (by simp) _⟩
theorem eqNetFlow_t (a o v k : Int) (w : World) :
    Calls Try.prog 59 #[.agg #[.int .i64 a, .int .i64 o, .int .i64 v, .int .i64 k], .agg #[.int .i64 a, .int .i64 o, .int .i64 v, .int .i64 k]] w fun e w' => e = .returned (.bool true) ∧ Below w.heap.size w w' := by
  go_enter Try.func59, Try.ntmps59
  go_wp2_with (go_at_call 69; refine (eqExpAsk_t _ _ _ _).mono ?_; rintro e w1 ⟨rfl, hb1⟩)
  go_ret
  exact ⟨rfl, (((Below.refl w.heap.size w).alloc (Nat.le_refl _) _).alloc (by simp) _).trans (hb1.mono (by simp; omega))⟩

set_option maxRecDepth 10000 in
set_option maxHeartbeats 1000000 in
theorem eqNetFlowS_t (l : List NFlow) (lo hi lo' hi' : Nat) (A B : Option Addr) (b off c b' off' c' : Nat) (w : World) (hV : Row w lo hi A b off (flowCells l)) (hU : Row w lo' hi' B b' off' (flowCells l)) (hhi : hi ≤ w.heap.size) (hhi' : hi' ≤ w.heap.size) (hm : l.length ≤ maxLen) :
    Calls Try.prog 46 #[.slice A l.length c, .slice B l.length c'] w fun e w' => e = .returned (.bool true) ∧ Below w.heap.size w w' := by
  unfold maxLen at hm
  go_enter Try.func46, Try.ntmps46
  go_wp2
  go_loopw [5] (fun i wr => ∃ k : Nat, k ≤ l.length ∧ i = .int .i64 k ∧ Below w.heap.size w wr) (fun i _ => l.length - (intOf i).toNat)
  case atStart => exact ⟨0, Nat.zero_le _, rfl, Below.refl _ _⟩
  case round =>
    obtain ⟨k, hk, rfl, hb⟩ := hrel
    by_cases hlt : k < l.length
    · obtain ⟨rfl, _, h3, x, hx, ⟨c0, c1, c2, c3⟩, _⟩ := hV.flow hlt
      obtain ⟨rfl, _, h4, x', hx', ⟨d0, d1, d2, d3⟩, _⟩ := hU.flow hlt
      have e := hx.symm.trans hx'
      injection e with e
      subst e
      replace c0 := (hb.cell (p := ⟨b, off + k * 4, none⟩) (by show b < _; omega)).trans c0
      replace c1 := (hb.cell (p := ⟨b, off + k * 4 + 1, none⟩) (by show b < _; omega)).trans c1
      replace c2 := (hb.cell (p := ⟨b, off + k * 4 + 2, none⟩) (by show b < _; omega)).trans c2
      replace c3 := (hb.cell (p := ⟨b, off + k * 4 + 3, none⟩) (by show b < _; omega)).trans c3
      replace d0 := (hb.cell (p := ⟨b', off' + k * 4, none⟩) (by show b' < _; omega)).trans d0
      replace d1 := (hb.cell (p := ⟨b', off' + k * 4 + 1, none⟩) (by show b' < _; omega)).trans d1
      replace d2 := (hb.cell (p := ⟨b', off' + k * 4 + 2, none⟩) (by show b' < _; omega)).trans d2
      replace d3 := (hb.cell (p := ⟨b', off' + k * 4 + 3, none⟩) (by show b' < _; omega)).trans d3
      have hlt1 : (k : Int) < (l.length : Int) := by omega
      have HB := Lib.hid hb
      clear hb hx hx' hV hU
      go_wp2
      go_still_tail 8, (by kernel_rfl)
      change wpList _ _ _ _ _ wr.drew
      go_wp2_with fail
      refine (eqNetFlow_t _ _ _ _ _).mono ?_
      rintro e w2 ⟨rfl, hb2⟩
      have HB2 := Lib.hid (HB.out.drew.trans (hb2.mono HB.out.size))
      clear hb2
      go_wp2_with fail
      go_roundw
      case rel => exact ⟨k + 1, by omega, by go_num, HB2.out⟩
      case measure => simp [intOf]; omega
    · have HB := Lib.hid hb
      clear hb hV hU
      go_wp2
      go_ret
      exact ⟨rfl, HB.out⟩


set_option maxRecDepth 10000 in
set_option maxHeartbeats 1000000 in
theorem eqNetTask_t (t : NTask) (vi vo vc vi' vo' vc' : Value) (lo hi lo' hi' : Nat) (w : World) (hV : TaskV w lo hi t vi vo vc) (hU : TaskV w lo' hi' t vi' vo' vc') (hhi : hi ≤ w.heap.size) (hhi' : hi' ≤ w.heap.size) :
    Calls Try.prog 24 #[.agg #[.int .i64 t.join, .int .i64 t.split, vi, vo, vc, .int .i64 t.role, .int .i64 t.apart, .int .i64 t.all, .int .i64 t.need], .agg #[.int .i64 t.join, .int .i64 t.split, vi', vo', vc', .int .i64 t.role, .int .i64 t.apart, .int .i64 t.all, .int .i64 t.need]] w
      fun e w' => e = .returned (.bool true) ∧ Below w.heap.size w w' := by
  obtain ⟨⟨Ai, bi, oi, ci, rfl, hmi, hRi⟩, ⟨Ao, bo, oo, co, rfl, hmo, hRo⟩, ⟨Ac, bc, oc, cc, rfl, hmc, hRc⟩⟩ := hV
  obtain ⟨⟨Bi, di, pi, ei, rfl, _, hSi⟩, ⟨Bo, d_o, po, eo, rfl, _, hSo⟩, ⟨Bc, dc, pc, ec, rfl, _, hSc⟩⟩ := hU
  go_enter Try.func24, Try.ntmps24
  go_wp2_with fail
  refine (eqIntS_c t.ins t.ins lo hi lo' hi' Ai Bi bi oi ci di pi ei _ ((hRi.alloc hhi _).alloc (by simp; omega) _) ((hSi.alloc hhi' _).alloc (by simp; omega) _) hmi hmi).mono ?_
  rintro e w1 ⟨rfl, hb1⟩
  rw [decide_eq_true (rfl : t.ins = t.ins)]
  have R0 := ((Row.newAt w _ _ _ rfl).alloc (by simp) _).below hb1 (by simp)
  have R1 := (Row.newAt (w.alloc _) _ _ (w.heap.size + 1) (by simp)).below hb1 (by simp)
  have hB1 : Below w.heap.size w w1 := ((Below.refl w.heap.size w).alloc (Nat.le_refl _) _).alloc (by simp) _ |>.trans (hb1.mono (by simp; omega))
  have hz : w.heap.size + 1 + 1 ≤ w1.heap.size := by simpa using hb1.size
  obtain ⟨⟨c0, c1, c2, c3, c4, c5, c6, c7, c8⟩, _⟩ := Row.nine R0
  obtain ⟨⟨d0, d1, d2, d3, d4, d5, d6, d7, d8⟩, _⟩ := Row.nine R1
  have HR0 := Lib.hid R0
  have HR1 := Lib.hid R1
  have HB := Lib.hid hB1
  have HZ := Lib.hid hz
  clear R0 R1 hB1 hb1 hz
  go_wp2_with fail
  refine (eqNetFlowS_t t.out lo hi lo' hi' Ao Bo bo oo co d_o po eo _ (hRo.below HB.out hhi) (hSo.below HB.out hhi') (Nat.le_trans hhi HB.out.size) (Nat.le_trans hhi' HB.out.size) hmo).mono ?_
  rintro e w2 ⟨rfl, hb⟩
  have R0 := HR0.out.below hb (by have := HZ.out; omega)
  have R1 := HR1.out.below hb (by have := HZ.out; omega)
  have hB := HB.out.trans (hb.mono HB.out.size)
  have hz := Nat.le_trans HZ.out hb.size
  clear HR0 HR1 HB HZ c0 d0 c1 d1 c2 d2 c3 d3 c4 d4 c5 d5 c6 d6 c7 d7 c8 d8
  obtain ⟨⟨c0, c1, c2, c3, c4, c5, c6, c7, c8⟩, _⟩ := Row.nine R0
  obtain ⟨⟨d0, d1, d2, d3, d4, d5, d6, d7, d8⟩, _⟩ := Row.nine R1
  have HR0 := Lib.hid R0
  have HR1 := Lib.hid R1
  have HB := Lib.hid hB
  have HZ := Lib.hid hz
  clear R0 R1 hB hb hz
  go_wp2_with fail
  refine (eqIntS_c t.clear t.clear lo hi lo' hi' Ac Bc bc oc cc dc pc ec _ (hRc.below HB.out hhi) (hSc.below HB.out hhi') hmc hmc).mono ?_
  rintro e w3 ⟨rfl, hb⟩
  rw [decide_eq_true (rfl : t.clear = t.clear)]
  have R0 := HR0.out.below hb (by have := HZ.out; omega)
  have R1 := HR1.out.below hb (by have := HZ.out; omega)
  have hB := HB.out.trans (hb.mono HB.out.size)
  have hz := Nat.le_trans HZ.out hb.size
  clear HR0 HR1 HB HZ c0 d0 c1 d1 c2 d2 c3 d3 c4 d4 c5 d5 c6 d6 c7 d7 c8 d8
  obtain ⟨⟨c0, c1, c2, c3, c4, c5, c6, c7, c8⟩, _⟩ := Row.nine R0
  obtain ⟨⟨d0, d1, d2, d3, d4, d5, d6, d7, d8⟩, _⟩ := Row.nine R1
  have HR0 := Lib.hid R0
  have HR1 := Lib.hid R1
  have HB := Lib.hid hB
  have HZ := Lib.hid hz
  clear R0 R1 hB hb hz
  go_wp2
  go_ret
  exact ⟨rfl, HB.out⟩

set_option maxRecDepth 10000 in
set_option maxHeartbeats 1000000 in
theorem eqNetTaskS_t (l : List NTask) (ms ms' : List TaskM) (lo hi lo' hi' p0 p1 q0 q1 : Nat) (A B : Option Addr) (b off c b' off' c' : Nat) (w : World) (hV : TasksV w lo hi p0 p1 A b off l ms) (hU : TasksV w lo' hi' q0 q1 B b' off' l ms') (hhi : hi ≤ w.heap.size) (hhi' : hi' ≤ w.heap.size) (hp1 : p1 ≤ w.heap.size) (hq1 : q1 ≤ w.heap.size) (hm : l.length ≤ maxLen) :
    Calls Try.prog 54 #[.slice A l.length c, .slice B l.length c'] w fun e w' => e = .returned (.bool true) ∧ Below w.heap.size w w' := by
  unfold maxLen at hm
  go_enter Try.func54, Try.ntmps54
  go_wp2
  go_loopw [5] (fun i wr => ∃ k : Nat, k ≤ l.length ∧ i = .int .i64 k ∧ Below w.heap.size w wr) (fun i _ => l.length - (intOf i).toNat)
  case atStart => exact ⟨0, Nat.zero_le _, rfl, Below.refl _ _⟩
  case round =>
    obtain ⟨k, hk, rfl, hb⟩ := hrel
    by_cases hlt : k < l.length
    · obtain ⟨rfl, _, h3, t, vi, vo, vc, hx, _, hT, ⟨c0, c1, c2, c3, c4, c5, c6, c7, c8⟩, _⟩ := hV.task hlt
      obtain ⟨rfl, _, h4, t', vi', vo', vc', hx', _, hT', ⟨d0, d1, d2, d3, d4, d5, d6, d7, d8⟩, _⟩ := hU.task hlt
      have e := hx.symm.trans hx'
      injection e with e
      subst e
      replace c0 := (hb.cell (p := ⟨b, off + k * 9, none⟩) (by show b < _; omega)).trans c0
      replace c1 := (hb.cell (p := ⟨b, off + k * 9 + 1, none⟩) (by show b < _; omega)).trans c1
      replace c2 := (hb.cell (p := ⟨b, off + k * 9 + 2, none⟩) (by show b < _; omega)).trans c2
      replace c3 := (hb.cell (p := ⟨b, off + k * 9 + 3, none⟩) (by show b < _; omega)).trans c3
      replace c4 := (hb.cell (p := ⟨b, off + k * 9 + 4, none⟩) (by show b < _; omega)).trans c4
      replace c5 := (hb.cell (p := ⟨b, off + k * 9 + 5, none⟩) (by show b < _; omega)).trans c5
      replace c6 := (hb.cell (p := ⟨b, off + k * 9 + 6, none⟩) (by show b < _; omega)).trans c6
      replace c7 := (hb.cell (p := ⟨b, off + k * 9 + 7, none⟩) (by show b < _; omega)).trans c7
      replace c8 := (hb.cell (p := ⟨b, off + k * 9 + 8, none⟩) (by show b < _; omega)).trans c8
      replace d0 := (hb.cell (p := ⟨b', off' + k * 9, none⟩) (by show b' < _; omega)).trans d0
      replace d1 := (hb.cell (p := ⟨b', off' + k * 9 + 1, none⟩) (by show b' < _; omega)).trans d1
      replace d2 := (hb.cell (p := ⟨b', off' + k * 9 + 2, none⟩) (by show b' < _; omega)).trans d2
      replace d3 := (hb.cell (p := ⟨b', off' + k * 9 + 3, none⟩) (by show b' < _; omega)).trans d3
      replace d4 := (hb.cell (p := ⟨b', off' + k * 9 + 4, none⟩) (by show b' < _; omega)).trans d4
      replace d5 := (hb.cell (p := ⟨b', off' + k * 9 + 5, none⟩) (by show b' < _; omega)).trans d5
      replace d6 := (hb.cell (p := ⟨b', off' + k * 9 + 6, none⟩) (by show b' < _; omega)).trans d6
      replace d7 := (hb.cell (p := ⟨b', off' + k * 9 + 7, none⟩) (by show b' < _; omega)).trans d7
      replace d8 := (hb.cell (p := ⟨b', off' + k * 9 + 8, none⟩) (by show b' < _; omega)).trans d8
      have HT := Lib.hid (hT.keep (w' := wr.drew) fun g _ h => hb.block g (by omega))
      have HT2 := Lib.hid (hT'.keep (w' := wr.drew) fun g _ h => hb.block g (by omega))
      have hlt1 : (k : Int) < (l.length : Int) := by omega
      have HB := Lib.hid hb
      clear hb hx hx' hV hU hT hT'
      go_wp2
      go_still_tail 8, (by kernel_rfl)
      change wpList _ _ _ _ _ wr.drew
      go_wp2_with fail
      refine (eqNetTask_t t vi vo vc vi' vo' vc' p0 p1 q0 q1 _ HT.out HT2.out (Nat.le_trans hp1 HB.out.size) (Nat.le_trans hq1 HB.out.size)).mono ?_
      rintro e w2 ⟨rfl, hb2⟩
      have HB2 := Lib.hid (HB.out.drew.trans (hb2.mono HB.out.size))
      clear hb2
      go_wp2_with fail
      go_roundw
      case rel => exact ⟨k + 1, by omega, by go_num, HB2.out⟩
      case measure => simp [intOf]; omega
    · have HB := Lib.hid hb
      clear hb hV hU
      go_wp2
      go_ret
      exact ⟨rfl, HB.out⟩

theorem eqNetNet_t (n : NNet) (v u : Value) (lo hi lo' hi' : Nat) (w : World) (hV : NetV w lo hi v n) (hU : NetV w lo' hi' u n) (hhi : hi ≤ w.heap.size) (hhi' : hi' ≤ w.heap.size) :
    Calls Try.prog 32 #[v, u] w fun e w' => e = .returned (.bool true) ∧ Below w.heap.size w w' := by
  obtain ⟨A, b, off, c, ms, rfl, hm, hT⟩ := hV
  obtain ⟨B, b', off', c', ms', rfl, _, hS⟩ := hU
  go_enter Try.func32, Try.ntmps32
  go_wp2_with fail
  refine (eqNetTaskS_t n.tasks ms ms' lo hi lo' hi' lo hi lo' hi' A B b off c b' off' c' _ (hT.keep (fun g _ h => ?_) (fun g _ h => ?_)) (hS.keep (fun g _ h => ?_) (fun g _ h => ?_)) (by simp; omega) (by simp; omega) (by simp; omega) (by simp; omega) hm).mono ?_
  · exact (Below.heap_alloc _ _ g (by simp; omega)).trans (Below.heap_alloc _ _ g (by omega))
  · exact (Below.heap_alloc _ _ g (by simp; omega)).trans (Below.heap_alloc _ _ g (by omega))
  · exact (Below.heap_alloc _ _ g (by simp; omega)).trans (Below.heap_alloc _ _ g (by omega))
  · exact (Below.heap_alloc _ _ g (by simp; omega)).trans (Below.heap_alloc _ _ g (by omega))
  rintro e w1 ⟨rfl, hb1⟩
  have HB := Lib.hid (((Below.refl w.heap.size w).alloc (Nat.le_refl _) _).alloc (by simp) _ |>.trans (hb1.mono (by simp; omega)))
  clear hb1
  go_wp2
  go_ret
  exact ⟨rfl, HB.out⟩
end Go.Proofs.Yteedgmaeopnidaa
