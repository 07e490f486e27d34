/- Marks written into a task that the call has made. -/
import Derived.Test.YteedgmaeopnidaaNetMark2
import Derived.Deep.DeepCutAuto
namespace Go.Proofs.Yteedgmaeopnidaa
open Go.RowKit
set_option linter.unusedVariables false
set_option linter.unusedSimpArgs false

theorem TaskV.below {w w' : World} {lo hi B : Nat} {t : NTask} {vi vo vc : Value} (h : TaskV w lo hi t vi vo vc) (hb : Below B w w') (hB : hi ≤ B) : TaskV w' lo hi t vi vo vc := h.keep fun g _ h2 => hb.block g (by omega)
theorem TaskV.chg {w w' : World} {lo hi lo' hi' : Nat} {t : NTask} {vi vo vc : Value} (h : TaskV w lo' hi' t vi vo vc) (hu : Chg lo hi w w') (hd : hi' ≤ lo ∨ hi ≤ lo') (hw : hi' ≤ w.heap.size) : TaskV w' lo' hi' t vi vo vc :=
  h.keep fun g h1 h2 => hu.block g (by omega) (by omega)
theorem TaskV.upd {w w' : World} {lo hi lo' hi' : Nat} {t : NTask} {vi vo vc : Value} (h : TaskV w lo' hi' t vi vo vc) (hu : Upd lo hi w w') (hd : hi' ≤ lo ∨ hi ≤ lo') : TaskV w' lo' hi' t vi vo vc :=
  h.keep fun g h1 h2 => hu.block g (by omega)
theorem IntRow.alloc {w : World} {lo hi b off n : Nat} {A : Option Addr} (h : IntRow w lo hi A b off n) (hhi : hi ≤ w.heap.size) (o : Obj) : IntRow (w.alloc o) lo hi A b off n :=
  ⟨h.1, fun j hj => by
    obtain ⟨⟨x, hx⟩, hf⟩ := h.2 j hj
    obtain ⟨_, _, h3⟩ := h.1 (by omega)
    have hb := (Below.refl w.heap.size w).alloc (Nat.le_refl _) o
    exact ⟨⟨x, (hb.cell (p := ⟨b, off + j, none⟩) (by show b < _; omega)).trans hx⟩, (hb.frozen (p := ⟨b, off + j, none⟩) (by show b < _; omega)).trans hf⟩⟩

set_option maxRecDepth 10000 in
set_option maxHeartbeats 1000000 in
theorem markNetTask_s (t : NTask) (vi vo vc : Value) (lo hi : Nat) (k0 : Int) (w : World) (hV : TaskV w lo hi t vi vo vc) (hhi : hi ≤ w.heap.size) (hs : taskSize t ≤ 1048576) (hk0 : 0 ≤ k0) (hk1 : k0 ≤ 16777216) :
    Calls Try.prog 25 #[.agg #[.int .i64 t.join, .int .i64 t.split, vi, vo, vc, .int .i64 t.role, .int .i64 t.apart, .int .i64 t.all, .int .i64 t.need], .int .i64 k0] w fun e w' => ∃ k1 : Int, e = .returned (.int .i64 k1) ∧ 0 ≤ k1 ∧ k1 ≤ k0 + 10485760 ∧ Chg lo hi w w' := by
  obtain ⟨A1, q1, A2, q2, A3, q3, rfl, rfl, rfl⟩ := hV.forms
  obtain ⟨_, b1, o1, _, e1, _, h1⟩ := hV.ins
  cases e1
  obtain ⟨_, b2, o2, _, e2, _, h2⟩ := hV.out
  cases e2
  obtain ⟨_, b3, o3, _, e3, _, h3⟩ := hV.clear
  cases e3
  unfold taskSize at hs
  generalize hob : Obj.cells #[.int .i64 t.join, .int .i64 t.split, .slice A1 t.ins.length q1, .slice A2 t.out.length q2, .slice A3 t.clear.length q3, .int .i64 t.role, .int .i64 t.apart, .int .i64 t.all, .int .i64 t.need] 44 = ob
  have hR := (Row.newAt w #[.int .i64 t.join, .int .i64 t.split, .slice A1 t.ins.length q1, .slice A2 t.out.length q2, .slice A3 t.clear.length q3, .int .i64 t.role, .int .i64 t.apart, .int .i64 t.all, .int .i64 t.need] 44 _ rfl)
  rw [hob] at hR
  have HO := Lib.hid hob
  have HR := Lib.hid hR
  have H1 := Lib.hid ((IntRow.of_ints h1).alloc hhi ob)
  have H2 := Lib.hid ((IntRow.of_flows h2).alloc hhi ob)
  have H3 := Lib.hid ((IntRow.of_ints h3).alloc hhi ob)
  have s2 := (hR.cell (j := 2) rfl).1
  have s3 := (hR.cell (j := 3) rfl).1
  have s4 := (hR.cell (j := 4) rfl).1
  clear hV h1 h2 h3 hob hR
  go_enter Try.func25, Try.ntmps25
  go_upto_region 1 with fail
  rw [HO.out]
  go_wp2_with fail
  refine (markIntS_s t.ins.length lo hi A1 b1 o1 q1 k0 _ H1.out (by omega) (by omega) (by omega)).mono ?_
  rintro e w1 ⟨rfl, hs1⟩
  have HS1 := Lib.hid hs1
  replace s3 := (hs1.upd.cell (p := ⟨w.heap.size, 3, none⟩) (by dsimp only; omega)).trans s3
  replace s4 := (hs1.upd.cell (p := ⟨w.heap.size, 4, none⟩) (by dsimp only; omega)).trans s4
  clear hs1 s2
  go_wp2_with fail
  refine (markNetFlowS_s t.out.length lo hi A2 b2 o2 q2 _ _ (H2.out.scr HS1.out) (by omega) (by omega) (by omega)).mono ?_
  rintro e w2 ⟨rfl, hs2⟩
  have HS2 := Lib.hid (HS1.out.trans hs2)
  replace s4 := (hs2.upd.cell (p := ⟨w.heap.size, 4, none⟩) (by dsimp only; omega)).trans s4
  clear hs2 s3
  go_wp2_with fail
  refine (markIntS_s t.clear.length lo hi A3 b3 o3 q3 _ _ (H3.out.scr HS2.out) (by omega) (by omega) (by omega)).mono ?_
  rintro e w3 ⟨rfl, hs3⟩
  have HS3 := Lib.hid (HS2.out.trans hs3)
  clear hs3 s4
  go_wp2
  go_ret
  have hu := HS3.out.upd
  exact ⟨_, rfl, by omega, by omega, ⟨hu.os, hu.tape, hu.output, by rw [hu.size]; simp, fun g h4 h5 => (hu.block g h5).trans (Below.heap_alloc w ob g h4)⟩⟩
end Go.Proofs.Yteedgmaeopnidaa
