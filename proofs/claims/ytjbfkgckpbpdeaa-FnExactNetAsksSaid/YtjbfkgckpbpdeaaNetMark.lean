/- Marks written into a whole net: only numbers are overwritten, and what was a number stays one. -/
import Derived.Test.YtjbfkgckpbpdeaaNetEq
namespace Go.Proofs.Ytjbfkgckpbpdeaa
open Go.RowKit
set_option linter.unusedVariables false
set_option linter.unusedSimpArgs false

/-- Only cells of blocks lo .. hi - 1 have been written, and each cell that held a number holds one. -/
structure Scr (lo hi : Nat) (w w' : World) : Prop where
  upd : Upd lo hi w w'
  nums : ∀ (p : Addr) (x : Int), w.cell? p = some (.int .i64 x) → ∃ y, w'.cell? p = some (.int .i64 y)
  frozen : ∀ p, w'.frozen? p = w.frozen? p
  keep : ∀ (p : Addr) (v : Value), w.cell? p = some v → (∀ x, v ≠ .int .i64 x) → w'.cell? p = some v
theorem Scr.refl (lo hi : Nat) (w : World) : Scr lo hi w w := ⟨Upd.refl _ _ _, fun p x h => ⟨x, h⟩, fun _ => rfl, fun _ _ h _ => h⟩
theorem Scr.trans {lo hi : Nat} {a b c : World} (h : Scr lo hi a b) (k : Scr lo hi b c) : Scr lo hi a c :=
  ⟨h.upd.trans k.upd, fun p x hx => by obtain ⟨y, hy⟩ := h.nums p x hx; exact k.nums p y hy, fun p => (k.frozen p).trans (h.frozen p), fun p v hv hn => k.keep p v (h.keep p v hv hn) hn⟩
theorem Scr.more {lo hi lo' hi' : Nat} {a b : World} (h : Scr lo hi a b) (h1 : lo' ≤ lo) (h2 : hi ≤ hi') : Scr lo' hi' a b := ⟨h.upd.more h1 h2, h.nums, h.frozen, h.keep⟩
theorem Scr.set {lo hi : Nat} {a w : World} (h : Scr lo hi a w) {p : Addr} (h1 : lo ≤ p.block) (h2 : p.block < hi) (ha : ∃ x, a.cell? p = some (.int .i64 x)) (y : Int) : Scr lo hi a (w.setCell p (.int .i64 y)) := by
  obtain ⟨x0, hx0⟩ := ha
  obtain ⟨z, hz⟩ := h.nums p x0 hx0
  refine h.trans ⟨(Upd.refl lo hi w).setCell h1 h2 _, fun q x hx => ?_, fun q => World.frozen?_setCell _ _ _ _, fun q v hv hn => ?_⟩
  · by_cases hq : q = p
    · subst hq; exact ⟨y, cell_setCell_same hx⟩
    · exact ⟨x, (World.cell?_setCell_other _ _ _ _ (fun e => hq e.symm)).trans hx⟩
  · by_cases hq : q = p
    · subst hq
      rw [hz] at hv
      injection hv with hv
      exact absurd hv.symm (hn z)
    · exact (World.cell?_setCell_other _ _ _ _ (fun e => hq e.symm)).trans hv

/-- n cells that hold numbers. -/
def IntRow (w : World) (lo hi : Nat) (A : Option Addr) (b off n : Nat) : Prop := (0 < n → A = some ⟨b, off, none⟩ ∧ lo ≤ b ∧ b < hi) ∧ ∀ j, j < n → (∃ x, w.cell? ⟨b, off + j, none⟩ = some (.int .i64 x)) ∧ w.frozen? ⟨b, off + j, none⟩ = false
theorem IntRow.scr {w w' : World} {lo hi lo' hi' b off n : Nat} {A : Option Addr} (h : IntRow w lo hi A b off n) (hs : Scr lo' hi' w w') : IntRow w' lo hi A b off n :=
  ⟨h.1, fun j hj => by
    obtain ⟨⟨x, hx⟩, hf⟩ := h.2 j hj
    exact ⟨hs.nums _ x hx, (hs.frozen _).trans hf⟩⟩
theorem IntRow.of_ints {w : World} {lo hi b off : Nat} {A : Option Addr} {zs : List Int} (h : Row w lo hi A b off (ints zs)) : IntRow w lo hi A b off zs.length :=
  ⟨fun h0 => h.ref (k := 0) (by simpa using h0), fun j hj => by
    obtain ⟨_, _, _, x, _, hc, hf⟩ := h.int hj
    exact ⟨⟨x, hc⟩, hf⟩⟩
theorem flowCells_ints (l : List NFlow) : flowCells l = ints (l.flatMap fun f => [f.to, f.op, f.var, f.k]) := by
  simp [ints, List.map_flatMap]
theorem itemCells_ints (l : List NItem) : itemCells l = ints (l.flatMap fun f => [f.task, f.who, f.did]) := by
  simp [ints, List.map_flatMap]
theorem IntRow.of_flows {w : World} {lo hi b off : Nat} {A : Option Addr} {l : List NFlow} (h : Row w lo hi A b off (flowCells l)) : IntRow w lo hi A b off (l.length * 4) := by
  have e := flowCells_len l
  rw [flowCells_ints] at h e
  have := IntRow.of_ints h
  rwa [show (l.flatMap fun f => [f.to, f.op, f.var, f.k]).length = l.length * 4 by simpa using e] at this
theorem IntRow.of_items {w : World} {lo hi b off : Nat} {A : Option Addr} {l : List NItem} (h : Row w lo hi A b off (itemCells l)) : IntRow w lo hi A b off (l.length * 3) := by
  have e := itemCells_len l
  rw [itemCells_ints] at h e
  have := IntRow.of_ints h
  rwa [show (l.flatMap fun f => [f.task, f.who, f.did]).length = l.length * 3 by simpa using e] at this

theorem markIntS_s (n lo hi : Nat) (A : Option Addr) (b off c : Nat) (k0 : Int) (w : World) (hV : IntRow w lo hi A b off n) (hm : n ≤ 16777216) (hk0 : 0 ≤ k0) (hk1 : k0 ≤ 1099511627776) :
    Calls Try.prog 11 #[.slice A n c, .int .i64 k0] w fun e w' => e = .returned (.int .i64 (k0 + (n : Int))) ∧ Scr lo hi w w' := by
  go_enter Try.func11, Try.ntmps11
  go_wp2
  go_loopw [1, 5] (fun kk i wr => ∃ (k : Nat), k ≤ n ∧ i = .int .i64 k ∧ kk = .int .i64 (k0 + (k : Int)) ∧ Scr lo hi w wr) (fun _ i _ => n - (intOf i).toNat)
  case atStart => exact ⟨0, Nat.zero_le _, rfl, by simp, Scr.refl _ _ _⟩
  case round =>
    obtain ⟨k, hk, rfl, rfl, hS⟩ := hrel
    have HS := Lib.hid hS
    by_cases hlt : k < n
    · obtain ⟨rfl, h2, h3⟩ := hV.1 (by omega)
      obtain ⟨⟨x, hc⟩, hf⟩ := (hV.scr hS).2 k hlt
      have H0 := Lib.hid (hV.2 k hlt).1
      clear hS
      go_wp2
      go_roundw
      case rel => exact ⟨k + 1, by omega, by go_num, by go_num, HS.out.set h2 h3 H0.out _⟩
      case measure => simp [intOf]; omega
    · have hkn : k = n := by omega
      clear hS hV
      go_wp2
      go_ret
      exact ⟨ret_int (by omega), HS.out⟩

theorem markNetFlowS_s (n lo hi : Nat) (A : Option Addr) (b off c : Nat) (k0 : Int) (w : World) (hV : IntRow w lo hi A b off (n * 4)) (hm : n ≤ 16777216) (hk0 : 0 ≤ k0) (hk1 : k0 ≤ 1099511627776) :
    Calls Try.prog 32 #[.slice A n c, .int .i64 k0] w fun e w' => e = .returned (.int .i64 (k0 + 4 * (n : Int))) ∧ Scr lo hi w w' := by
  go_enter Try.func32, Try.ntmps32
  go_wp2
  go_loopw [1, 5] (fun kk i wr => ∃ (k : Nat), k ≤ n ∧ i = .int .i64 k ∧ kk = .int .i64 (k0 + 4 * (k : Int)) ∧ Scr lo hi w wr) (fun _ i _ => n - (intOf i).toNat)
  case atStart => exact ⟨0, Nat.zero_le _, rfl, by simp, Scr.refl _ _ _⟩
  case round =>
    obtain ⟨k, hk, rfl, rfl, hS⟩ := hrel
    have HS := Lib.hid hS
    by_cases hlt : k < n
    · obtain ⟨rfl, h2, h3⟩ := hV.1 (by omega)
      have hI := hV.scr hS
      obtain ⟨⟨x0, c0⟩, f0⟩ := hI.2 (k * 4) (by omega)
      obtain ⟨⟨x1, c1⟩, f1⟩ := hI.2 (k * 4 + 1) (by omega)
      obtain ⟨⟨x2, c2⟩, f2⟩ := hI.2 (k * 4 + 2) (by omega)
      obtain ⟨⟨x3, c3⟩, f3⟩ := hI.2 (k * 4 + 3) (by omega)
      simp only [← Nat.add_assoc] at c1 c2 c3 f1 f2 f3
      have h0_ := (hV.2 (k * 4) (by omega)).1
      have h1_ := (hV.2 (k * 4 + 1) (by omega)).1
      have h2_ := (hV.2 (k * 4 + 2) (by omega)).1
      have h3_ := (hV.2 (k * 4 + 3) (by omega)).1
      simp only [← Nat.add_assoc] at h1_ h2_ h3_
      have H0 := Lib.hid h0_
      have H1 := Lib.hid h1_
      have H2 := Lib.hid h2_
      have H3 := Lib.hid h3_
      clear hS hI h0_ h1_ h2_ h3_
      go_wp2
      go_roundw
      case rel => exact ⟨k + 1, by omega, by go_num, by go_num, ((((HS.out.set h2 h3 H0.out _).set h2 h3 H1.out _).set h2 h3 H2.out _).set h2 h3 H3.out _)⟩
      case measure => simp [intOf]; omega
    · have hkn : k = n := by omega
      clear hS hV
      go_wp2
      go_ret
      exact ⟨ret_int (by omega), HS.out⟩


/-- The three slices of a task hold numbers alone. -/
structure MTask (w : World) (lo hi : Nat) (m : TaskM) : Prop where
  ins : ∃ A b off c, m.vi = .slice A m.t.ins.length c ∧ IntRow w lo hi A b off m.t.ins.length
  out : ∃ A b off c, m.vo = .slice A m.t.out.length c ∧ IntRow w lo hi A b off (m.t.out.length * 4)
  clear : ∃ A b off c, m.vc = .slice A m.t.clear.length c ∧ IntRow w lo hi A b off m.t.clear.length
theorem MTask.of {w : World} {lo hi : Nat} {m : TaskM} (h : TaskV w lo hi m.t m.vi m.vo m.vc) : MTask w lo hi m := by
  obtain ⟨⟨A1, b1, o1, c1, e1, _, h1⟩, ⟨A2, b2, o2, c2, e2, _, h2⟩, ⟨A3, b3, o3, c3, e3, _, h3⟩⟩ := h
  exact ⟨⟨A1, b1, o1, c1, e1, IntRow.of_ints h1⟩, ⟨A2, b2, o2, c2, e2, IntRow.of_flows h2⟩, ⟨A3, b3, o3, c3, e3, IntRow.of_ints h3⟩⟩

set_option maxRecDepth 10000 in
set_option maxHeartbeats 2000000 in
theorem markNetTaskS_s (ms : List TaskM) (g hi : Nat) (c : Nat) (k0 : Int) (w : World) (hR : Row w g (g + 1) (some ⟨g, 0, none⟩) g 0 (taskCells ms)) (hM : ∀ m ∈ ms, MTask w (g + 1) hi m) (hg : g < hi) (hsz : (ms.length : Int) + tasksSize (ms.map TaskM.t) ≤ 1048576) (hk0 : 0 ≤ k0) (hk1 : k0 ≤ 16777216) :
    Calls Try.prog 20 #[.slice (some ⟨g, 0, none⟩) ms.length c, .int .i64 k0] w fun e w' => ∃ k1 : Int, e = .returned (.int .i64 k1) ∧ 0 ≤ k1 ∧ k1 ≤ k0 + 10485760 ∧ Scr g hi w w' := by
  have hpos := tasksSize_pos (ms.map TaskM.t)
  go_enter Try.func20, Try.ntmps20
  go_wp2
  go_loopw [1, 5] (fun kk i wr => ∃ (k : Nat) (z : Int), k ≤ ms.length ∧ i = .int .i64 k ∧ kk = .int .i64 z ∧ 0 ≤ z ∧ z ≤ k0 + 6 * (k : Int) + 4 * tasksSize ((ms.map TaskM.t).take k) ∧ Scr g hi w wr) (fun _ i _ => ms.length - (intOf i).toNat)
  case atStart => exact ⟨0, k0, Nat.zero_le _, rfl, rfl, hk0, by simp [tasksSize], Scr.refl _ _ _⟩
  case round =>
    obtain ⟨k, z, hk, rfl, rfl, hz0, hz1, hS⟩ := hrel
    have htk := tasksSize_take (ms.map TaskM.t) k
    have hs0 := tasksSize_pos ((ms.map TaskM.t).take k)
    have HS := Lib.hid hS
    by_cases hlt : k < ms.length
    · have hx : ms[k]? = some ms[k] := List.getElem?_eq_getElem hlt
      have hMk := hM _ (List.mem_of_getElem? hx)
      have hstep : tasksSize ((ms.map TaskM.t).take (k + 1)) = tasksSize ((ms.map TaskM.t).take k) + taskSize ms[k].t := by
        rw [take_succ_of (x := ms[k].t) (by simp [hx]), tasksSize_append]; simp [tasksSize]
      have htk1 := tasksSize_take (ms.map TaskM.t) (k + 1)
      generalize ms[k] = m at hx hMk hstep
      obtain ⟨t, vi, vo, vc⟩ := m
      obtain ⟨⟨A1, b1, o1, c1, e1, hI1⟩, ⟨A2, b2, o2, c2, e2, hI2⟩, ⟨A3, b3, o3, c3, e3, hI3⟩⟩ := hMk
      dsimp only at e1 e2 e3 hI1 hI2 hI3 hstep
      subst e1 e2 e3
      have hd : ∀ x ∈ ms, (TaskM.cells x).length = 9 := fun _ _ => rfl
      have cc := fun (j : Nat) (u : Value) (hj : j < 9) (hu : (TaskM.cells ⟨t, .slice A1 t.ins.length c1, .slice A2 t.out.length c2, .slice A3 t.clear.length c3⟩)[j]? = some u) => hR.cell (j := k * 9 + j) ((flat_at hd hx hj).trans hu)
      have HM := Lib.hid hM
      have HX := Lib.hid hx
      have HST := Lib.hid hstep
      have HTS : taskSize t = (t.ins.length : Int) + ((t.out.length : Int) + (t.clear.length : Int)) := rfl
      have hln : (t.ins.length : Int) ≤ 1048576 ∧ (t.out.length : Int) ≤ 1048576 ∧ (t.clear.length : Int) ≤ 1048576 := by omega
      have HI1 := Lib.hid hI1
      have HI2 := Lib.hid hI2
      have HI3 := Lib.hid hI3
      have a0 : ∃ x, w.cell? ⟨g, k * 9, none⟩ = some (.int .i64 x) := ⟨_, (cc 0 _ (by omega) rfl).1⟩
      have H0 := Lib.hid a0
      obtain ⟨x0, d0⟩ := a0
      obtain ⟨y0, q0⟩ := hS.nums _ _ d0
      have f0 : wr.frozen? ⟨g, k * 9, none⟩ = false := (hS.frozen _).trans (cc 0 _ (by omega) rfl).2
      clear d0
      have a1 : ∃ x, w.cell? ⟨g, k * 9 + 1, none⟩ = some (.int .i64 x) := ⟨_, (cc 1 _ (by omega) rfl).1⟩
      have H1 := Lib.hid a1
      obtain ⟨x1, d1⟩ := a1
      obtain ⟨y1, q1⟩ := hS.nums _ _ d1
      have f1 : wr.frozen? ⟨g, k * 9 + 1, none⟩ = false := (hS.frozen _).trans (cc 1 _ (by omega) rfl).2
      clear d1
      have a5 : ∃ x, w.cell? ⟨g, k * 9 + 5, none⟩ = some (.int .i64 x) := ⟨_, (cc 5 _ (by omega) rfl).1⟩
      have H5 := Lib.hid a5
      obtain ⟨x5, d5⟩ := a5
      obtain ⟨y5, q5⟩ := hS.nums _ _ d5
      have f5 : wr.frozen? ⟨g, k * 9 + 5, none⟩ = false := (hS.frozen _).trans (cc 5 _ (by omega) rfl).2
      clear d5
      have a6 : ∃ x, w.cell? ⟨g, k * 9 + 6, none⟩ = some (.int .i64 x) := ⟨_, (cc 6 _ (by omega) rfl).1⟩
      have H6 := Lib.hid a6
      obtain ⟨x6, d6⟩ := a6
      obtain ⟨y6, q6⟩ := hS.nums _ _ d6
      have f6 : wr.frozen? ⟨g, k * 9 + 6, none⟩ = false := (hS.frozen _).trans (cc 6 _ (by omega) rfl).2
      clear d6
      have a7 : ∃ x, w.cell? ⟨g, k * 9 + 7, none⟩ = some (.int .i64 x) := ⟨_, (cc 7 _ (by omega) rfl).1⟩
      have H7 := Lib.hid a7
      obtain ⟨x7, d7⟩ := a7
      obtain ⟨y7, q7⟩ := hS.nums _ _ d7
      have f7 : wr.frozen? ⟨g, k * 9 + 7, none⟩ = false := (hS.frozen _).trans (cc 7 _ (by omega) rfl).2
      clear d7
      have a8 : ∃ x, w.cell? ⟨g, k * 9 + 8, none⟩ = some (.int .i64 x) := ⟨_, (cc 8 _ (by omega) rfl).1⟩
      have H8 := Lib.hid a8
      obtain ⟨x8, d8⟩ := a8
      obtain ⟨y8, q8⟩ := hS.nums _ _ d8
      have f8 : wr.frozen? ⟨g, k * 9 + 8, none⟩ = false := (hS.frozen _).trans (cc 8 _ (by omega) rfl).2
      clear d8
      have r2 : w.cell? ⟨g, k * 9 + 2, none⟩ = some (.slice A1 t.ins.length c1) := (cc 2 _ (by omega) rfl).1
      have q2 := hS.keep _ _ r2 (fun x e => by cases e)
      have R2 := Lib.hid r2
      clear r2
      have r3 : w.cell? ⟨g, k * 9 + 3, none⟩ = some (.slice A2 t.out.length c2) := (cc 3 _ (by omega) rfl).1
      have q3 := hS.keep _ _ r3 (fun x e => by cases e)
      have R3 := Lib.hid r3
      clear r3
      have r4 : w.cell? ⟨g, k * 9 + 4, none⟩ = some (.slice A3 t.clear.length c3) := (cc 4 _ (by omega) rfl).1
      have q4 := hS.keep _ _ r4 (fun x e => by cases e)
      have R4 := Lib.hid r4
      clear r4
      have HCC := Lib.hid cc
      clear hS hM hx hstep hI1 hI2 hI3 cc hR
      have hlg : g < g + 1 := Nat.lt_succ_self _
      generalize hS1 : tasksSize ((ms.map TaskM.t).take k) = s1 at *
      go_wp2_with fail
      have HS1 := Lib.hid ((HS.out.set (p := ⟨g, k * 9, none⟩) (Nat.le_refl _) hg H0.out z).set (p := ⟨g, k * 9 + 1, none⟩) (Nat.le_refl _) hg H1.out (z + 1))
      refine (markIntS_s t.ins.length (g + 1) hi A1 b1 o1 c1 _ _ (HI1.out.scr HS1.out) (by omega) (by omega) (by omega)).mono ?_
      rintro e w2 ⟨rfl, hs2⟩
      have HS2 := Lib.hid (HS1.out.trans (hs2.more (by omega) (Nat.le_refl _)))
      clear hs2 q0 f0 q1 f1 q2 q5 f5 q6 f6 q7 f7 q8 f8 q3 q4
      have q3 := HS2.out.keep _ _ R3.out (fun x e => by cases e)
      have q4 := HS2.out.keep _ _ R4.out (fun x e => by cases e)
      obtain ⟨y5, q5⟩ : ∃ y, w2.cell? ⟨g, k * 9 + 5, none⟩ = some (.int .i64 y) := by obtain ⟨x, h⟩ := H5.out; exact HS2.out.nums _ _ h
      have f5 : w2.frozen? ⟨g, k * 9 + 5, none⟩ = false := (HS2.out.frozen _).trans (HCC.out 5 _ (by omega) rfl).2
      obtain ⟨y6, q6⟩ : ∃ y, w2.cell? ⟨g, k * 9 + 6, none⟩ = some (.int .i64 y) := by obtain ⟨x, h⟩ := H6.out; exact HS2.out.nums _ _ h
      have f6 : w2.frozen? ⟨g, k * 9 + 6, none⟩ = false := (HS2.out.frozen _).trans (HCC.out 6 _ (by omega) rfl).2
      obtain ⟨y7, q7⟩ : ∃ y, w2.cell? ⟨g, k * 9 + 7, none⟩ = some (.int .i64 y) := by obtain ⟨x, h⟩ := H7.out; exact HS2.out.nums _ _ h
      have f7 : w2.frozen? ⟨g, k * 9 + 7, none⟩ = false := (HS2.out.frozen _).trans (HCC.out 7 _ (by omega) rfl).2
      obtain ⟨y8, q8⟩ : ∃ y, w2.cell? ⟨g, k * 9 + 8, none⟩ = some (.int .i64 y) := by obtain ⟨x, h⟩ := H8.out; exact HS2.out.nums _ _ h
      have f8 : w2.frozen? ⟨g, k * 9 + 8, none⟩ = false := (HS2.out.frozen _).trans (HCC.out 8 _ (by omega) rfl).2
      go_wp2_with fail
      refine (markNetFlowS_s t.out.length (g + 1) hi A2 b2 o2 c2 _ _ (HI2.out.scr HS2.out) (by omega) (by omega) (by omega)).mono ?_
      rintro e w3 ⟨rfl, hs3⟩
      have HS3 := Lib.hid (HS2.out.trans (hs3.more (by omega) (Nat.le_refl _)))
      clear hs3 q3 q4 q5 f5 q6 f6 q7 f7 q8 f8
      have q4 := HS3.out.keep _ _ R4.out (fun x e => by cases e)
      obtain ⟨y5, q5⟩ : ∃ y, w3.cell? ⟨g, k * 9 + 5, none⟩ = some (.int .i64 y) := by obtain ⟨x, h⟩ := H5.out; exact HS3.out.nums _ _ h
      have f5 : w3.frozen? ⟨g, k * 9 + 5, none⟩ = false := (HS3.out.frozen _).trans (HCC.out 5 _ (by omega) rfl).2
      obtain ⟨y6, q6⟩ : ∃ y, w3.cell? ⟨g, k * 9 + 6, none⟩ = some (.int .i64 y) := by obtain ⟨x, h⟩ := H6.out; exact HS3.out.nums _ _ h
      have f6 : w3.frozen? ⟨g, k * 9 + 6, none⟩ = false := (HS3.out.frozen _).trans (HCC.out 6 _ (by omega) rfl).2
      obtain ⟨y7, q7⟩ : ∃ y, w3.cell? ⟨g, k * 9 + 7, none⟩ = some (.int .i64 y) := by obtain ⟨x, h⟩ := H7.out; exact HS3.out.nums _ _ h
      have f7 : w3.frozen? ⟨g, k * 9 + 7, none⟩ = false := (HS3.out.frozen _).trans (HCC.out 7 _ (by omega) rfl).2
      obtain ⟨y8, q8⟩ : ∃ y, w3.cell? ⟨g, k * 9 + 8, none⟩ = some (.int .i64 y) := by obtain ⟨x, h⟩ := H8.out; exact HS3.out.nums _ _ h
      have f8 : w3.frozen? ⟨g, k * 9 + 8, none⟩ = false := (HS3.out.frozen _).trans (HCC.out 8 _ (by omega) rfl).2
      go_wp2_with fail
      refine (markIntS_s t.clear.length (g + 1) hi A3 b3 o3 c3 _ _ (HI3.out.scr HS3.out) (by omega) (by omega) (by omega)).mono ?_
      rintro e w4 ⟨rfl, hs4⟩
      have HS4 := Lib.hid (HS3.out.trans (hs4.more (by omega) (Nat.le_refl _)))
      clear hs4 q4 q5 f5 q6 f6 q7 f7 q8 f8
      obtain ⟨y5, q5⟩ : ∃ y, w4.cell? ⟨g, k * 9 + 5, none⟩ = some (.int .i64 y) := by obtain ⟨x, h⟩ := H5.out; exact HS4.out.nums _ _ h
      have f5 : w4.frozen? ⟨g, k * 9 + 5, none⟩ = false := (HS4.out.frozen _).trans (HCC.out 5 _ (by omega) rfl).2
      obtain ⟨y6, q6⟩ : ∃ y, w4.cell? ⟨g, k * 9 + 6, none⟩ = some (.int .i64 y) := by obtain ⟨x, h⟩ := H6.out; exact HS4.out.nums _ _ h
      have f6 : w4.frozen? ⟨g, k * 9 + 6, none⟩ = false := (HS4.out.frozen _).trans (HCC.out 6 _ (by omega) rfl).2
      obtain ⟨y7, q7⟩ : ∃ y, w4.cell? ⟨g, k * 9 + 7, none⟩ = some (.int .i64 y) := by obtain ⟨x, h⟩ := H7.out; exact HS4.out.nums _ _ h
      have f7 : w4.frozen? ⟨g, k * 9 + 7, none⟩ = false := (HS4.out.frozen _).trans (HCC.out 7 _ (by omega) rfl).2
      obtain ⟨y8, q8⟩ : ∃ y, w4.cell? ⟨g, k * 9 + 8, none⟩ = some (.int .i64 y) := by obtain ⟨x, h⟩ := H8.out; exact HS4.out.nums _ _ h
      have f8 : w4.frozen? ⟨g, k * 9 + 8, none⟩ = false := (HS4.out.frozen _).trans (HCC.out 8 _ (by omega) rfl).2
      go_wp2
      go_roundw
      case rel =>
        have hst := HST.out
        exact ⟨k + 1, _, by omega, by go_num, rfl, by omega, by omega, (((HS4.out.set (Nat.le_refl _) hg H5.out _).set (Nat.le_refl _) hg H6.out _).set (Nat.le_refl _) hg H7.out _).set (Nat.le_refl _) hg H8.out _⟩
      case measure => simp [intOf]; omega
    · have hkn : k = ms.length := by omega
      clear hS hM
      go_wp2
      go_ret
      exact ⟨_, rfl, hz0, by omega, HS.out⟩
end Go.Proofs.Ytjbfkgckpbpdeaa
