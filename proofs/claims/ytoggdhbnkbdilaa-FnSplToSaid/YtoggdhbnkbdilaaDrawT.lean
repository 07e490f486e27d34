/- The draw of a task: whatever its arguments, it returns, and what it makes is its own. -/
import Derived.Test.YtoggdhbnkbdilaaTsk
import Derived.Deep.DeepCutAuto
namespace Go.Proofs.Ytoggdhbnkbdilaa
open Go.RowKit
set_option linter.unusedVariables false
set_option linter.unusedSimpArgs false

/-- A task under way: its nine cells in block T, its flows in a row of its own behind T, the cell of the result ahead of T. -/
structure TskW (w0 : World) (R T : Nat) (t : NTask) (vin vo : Value) (p : Nat) (w : World) : Prop where
  row : Row w T (T + 1) (some ⟨T, 0, none⟩) T 0 (t.cells vin vo (.slice none 0 0))
  res : Row w w0.heap.size (w0.heap.size + 1) (some ⟨w0.heap.size, 0, none⟩) w0.heap.size 0 (NTask.cells ⟨0, 0, [], [], [], 0, 0, 0, 0⟩ (.slice none 0 0) (.slice none 0 0) (.slice none 0 0))
  own : w.ownsRow (T + 1) 47 4 vo t.out.length (flowCells t.out)
  rd : RdV w R p
  gr : w0.grownBy w (some R)
  hR : R < w0.heap.size
  hT : w0.heap.size < T
  lt : T < w.heap.size
section
variable {w0 w w' : World} {R T p p' : Nat} {t : NTask} {vin vo : Value}
theorem TskW.upd (h : TskW w0 R T t vin vo p w) (hu : Upd R (R + 1) w w') (hr : RdV w' R p') : TskW w0 R T t vin vo p' w' :=
  ⟨h.row.upd hu (.inr (by have := h.hR; have := h.hT; omega)), h.res.upd hu (.inr (by have := h.hR; omega)), h.own.kept (grown_upd hu) (by
    rcases hv : vo.ownBlock with _ | g
    · exact .inl rfl
    · right; intro e; injection e with e; have := (h.own.lt g hv).1; have := h.hR; have := h.hT; omega), hr, grown_tr h.gr (grown_upd hu), h.hR, h.hT, by rw [hu.size]; exact h.lt⟩
theorem TskW.alloc (h : TskW w0 R T t vin vo p w) (o : Obj) : TskW w0 R T t vin vo p (w.alloc o) :=
  ⟨h.row.alloc h.lt o, h.res.alloc (by have := h.hT; have := h.lt; omega) o, h.own.alloc o, h.rd.alloc o, grown_alloc h.gr o, h.hR, h.hT, by have := h.lt; simp; omega⟩
/-- A cell of the task is written. -/
theorem TskW.put (h : TskW w0 R T t vin vo p w) {t' : NTask} (k : Nat) (u : Value) (hk : k < 9) (hc : (t.cells vin vo (.slice none 0 0)).set k u = t'.cells vin vo (.slice none 0 0)) (ho : t'.out = t.out) : TskW w0 R T t' vin vo p (w.setCell ⟨T, k, none⟩ u) := by
  have hT := h.hT; have hR := h.hR; have hlt := h.lt
  refine ⟨by rw [← hc]; have := h.row.set_ k u (by simpa using hk); rwa [Nat.zero_add] at this, h.res.setCell (.inr (by dsimp only; omega)) _, ?_, h.rd.setCell (by dsimp only; omega) _, grown_setCell h.gr (by dsimp only; omega) _, hR, hT, by simpa [World.setCell] using hlt⟩
  rw [ho]
  refine h.own.kept (row := some T) ⟨rfl, rfl, rfl, by simp [World.setCell], fun g hg hne => Below.heap_setCell w _ u g (by intro e; exact hne (by rw [e]))⟩ ?_
  rcases hv : vo.ownBlock with _ | g
  · exact .inl rfl
  · right; intro e; injection e with e; have := (h.own.lt g hv).1; omega
/-- A flow more. -/
theorem TskW.more (h : TskW w0 R T t vin vo p w) {vo' : Value} {f : NFlow} (hg : w.grownBy w' vo.ownBlock) (ho : w'.ownsRow (T + 1) 47 4 vo' (t.out.length + 1) (flowCells t.out ++ f.cells)) :
    TskW w0 R T { t with out := t.out ++ [f] } vin vo' p (w'.setCell ⟨T, 3, none⟩ vo') := by
  have hT := h.hT; have hR := h.hR; have hlt := h.lt
  have hb : ∀ g, g ≤ T → w'.heap[g]? = w.heap[g]? := fun g hg' => hg.block g (by omega) (fun e => by have := (h.own.lt g e.symm).1; omega)
  have hr := (h.row.keep (w' := w') fun g h1 h2 => hb g (by omega)).set_ 3 vo' (by simp)
  rw [Nat.zero_add] at hr
  refine ⟨hr, (h.res.keep (w' := w') fun g h1 h2 => hb g (by omega)).setCell (.inr (by dsimp only; omega)) _, ?_, (h.rd.keep (fun g hg' => hb g (by omega)) hg.size).setCell (by dsimp only; omega) _,
    grown_setCell ⟨hg.os.trans h.gr.os, hg.tape.trans h.gr.tape, hg.output.trans h.gr.output, Nat.le_trans h.gr.size hg.size, fun i hi hne => (hb i (by omega)).trans (h.gr.block i hi hne)⟩ (by dsimp only; omega) _, hR, hT, by have := hg.size; simp [World.setCell]; omega⟩
  have ho' : w'.ownsRow (T + 1) 47 4 vo' (t.out ++ [f]).length (flowCells (t.out ++ [f])) := by simpa [List.flatMap_append] using ho
  refine ho'.kept (row := some T) ⟨rfl, rfl, rfl, by simp [World.setCell], fun g hg hne => Below.heap_setCell w' _ _ g (by intro e; exact hne (by rw [e]))⟩ ?_
  rcases hv : vo'.ownBlock with _ | g
  · exact .inl rfl
  · right; intro e; injection e with e; have := (ho.lt g hv).1; omega
theorem TskW.facts (h : TskW w0 R T t vin vo p w) : (w.cell? ⟨T, 3, none⟩ = some vo ∧ w.cell? ⟨T, 7, none⟩ = some (.int .i64 t.all) ∧ w.cell? ⟨T, 6, none⟩ = some (.int .i64 t.apart) ∧ w.cell? ⟨T, 8, none⟩ = some (.int .i64 t.need)) ∧ w.frozen? ⟨T, 3, none⟩ = false ∧ w.frozen? ⟨T, 6, none⟩ = false ∧ w.frozen? ⟨T, 7, none⟩ = false ∧ w.frozen? ⟨T, 8, none⟩ = false := by
  obtain ⟨⟨_, _, _, c3, _, _, c6, c7, c8⟩, _, _, _, f3, _, _, f6, f7, f8⟩ := h.row.nine
  exact ⟨⟨c3, c7, c6, c8⟩, f3, f6, f7, f8⟩
/-- A cell behind the task's is written. -/
theorem TskW.far (h : TskW w0 R T t vin vo p w) {b : Nat} (hb : T < b) (hv : ∀ g, vo.ownBlock = some g → g ≠ b) (k : Nat) (u : Value) : TskW w0 R T t vin vo p (w.setCell ⟨b, k, none⟩ u) := by
  have hT := h.hT; have hR := h.hR; have hlt := h.lt
  refine ⟨h.row.setCell (.inr (by dsimp only; omega)) _, h.res.setCell (.inr (by dsimp only; omega)) _, ?_, h.rd.setCell (by dsimp only; omega) _, grown_setCell h.gr (by dsimp only; omega) _, hR, hT, by simpa [World.setCell] using hlt⟩
  refine h.own.kept (row := some b) ⟨rfl, rfl, rfl, by simp [World.setCell], fun g hg hne => Below.heap_setCell w _ u g (by intro e; exact hne (by rw [e]))⟩ ?_
  rcases hv' : vo.ownBlock with _ | g
  · exact .inl rfl
  · right; intro e; injection e with e; exact hv g hv' e
/-- The flows as a slice. -/
theorem own_sl {w : World} {base n : Nat} {e : TypeId} {sz : Nat} {v : Value} {xs : List Value} (h : w.ownsRow base e sz v n xs) : Sl w base w.heap.size v n xs := by
  rcases h.2 with ⟨rfl, hn⟩ | ⟨g, cap, cur, rfl, hg, hh, hc, hm, _⟩
  · have := h.1
    subst hn
    rw [Nat.zero_mul] at this
    obtain rfl := List.length_eq_zero_iff.1 this
    exact ⟨none, 0, 0, 0, rfl, Nat.zero_le _, Row.nil_⟩
  · obtain ⟨b, hr⟩ := Row.of_own h
    exact ⟨_, b, 0, cap, rfl, Nat.le_trans hc hm, hr⟩
theorem own_any {w : World} {base n : Nat} {e : TypeId} {sz : Nat} {v : Value} {xs : List Value} (h : w.ownsRow base e sz v n xs) : ∃ A c, v = .slice A n c := by
  rcases h.2 with ⟨rfl, rfl⟩ | ⟨g, cap, cur, rfl, _⟩
  · exact ⟨none, 0, rfl⟩
  · exact ⟨_, cap, rfl⟩
end

/-- Four new cells, as an appended flow. -/
theorem four_cells (w : World) (x y z u : Value) (T : TypeId) : ∀ (j : Nat) (v : Value), [x, y, z, u][j]? = some v → (w.alloc (.cells #[x, y, z, u] T)).cell? ((⟨w.heap.size, 0, none⟩ : Addr).add j) = some v := by
  intro j v hj
  rw [addr_add0, Nat.zero_add, World.cell?_alloc_at _ _ _ _ rfl]
  simpa using hj

def TskInv (w : World) (R p q T : Nat) (j s : Int) (ins : List Int) (vin : Value) (k : Nat) (wr : World) : Prop := ∃ (t : NTask) (vo : Value) (p' : Nat), t.join = j ∧ t.split = s ∧ t.ins = ins ∧ t.clear = [] ∧ t.out.length = k ∧ p' ≤ p + q + 3 * k ∧ TskW w R T t vin vo p' wr

set_option maxHeartbeats 1000000 in
set_option maxRecDepth 20000 in
theorem l20Task_c (R p : Nat) (j s m : Int) (ins tos : List Int) (lo hi : Nat) (A : Option Addr) (b off c : Nat) (Ai : Option Addr) (ci : Nat) (w : World) (hR : RdV w R p) (hp : p ≤ 900000) (hm : m ≤ 1000) (hm0 : -1000000 ≤ m)
    (hV : Row w lo hi A b off (ints tos)) (hhi : hi ≤ w.heap.size) (hlo : R < lo) (hl : tos.length ≤ 1000) :
    Calls Try.prog 92 #[.pointer (some ⟨R, 0, none⟩), .int .i64 j, .int .i64 s, .slice Ai ins.length ci, .slice A tos.length c, .int .i64 m] w fun e w' => ∃ (t : NTask) (Ao : Option Addr) (co : Nat) (p' : Nat),
      e = .returned (.agg #[.int .i64 t.join, .int .i64 t.split, .slice Ai ins.length ci, .slice Ao t.out.length co, .slice none 0 0, .int .i64 t.role, .int .i64 t.apart, .int .i64 t.all, .int .i64 t.need]) ∧ t.ins = ins ∧ t.clear = [] ∧ t.out.length = tos.length ∧ p' ≤ p + 5 + 3 * tos.length ∧
      Sl w' w.heap.size w'.heap.size (.slice Ao t.out.length co) t.out.length (flowCells t.out) ∧ RdV w' R p' ∧ w.grownBy w' (some R) := by
  obtain ⟨i0, hi0, hz0, hz1, hz2⟩ := info_parts Try.infoFlow
  have hRlt := hR.lt
  go_enter Try.func92, Try.ntmps92
  go_wp2_with fail
  refine (pick_c R p 3 _ (hR.alloc _) (by omega) (by omega) (by omega)).mono ?_
  rintro e w1 ⟨r1, rfl, hr1, hrd1, hu1⟩
  have HRES1 := Lib.hid ((Row.new w (NTask.cells ⟨0, 0, [], [], [], 0, 0, 0, 0⟩ (.slice none 0 0) (.slice none 0 0) (.slice none 0 0)).toArray 38).upd hu1 (.inr (by omega)))
  have hr1' : (r1 : Int) < 3 := pick_lt hr1 (by omega)
  have HG1 := Lib.hid (grown_tr (World.grownBy_alloc w _ (some R)) (grown_upd hu1))
  have HR1 := Lib.hid hrd1
  have hs1 : w.heap.size + 1 = w1.heap.size := by have := hu1.size; simp at this; omega
  have HS1 := Lib.hid hs1
  clear hrd1 hu1 hr1 hs1
  go_wp2_with fail
  refine (pick_c R (p + 1) 3 _ HR1.out (by omega) (by omega) (by omega)).mono ?_
  rintro e w2 ⟨r2, rfl, hr2, hrd2, hu2⟩
  have hr2' : (r2 : Int) < 3 := pick_lt hr2 (by omega)
  have HRES2 := Lib.hid (HRES1.out.upd hu2 (.inr (by omega)))
  have HG2 := Lib.hid (grown_tr HG1.out (grown_upd hu2))
  have HR2 := Lib.hid hrd2
  have HS2 : Hid (w.heap.size + 1 = w2.heap.size) := Lib.hid (HS1.out.trans hu2.size.symm)
  clear hrd2 hu2 hr2
  have HW2 : Hid (TskW w R w2.heap.size ⟨j, s, ins, [], [], 1 + (r1 : Int), -1, 1 + (r2 : Int), 0⟩ (.slice Ai ins.length ci) (.slice none 0 0) (p + 1 + 1) (w2.alloc (.cells (NTask.cells ⟨j, s, ins, [], [], 1 + (r1 : Int), -1, 1 + (r2 : Int), 0⟩ (.slice Ai ins.length ci) (.slice none 0 0) (.slice none 0 0)).toArray 38))) :=
    Lib.hid ⟨Row.new w2 _ _, HRES2.out.alloc (by have := HS2.out; omega) _, World.ownsRow_nil _ _ _ _, HR2.out.alloc _, grown_alloc HG2.out _, hRlt, by have := HS2.out; omega, by simp⟩
  clear HRES1 HG1 HR1 HS1 HRES2 HG2 HR2
  go_wp2_with fail
  refine (pick_c R (p + 1 + 1) (1 + (r2 : Int)) _ HW2.out.rd (by omega) (by omega) (by omega)).mono ?_
  rintro e w3 ⟨r3, rfl, hr3, hrd3, hu3⟩
  have HW3 := Lib.hid (HW2.out.upd hu3 hrd3)
  obtain ⟨⟨_, _, _, hc8⟩, _, _, _, hf8⟩ := HW3.out.facts
  have HW4 := Lib.hid (HW3.out.put (t' := ⟨j, s, ins, [], [], 1 + (r1 : Int), -1, 1 + (r2 : Int), 1 + (r3 : Int)⟩) 8 (.int .i64 (1 + (r3 : Int))) (by omega) rfl rfl)
  have hr3' : (r3 : Int) < 3 := by rcases hr3 with h | h <;> omega
  clear hrd3 hu3 hr3
  go_upto_if 34 with (first
    | (go_at_call 58; refine (pick_c R (p + 1 + 1 + 1) 3 _ HW4.out.rd (by omega) (by omega) (by omega)).mono ?_; rintro e w5 ⟨r5, rfl, hr5, hrd5, hu5⟩))
  have HW5 := Lib.hid (HW4.out.upd hu5 hrd5)
  obtain ⟨⟨_, _, hc6, _⟩, _, hf6, _, _⟩ := HW5.out.facts
  have HS5 := Lib.hid HW5.out.lt
  clear hrd5 hu5 hf8 hc8
  go_cut [13] (fun s13 wc => ∃ T, s13 = .pointer (some ⟨T, 0, none⟩) ∧ TskInv w R p 5 T j s ins (.slice Ai ins.length ci) 0 wc)
  case first =>
    by_cases h5 : r5 = 0
    · have h5' : ((r5 : Int) == 0) = true := by simp [h5]
      clear h5
      go_wp2_with fail
      refine (pick_c R (p + 1 + 1 + 1 + 1) m _ HW5.out.rd (by omega) (by omega) (by omega)).mono ?_
      rintro e w6 ⟨r6, rfl, hr6, hrd6, hu6⟩
      have HW6 := Lib.hid (HW5.out.upd hu6 hrd6)
      obtain ⟨⟨_, _, hc6, _⟩, _, hf6, _, _⟩ := HW6.out.facts
      clear hrd6 hu6 hr6
      go_wp2
      go_meet
      exact ⟨w2.heap.size, rfl, ⟨j, s, ins, [], [], 1 + (r1 : Int), (r6 : Int), 1 + (r2 : Int), 1 + (r3 : Int)⟩, .slice none 0 0, p + 1 + 1 + 1 + 1 + 1, rfl, rfl, rfl, rfl, rfl, by omega, HW6.out.put 6 (.int .i64 (r6 : Int)) (by omega) rfl rfl⟩
    · have h5' : ((r5 : Int) == 0) = false := by simp [h5]
      clear h5
      go_wp2
      go_meet
      exact ⟨w2.heap.size, rfl, ⟨j, s, ins, [], [], 1 + (r1 : Int), -1, 1 + (r2 : Int), 1 + (r3 : Int)⟩, .slice none 0 0, p + 1 + 1 + 1 + 1, rfl, rfl, rfl, rfl, rfl, by omega, HW5.out⟩
  case rest =>
    clear HW2 HW3 HW4 HW5 hf6 hc6 HS5 HS2
    obtain ⟨T, rfl, hinv⟩ := hcut
    have HINV := Lib.hid hinv
    clear hinv
    go_wp2
    go_loopw [14] (fun i wr => ∃ k : Nat, k ≤ tos.length ∧ i = .int .i64 k ∧ TskInv w R p 5 T j s ins (.slice Ai ins.length ci) k wr) (fun i _ => tos.length - (intOf i).toNat)
    case atStart => exact ⟨0, Nat.zero_le _, rfl, HINV.out⟩
    case round =>
      obtain ⟨k, hk, rfl, t, vo, p', hj, hs, hins, hcl, hol, hp', hW⟩ := hrel
      have HW := Lib.hid hW
      have HOL := Lib.hid hol
      have HH := Lib.hid (And.intro hj (And.intro hs (And.intro hins hcl)))
      have hTl := hW.lt
      have hwl : w.heap.size ≤ wr.heap.size := hW.gr.size
      obtain ⟨⟨hc3, _, _, _⟩, hf3, _, _, _⟩ := hW.facts
      have HC3 := Lib.hid hc3
      have HF3 := Lib.hid hf3
      have HT := Lib.hid hW.hT
      clear hW hol hj hs hins hcl hc3 hf3
      by_cases hlt : k < tos.length
      · have hlt1 : (k : Int) < (tos.length : Int) := by omega
        obtain ⟨rfl, hb1, hb2, x, hx, hcx, hfx⟩ := (hV.grown HW.out.gr (.inr hlo) hhi).int hlt
        clear hfx hx
        have HWF := Lib.hid (HW.out.alloc (.cells #[.int .i64 x, .int .i64 0, .int .i64 0, .int .i64 0] 47))
        by_cases hs1 : s = 1
        · subst hs1
          have HWG := Lib.hid (HWF.out.alloc (.cells #[.int .i64 x, .int .i64 0, .int .i64 0, .int .i64 0] 47))
          obtain ⟨⟨hc3, _, _, _⟩, hf3, _, _, _⟩ := HWF.out.facts
          obtain ⟨⟨hc3g, _, _, _⟩, hf3g, _, _, _⟩ := HWG.out.facts
          obtain ⟨Ao, co, rfl⟩ := own_any HW.out.own
          have hc3w := HC3.out
          have hf3w := HF3.out
          clear HC3 HF3
          go_wp2_with (at_builtin; refine wpList_append_own _ rfl _ _ 36 rfl (T + 1) 47 i0 _ 4 32 Try.underlying36 hi0 hz0 hz1 hz2 rfl (by omega) _ t.out.length (flowCells t.out) rfl HWG.out.own ⟨wr.heap.size + 1, 0, none⟩ 1 1 [.int .i64 x, .int .i64 0, .int .i64 0, .int .i64 0] rfl rfl (by have := four_cells (wr.alloc (.cells #[.int .i64 x, .int .i64 0, .int .i64 0, .int .i64 0] 47)) (.int .i64 x) (.int .i64 0) (.int .i64 0) (.int .i64 0) 47; simpa [World.setCell] using this) (by intro u hu; simp at hu; rcases hu with rfl | rfl | rfl | rfl <;> rfl) (by have := HOL.out; unfold maxLen; omega) (by have := HOL.out; omega) (by simp; omega) ?_; intro v' w3 hown3 hg3 _; obtain ⟨Ao', co', rfl⟩ := own_any hown3; have HM := Lib.hid (HWG.out.more (f := ⟨x, 0, 0, 0⟩) hg3 hown3); have hT3 := hg3.block T (by have := HWG.out.lt; simpa using this) (fun e => by have := (HWG.out.own.lt T e.symm).1; omega); have hf3' : w3.frozen? ⟨T, 3, none⟩ = false := (World.frozen?_of_block (a := ⟨T, 3, none⟩) hT3).trans hf3g; have hc3' := (World.cell?_of_block (a := ⟨T, 3, none⟩) hT3).trans hc3g; clear hown3 hg3 hc3 hf3 hc3g hf3g hT3)
          go_roundw
          case rel => exact ⟨k + 1, by omega, by go_num, { t with out := t.out ++ [⟨x, 0, 0, 0⟩] }, _, p', HH.out.1, HH.out.2.1, HH.out.2.2.1, HH.out.2.2.2, by simp [HOL.out], by omega, HM.out⟩
          case measure => simp [intOf]; omega
        · by_cases hlast : (k : Int) < (tos.length : Int) - 1
          · have HF := Lib.hid (Row.new wr #[.int .i64 x, .int .i64 0, .int .i64 0, .int .i64 0] 47)
            go_wp2_with fail
            refine (pick_c R p' 3 _ HWF.out.rd (by omega) (by omega) (by omega)).mono ?_
            rintro e w4 ⟨r7, rfl, hr7, hrd4, hu4⟩
            have HW4 := Lib.hid (HWF.out.upd hu4 hrd4)
            have HF4 := Lib.hid (HF.out.upd hu4 (.inr (by omega)))
            have HS4 : Hid (wr.heap.size + 1 = w4.heap.size) := Lib.hid (by have := hu4.size; simp at this; omega)
            clear hrd4 hu4 HWF HF
            go_wp2_with fail
            refine (pick_c R (p' + 1) 3 _ HW4.out.rd (by omega) (by omega) (by omega)).mono ?_
            rintro e w5 ⟨r8, rfl, hr8, hrd5, hu5⟩
            have HW5 := Lib.hid (HW4.out.upd hu5 hrd5)
            have HF5 := Lib.hid (HF4.out.upd hu5 (.inr (by omega)))
            have HS5 : Hid (wr.heap.size + 1 = w5.heap.size) := Lib.hid (HS4.out.trans hu5.size.symm)
            clear hrd5 hu5 HW4 HF4 HS4
            go_wp2_with fail
            refine (pick_c R (p' + 1 + 1) 5 _ HW5.out.rd (by omega) (by omega) (by omega)).mono ?_
            rintro e w6 ⟨r9, rfl, hr9, hrd6, hu6⟩
            have HW6 := Lib.hid (HW5.out.upd hu6 hrd6)
            have HF6 := Lib.hid (HF5.out.upd hu6 (.inr (by omega)))
            have hs6 : wr.heap.size + 1 = w6.heap.size := HS5.out.trans hu6.size.symm
            clear hrd6 hu6 HW5 HF5 HS5
            have hv6 : ∀ g, vo.ownBlock = some g → g ≠ wr.heap.size := fun g hg => by have := (HW.out.own.lt g hg).2; omega
            have HT' := HT.out
            have HW7 := Lib.hid (((HW6.out.far (b := wr.heap.size) (by have := HW.out.lt; omega) hv6 1 (.int .i64 (1 + (r7 : Int)))).far (b := wr.heap.size) (by have := HW.out.lt; omega) hv6 2 (.int .i64 (r8 : Int))).far (b := wr.heap.size) (by have := HW.out.lt; omega) hv6 3 (.int .i64 ((r9 : Int) - 1)))
            obtain ⟨⟨q0, q1, q2, q3⟩, j0, j1, j2, j3⟩ := HF6.out.four
            have hTw := HW.out.lt
            have HWG := Lib.hid (HW7.out.alloc (.cells #[.int .i64 x, .int .i64 (1 + (r7 : Int)), .int .i64 (r8 : Int), .int .i64 ((r9 : Int) - 1)] 47))
            obtain ⟨⟨hc3, _, _, _⟩, hf3, _, _, _⟩ := HW7.out.facts
            obtain ⟨⟨hc3g, _, _, _⟩, hf3g, _, _, _⟩ := HWG.out.facts
            obtain ⟨Ao, co, rfl⟩ := own_any HW.out.own
            have hc3w := HC3.out
            have hf3w := HF3.out
            clear HC3 HF3
            go_wp2_with (at_builtin; refine wpList_append_own _ rfl _ _ 36 rfl (T + 1) 47 i0 _ 4 32 Try.underlying36 hi0 hz0 hz1 hz2 rfl (by omega) _ t.out.length (flowCells t.out) rfl HWG.out.own ⟨w6.heap.size, 0, none⟩ 1 1 [.int .i64 x, .int .i64 (1 + (r7 : Int)), .int .i64 (r8 : Int), .int .i64 ((r9 : Int) - 1)] rfl rfl (by have := four_cells (((w6.setCell ⟨wr.heap.size, 1, none⟩ (.int .i64 (1 + (r7 : Int)))).setCell ⟨wr.heap.size, 2, none⟩ (.int .i64 (r8 : Int))).setCell ⟨wr.heap.size, 3, none⟩ (.int .i64 ((r9 : Int) - 1))) (.int .i64 x) (.int .i64 (1 + (r7 : Int))) (.int .i64 (r8 : Int)) (.int .i64 ((r9 : Int) - 1)) 47; simpa [World.setCell] using this) (by intro u hu; simp at hu; rcases hu with rfl | rfl | rfl | rfl <;> rfl) (by have := HOL.out; unfold maxLen; omega) (by have := HOL.out; omega) (by simp; omega) ?_; intro v' w3 hown3 hg3 _; obtain ⟨Ao', co', rfl⟩ := own_any hown3; have HM := Lib.hid (HWG.out.more (f := ⟨x, 1 + (r7 : Int), (r8 : Int), (r9 : Int) - 1⟩) hg3 hown3); have hT3 := hg3.block T (by have := HWG.out.lt; simpa using this) (fun e => by have := (HWG.out.own.lt T e.symm).1; omega); have hf3' : w3.frozen? ⟨T, 3, none⟩ = false := (World.frozen?_of_block (a := ⟨T, 3, none⟩) hT3).trans hf3g; have hc3' := (World.cell?_of_block (a := ⟨T, 3, none⟩) hT3).trans hc3g; clear hown3 hg3 hc3 hf3 hc3g hf3g hT3)
            go_roundw
            case rel => exact ⟨k + 1, by omega, by go_num, { t with out := t.out ++ [⟨x, 1 + (r7 : Int), (r8 : Int), (r9 : Int) - 1⟩] }, _, p' + 1 + 1 + 1, HH.out.1, HH.out.2.1, HH.out.2.2.1, HH.out.2.2.2, by simp [HOL.out], by omega, HM.out⟩
            case measure => simp [intOf]; omega
          · have hlast' : ¬ ((k : Int) < (tos.length : Int) - 1) := hlast
            have HWG := Lib.hid (HWF.out.alloc (.cells #[.int .i64 x, .int .i64 0, .int .i64 0, .int .i64 0] 47))
            obtain ⟨⟨hc3, _, _, _⟩, hf3, _, _, _⟩ := HWF.out.facts
            obtain ⟨⟨hc3g, _, _, _⟩, hf3g, _, _, _⟩ := HWG.out.facts
            obtain ⟨Ao, co, rfl⟩ := own_any HW.out.own
            have hc3w := HC3.out
            have hf3w := HF3.out
            clear HC3 HF3
            go_wp2_with (at_builtin; refine wpList_append_own _ rfl _ _ 36 rfl (T + 1) 47 i0 _ 4 32 Try.underlying36 hi0 hz0 hz1 hz2 rfl (by omega) _ t.out.length (flowCells t.out) rfl HWG.out.own ⟨wr.heap.size + 1, 0, none⟩ 1 1 [.int .i64 x, .int .i64 0, .int .i64 0, .int .i64 0] rfl rfl (by have := four_cells (wr.alloc (.cells #[.int .i64 x, .int .i64 0, .int .i64 0, .int .i64 0] 47)) (.int .i64 x) (.int .i64 0) (.int .i64 0) (.int .i64 0) 47; simpa [World.setCell] using this) (by intro u hu; simp at hu; rcases hu with rfl | rfl | rfl | rfl <;> rfl) (by have := HOL.out; unfold maxLen; omega) (by have := HOL.out; omega) (by simp; omega) ?_; intro v' w3 hown3 hg3 _; obtain ⟨Ao', co', rfl⟩ := own_any hown3; have HM := Lib.hid (HWG.out.more (f := ⟨x, 0, 0, 0⟩) hg3 hown3); have hT3 := hg3.block T (by have := HWG.out.lt; simpa using this) (fun e => by have := (HWG.out.own.lt T e.symm).1; omega); have hf3' : w3.frozen? ⟨T, 3, none⟩ = false := (World.frozen?_of_block (a := ⟨T, 3, none⟩) hT3).trans hf3g; have hc3' := (World.cell?_of_block (a := ⟨T, 3, none⟩) hT3).trans hc3g; clear hown3 hg3 hc3 hf3 hc3g hf3g hT3)
            go_roundw
            case rel => exact ⟨k + 1, by omega, by go_num, { t with out := t.out ++ [⟨x, 0, 0, 0⟩] }, _, p', HH.out.1, HH.out.2.1, HH.out.2.2.1, HH.out.2.2.2, by simp [HOL.out], by omega, HM.out⟩
            case measure => simp [intOf]; omega
      · have hkm : k = tos.length := by omega
        subst hkm
        obtain ⟨Ao, co, rfl⟩ := own_any HW.out.own
        obtain ⟨⟨c0, c1, c2, c3, c4, c5, c6, c7, c8⟩, _⟩ := HW.out.row.nine
        obtain ⟨⟨d0, d1, d2, d3, d4, d5, d6, d7, d8⟩, g0, g1, g2, g3, g4, g5, g6, g7, g8⟩ := HW.out.res.nine
        go_wp2
        have hU := upd_put (lo := w.heap.size) (hi := w.heap.size + 1) (b := w.heap.size) (Nat.le_refl _) (by omega) (t.cells (.slice Ai ins.length ci) (.slice Ao t.out.length co) (.slice none 0 0)) 0 (Upd.refl w.heap.size (w.heap.size + 1) wr)
        have hRlt := HW.out.hR
        have hTT := HW.out.hT
        have hsz := hU.size
        refine bodyPost_ret (v := .agg #[.int .i64 t.join, .int .i64 t.split, .slice Ai ins.length ci, .slice Ao t.out.length co, .slice none 0 0, .int .i64 t.role, .int .i64 t.apart, .int .i64 t.all, .int .i64 t.need]) (by simp [results, Try.results92, go_sem, d0, d1, d2, d3, d4, d5, d6, d7, d8]) rfl ⟨t, Ao, co, rfl, HH.out.2.2.1, HH.out.2.2.2, HOL.out, p', by omega, ?_, ?_, ?_⟩
        · exact ((own_sl HW.out.own).keep fun g h1 h2 => hU.block g (by omega)).more (by omega) (Nat.le_of_eq hsz.symm)
        · exact HW.out.rd.keep (fun g hg => hU.block g (by omega)) (Nat.le_of_eq hsz.symm)
        · exact ⟨hU.os.trans HW.out.gr.os, hU.tape.trans HW.out.gr.tape, hU.output.trans HW.out.gr.output, Nat.le_trans HW.out.gr.size (Nat.le_of_eq hsz.symm), fun g h1 h2 => (hU.block g (by omega)).trans (HW.out.gr.block g h1 h2)⟩
end Go.Proofs.Ytoggdhbnkbdilaa
