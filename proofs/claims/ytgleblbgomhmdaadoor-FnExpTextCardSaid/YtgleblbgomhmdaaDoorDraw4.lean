/- Draws of data, questions and marks: whatever the code, they return, and write the reader's place alone. -/
import Derived.Test.YtgleblbgomhmdaaDoorReader
import Derived.Test.YtgleblbgomhmdaaDoorMore
import Derived.Deep.DeepCutAuto
import Derived.Deep.RegionWith
namespace Go.Proofs.YtgleblbgomhmdaaDoor
open Go.RowKit
set_option linter.unusedVariables false
set_option linter.unusedSimpArgs false

theorem Upd.cell {lo hi : Nat} {w w' : World} (h : Upd lo hi w w') {p : Addr} (hp : ¬ (lo ≤ p.block ∧ p.block < hi)) : w'.cell? p = w.cell? p := World.cell?_of_block (w := w) (h.block p.block hp)
theorem RdV.keep {w w' : World} {R p : Nat} (h : RdV w R p) (hk : ∀ g, g ≤ R → w'.heap[g]? = w.heap[g]?) (hs : w.heap.size ≤ w'.heap.size) : RdV w' R p := by
  obtain ⟨A, b, off, c, bs, h1, h2, h3, h4, h5, h6, h7⟩ := h
  have e := hk R (Nat.le_refl _)
  exact ⟨A, b, off, c, bs, h1, h2, (World.cell?_of_block (a := ⟨R, 0, none⟩) e).trans h3, (World.cell?_of_block (a := ⟨R, 1, none⟩) e).trans h4, (World.frozen?_of_block (a := ⟨R, 1, none⟩) e).trans h5, h6.keep fun g _ hg => hk g (by omega), by omega⟩
theorem RdV.own {w w' : World} {R p base size n : Nat} {e : TypeId} {v : Value} {xs : List Value} (h : RdV w R p) (hg : w.grownBy w' v.ownBlock) (ho : w.ownsRow base e size v n xs) (hR : R < base) : RdV w' R p :=
  h.keep (fun g hg' => hg.block g (by have := h.lt; omega) (fun e => by have := (ho.lt g e.symm).1; omega)) hg.size
theorem own_upd {w w' : World} {R base size n : Nat} {e : TypeId} {v : Value} {xs : List Value} (ho : w.ownsRow base e size v n xs) (hu : Upd R (R + 1) w w') (hR : R < base) : w'.ownsRow base e size v n xs :=
  ho.kept (grown_upd hu) (by
    rcases hv : v.ownBlock with _ | g
    · exact .inl rfl
    · right; intro e; injection e with e; have := (ho.lt g hv).1; omega)
theorem own_below {w w' : World} {base size n : Nat} {e : TypeId} {v : Value} {xs : List Value} (ho : w.ownsRow base e size v n xs) (hb : Below w.heap.size w w') : w'.ownsRow base e size v n xs :=
  ho.kept (row := none) ⟨hb.os, hb.tape, hb.output, hb.size, fun k hk _ => hb.block k hk⟩ (by rcases v.ownBlock with _ | g <;> simp)
theorem grown_own {a w w' : World} {R base size n : Nat} {e : TypeId} {v : Value} {xs : List Value} (h : a.grownBy w (some R)) (hg : w.grownBy w' v.ownBlock) (ho : w.ownsRow base e size v n xs) (hB : a.heap.size ≤ base) : a.grownBy w' (some R) :=
  ⟨hg.os.trans h.os, hg.tape.trans h.tape, hg.output.trans h.output, Nat.le_trans h.size hg.size, fun i hi hne => (hg.block i (Nat.lt_of_lt_of_le hi h.size) (fun e => by have := (ho.lt i e.symm).1; omega)).trans (h.block i hi hne)⟩

/-- A literal of numbers, in a new block: one of them. -/
theorem lit_at (w : World) (zs : List Int) (T : TypeId) (r : Nat) (h : r < zs.length) : ∃ x, zs[r]? = some x ∧ (w.alloc (.cells (ints zs).toArray T)).cell? ⟨w.heap.size, r, none⟩ = some (.int .i64 x) :=
  ⟨zs[r], List.getElem?_eq_getElem h, by rw [World.cell?_alloc_at _ _ _ _ rfl]; simp [List.getElem?_eq_getElem h]⟩
theorem pick_lt {r : Nat} {m : Int} (h : (r : Int) < m ∨ r = 0) (hm : 0 < m) : (r : Int) < m := by rcases h with h | rfl <;> simp_all
/-- One new cell, as an appended element. -/
theorem one_cell (w : World) (u : Value) (T : TypeId) : ∀ (j : Nat) (v : Value), [u][j]? = some v → (w.alloc (.cells #[u] T)).cell? ((⟨w.heap.size, 0, none⟩ : Addr).add j) = some v := by
  intro j v hj
  match j, hj with
  | 0, hj => simp at hj; subst hj; rw [addr_add0, World.cell?_alloc_at _ _ _ _ rfl]; rfl

theorem draw_row {w : World} {base : Nat} {e : TypeId} {v : Value} {zs : List Int} (h : w.ownsRow base e 1 v zs.length (ints zs)) : ∃ A b o c, v = .slice A zs.length c ∧ zs.length ≤ c ∧ Row w base w.heap.size A b o (ints zs) := by
  obtain ⟨A, b, c, rfl, hR⟩ := Made.row (zs := zs) h
  refine ⟨A, b, 0, c, rfl, ?_, hR⟩
  rcases h.2 with ⟨hv, hz⟩ | ⟨g, cap, cur, hv, _, _, hn, _⟩
  · omega
  · injection hv with _ _ hv; omega

end Go.Proofs.YtgleblbgomhmdaaDoor

/- Draws of questions and marks. -/
namespace Go.Proofs.YtgleblbgomhmdaaDoor
open Go.RowKit
set_option linter.unusedVariables false
set_option linter.unusedSimpArgs false

/-- A block that is known whole. -/
def Blk (w : World) (g : Nat) (t : TypeId) (cs : Array Value) : Prop := w.heap[g]? = some (.cells cs t (0, 0))
section
variable {w w' : World} {g : Nat} {t : TypeId} {cs : Array Value}
theorem Blk.lt (h : Blk w g t cs) : g < w.heap.size := by
  unfold Blk at h
  rcases Nat.lt_or_ge g w.heap.size with h' | h'
  · exact h'
  · rw [Array.getElem?_eq_none h'] at h; cases h
theorem Blk.cell (h : Blk w g t cs) (i : Nat) : w.cell? ⟨g, i, none⟩ = cs[i]? := by unfold Blk at h; simp [World.cell?, h]
theorem Blk.free (h : Blk w g t cs) (i : Nat) : w.frozen? ⟨g, i, none⟩ = false := by unfold Blk at h; simp [World.frozen?, h]
theorem Blk.new_ (w : World) (t : TypeId) (cs : Array Value) : Blk (w.alloc (.cells cs t)) w.heap.size t cs := heap_alloc_new w _
theorem Blk.keep (h : Blk w g t cs) (hk : w'.heap[g]? = w.heap[g]?) : Blk w' g t cs := hk.trans h
theorem Blk.upd {R : Nat} (h : Blk w g t cs) (hu : Upd R (R + 1) w w') (hg : g ≠ R) : Blk w' g t cs := h.keep (hu.block g (by omega))
theorem Blk.below {B : Nat} (h : Blk w g t cs) (hb : Below B w w') (hg : g < B) : Blk w' g t cs := h.keep (hb.block g hg)
theorem Blk.grown {R : Nat} (h : Blk w g t cs) (hb : w.grownBy w' (some R)) (hg : g ≠ R) : Blk w' g t cs := h.keep (hb.block g h.lt (by simp; omega))
theorem Blk.alloc (h : Blk w g t cs) (o : Obj) : Blk (w.alloc o) g t cs := h.keep (Below.heap_alloc w o g h.lt)
theorem Blk.set_ (h : Blk w g t cs) (i : Nat) (u : Value) : Blk (w.setCell ⟨g, i, none⟩ u) g t (cs.setIfInBounds i u) := heap_setCell_same w g i cs t u h
theorem Blk.far (h : Blk w g t cs) {p : Addr} (hp : g ≠ p.block) (u : Value) : Blk (w.setCell p u) g t cs := h.keep (Below.heap_setCell w p u g hp)
theorem RdV.setCell {R p : Nat} (h : RdV w R p) {a : Addr} (ha : R < a.block) (u : Value) : RdV (w.setCell a u) R p := h.keep (fun g hg => Below.heap_setCell w a u g (by omega)) (by simp [World.setCell])
theorem grown_setCell {a w : World} {R : Nat} (h : a.grownBy w (some R)) {p : Addr} (hp : a.heap.size ≤ p.block) (u : Value) : a.grownBy (w.setCell p u) (some R) :=
  ⟨h.os, h.tape, h.output, by simpa [World.setCell] using h.size, fun i hi hne => (Below.heap_setCell w p u i (by omega)).trans (h.block i hi hne)⟩
end

/-- What the drawing of a question keeps: its three numbers in a block of their own. -/
def AskInv (w : World) (R p q : Nat) (s5 : Value) (wc : World) : Prop := ∃ (g p' : Nat) (o v k : Int), s5 = .pointer (some ⟨g, 0, none⟩) ∧ w.heap.size < g ∧ Blk wc g 25 #[.int .i64 o, .int .i64 v, .int .i64 k] ∧
  Blk wc w.heap.size 25 #[.int .i64 0, .int .i64 0, .int .i64 0] ∧ p' ≤ p + q ∧ RdV wc R p' ∧ w.grownBy wc (some R)

set_option maxHeartbeats 600000 in
set_option maxRecDepth 20000 in
theorem l20Ask_c (R p : Nat) (m : Int) (w : World) (hR : RdV w R p) (hp : p ≤ 900000) (hm : m ≤ 1000000) (hm0 : -1000000 ≤ m) :
    Calls Tryd.prog 18 #[.pointer (some ⟨R, 0, none⟩), .int .i64 m] w fun e w' => ∃ (o v k : Int) (p' : Nat), e = .returned (.agg #[.int .i64 o, .int .i64 v, .int .i64 k]) ∧ p' ≤ p + 20 ∧ RdV w' R p' ∧ w.grownBy w' (some R) := by
  have hRlt := hR.lt
  go_enter Tryd.func18, Tryd.ntmps18
  go_wp2_with fail
  refine (pick_c R p 3 _ (hR.alloc _) (by omega) (by omega) (by omega)).mono ?_
  rintro e w1 ⟨r1, rfl, hr1, hrd1, hu1⟩
  have hs1 : w.heap.size + 1 = w1.heap.size := by have := hu1.size; simp at this; omega
  have HB1 := Lib.hid (Blk.upd (Blk.new_ w 25 #[.int .i64 0, .int .i64 0, .int .i64 0]) hu1 (by omega))
  have HG1 := Lib.hid (grown_tr (World.grownBy_alloc w _ (some R)) (grown_upd hu1))
  have HR1 := Lib.hid hrd1
  have hr1' : (r1 : Int) < 3 := pick_lt hr1 (by omega)
  have HS1 := Lib.hid hs1
  clear hrd1 hu1 hs1 hr1
  go_wp2_with fail
  refine (pick_c R (p + 1) 3 _ HR1.out (by omega) (by omega) (by omega)).mono ?_
  rintro e w2 ⟨r2, rfl, hr2, hrd2, hu2⟩
  have HB2 := Lib.hid (HB1.out.upd hu2 (by omega))
  have HG2 := Lib.hid (grown_tr HG1.out (grown_upd hu2))
  have HR2 := Lib.hid hrd2
  have hr2' : (r2 : Int) < 3 := pick_lt hr2 (by omega)
  clear hrd2 hu2 hr2
  go_wp2_with fail
  refine (pick_c R (p + 1 + 1) 9 _ HR2.out (by omega) (by omega) (by omega)).mono ?_
  rintro e w3 ⟨r3, rfl, hr3, hrd3, hu3⟩
  have HB3 := Lib.hid (HB2.out.upd hu3 (by omega))
  have HG3 := Lib.hid (grown_tr HG2.out (grown_upd hu3))
  have HR3 := Lib.hid hrd3
  have hsz3 : w.heap.size ≤ w3.heap.size := HG3.out.size
  clear hrd3 hu3 hr3
  go_wp2_with fail
  refine (pick_c R (p + 1 + 1 + 1) 6 _ (HR3.out.alloc _) (by omega) (by omega) (by omega)).mono ?_
  rintro e w4 ⟨r4, rfl, hr4, hrd4, hu4⟩
  have hr4' : (r4 : Int) < 6 := pick_lt hr4 (by omega)
  obtain ⟨x, _, hx⟩ := lit_at w3 [0, 1, 2, 5, -1, (r3 : Int)] 3 r4 (by simp; omega)
  have hc4 : w4.cell? ⟨w3.heap.size, r4, none⟩ = some (.int .i64 x) := (hu4.cell (p := ⟨w3.heap.size, r4, none⟩) (by dsimp only; omega)).trans hx
  have HB4 := Lib.hid ((HB3.out.alloc _).upd hu4 (by omega))
  have HG4 := Lib.hid (grown_tr (grown_alloc HG3.out _) (grown_upd hu4))
  have HR4 := Lib.hid hrd4
  have hsz4 : w.heap.size < w4.heap.size := HB4.out.lt
  clear hrd4 hu4 hr4 hx
  go_upto_if 21 with (first
    | (go_at_call 27; refine (pick_c R (p + 1 + 1 + 1 + 1) 6 _ (HR4.out.alloc _) (by omega) (by omega) (by omega)).mono ?_; rintro e w5 ⟨r5, rfl, hr5, hrd5, hu5⟩))
  have HE5 := Lib.hid (Blk.upd (Blk.new_ w4 25 #[.int .i64 (1 + (r1 : Int)), .int .i64 (r2 : Int), .int .i64 x]) hu5 (by omega))
  have HB5 := Lib.hid ((HB4.out.alloc _).upd hu5 (by omega))
  have HG5 := Lib.hid (grown_tr (grown_alloc HG4.out _) (grown_upd hu5))
  have HR5 := Lib.hid hrd5
  have hsz5 : w4.heap.size < w5.heap.size := HE5.out.lt
  have hE := HE5.out
  clear hrd5 hu5 hr5
  have he0 : w5.cell? ⟨w4.heap.size, 0, none⟩ = some (.int .i64 (1 + (r1 : Int))) := hE.cell 0
  have he1 : w5.cell? ⟨w4.heap.size, 1, none⟩ = some (.int .i64 (r2 : Int)) := hE.cell 1
  have he2 : w5.cell? ⟨w4.heap.size, 2, none⟩ = some (.int .i64 x) := hE.cell 2
  have hf0 := hE.free 0
  have hf1 := hE.free 1
  have hf2 := hE.free 2
  clear hE
  go_cut [5] (fun s5 wc => AskInv w R p 5 s5 wc)
  case first =>
    go_wp2
    · go_meet
      exact ⟨w4.heap.size, p + 1 + 1 + 1 + 1 + 1, 0, 0, 0, rfl, hsz4, ((HE5.out.set_ 0 (.int .i64 0)).set_ 1 (.int .i64 0)).set_ 2 (.int .i64 0), ((HB5.out.far (by dsimp only; omega) _).far (by dsimp only; omega) _).far (by dsimp only; omega) _, by omega,
        ((HR5.out.setCell (by dsimp only; omega) _).setCell (by dsimp only; omega) _).setCell (by dsimp only; omega) _, grown_setCell (grown_setCell (grown_setCell HG5.out (by dsimp only; omega) _) (by dsimp only; omega) _) (by dsimp only; omega) _⟩
    · go_meet
      exact ⟨w4.heap.size, p + 1 + 1 + 1 + 1 + 1, _, _, _, rfl, hsz4, HE5.out, HB5.out, by omega, HR5.out, HG5.out⟩
  case rest =>
    clear he0 he1 he2 hf0 hf1 hf2 hc4 HB5 HG5 HE5 HR5
    obtain ⟨g, p1, o1, v1, k1, rfl, hg, hE, hB, hp1, hrd, hgr⟩ := hcut
    have HE := Lib.hid hE
    have HB := Lib.hid hB
    have HR := Lib.hid hrd
    have HG := Lib.hid hgr
    have hgs := hE.lt
    clear hE hB hrd hgr
    go_upto_if 26 with (first
      | (go_at_call 27; refine (pick_c R p1 m _ HR.out (by omega) (by omega) (by omega)).mono ?_; rintro e w2 ⟨r6, rfl, hr6, hrd2, hu2⟩))
    have HE2 := Lib.hid (HE.out.upd hu2 (by omega))
    have HB2 := Lib.hid (HB.out.upd hu2 (by omega))
    have HG2 := Lib.hid (grown_tr HG.out (grown_upd hu2))
    have HR2 := Lib.hid hrd2
    obtain ⟨p2, hp2⟩ : ∃ p2, p2 = p1 + 1 + 1 := ⟨_, rfl⟩
    clear hrd2 hu2 hr6
    go_cut [5] (fun s5 wc => AskInv w R p 10 s5 wc)
    case first =>
      by_cases h6 : r6 = 0
      · have h6' : ((r6 : Int) == 0) = true := by simp [h6]
        clear h6
        go_wp2_with fail
        refine (pick_c R (p1 + 1) 3 _ HR2.out (by omega) (by omega) (by omega)).mono ?_
        rintro e w3 ⟨r7, rfl, _, hrd3, hu3⟩
        have HE3 := Lib.hid (HE2.out.upd hu3 (by omega))
        have HB3 := Lib.hid (HB2.out.upd hu3 (by omega))
        have HG3 := Lib.hid (grown_tr HG2.out (grown_upd hu3))
        have hrd3' : RdV w3 R p2 := by rw [hp2]; exact hrd3
        have HP2 : p2 ≤ p1 + 2 := by omega
        clear hp2
        have HR3 : Hid (RdV w3 R p2) := hrd3'
        have hgs3 : g < w3.heap.size := HE3.out.lt
        clear hrd3 hu3 hrd3'
        by_cases h7 : r7 = 0
        · have h7' : ((r7 : Int) == 0) = true := by simp [h7]
          clear h7
          go_wp2_with fail
          refine (pick_c R (p2) 3 _ (HR3.out.alloc _) (by omega) (by omega) (by omega)).mono ?_
          rintro e w4 ⟨r4, rfl, hr4, hrd4, hu4⟩
          have hr4' : (r4 : Int) < 3 := pick_lt hr4 (by omega)
          obtain ⟨x4, _, hx4⟩ := lit_at w3 [0, 4, -1] 3 r4 (by simp; omega)
          have hc4 : w4.cell? ⟨w3.heap.size, r4, none⟩ = some (.int .i64 x4) := (hu4.cell (p := ⟨w3.heap.size, r4, none⟩) (by dsimp only; omega)).trans hx4
          have hE := (HE3.out.alloc _).upd hu4 (by omega)
          have HE4 := Lib.hid hE
          have HB4 := Lib.hid ((HB3.out.alloc _).upd hu4 (by omega))
          have HG4 := Lib.hid (grown_tr (grown_alloc HG3.out _) (grown_upd hu4))
          have HR4 := Lib.hid hrd4
          clear hrd4 hu4 hr4 hx4
          have he0 : w4.cell? ⟨g, 0, none⟩ = some (.int .i64 o1) := hE.cell 0
          have hf0 := hE.free 0
          clear hE
          go_wp2
          go_meet
          exact ⟨g, p2 + 1, x4, v1, k1, rfl, hg, HE4.out.set_ 0 _, HB4.out.far (by dsimp only; omega) _, by omega, HR4.out.setCell (by dsimp only; omega) _, grown_setCell HG4.out (by dsimp only; omega) _⟩
        · have h7' : ((r7 : Int) == 0) = false := by simp [h7]
          by_cases h8 : r7 = 1
          · have h8' : ((r7 : Int) == 1) = true := by simp [h8]
            clear h7 h8
            go_wp2_with fail
            refine (pick_c R (p2) 3 _ (HR3.out.alloc _) (by omega) (by omega) (by omega)).mono ?_
            rintro e w4 ⟨r4, rfl, hr4, hrd4, hu4⟩
            have hr4' : (r4 : Int) < 3 := pick_lt hr4 (by omega)
            obtain ⟨x4, _, hx4⟩ := lit_at w3 [3, -1, 1] 3 r4 (by simp; omega)
            have hc4 : w4.cell? ⟨w3.heap.size, r4, none⟩ = some (.int .i64 x4) := (hu4.cell (p := ⟨w3.heap.size, r4, none⟩) (by dsimp only; omega)).trans hx4
            have hE := (HE3.out.alloc _).upd hu4 (by omega)
            have HE4 := Lib.hid hE
            have HB4 := Lib.hid ((HB3.out.alloc _).upd hu4 (by omega))
            have HG4 := Lib.hid (grown_tr (grown_alloc HG3.out _) (grown_upd hu4))
            have HR4 := Lib.hid hrd4
            clear hrd4 hu4 hr4 hx4
            have he0 : w4.cell? ⟨g, 1, none⟩ = some (.int .i64 v1) := hE.cell 1
            have hf0 := hE.free 1
            clear hE
            go_wp2
            go_meet
            exact ⟨g, p2 + 1, o1, x4, k1, rfl, hg, HE4.out.set_ 1 _, HB4.out.far (by dsimp only; omega) _, by omega, HR4.out.setCell (by dsimp only; omega) _, grown_setCell HG4.out (by dsimp only; omega) _⟩
          · have h8' : ((r7 : Int) == 1) = false := by simp; omega
            clear h7 h8
            go_wp2_with fail
            refine (pick_c R (p2) 3 _ (HR3.out.alloc _) (by omega) (by omega) (by omega)).mono ?_
            rintro e w4 ⟨r4, rfl, hr4, hrd4, hu4⟩
            have hr4' : (r4 : Int) < 3 := pick_lt hr4 (by omega)
            obtain ⟨x4, _, hx4⟩ := lit_at w3 [99, 100, -99] 3 r4 (by simp; omega)
            have hc4 : w4.cell? ⟨w3.heap.size, r4, none⟩ = some (.int .i64 x4) := (hu4.cell (p := ⟨w3.heap.size, r4, none⟩) (by dsimp only; omega)).trans hx4
            have hE := (HE3.out.alloc _).upd hu4 (by omega)
            have HE4 := Lib.hid hE
            have HB4 := Lib.hid ((HB3.out.alloc _).upd hu4 (by omega))
            have HG4 := Lib.hid (grown_tr (grown_alloc HG3.out _) (grown_upd hu4))
            have HR4 := Lib.hid hrd4
            clear hrd4 hu4 hr4 hx4
            have he0 : w4.cell? ⟨g, 2, none⟩ = some (.int .i64 k1) := hE.cell 2
            have hf0 := hE.free 2
            clear hE
            go_wp2
            go_meet
            exact ⟨g, p2 + 1, o1, v1, x4, rfl, hg, HE4.out.set_ 2 _, HB4.out.far (by dsimp only; omega) _, by omega, HR4.out.setCell (by dsimp only; omega) _, grown_setCell HG4.out (by dsimp only; omega) _⟩
      · have h6' : ((r6 : Int) == 0) = false := by simp [h6]
        clear h6
        go_wp2
        go_meet
        exact ⟨g, p1 + 1, o1, v1, k1, rfl, hg, HE2.out, HB2.out, by omega, HR2.out, HG2.out⟩
    case rest =>
      obtain ⟨g, p1, o1, v1, k1, rfl, hg, hE, hB, hp1, hrd, hgr⟩ := hcut
      have HR3 := Lib.hid hrd
      have HG3 := Lib.hid hgr
      have he0 : wc.cell? ⟨g, 0, none⟩ = some (.int .i64 o1) := hE.cell 0
      have he1 : wc.cell? ⟨g, 1, none⟩ = some (.int .i64 v1) := hE.cell 1
      have he2 : wc.cell? ⟨g, 2, none⟩ = some (.int .i64 k1) := hE.cell 2
      have hb0 : wc.cell? ⟨w.heap.size, 0, none⟩ = some (.int .i64 0) := hB.cell 0
      have hb1 : wc.cell? ⟨w.heap.size, 1, none⟩ = some (.int .i64 0) := hB.cell 1
      have hb2 : wc.cell? ⟨w.heap.size, 2, none⟩ = some (.int .i64 0) := hB.cell 2
      have hg0 := hB.free 0
      have hg1 := hB.free 1
      have hg2 := hB.free 2
      clear hE hB hrd hgr
      go_wp2
      refine bodyPost_ret (v := .agg #[.int .i64 o1, .int .i64 v1, .int .i64 k1]) (by simp [results, Tryd.results18, go_sem, hb0, hb1, hb2]) rfl ⟨_, _, _, p1, rfl, by omega, ?_, ?_⟩
      · repeat (first | exact HR3.out | refine RdV.setCell ?_ (by dsimp only; omega) _)
      · repeat (first | exact HG3.out | refine grown_setCell ?_ (by dsimp only; omega) _)
end Go.Proofs.YtgleblbgomhmdaaDoor

/- Draws of marks. -/
namespace Go.Proofs.YtgleblbgomhmdaaDoor
open Go.RowKit
set_option linter.unusedVariables false
set_option linter.unusedSimpArgs false

def MarksInv (w : World) (R p q P d : Nat) (v : Value) (wc : World) : Prop := ∃ (zs : List Int) (p' : Nat), wc.ownsRow w.heap.size 3 1 v zs.length (ints zs) ∧ P ≤ zs.length ∧ zs.length ≤ P + d ∧ (∀ x ∈ zs, -1 ≤ x ∧ x ≤ 5) ∧ p' ≤ p + q ∧ RdV wc R p' ∧ w.grownBy wc (some R)
theorem mem_set_bound {zs : List Int} {k : Nat} {y : Int} (h : ∀ x ∈ zs, -1 ≤ x ∧ x ≤ 5) (hy : -1 ≤ y ∧ y ≤ 5) : ∀ x ∈ zs.set k y, -1 ≤ x ∧ x ≤ 5 := by
  intro x hx
  rcases List.mem_or_eq_of_mem_set hx with h1 | rfl
  · exact h x h1
  · exact hy
theorem own_form {w : World} {base n : Nat} {e : TypeId} {v : Value} {xs : List Value} (h : w.ownsRow base e 1 v n xs) (hn : 0 < n) : ∃ g c, v = .slice (some ⟨g, 0, none⟩) n c ∧ base ≤ g ∧ g < w.heap.size ∧ n ≤ c := by
  rcases h.2 with ⟨_, h0⟩ | ⟨g, cap, cur, rfl, hg, hh, hc, _⟩
  · omega
  · exact ⟨g, cap, rfl, hg, (h.lt g rfl).2, hc⟩

end Go.Proofs.YtgleblbgomhmdaaDoor

/- What is drawn of a code: data, marks, questions. -/
namespace Go.Proofs.YtgleblbgomhmdaaDoor
open Go.RowKit
set_option linter.unusedVariables false
set_option linter.unusedSimpArgs false

/-- A slice of numbers that a call has made, given by its value. -/
def NumsV (w : World) (lo : Nat) (v : Value) (zs : List Int) : Prop := ∃ A b o c, v = .slice A zs.length c ∧ zs.length ≤ c ∧ Row w lo w.heap.size A b o (ints zs)
theorem NumsV.below {w w' : World} {lo : Nat} {v : Value} {zs : List Int} (h : NumsV w lo v zs) (hb : Below w.heap.size w w') : NumsV w' lo v zs := by
  obtain ⟨A, b, o, c, h1, h2, h3⟩ := h
  exact ⟨A, b, o, c, h1, h2, (h3.below hb (Nat.le_refl _)).more (Nat.le_refl _) hb.size⟩
theorem NumsV.grown {w w' : World} {lo R : Nat} {v : Value} {zs : List Int} (h : NumsV w lo v zs) (hg : w.grownBy w' (some R)) (hR : R < lo) : NumsV w' lo v zs := by
  obtain ⟨A, b, o, c, h1, h2, h3⟩ := h
  exact ⟨A, b, o, c, h1, h2, (h3.grown hg (.inr hR) (Nat.le_refl _)).more (Nat.le_refl _) hg.size⟩
theorem NumsV.lo {w : World} {lo lo' : Nat} {v : Value} {zs : List Int} (h : NumsV w lo v zs) (hl : lo' ≤ lo) : NumsV w lo' v zs := by
  obtain ⟨A, b, o, c, h1, h2, h3⟩ := h
  exact ⟨A, b, o, c, h1, h2, h3.more hl (Nat.le_refl _)⟩

theorem row_lit (w : World) (zs : List Int) (T : TypeId) : Row (w.alloc (.cells (ints zs).toArray T)) w.heap.size (w.heap.size + 1) (some ⟨w.heap.size, 0, none⟩) w.heap.size 0 (ints zs) :=
  ⟨fun _ => ⟨rfl, Nat.le_refl _, Nat.lt_succ_self _⟩, fun j u hu => ⟨by rw [World.cell?_alloc_at _ _ _ _ rfl]; simpa using hu, World.frozen?_alloc_at _ _ _ _ rfl⟩⟩





end Go.Proofs.YtgleblbgomhmdaaDoor
