/- Draws of data, questions and marks: whatever the code, they return, and write the reader's place alone. -/
import Derived.Test.YtkcbghaadjhceaaReader
import Derived.Test.YtkcbghaadjhceaaMore
import Derived.Deep.DeepCutAuto
import Derived.Deep.RegionWith
namespace Go.Proofs.Ytkcbghaadjhceaa
open Go.RowKit
set_option linter.unusedVariables false
set_option linter.unusedSimpArgs false

theorem Upd.cell {lo hi : Nat} {w w' : World} (h : Upd lo hi w w') {p : Addr} (hp : ¬ (lo ≤ p.block ∧ p.block < hi)) : w'.cell? p = w.cell? p := World.cell?_of_block (w := w) (h.block p.block hp)
theorem RdV.keep {w w' : World} {R p : Nat} (h : RdV w R p) (hk : ∀ g, g ≤ R → w'.heap[g]? = w.heap[g]?) (hs : w.heap.size ≤ w'.heap.size) : RdV w' R p := by
  obtain ⟨A, b, off, c, bs, h1, h2, h3, h4, h5, h6, h7⟩ := h
  have e := hk R (Nat.le_refl _)
  exact ⟨A, b, off, c, bs, h1, h2, (World.cell?_of_block (a := ⟨R, 0, none⟩) e).trans h3, (World.cell?_of_block (a := ⟨R, 1, none⟩) e).trans h4, (World.frozen?_of_block (a := ⟨R, 1, none⟩) e).trans h5, h6.keep fun g _ hg => hk g (by omega), by omega⟩
theorem RdV.own {w w' : World} {R p base size n : Nat} {e : TypeId} {v : Value} {xs : List Value} (h : RdV w R p) (hg : w.grownBy w' v.ownBlock) (ho : w.ownsRow base e size v n xs) (hR : R < base) : RdV w' R p :=
  h.keep (fun g hg' => hg.block g (by have := h.lt; omega) (fun e => by have := (ho.lt g e.symm).1; omega)) hg.size
theorem own_upd {w w' : World} {R base size n : Nat} {e : TypeId} {v : Value} {xs : List Value} (ho : w.ownsRow base e size v n xs) (hu : Upd R (R + 1) w w') (hR : R < base) : w'.ownsRow base e size v n xs :=
  ho.kept (grown_upd hu) (by
    rcases hv : v.ownBlock with _ | g
    · exact .inl rfl
    · right; intro e; injection e with e; have := (ho.lt g hv).1; omega)
theorem own_below {w w' : World} {base size n : Nat} {e : TypeId} {v : Value} {xs : List Value} (ho : w.ownsRow base e size v n xs) (hb : Below w.heap.size w w') : w'.ownsRow base e size v n xs :=
  ho.kept (row := none) ⟨hb.os, hb.tape, hb.output, hb.size, fun k hk _ => hb.block k hk⟩ (by rcases v.ownBlock with _ | g <;> simp)
theorem grown_own {a w w' : World} {R base size n : Nat} {e : TypeId} {v : Value} {xs : List Value} (h : a.grownBy w (some R)) (hg : w.grownBy w' v.ownBlock) (ho : w.ownsRow base e size v n xs) (hB : a.heap.size ≤ base) : a.grownBy w' (some R) :=
  ⟨hg.os.trans h.os, hg.tape.trans h.tape, hg.output.trans h.output, Nat.le_trans h.size hg.size, fun i hi hne => (hg.block i (Nat.lt_of_lt_of_le hi h.size) (fun e => by have := (ho.lt i e.symm).1; omega)).trans (h.block i hi hne)⟩

/-- A literal of numbers, in a new block: one of them. -/
theorem lit_at (w : World) (zs : List Int) (T : TypeId) (r : Nat) (h : r < zs.length) : ∃ x, zs[r]? = some x ∧ (w.alloc (.cells (ints zs).toArray T)).cell? ⟨w.heap.size, r, none⟩ = some (.int .i64 x) :=
  ⟨zs[r], List.getElem?_eq_getElem h, by rw [World.cell?_alloc_at _ _ _ _ rfl]; simp [List.getElem?_eq_getElem h]⟩
theorem pick_lt {r : Nat} {m : Int} (h : (r : Int) < m ∨ r = 0) (hm : 0 < m) : (r : Int) < m := by rcases h with h | rfl <;> simp_all
/-- One new cell, as an appended element. -/
theorem one_cell (w : World) (u : Value) (T : TypeId) : ∀ (j : Nat) (v : Value), [u][j]? = some v → (w.alloc (.cells #[u] T)).cell? ((⟨w.heap.size, 0, none⟩ : Addr).add j) = some v := by
  intro j v hj
  match j, hj with
  | 0, hj => simp at hj; subst hj; rw [addr_add0, World.cell?_alloc_at _ _ _ _ rfl]; rfl

theorem draw_row {w : World} {base : Nat} {e : TypeId} {v : Value} {zs : List Int} (h : w.ownsRow base e 1 v zs.length (ints zs)) : ∃ A b o c, v = .slice A zs.length c ∧ zs.length ≤ c ∧ Row w base w.heap.size A b o (ints zs) := by
  obtain ⟨A, b, c, rfl, hR⟩ := Made.row (zs := zs) h
  refine ⟨A, b, 0, c, rfl, ?_, hR⟩
  rcases h.2 with ⟨hv, hz⟩ | ⟨g, cap, cur, hv, _, _, hn, _⟩
  · omega
  · injection hv with _ _ hv; omega

set_option maxRecDepth 20000 in
theorem l20Data_c (R p : Nat) (m : Int) (w : World) (hR : RdV w R p) (hp : p ≤ 900000) (hm : m ≤ 1000000) (hm0 : -1000000 ≤ m) :
    Calls Try.prog 44 #[.pointer (some ⟨R, 0, none⟩), .int .i64 m] w fun e w' => ∃ (v : Value) (zs : List Int) (p' : Nat), e = .returned v ∧ zs.length ≤ 4 ∧ p' ≤ p + 20 ∧ (∃ A b o c, v = .slice A zs.length c ∧ zs.length ≤ c ∧ Row w' w.heap.size w'.heap.size A b o (ints zs)) ∧ RdV w' R p' ∧ w.grownBy w' (some R) := by
  obtain ⟨i0, hi0, hz0, hz1, hz2⟩ := info_parts Try.info3
  have hRlt := hR.lt
  go_enter Try.func44, Try.ntmps44
  go_wp2
  go_loopw [5, 6] (fun v i wr => ∃ (k p' : Nat) (zs : List Int), k ≤ 3 ∧ i = .int .i64 k ∧ zs.length = k ∧ p' ≤ p + 2 * k ∧ wr.ownsRow w.heap.size 3 1 v zs.length (ints zs) ∧ RdV wr R p' ∧ w.grownBy wr (some R)) (fun _ i _ => 3 - (intOf i).toNat)
  case atStart => exact ⟨0, p, [], by omega, rfl, rfl, by omega, own_lit0 w 3, hR.alloc _, World.grownBy_alloc _ _ _⟩
  case round =>
    obtain ⟨k, p', zs, hk, rfl, hzl, hp', hown, hrd, hgr⟩ := hrel
    have HO := Lib.hid hown
    have HRD := Lib.hid hrd
    have HG := Lib.hid hgr
    have hsz := hgr.size
    have HZL := Lib.hid hzl
    clear hown hrd hgr hzl
    by_cases hlt : k < 3
    · go_wp2_with fail
      refine (pick_c R p' 9 wr HRD.out (by omega) (by omega) (by omega)).mono ?_
      rintro e w1 ⟨r1, rfl, hr1, hrd1, hu1⟩
      have HR1 := Lib.hid hrd1
      have HU1 := Lib.hid hu1
      have hs1 := hu1.size
      have HS1 := Lib.hid hs1
      clear hrd1 hu1 hs1
      go_wp2_with fail
      refine (pick_c R (p' + 1) 7 _ (HR1.out.alloc _) (by omega) (by omega) (by omega)).mono ?_
      rintro e w2 ⟨r2, rfl, hr2, hrd2, hu2⟩
      have hr2' := pick_lt hr2 (by omega)
      obtain ⟨x, _, hx⟩ := lit_at w1 [0, 1, -1, 5, 99, -99, (r1 : Int)] 3 r2 (by simp; omega)
      have hc2 : w2.cell? ⟨w1.heap.size, r2, none⟩ = some (.int .i64 x) := (hu2.cell (p := ⟨w1.heap.size, r2, none⟩) (by dsimp only; have := HS1.out; omega)).trans hx
      have HO2 := Lib.hid (own_upd ((own_upd HO.out HU1.out hRlt).alloc _) hu2 hRlt)
      have HG2 := Lib.hid (grown_tr (grown_alloc (grown_tr HG.out (grown_upd HU1.out)) _) (grown_upd hu2))
      have HR2 := Lib.hid hrd2
      have hsz2 : w.heap.size ≤ w2.heap.size := HG2.out.size
      clear hrd2 hu2 hx hr2 hr1
      go_wp2_with (at_builtin; refine wpList_append_own _ rfl _ _ 26 rfl w.heap.size 3 i0 _ 1 8 Try.underlying26 hi0 hz0 hz1 hz2 rfl (by omega) _ zs.length (ints zs) rfl (HO2.out.alloc _) ⟨w2.heap.size, 0, none⟩ 1 1 [.int .i64 x] rfl rfl (one_cell _ _ _) (by intro u hu; simp at hu; subst hu; rfl) (by have := HZL.out; unfold maxLen; omega) (by have := HZL.out; omega) (by simp; omega) ?_; intro v' w3 hown3 hg3 _)
      have HO3 := Lib.hid hown3
      have HG3 := Lib.hid (grown_own (grown_alloc HG2.out _) hg3 (HO2.out.alloc _) (Nat.le_refl _))
      have HR3 := Lib.hid ((HR2.out.alloc _).own hg3 (HO2.out.alloc _) hRlt)
      clear hown3 hg3
      go_wp2
      go_roundw
      case rel => exact ⟨k + 1, p' + 1 + 1, zs ++ [x], by omega, by go_num, by simp [HZL.out], by omega, by have := HO3.out; simpa using this, HR3.out, HG3.out⟩
      case measure => simp [intOf]; omega
    · have hk3 : k = 3 := by omega
      have HK3 := Lib.hid hk3
      clear hk3
      go_wp2_with fail
      refine (pick_c R p' m wr HRD.out (by omega) (by omega) (by omega)).mono ?_
      rintro e w1 ⟨r1, rfl, _, hrd1, hu1⟩
      have HO1 := Lib.hid (own_upd HO.out hu1 hRlt)
      have HG1 := Lib.hid (grown_tr HG.out (grown_upd hu1))
      have HR1 := Lib.hid hrd1
      have hsz1 : w.heap.size ≤ w1.heap.size := HG1.out.size
      clear hrd1 hu1
      by_cases h1 : r1 = 0
      · have h1' : ((r1 : Int) == 0) = true := by simp [h1]
        clear h1
        go_wp2_with fail
        refine (pick_c R (p' + 1) 3 w1 HR1.out (by omega) (by omega) (by omega)).mono ?_
        rintro e w2 ⟨r2, rfl, _, hrd2, hu2⟩
        have HO2 := Lib.hid (own_upd HO1.out hu2 hRlt)
        have HG2 := Lib.hid (grown_tr HG1.out (grown_upd hu2))
        have HR2 := Lib.hid hrd2
        have hsz2 : w.heap.size ≤ w2.heap.size := HG2.out.size
        clear hrd2 hu2
        by_cases h2 : r2 = 0
        · have h2' : ((r2 : Int) == 0) = true := by simp [h2]
          clear h2
          go_wp2_with fail
          refine (pick_c R (p' + 1 + 1) 3 w2 HR2.out (by omega) (by omega) (by omega)).mono ?_
          rintro e w3 ⟨r3, rfl, hr3, hrd3, hu3⟩
          have HO3 := Lib.hid (own_upd HO2.out hu3 hRlt)
          have HG3 := Lib.hid (grown_tr HG2.out (grown_upd hu3))
          have HR3 := Lib.hid hrd3
          have hsz3 : w.heap.size ≤ w3.heap.size := HG3.out.size
          have hr3' := pick_lt hr3 (by omega)
          clear hrd3 hu3 hr3
          go_wp2_with fail
          refine (pick_c R (p' + 1 + 1 + 1) 4 _ (HR3.out.alloc _) (by omega) (by omega) (by omega)).mono ?_
          rintro e w4 ⟨r4, rfl, hr4, hrd4, hu4⟩
          have hr4' := pick_lt hr4 (by omega)
          obtain ⟨x, _, hx⟩ := lit_at w3 [100, -100, 9223372036854775807, -9223372036854775808] 3 r4 (by simp; omega)
          have hc4 : w4.cell? ⟨w3.heap.size, r4, none⟩ = some (.int .i64 x) := (hu4.cell (p := ⟨w3.heap.size, r4, none⟩) (by dsimp only; omega)).trans hx
          have HO4 := Lib.hid (own_upd (HO3.out.alloc _) hu4 hRlt)
          have HG4 := Lib.hid (grown_tr (grown_alloc HG3.out _) (grown_upd hu4))
          have HR4 := Lib.hid hrd4
          have hsz4 : w.heap.size ≤ w4.heap.size := HG4.out.size
          clear hrd4 hu4 hx hr4
          obtain ⟨g, cc, rfl⟩ : ∃ g c, u5 = .slice (some ⟨g, 0, none⟩) zs.length c := by
            obtain ⟨g, c, hv, _⟩ := Made.len (zs := zs) (v := u5) HO4.out (by have := HZL.out; have := HK3.out; omega)
            exact ⟨g, c, hv⟩
          have hgB : w.heap.size ≤ g := (HO4.out.lt g rfl).1
          have hz3 : (r3 : Int) < (zs.length : Int) := by have := HZL.out; have := HK3.out; omega
          obtain ⟨y, hy⟩ : ∃ y, zs[r3]? = some y := ⟨_, List.getElem?_eq_getElem (by omega)⟩
          have hcy : w4.cell? ⟨g, r3, none⟩ = some (.int .i64 y) := by rw [HO4.out.cellAt r3 (by omega)]; exact ints_at hy
          have hfy := HO4.out.frozenAt r3
          have HS := Lib.hid (HO4.out.stored r3 (.int .i64 x))
          clear hy
          go_wp2
          go_ret
          refine ⟨_, zs.set r3 x, p' + 1 + 1 + 1 + 1, rfl, by have := HZL.out; simp; omega, by omega, ?_, RdV.own (v := .slice (some ⟨g, 0, none⟩) zs.length cc) HR4.out HS.out.2 HO4.out hRlt, grown_own (v := .slice (some ⟨g, 0, none⟩) zs.length cc) HG4.out HS.out.2 HO4.out (Nat.le_refl _)⟩
          have h := HS.out.1
          refine draw_row (by simpa [ints, List.map_set] using h)
        · have h2' : ((r2 : Int) == 0) = false := by simp [h2]
          clear h2
          by_cases h3 : r2 = 1
          · have h3' : ((r2 : Int) == 1) = true := by simp [h3]
            clear h3
            obtain ⟨g, cc, rfl⟩ : ∃ g c, u5 = .slice (some ⟨g, 0, none⟩) zs.length c := by
              obtain ⟨g, c, hv, _⟩ := Made.len (zs := zs) (v := u5) HO2.out (by have := HZL.out; have := HK3.out; omega)
              exact ⟨g, c, hv⟩
            have hz3 : (1 : Int) < (zs.length : Int) := by have := HZL.out; have := HK3.out; omega
            have hcc : zs.length ≤ cc := by
              rcases HO2.out.2 with ⟨hv, _⟩ | ⟨g', cap, cur, hv, _, _, hn, _⟩
              · cases hv
              · injection hv with _ _ hv; omega
            have hcc' : (zs.length : Int) ≤ (cc : Int) := by omega
            go_wp2
            go_ret
            have hlo := HO2.out.lt g rfl
            refine ⟨.slice (some ⟨g, 1, none⟩) (zs.length - 1) (cc - 1), zs.tail, p' + 1 + 1, rfl, by have := HZL.out; simp; omega, by omega, ⟨some ⟨g, 1, none⟩, g, 1, cc - 1, by simp, by simp; omega, fun _ => ⟨rfl, hlo.1, hlo.2⟩, fun j u hu => ⟨?_, HO2.out.frozenAt _⟩⟩, HR2.out, HG2.out⟩
            have hj := lt_of_some hu
            simp at hj
            rw [HO2.out.cellAt (1 + j) (by omega), ← hu]
            simp [ints, List.map_tail, List.getElem?_tail, Nat.add_comm]
          · have h3' : ((r2 : Int) == 1) = false := by simp; omega
            clear h3
            go_wp2_with (at_builtin; refine wpList_append_own _ rfl _ _ 26 rfl w.heap.size 3 i0 _ 1 8 Try.underlying26 hi0 hz0 hz1 hz2 rfl (by omega) _ zs.length (ints zs) rfl (HO2.out.alloc _) ⟨w2.heap.size, 0, none⟩ 1 1 [.int .i64 0] rfl rfl (one_cell _ _ _) (by intro u hu; simp at hu; subst hu; rfl) (by have := HZL.out; unfold maxLen; omega) (by have := HZL.out; omega) (by simp; omega) ?_; intro v' w3 hown3 hg3 _)
            have HO3 := Lib.hid hown3
            have HG3 := Lib.hid (grown_own (grown_alloc HG2.out _) hg3 (HO2.out.alloc _) (Nat.le_refl _))
            have HR3 := Lib.hid ((HR2.out.alloc _).own hg3 (HO2.out.alloc _) hRlt)
            clear hown3 hg3
            go_wp2
            go_ret
            exact ⟨_, zs ++ [0], p' + 1 + 1, rfl, by have := HZL.out; simp; omega, by omega, draw_row (by have := HO3.out; simpa using this), HR3.out, HG3.out⟩
      · have h1' : ((r1 : Int) == 0) = false := by simp [h1]
        clear h1
        go_wp2
        go_ret
        exact ⟨_, zs, p' + 1, rfl, by have := HZL.out; omega, by omega, draw_row HO1.out, HR1.out, HG1.out⟩
end Go.Proofs.Ytkcbghaadjhceaa

/- Draws of questions and marks. -/
namespace Go.Proofs.Ytkcbghaadjhceaa
open Go.RowKit
set_option linter.unusedVariables false
set_option linter.unusedSimpArgs false

/-- A block that is known whole. -/
def Blk (w : World) (g : Nat) (t : TypeId) (cs : Array Value) : Prop := w.heap[g]? = some (.cells cs t (0, 0))
section
variable {w w' : World} {g : Nat} {t : TypeId} {cs : Array Value}
theorem Blk.lt (h : Blk w g t cs) : g < w.heap.size := by
  unfold Blk at h
  rcases Nat.lt_or_ge g w.heap.size with h' | h'
  · exact h'
  · rw [Array.getElem?_eq_none h'] at h; cases h
theorem Blk.cell (h : Blk w g t cs) (i : Nat) : w.cell? ⟨g, i, none⟩ = cs[i]? := by unfold Blk at h; simp [World.cell?, h]
theorem Blk.free (h : Blk w g t cs) (i : Nat) : w.frozen? ⟨g, i, none⟩ = false := by unfold Blk at h; simp [World.frozen?, h]
theorem Blk.new_ (w : World) (t : TypeId) (cs : Array Value) : Blk (w.alloc (.cells cs t)) w.heap.size t cs := heap_alloc_new w _
theorem Blk.keep (h : Blk w g t cs) (hk : w'.heap[g]? = w.heap[g]?) : Blk w' g t cs := hk.trans h
theorem Blk.upd {R : Nat} (h : Blk w g t cs) (hu : Upd R (R + 1) w w') (hg : g ≠ R) : Blk w' g t cs := h.keep (hu.block g (by omega))
theorem Blk.below {B : Nat} (h : Blk w g t cs) (hb : Below B w w') (hg : g < B) : Blk w' g t cs := h.keep (hb.block g hg)
theorem Blk.grown {R : Nat} (h : Blk w g t cs) (hb : w.grownBy w' (some R)) (hg : g ≠ R) : Blk w' g t cs := h.keep (hb.block g h.lt (by simp; omega))
theorem Blk.alloc (h : Blk w g t cs) (o : Obj) : Blk (w.alloc o) g t cs := h.keep (Below.heap_alloc w o g h.lt)
theorem Blk.set_ (h : Blk w g t cs) (i : Nat) (u : Value) : Blk (w.setCell ⟨g, i, none⟩ u) g t (cs.setIfInBounds i u) := heap_setCell_same w g i cs t u h
theorem Blk.far (h : Blk w g t cs) {p : Addr} (hp : g ≠ p.block) (u : Value) : Blk (w.setCell p u) g t cs := h.keep (Below.heap_setCell w p u g hp)
theorem RdV.setCell {R p : Nat} (h : RdV w R p) {a : Addr} (ha : R < a.block) (u : Value) : RdV (w.setCell a u) R p := h.keep (fun g hg => Below.heap_setCell w a u g (by omega)) (by simp [World.setCell])
theorem grown_setCell {a w : World} {R : Nat} (h : a.grownBy w (some R)) {p : Addr} (hp : a.heap.size ≤ p.block) (u : Value) : a.grownBy (w.setCell p u) (some R) :=
  ⟨h.os, h.tape, h.output, by simpa [World.setCell] using h.size, fun i hi hne => (Below.heap_setCell w p u i (by omega)).trans (h.block i hi hne)⟩
end

/-- What the drawing of a question keeps: its three numbers in a block of their own. -/
def AskInv (w : World) (R p q : Nat) (s5 : Value) (wc : World) : Prop := ∃ (g p' : Nat) (o v k : Int), s5 = .pointer (some ⟨g, 0, none⟩) ∧ w.heap.size < g ∧ Blk wc g 54 #[.int .i64 o, .int .i64 v, .int .i64 k] ∧
  Blk wc w.heap.size 54 #[.int .i64 0, .int .i64 0, .int .i64 0] ∧ p' ≤ p + q ∧ RdV wc R p' ∧ w.grownBy wc (some R)

set_option maxHeartbeats 600000 in
set_option maxRecDepth 20000 in
theorem l20Ask_c (R p : Nat) (m : Int) (w : World) (hR : RdV w R p) (hp : p ≤ 900000) (hm : m ≤ 1000000) (hm0 : -1000000 ≤ m) :
    Calls Try.prog 64 #[.pointer (some ⟨R, 0, none⟩), .int .i64 m] w fun e w' => ∃ (o v k : Int) (p' : Nat), e = .returned (.agg #[.int .i64 o, .int .i64 v, .int .i64 k]) ∧ p' ≤ p + 20 ∧ RdV w' R p' ∧ w.grownBy w' (some R) := by
  have hRlt := hR.lt
  go_enter Try.func64, Try.ntmps64
  go_wp2_with fail
  refine (pick_c R p 3 _ (hR.alloc _) (by omega) (by omega) (by omega)).mono ?_
  rintro e w1 ⟨r1, rfl, hr1, hrd1, hu1⟩
  have hs1 : w.heap.size + 1 = w1.heap.size := by have := hu1.size; simp at this; omega
  have HB1 := Lib.hid (Blk.upd (Blk.new_ w 54 #[.int .i64 0, .int .i64 0, .int .i64 0]) hu1 (by omega))
  have HG1 := Lib.hid (grown_tr (World.grownBy_alloc w _ (some R)) (grown_upd hu1))
  have HR1 := Lib.hid hrd1
  have hr1' : (r1 : Int) < 3 := pick_lt hr1 (by omega)
  have HS1 := Lib.hid hs1
  clear hrd1 hu1 hs1 hr1
  go_wp2_with fail
  refine (pick_c R (p + 1) 3 _ HR1.out (by omega) (by omega) (by omega)).mono ?_
  rintro e w2 ⟨r2, rfl, hr2, hrd2, hu2⟩
  have HB2 := Lib.hid (HB1.out.upd hu2 (by omega))
  have HG2 := Lib.hid (grown_tr HG1.out (grown_upd hu2))
  have HR2 := Lib.hid hrd2
  have hr2' : (r2 : Int) < 3 := pick_lt hr2 (by omega)
  clear hrd2 hu2 hr2
  go_wp2_with fail
  refine (pick_c R (p + 1 + 1) 9 _ HR2.out (by omega) (by omega) (by omega)).mono ?_
  rintro e w3 ⟨r3, rfl, hr3, hrd3, hu3⟩
  have HB3 := Lib.hid (HB2.out.upd hu3 (by omega))
  have HG3 := Lib.hid (grown_tr HG2.out (grown_upd hu3))
  have HR3 := Lib.hid hrd3
  have hsz3 : w.heap.size ≤ w3.heap.size := HG3.out.size
  clear hrd3 hu3 hr3
  go_wp2_with fail
  refine (pick_c R (p + 1 + 1 + 1) 6 _ (HR3.out.alloc _) (by omega) (by omega) (by omega)).mono ?_
  rintro e w4 ⟨r4, rfl, hr4, hrd4, hu4⟩
  have hr4' : (r4 : Int) < 6 := pick_lt hr4 (by omega)
  obtain ⟨x, _, hx⟩ := lit_at w3 [0, 1, 2, 5, -1, (r3 : Int)] 3 r4 (by simp; omega)
  have hc4 : w4.cell? ⟨w3.heap.size, r4, none⟩ = some (.int .i64 x) := (hu4.cell (p := ⟨w3.heap.size, r4, none⟩) (by dsimp only; omega)).trans hx
  have HB4 := Lib.hid ((HB3.out.alloc _).upd hu4 (by omega))
  have HG4 := Lib.hid (grown_tr (grown_alloc HG3.out _) (grown_upd hu4))
  have HR4 := Lib.hid hrd4
  have hsz4 : w.heap.size < w4.heap.size := HB4.out.lt
  clear hrd4 hu4 hr4 hx
  go_upto_if 21 with (first
    | (go_at_call 43; refine (pick_c R (p + 1 + 1 + 1 + 1) 6 _ (HR4.out.alloc _) (by omega) (by omega) (by omega)).mono ?_; rintro e w5 ⟨r5, rfl, hr5, hrd5, hu5⟩))
  have HE5 := Lib.hid (Blk.upd (Blk.new_ w4 54 #[.int .i64 (1 + (r1 : Int)), .int .i64 (r2 : Int), .int .i64 x]) hu5 (by omega))
  have HB5 := Lib.hid ((HB4.out.alloc _).upd hu5 (by omega))
  have HG5 := Lib.hid (grown_tr (grown_alloc HG4.out _) (grown_upd hu5))
  have HR5 := Lib.hid hrd5
  have hsz5 : w4.heap.size < w5.heap.size := HE5.out.lt
  have hE := HE5.out
  clear hrd5 hu5 hr5
  have he0 : w5.cell? ⟨w4.heap.size, 0, none⟩ = some (.int .i64 (1 + (r1 : Int))) := hE.cell 0
  have he1 : w5.cell? ⟨w4.heap.size, 1, none⟩ = some (.int .i64 (r2 : Int)) := hE.cell 1
  have he2 : w5.cell? ⟨w4.heap.size, 2, none⟩ = some (.int .i64 x) := hE.cell 2
  have hf0 := hE.free 0
  have hf1 := hE.free 1
  have hf2 := hE.free 2
  clear hE
  go_cut [5] (fun s5 wc => AskInv w R p 5 s5 wc)
  case first =>
    go_wp2
    · go_meet
      exact ⟨w4.heap.size, p + 1 + 1 + 1 + 1 + 1, 0, 0, 0, rfl, hsz4, ((HE5.out.set_ 0 (.int .i64 0)).set_ 1 (.int .i64 0)).set_ 2 (.int .i64 0), ((HB5.out.far (by dsimp only; omega) _).far (by dsimp only; omega) _).far (by dsimp only; omega) _, by omega,
        ((HR5.out.setCell (by dsimp only; omega) _).setCell (by dsimp only; omega) _).setCell (by dsimp only; omega) _, grown_setCell (grown_setCell (grown_setCell HG5.out (by dsimp only; omega) _) (by dsimp only; omega) _) (by dsimp only; omega) _⟩
    · go_meet
      exact ⟨w4.heap.size, p + 1 + 1 + 1 + 1 + 1, _, _, _, rfl, hsz4, HE5.out, HB5.out, by omega, HR5.out, HG5.out⟩
  case rest =>
    clear he0 he1 he2 hf0 hf1 hf2 hc4 HB5 HG5 HE5 HR5
    obtain ⟨g, p1, o1, v1, k1, rfl, hg, hE, hB, hp1, hrd, hgr⟩ := hcut
    have HE := Lib.hid hE
    have HB := Lib.hid hB
    have HR := Lib.hid hrd
    have HG := Lib.hid hgr
    have hgs := hE.lt
    clear hE hB hrd hgr
    go_upto_if 26 with (first
      | (go_at_call 43; refine (pick_c R p1 m _ HR.out (by omega) (by omega) (by omega)).mono ?_; rintro e w2 ⟨r6, rfl, hr6, hrd2, hu2⟩))
    have HE2 := Lib.hid (HE.out.upd hu2 (by omega))
    have HB2 := Lib.hid (HB.out.upd hu2 (by omega))
    have HG2 := Lib.hid (grown_tr HG.out (grown_upd hu2))
    have HR2 := Lib.hid hrd2
    obtain ⟨p2, hp2⟩ : ∃ p2, p2 = p1 + 1 + 1 := ⟨_, rfl⟩
    clear hrd2 hu2 hr6
    go_cut [5] (fun s5 wc => AskInv w R p 10 s5 wc)
    case first =>
      by_cases h6 : r6 = 0
      · have h6' : ((r6 : Int) == 0) = true := by simp [h6]
        clear h6
        go_wp2_with fail
        refine (pick_c R (p1 + 1) 3 _ HR2.out (by omega) (by omega) (by omega)).mono ?_
        rintro e w3 ⟨r7, rfl, _, hrd3, hu3⟩
        have HE3 := Lib.hid (HE2.out.upd hu3 (by omega))
        have HB3 := Lib.hid (HB2.out.upd hu3 (by omega))
        have HG3 := Lib.hid (grown_tr HG2.out (grown_upd hu3))
        have hrd3' : RdV w3 R p2 := by rw [hp2]; exact hrd3
        have HP2 : p2 ≤ p1 + 2 := by omega
        clear hp2
        have HR3 : Hid (RdV w3 R p2) := hrd3'
        have hgs3 : g < w3.heap.size := HE3.out.lt
        clear hrd3 hu3 hrd3'
        by_cases h7 : r7 = 0
        · have h7' : ((r7 : Int) == 0) = true := by simp [h7]
          clear h7
          go_wp2_with fail
          refine (pick_c R (p2) 3 _ (HR3.out.alloc _) (by omega) (by omega) (by omega)).mono ?_
          rintro e w4 ⟨r4, rfl, hr4, hrd4, hu4⟩
          have hr4' : (r4 : Int) < 3 := pick_lt hr4 (by omega)
          obtain ⟨x4, _, hx4⟩ := lit_at w3 [0, 4, -1] 3 r4 (by simp; omega)
          have hc4 : w4.cell? ⟨w3.heap.size, r4, none⟩ = some (.int .i64 x4) := (hu4.cell (p := ⟨w3.heap.size, r4, none⟩) (by dsimp only; omega)).trans hx4
          have hE := (HE3.out.alloc _).upd hu4 (by omega)
          have HE4 := Lib.hid hE
          have HB4 := Lib.hid ((HB3.out.alloc _).upd hu4 (by omega))
          have HG4 := Lib.hid (grown_tr (grown_alloc HG3.out _) (grown_upd hu4))
          have HR4 := Lib.hid hrd4
          clear hrd4 hu4 hr4 hx4
          have he0 : w4.cell? ⟨g, 0, none⟩ = some (.int .i64 o1) := hE.cell 0
          have hf0 := hE.free 0
          clear hE
          go_wp2
          go_meet
          exact ⟨g, p2 + 1, x4, v1, k1, rfl, hg, HE4.out.set_ 0 _, HB4.out.far (by dsimp only; omega) _, by omega, HR4.out.setCell (by dsimp only; omega) _, grown_setCell HG4.out (by dsimp only; omega) _⟩
        · have h7' : ((r7 : Int) == 0) = false := by simp [h7]
          by_cases h8 : r7 = 1
          · have h8' : ((r7 : Int) == 1) = true := by simp [h8]
            clear h7 h8
            go_wp2_with fail
            refine (pick_c R (p2) 3 _ (HR3.out.alloc _) (by omega) (by omega) (by omega)).mono ?_
            rintro e w4 ⟨r4, rfl, hr4, hrd4, hu4⟩
            have hr4' : (r4 : Int) < 3 := pick_lt hr4 (by omega)
            obtain ⟨x4, _, hx4⟩ := lit_at w3 [3, -1, 1] 3 r4 (by simp; omega)
            have hc4 : w4.cell? ⟨w3.heap.size, r4, none⟩ = some (.int .i64 x4) := (hu4.cell (p := ⟨w3.heap.size, r4, none⟩) (by dsimp only; omega)).trans hx4
            have hE := (HE3.out.alloc _).upd hu4 (by omega)
            have HE4 := Lib.hid hE
            have HB4 := Lib.hid ((HB3.out.alloc _).upd hu4 (by omega))
            have HG4 := Lib.hid (grown_tr (grown_alloc HG3.out _) (grown_upd hu4))
            have HR4 := Lib.hid hrd4
            clear hrd4 hu4 hr4 hx4
            have he0 : w4.cell? ⟨g, 1, none⟩ = some (.int .i64 v1) := hE.cell 1
            have hf0 := hE.free 1
            clear hE
            go_wp2
            go_meet
            exact ⟨g, p2 + 1, o1, x4, k1, rfl, hg, HE4.out.set_ 1 _, HB4.out.far (by dsimp only; omega) _, by omega, HR4.out.setCell (by dsimp only; omega) _, grown_setCell HG4.out (by dsimp only; omega) _⟩
          · have h8' : ((r7 : Int) == 1) = false := by simp; omega
            clear h7 h8
            go_wp2_with fail
            refine (pick_c R (p2) 3 _ (HR3.out.alloc _) (by omega) (by omega) (by omega)).mono ?_
            rintro e w4 ⟨r4, rfl, hr4, hrd4, hu4⟩
            have hr4' : (r4 : Int) < 3 := pick_lt hr4 (by omega)
            obtain ⟨x4, _, hx4⟩ := lit_at w3 [99, 100, -99] 3 r4 (by simp; omega)
            have hc4 : w4.cell? ⟨w3.heap.size, r4, none⟩ = some (.int .i64 x4) := (hu4.cell (p := ⟨w3.heap.size, r4, none⟩) (by dsimp only; omega)).trans hx4
            have hE := (HE3.out.alloc _).upd hu4 (by omega)
            have HE4 := Lib.hid hE
            have HB4 := Lib.hid ((HB3.out.alloc _).upd hu4 (by omega))
            have HG4 := Lib.hid (grown_tr (grown_alloc HG3.out _) (grown_upd hu4))
            have HR4 := Lib.hid hrd4
            clear hrd4 hu4 hr4 hx4
            have he0 : w4.cell? ⟨g, 2, none⟩ = some (.int .i64 k1) := hE.cell 2
            have hf0 := hE.free 2
            clear hE
            go_wp2
            go_meet
            exact ⟨g, p2 + 1, o1, v1, x4, rfl, hg, HE4.out.set_ 2 _, HB4.out.far (by dsimp only; omega) _, by omega, HR4.out.setCell (by dsimp only; omega) _, grown_setCell HG4.out (by dsimp only; omega) _⟩
      · have h6' : ((r6 : Int) == 0) = false := by simp [h6]
        clear h6
        go_wp2
        go_meet
        exact ⟨g, p1 + 1, o1, v1, k1, rfl, hg, HE2.out, HB2.out, by omega, HR2.out, HG2.out⟩
    case rest =>
      obtain ⟨g, p1, o1, v1, k1, rfl, hg, hE, hB, hp1, hrd, hgr⟩ := hcut
      have HR3 := Lib.hid hrd
      have HG3 := Lib.hid hgr
      have he0 : wc.cell? ⟨g, 0, none⟩ = some (.int .i64 o1) := hE.cell 0
      have he1 : wc.cell? ⟨g, 1, none⟩ = some (.int .i64 v1) := hE.cell 1
      have he2 : wc.cell? ⟨g, 2, none⟩ = some (.int .i64 k1) := hE.cell 2
      have hb0 : wc.cell? ⟨w.heap.size, 0, none⟩ = some (.int .i64 0) := hB.cell 0
      have hb1 : wc.cell? ⟨w.heap.size, 1, none⟩ = some (.int .i64 0) := hB.cell 1
      have hb2 : wc.cell? ⟨w.heap.size, 2, none⟩ = some (.int .i64 0) := hB.cell 2
      have hg0 := hB.free 0
      have hg1 := hB.free 1
      have hg2 := hB.free 2
      clear hE hB hrd hgr
      go_wp2
      refine bodyPost_ret (v := .agg #[.int .i64 o1, .int .i64 v1, .int .i64 k1]) (by simp [results, Try.results64, go_sem, hb0, hb1, hb2]) rfl ⟨_, _, _, p1, rfl, by omega, ?_, ?_⟩
      · repeat (first | exact HR3.out | refine RdV.setCell ?_ (by dsimp only; omega) _)
      · repeat (first | exact HG3.out | refine grown_setCell ?_ (by dsimp only; omega) _)
end Go.Proofs.Ytkcbghaadjhceaa

/- Draws of marks. -/
namespace Go.Proofs.Ytkcbghaadjhceaa
open Go.RowKit
set_option linter.unusedVariables false
set_option linter.unusedSimpArgs false

def MarksInv (w : World) (R p q P d : Nat) (v : Value) (wc : World) : Prop := ∃ (zs : List Int) (p' : Nat), wc.ownsRow w.heap.size 3 1 v zs.length (ints zs) ∧ P ≤ zs.length ∧ zs.length ≤ P + d ∧ (∀ x ∈ zs, -1 ≤ x ∧ x ≤ 5) ∧ p' ≤ p + q ∧ RdV wc R p' ∧ w.grownBy wc (some R)
theorem mem_set_bound {zs : List Int} {k : Nat} {y : Int} (h : ∀ x ∈ zs, -1 ≤ x ∧ x ≤ 5) (hy : -1 ≤ y ∧ y ≤ 5) : ∀ x ∈ zs.set k y, -1 ≤ x ∧ x ≤ 5 := by
  intro x hx
  rcases List.mem_or_eq_of_mem_set hx with h1 | rfl
  · exact h x h1
  · exact hy
theorem own_form {w : World} {base n : Nat} {e : TypeId} {v : Value} {xs : List Value} (h : w.ownsRow base e 1 v n xs) (hn : 0 < n) : ∃ g c, v = .slice (some ⟨g, 0, none⟩) n c ∧ base ≤ g ∧ g < w.heap.size ∧ n ≤ c := by
  rcases h.2 with ⟨_, h0⟩ | ⟨g, cap, cur, rfl, hg, hh, hc, _⟩
  · omega
  · exact ⟨g, cap, rfl, hg, (h.lt g rfl).2, hc⟩

set_option maxHeartbeats 600000 in
set_option maxRecDepth 20000 in
theorem l20Marks_c (R p P : Nat) (m : Int) (w : World) (hR : RdV w R p) (hp : p ≤ 900000) (hP : P ≤ 64) (hm : m ≤ 1000000) (hm0 : -1000000 ≤ m) :
    Calls Try.prog 42 #[.pointer (some ⟨R, 0, none⟩), .int .i64 (P : Int), .int .i64 m] w fun e w' => ∃ (v : Value) (zs : List Int) (p' : Nat), e = .returned v ∧ zs.length ≤ P + 1 ∧ (∀ x ∈ zs, -1 ≤ x ∧ x ≤ 5) ∧ p' ≤ p + 100 ∧ (∃ A b o c, v = .slice A zs.length c ∧ zs.length ≤ c ∧ Row w' w.heap.size w'.heap.size A b o (ints zs)) ∧ RdV w' R p' ∧ w.grownBy w' (some R) := by
  obtain ⟨i0, hi0, hz0, hz1, hz2⟩ := info_parts Try.info3
  have hRlt := hR.lt
  go_enter Try.func42, Try.ntmps42
  go_wp2
  go_loopw [7, 8] (fun v i wr => ∃ (k p' : Nat) (zs : List Int), k ≤ P ∧ i = .int .i64 k ∧ zs.length = k ∧ (∀ x ∈ zs, -1 ≤ x ∧ x ≤ 5) ∧ p' ≤ p + k ∧ wr.ownsRow w.heap.size 3 1 v zs.length (ints zs) ∧ RdV wr R p' ∧ w.grownBy wr (some R)) (fun _ i _ => P - (intOf i).toNat)
  case atStart => exact ⟨0, p, [], by omega, rfl, rfl, by simp, by omega, own_lit0 w 3, hR.alloc _, World.grownBy_alloc _ _ _⟩
  case round =>
    obtain ⟨k, p', zs, hk, rfl, hzl, hzb, hp', hown, hrd, hgr⟩ := hrel
    have HO := Lib.hid hown
    have HRD := Lib.hid hrd
    have HG := Lib.hid hgr
    have hsz := hgr.size
    have HZL := Lib.hid hzl
    have HZB := Lib.hid hzb
    clear hown hrd hgr hzl hzb
    by_cases hlt : k < P
    · go_wp2_with fail
      refine (pick_c R p' 6 _ (HRD.out.alloc _) (by omega) (by omega) (by omega)).mono ?_
      rintro e w2 ⟨r2, rfl, hr2, hrd2, hu2⟩
      have hr2' := pick_lt hr2 (by omega)
      obtain ⟨x, hx0, hx⟩ := lit_at wr [0, 0, 1, 1, 2, 4] 3 r2 (by simp; omega)
      have hxb : -1 ≤ x ∧ x ≤ 5 := by
        have := List.mem_of_getElem? hx0
        simp at this; omega
      have hc2 : w2.cell? ⟨wr.heap.size, r2, none⟩ = some (.int .i64 x) := (hu2.cell (p := ⟨wr.heap.size, r2, none⟩) (by dsimp only; omega)).trans hx
      have HO2 := Lib.hid (own_upd (HO.out.alloc _) hu2 hRlt)
      have HG2 := Lib.hid (grown_tr (grown_alloc HG.out _) (grown_upd hu2))
      have HR2 := Lib.hid hrd2
      have hsz2 : w.heap.size ≤ w2.heap.size := HG2.out.size
      have HXB := Lib.hid hxb
      clear hrd2 hu2 hx hr2 hx0 hxb
      go_wp2_with (at_builtin; refine wpList_append_own _ rfl _ _ 26 rfl w.heap.size 3 i0 _ 1 8 Try.underlying26 hi0 hz0 hz1 hz2 rfl (by omega) _ zs.length (ints zs) rfl (HO2.out.alloc _) ⟨w2.heap.size, 0, none⟩ 1 1 [.int .i64 x] rfl rfl (one_cell _ _ _) (by intro u hu; simp at hu; subst hu; rfl) (by have := HZL.out; unfold maxLen; omega) (by have := HZL.out; omega) (by simp; omega) ?_; intro v' w3 hown3 hg3 _)
      have HO3 := Lib.hid hown3
      have HG3 := Lib.hid (grown_own (grown_alloc HG2.out _) hg3 (HO2.out.alloc _) (Nat.le_refl _))
      have HR3 := Lib.hid ((HR2.out.alloc _).own hg3 (HO2.out.alloc _) hRlt)
      clear hown3 hg3
      go_wp2
      go_roundw
      case rel => exact ⟨k + 1, p' + 1, zs ++ [x], by omega, by go_num, by simp [HZL.out], by
        intro y hy
        rcases List.mem_append.1 hy with h | h
        · exact HZB.out y h
        · simp at h; rw [h]; exact HXB.out, by omega, by have := HO3.out; simpa using this, HR3.out, HG3.out⟩
      case measure => simp [intOf]; omega
    · have hkP : k = P := by omega
      have HKP := Lib.hid hkP
      clear hkP
      by_cases hP1 : 1 < P
      · have hP1' : (1 : Int) < (P : Int) := by omega
        go_upto_if 29 with (first
          | (go_at_call 43; refine (pick_c R p' 4 _ HRD.out (by omega) (by omega) (by omega)).mono ?_; rintro e w1 ⟨r1, rfl, hr1, hrd1, hu1⟩))
        have HO1 := Lib.hid (own_upd HO.out hu1 hRlt)
        have HG1 := Lib.hid (grown_tr HG.out (grown_upd hu1))
        have HR1 := Lib.hid hrd1
        have hsz1 : w.heap.size ≤ w1.heap.size := HG1.out.size
        clear hrd1 hu1 hr1
        go_cut [7] (fun s7 wc => MarksInv w R p 70 P 0 s7 wc)
        case first =>
          by_cases h1 : 0 < r1
          · have h1' : (0 : Int) < (r1 : Int) := by omega
            obtain ⟨g, cc, rfl, hg1, hg2, hcc⟩ := own_form HO1.out (by have := HZL.out; have := HKP.out; omega)
            have hz3 : (1 : Int) < (zs.length : Int) := by have := HZL.out; have := HKP.out; omega
            obtain ⟨y, hy⟩ : ∃ y, zs[1]? = some y := ⟨_, List.getElem?_eq_getElem (by omega)⟩
            have hcy : w1.cell? ⟨g, 1, none⟩ = some (.int .i64 y) := by rw [HO1.out.cellAt 1 (by omega)]; exact ints_at hy
            have hfy := HO1.out.frozenAt 1
            have HS := Lib.hid (HO1.out.stored 1 (.int .i64 0))
            clear hy
            go_wp2
            go_meet
            exact ⟨zs.set 1 0, p' + 1, by have := HS.out.1; simpa [ints, List.map_set] using this, by simp; have := HZL.out; have := HKP.out; omega, by simp; have := HZL.out; have := HKP.out; omega, mem_set_bound HZB.out (by omega), by omega, RdV.own (v := .slice (some ⟨g, 0, none⟩) zs.length cc) HR1.out HS.out.2 HO1.out hRlt, grown_own (v := .slice (some ⟨g, 0, none⟩) zs.length cc) HG1.out HS.out.2 HO1.out (Nat.le_refl _)⟩
          · have h1' : ¬ ((0 : Int) < (r1 : Int)) := by omega
            go_wp2
            go_meet
            exact ⟨zs, p' + 1, HO1.out, by have := HZL.out; have := HKP.out; omega, by have := HZL.out; have := HKP.out; omega, HZB.out, by omega, HR1.out, HG1.out⟩
        case rest =>
          clear HO HRD HG HZB HZL HKP hsz hp' hlt
          obtain ⟨zs, p1, hown, hz1', hz2', hzb, hp1, hrd, hgr⟩ := hcut
          have HO := Lib.hid hown
          have HR := Lib.hid hrd
          have HG := Lib.hid hgr
          have HZB := Lib.hid hzb
          have hsz := hgr.size
          clear hown hrd hgr hzb
          go_upto_if 35 with (first
            | (go_at_call 43; refine (pick_c R p1 m _ HR.out (by omega) (by omega) (by omega)).mono ?_; rintro e w2 ⟨r6, rfl, hr6, hrd2, hu2⟩))
          have HO2 := Lib.hid (own_upd HO.out hu2 hRlt)
          have HG2 := Lib.hid (grown_tr HG.out (grown_upd hu2))
          have HR2 := Lib.hid hrd2
          have hsz2 : w.heap.size ≤ w2.heap.size := HG2.out.size
          clear hrd2 hu2 hr6
          go_cut [7] (fun s7 wc => MarksInv w R p 90 P 1 s7 wc)
          case first =>
            by_cases h6 : r6 = 0
            · have h6' : ((r6 : Int) == 0) = true := by simp [h6]
              clear h6
              go_wp2_with fail
              refine (pick_c R (p1 + 1) 2 _ HR2.out (by omega) (by omega) (by omega)).mono ?_
              rintro e w3 ⟨r7, rfl, _, hrd3, hu3⟩
              have HO3 := Lib.hid (own_upd HO2.out hu3 hRlt)
              have HG3 := Lib.hid (grown_tr HG2.out (grown_upd hu3))
              have HR3 := Lib.hid hrd3
              have hsz3 : w.heap.size ≤ w3.heap.size := HG3.out.size
              clear hrd3 hu3
              by_cases h7 : r7 = 0
              · have h7' : ((r7 : Int) == 0) = true := by simp [h7]
                clear h7
                by_cases h7b : 0 < P
                · have h7c : (0 : Int) < (P : Int) := by omega
                  go_wp2_with fail
                  refine (pick_c R (p1 + 1 + 1) P _ HR3.out (by omega) (by omega) (by omega)).mono ?_
                  rintro e w4 ⟨r8, rfl, hr8, hrd4, hu4⟩
                  have HO4 := Lib.hid (own_upd HO3.out hu4 hRlt)
                  have HG4 := Lib.hid (grown_tr HG3.out (grown_upd hu4))
                  have HR4 := Lib.hid hrd4
                  have hsz4 : w.heap.size ≤ w4.heap.size := HG4.out.size
                  have hr8' : (r8 : Int) < (P : Int) := pick_lt hr8 h7c
                  clear hrd4 hu4 hr8
                  go_wp2_with fail
                  refine (pick_c R (p1 + 1 + 1 + 1) 2 _ (HR4.out.alloc _) (by omega) (by omega) (by omega)).mono ?_
                  rintro e w5 ⟨r9, rfl, hr9, hrd5, hu5⟩
                  have hr9' := pick_lt hr9 (by omega)
                  obtain ⟨x, hx0, hx⟩ := lit_at w4 [-1, 5] 3 r9 (by simp; omega)
                  have hxb : -1 ≤ x ∧ x ≤ 5 := by
                    have := List.mem_of_getElem? hx0
                    simp at this; omega
                  have hc5 : w5.cell? ⟨w4.heap.size, r9, none⟩ = some (.int .i64 x) := (hu5.cell (p := ⟨w4.heap.size, r9, none⟩) (by dsimp only; omega)).trans hx
                  have HO5 := Lib.hid (own_upd (HO4.out.alloc _) hu5 hRlt)
                  have HG5 := Lib.hid (grown_tr (grown_alloc HG4.out _) (grown_upd hu5))
                  have HR5 := Lib.hid hrd5
                  have HXB := Lib.hid hxb
                  clear hrd5 hu5 hr9 hx hx0 hxb
                  obtain ⟨g, cc, rfl, hg1, hg2, hcc⟩ := own_form HO5.out (by omega)
                  have hz3 : (r8 : Int) < (zs.length : Int) := by omega
                  obtain ⟨y, hy⟩ : ∃ y, zs[r8]? = some y := ⟨_, List.getElem?_eq_getElem (by omega)⟩
                  have hcy : w5.cell? ⟨g, r8, none⟩ = some (.int .i64 y) := by rw [HO5.out.cellAt r8 (by omega)]; exact ints_at hy
                  have hfy := HO5.out.frozenAt r8
                  have HS := Lib.hid (HO5.out.stored r8 (.int .i64 x))
                  clear hy
                  go_wp2
                  go_meet
                  exact ⟨zs.set r8 x, p1 + 1 + 1 + 1 + 1, by have := HS.out.1; simpa [ints, List.map_set] using this, by simp; omega, by simp; omega, mem_set_bound HZB.out HXB.out, by omega, RdV.own (v := .slice (some ⟨g, 0, none⟩) zs.length cc) HR5.out HS.out.2 HO5.out hRlt, grown_own (v := .slice (some ⟨g, 0, none⟩) zs.length cc) HG5.out HS.out.2 HO5.out (Nat.le_refl _)⟩
                · exfalso; omega
              · have h7' : ((r7 : Int) == 0) = false := by simp [h7]
                clear h7
                go_wp2_with (at_builtin; refine wpList_append_own _ rfl _ _ 26 rfl w.heap.size 3 i0 _ 1 8 Try.underlying26 hi0 hz0 hz1 hz2 rfl (by omega) _ zs.length (ints zs) rfl (HO3.out.alloc _) ⟨w3.heap.size, 0, none⟩ 1 1 [.int .i64 0] rfl rfl (one_cell _ _ _) (by intro u hu; simp at hu; subst hu; rfl) (by unfold maxLen; omega) (by omega) (by simp; omega) ?_; intro v' w4 hown4 hg4 _)
                have HO4 := Lib.hid hown4
                have HG4 := Lib.hid (grown_own (grown_alloc HG3.out _) hg4 (HO3.out.alloc _) (Nat.le_refl _))
                have HR4 := Lib.hid ((HR3.out.alloc _).own hg4 (HO3.out.alloc _) hRlt)
                clear hown4 hg4
                go_wp2
                go_meet
                exact ⟨zs ++ [0], p1 + 1 + 1, by have := HO4.out; simpa using this, by simp; omega, by simp; omega, by
                  intro y hy
                  rcases List.mem_append.1 hy with h | h
                  · exact HZB.out y h
                  · simp at h; omega, by omega, HR4.out, HG4.out⟩
            · have h6' : ((r6 : Int) == 0) = false := by simp [h6]
              clear h6
              go_wp2
              go_meet
              exact ⟨zs, p1 + 1, HO2.out, hz1', by omega, HZB.out, by omega, HR2.out, HG2.out⟩
          case rest =>
            clear HO2 HR2 HG2 HO HR HG HZB hsz hsz2 hp1 hz1' hz2'
            obtain ⟨zs, p1, hown, hz1', hz2', hzb, hp1, hrd, hgr⟩ := hcut
            have HO := Lib.hid hown
            have HR := Lib.hid hrd
            have HG := Lib.hid hgr
            have HZB := Lib.hid hzb
            clear hown hrd hgr hzb
            go_wp2
            go_ret
            exact ⟨_, zs, p1, rfl, hz2', HZB.out, by omega, draw_row HO.out, HR.out, HG.out⟩
      · have hP1' : ¬ ((1 : Int) < (P : Int)) := by omega
        go_upto_if 29 with fail
        go_cut [7] (fun s7 wc => MarksInv w R p 70 P 0 s7 wc)
        case first =>
          go_wp2
          go_meet
          exact ⟨zs, p', HO.out, by have := HZL.out; have := HKP.out; omega, by have := HZL.out; have := HKP.out; omega, HZB.out, by omega, HRD.out, HG.out⟩
        case rest =>
          clear HO HRD HG HZB HZL HKP hsz hp' hlt
          obtain ⟨zs, p1, hown, hz1', hz2', hzb, hp1, hrd, hgr⟩ := hcut
          have HO := Lib.hid hown
          have HR := Lib.hid hrd
          have HG := Lib.hid hgr
          have HZB := Lib.hid hzb
          have hsz := hgr.size
          clear hown hrd hgr hzb
          go_upto_if 35 with (first
            | (go_at_call 43; refine (pick_c R p1 m _ HR.out (by omega) (by omega) (by omega)).mono ?_; rintro e w2 ⟨r6, rfl, hr6, hrd2, hu2⟩))
          have HO2 := Lib.hid (own_upd HO.out hu2 hRlt)
          have HG2 := Lib.hid (grown_tr HG.out (grown_upd hu2))
          have HR2 := Lib.hid hrd2
          have hsz2 : w.heap.size ≤ w2.heap.size := HG2.out.size
          clear hrd2 hu2 hr6
          go_cut [7] (fun s7 wc => MarksInv w R p 90 P 1 s7 wc)
          case first =>
            by_cases h6 : r6 = 0
            · have h6' : ((r6 : Int) == 0) = true := by simp [h6]
              clear h6
              go_wp2_with fail
              refine (pick_c R (p1 + 1) 2 _ HR2.out (by omega) (by omega) (by omega)).mono ?_
              rintro e w3 ⟨r7, rfl, _, hrd3, hu3⟩
              have HO3 := Lib.hid (own_upd HO2.out hu3 hRlt)
              have HG3 := Lib.hid (grown_tr HG2.out (grown_upd hu3))
              have HR3 := Lib.hid hrd3
              have hsz3 : w.heap.size ≤ w3.heap.size := HG3.out.size
              clear hrd3 hu3
              by_cases h7 : r7 = 0
              · have h7' : ((r7 : Int) == 0) = true := by simp [h7]
                clear h7
                by_cases h7b : 0 < P
                · have h7c : (0 : Int) < (P : Int) := by omega
                  go_wp2_with fail
                  refine (pick_c R (p1 + 1 + 1) P _ HR3.out (by omega) (by omega) (by omega)).mono ?_
                  rintro e w4 ⟨r8, rfl, hr8, hrd4, hu4⟩
                  have HO4 := Lib.hid (own_upd HO3.out hu4 hRlt)
                  have HG4 := Lib.hid (grown_tr HG3.out (grown_upd hu4))
                  have HR4 := Lib.hid hrd4
                  have hsz4 : w.heap.size ≤ w4.heap.size := HG4.out.size
                  have hr8' : (r8 : Int) < (P : Int) := pick_lt hr8 h7c
                  clear hrd4 hu4 hr8
                  go_wp2_with fail
                  refine (pick_c R (p1 + 1 + 1 + 1) 2 _ (HR4.out.alloc _) (by omega) (by omega) (by omega)).mono ?_
                  rintro e w5 ⟨r9, rfl, hr9, hrd5, hu5⟩
                  have hr9' := pick_lt hr9 (by omega)
                  obtain ⟨x, hx0, hx⟩ := lit_at w4 [-1, 5] 3 r9 (by simp; omega)
                  have hxb : -1 ≤ x ∧ x ≤ 5 := by
                    have := List.mem_of_getElem? hx0
                    simp at this; omega
                  have hc5 : w5.cell? ⟨w4.heap.size, r9, none⟩ = some (.int .i64 x) := (hu5.cell (p := ⟨w4.heap.size, r9, none⟩) (by dsimp only; omega)).trans hx
                  have HO5 := Lib.hid (own_upd (HO4.out.alloc _) hu5 hRlt)
                  have HG5 := Lib.hid (grown_tr (grown_alloc HG4.out _) (grown_upd hu5))
                  have HR5 := Lib.hid hrd5
                  have HXB := Lib.hid hxb
                  clear hrd5 hu5 hr9 hx hx0 hxb
                  obtain ⟨g, cc, rfl, hg1, hg2, hcc⟩ := own_form HO5.out (by omega)
                  have hz3 : (r8 : Int) < (zs.length : Int) := by omega
                  obtain ⟨y, hy⟩ : ∃ y, zs[r8]? = some y := ⟨_, List.getElem?_eq_getElem (by omega)⟩
                  have hcy : w5.cell? ⟨g, r8, none⟩ = some (.int .i64 y) := by rw [HO5.out.cellAt r8 (by omega)]; exact ints_at hy
                  have hfy := HO5.out.frozenAt r8
                  have HS := Lib.hid (HO5.out.stored r8 (.int .i64 x))
                  clear hy
                  go_wp2
                  go_meet
                  exact ⟨zs.set r8 x, p1 + 1 + 1 + 1 + 1, by have := HS.out.1; simpa [ints, List.map_set] using this, by simp; omega, by simp; omega, mem_set_bound HZB.out HXB.out, by omega, RdV.own (v := .slice (some ⟨g, 0, none⟩) zs.length cc) HR5.out HS.out.2 HO5.out hRlt, grown_own (v := .slice (some ⟨g, 0, none⟩) zs.length cc) HG5.out HS.out.2 HO5.out (Nat.le_refl _)⟩
                · have h9' : ¬ ((0 : Int) < (P : Int)) := by omega
                  go_wp2_with (at_builtin; refine wpList_append_own _ rfl _ _ 26 rfl w.heap.size 3 i0 _ 1 8 Try.underlying26 hi0 hz0 hz1 hz2 rfl (by omega) _ zs.length (ints zs) rfl (HO3.out.alloc _) ⟨w3.heap.size, 0, none⟩ 1 1 [.int .i64 0] rfl rfl (one_cell _ _ _) (by intro u hu; simp at hu; subst hu; rfl) (by unfold maxLen; omega) (by omega) (by simp; omega) ?_; intro v' w4 hown4 hg4 _)
                  have HO4 := Lib.hid hown4
                  have HG4 := Lib.hid (grown_own (grown_alloc HG3.out _) hg4 (HO3.out.alloc _) (Nat.le_refl _))
                  have HR4 := Lib.hid ((HR3.out.alloc _).own hg4 (HO3.out.alloc _) hRlt)
                  clear hown4 hg4
                  go_wp2
                  go_meet
                  exact ⟨zs ++ [0], p1 + 1 + 1, by have := HO4.out; simpa using this, by simp; omega, by simp; omega, by
                    intro y hy
                    rcases List.mem_append.1 hy with h | h
                    · exact HZB.out y h
                    · simp at h; omega, by omega, HR4.out, HG4.out⟩
              · have h7' : ((r7 : Int) == 0) = false := by simp [h7]
                clear h7
                go_wp2_with (at_builtin; refine wpList_append_own _ rfl _ _ 26 rfl w.heap.size 3 i0 _ 1 8 Try.underlying26 hi0 hz0 hz1 hz2 rfl (by omega) _ zs.length (ints zs) rfl (HO3.out.alloc _) ⟨w3.heap.size, 0, none⟩ 1 1 [.int .i64 0] rfl rfl (one_cell _ _ _) (by intro u hu; simp at hu; subst hu; rfl) (by unfold maxLen; omega) (by omega) (by simp; omega) ?_; intro v' w4 hown4 hg4 _)
                have HO4 := Lib.hid hown4
                have HG4 := Lib.hid (grown_own (grown_alloc HG3.out _) hg4 (HO3.out.alloc _) (Nat.le_refl _))
                have HR4 := Lib.hid ((HR3.out.alloc _).own hg4 (HO3.out.alloc _) hRlt)
                clear hown4 hg4
                go_wp2
                go_meet
                exact ⟨zs ++ [0], p1 + 1 + 1, by have := HO4.out; simpa using this, by simp; omega, by simp; omega, by
                  intro y hy
                  rcases List.mem_append.1 hy with h | h
                  · exact HZB.out y h
                  · simp at h; omega, by omega, HR4.out, HG4.out⟩
            · have h6' : ((r6 : Int) == 0) = false := by simp [h6]
              clear h6
              go_wp2
              go_meet
              exact ⟨zs, p1 + 1, HO2.out, hz1', by omega, HZB.out, by omega, HR2.out, HG2.out⟩
          case rest =>
            clear HO2 HR2 HG2 HO HR HG HZB hsz hsz2 hp1 hz1' hz2'
            obtain ⟨zs, p1, hown, hz1', hz2', hzb, hp1, hrd, hgr⟩ := hcut
            have HO := Lib.hid hown
            have HR := Lib.hid hrd
            have HG := Lib.hid hgr
            have HZB := Lib.hid hzb
            clear hown hrd hgr hzb
            go_wp2
            go_ret
            exact ⟨_, zs, p1, rfl, hz2', HZB.out, by omega, draw_row HO.out, HR.out, HG.out⟩
end Go.Proofs.Ytkcbghaadjhceaa

/- What is drawn of a code: data, marks, questions. -/
namespace Go.Proofs.Ytkcbghaadjhceaa
open Go.RowKit
set_option linter.unusedVariables false
set_option linter.unusedSimpArgs false

/-- A slice of numbers that a call has made, given by its value. -/
def NumsV (w : World) (lo : Nat) (v : Value) (zs : List Int) : Prop := ∃ A b o c, v = .slice A zs.length c ∧ zs.length ≤ c ∧ Row w lo w.heap.size A b o (ints zs)
theorem NumsV.below {w w' : World} {lo : Nat} {v : Value} {zs : List Int} (h : NumsV w lo v zs) (hb : Below w.heap.size w w') : NumsV w' lo v zs := by
  obtain ⟨A, b, o, c, h1, h2, h3⟩ := h
  exact ⟨A, b, o, c, h1, h2, (h3.below hb (Nat.le_refl _)).more (Nat.le_refl _) hb.size⟩
theorem NumsV.grown {w w' : World} {lo R : Nat} {v : Value} {zs : List Int} (h : NumsV w lo v zs) (hg : w.grownBy w' (some R)) (hR : R < lo) : NumsV w' lo v zs := by
  obtain ⟨A, b, o, c, h1, h2, h3⟩ := h
  exact ⟨A, b, o, c, h1, h2, (h3.grown hg (.inr hR) (Nat.le_refl _)).more (Nat.le_refl _) hg.size⟩
theorem NumsV.lo {w : World} {lo lo' : Nat} {v : Value} {zs : List Int} (h : NumsV w lo v zs) (hl : lo' ≤ lo) : NumsV w lo' v zs := by
  obtain ⟨A, b, o, c, h1, h2, h3⟩ := h
  exact ⟨A, b, o, c, h1, h2, h3.more hl (Nat.le_refl _)⟩

theorem row_lit (w : World) (zs : List Int) (T : TypeId) : Row (w.alloc (.cells (ints zs).toArray T)) w.heap.size (w.heap.size + 1) (some ⟨w.heap.size, 0, none⟩) w.heap.size 0 (ints zs) :=
  ⟨fun _ => ⟨rfl, Nat.le_refl _, Nat.lt_succ_self _⟩, fun j u hu => ⟨by rw [World.cell?_alloc_at _ _ _ _ rfl]; simpa using hu, World.frozen?_alloc_at _ _ _ _ rfl⟩⟩

set_option maxRecDepth 20000 in
theorem guOk_c (w : World) : Calls Try.prog 15 #[] w fun e w' => e = .returned (.bool true) ∧ Below w.heap.size w w' := by
  go_enter Try.func15, Try.ntmps15
  go_wp2_with fail
  refine (implDatOk_c [0, 0, 0] w.heap.size (w.heap.size + 1) _ w.heap.size 0 _ _ (row_lit w [0, 0, 0] 3) (by simp) (by unfold maxLen; simp)).mono ?_
  rintro e w1 ⟨rfl, hb⟩
  have hd : datOk [0, 0, 0] = true := by decide
  rw [hd]
  have HB := Lib.hid hb
  clear hb hd
  go_wp2
  go_ret
  exact ⟨rfl, ((Below.refl w.heap.size w).alloc (Nat.le_refl _) _).trans (HB.out.mono (by simp))⟩




end Go.Proofs.Ytkcbghaadjhceaa
