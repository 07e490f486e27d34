/- Draws of data, questions and marks: whatever the code, they return, and write the reader's place alone. -/
import Derived.Test.YtoggdhbnkbdilaaReader
import Derived.Test.YtoggdhbnkbdilaaAppend
import Derived.Test.YtoggdhbnkbdilaaDat
namespace Go.Proofs.Ytoggdhbnkbdilaa
open Go.RowKit
set_option linter.unusedVariables false
set_option linter.unusedSimpArgs false

theorem Upd.cell {lo hi : Nat} {w w' : World} (h : Upd lo hi w w') {p : Addr} (hp : ¬ (lo ≤ p.block ∧ p.block < hi)) : w'.cell? p = w.cell? p := World.cell?_of_block (w := w) (h.block p.block hp)
theorem RdV.keep {w w' : World} {R p : Nat} (h : RdV w R p) (hk : ∀ g, g ≤ R → w'.heap[g]? = w.heap[g]?) (hs : w.heap.size ≤ w'.heap.size) : RdV w' R p := by
  obtain ⟨A, b, off, c, bs, h1, h2, h3, h4, h5, h6, h7⟩ := h
  have e := hk R (Nat.le_refl _)
  exact ⟨A, b, off, c, bs, h1, h2, (World.cell?_of_block (a := ⟨R, 0, none⟩) e).trans h3, (World.cell?_of_block (a := ⟨R, 1, none⟩) e).trans h4, (World.frozen?_of_block (a := ⟨R, 1, none⟩) e).trans h5, h6.keep fun g _ hg => hk g (by omega), by omega⟩
theorem RdV.own {w w' : World} {R p base size n : Nat} {e : TypeId} {v : Value} {xs : List Value} (h : RdV w R p) (hg : w.grownBy w' v.ownBlock) (ho : w.ownsRow base e size v n xs) (hR : R < base) : RdV w' R p :=
  h.keep (fun g hg' => hg.block g (by have := h.lt; omega) (fun e => by have := (ho.lt g e.symm).1; omega)) hg.size
theorem own_upd {w w' : World} {R base size n : Nat} {e : TypeId} {v : Value} {xs : List Value} (ho : w.ownsRow base e size v n xs) (hu : Upd R (R + 1) w w') (hR : R < base) : w'.ownsRow base e size v n xs :=
  ho.kept (grown_upd hu) (by
    rcases hv : v.ownBlock with _ | g
    · exact .inl rfl
    · right; intro e; injection e with e; have := (ho.lt g hv).1; omega)
theorem own_below {w w' : World} {base size n : Nat} {e : TypeId} {v : Value} {xs : List Value} (ho : w.ownsRow base e size v n xs) (hb : Below w.heap.size w w') : w'.ownsRow base e size v n xs :=
  ho.kept (row := none) ⟨hb.os, hb.tape, hb.output, hb.size, fun k hk _ => hb.block k hk⟩ (by rcases v.ownBlock with _ | g <;> simp)
theorem grown_own {a w w' : World} {R base size n : Nat} {e : TypeId} {v : Value} {xs : List Value} (h : a.grownBy w (some R)) (hg : w.grownBy w' v.ownBlock) (ho : w.ownsRow base e size v n xs) (hB : a.heap.size ≤ base) : a.grownBy w' (some R) :=
  ⟨hg.os.trans h.os, hg.tape.trans h.tape, hg.output.trans h.output, Nat.le_trans h.size hg.size, fun i hi hne => (hg.block i (Nat.lt_of_lt_of_le hi h.size) (fun e => by have := (ho.lt i e.symm).1; omega)).trans (h.block i hi hne)⟩

/-- A literal of numbers, in a new block: one of them. -/
theorem lit_at (w : World) (zs : List Int) (T : TypeId) (r : Nat) (h : r < zs.length) : ∃ x, zs[r]? = some x ∧ (w.alloc (.cells (ints zs).toArray T)).cell? ⟨w.heap.size, r, none⟩ = some (.int .i64 x) :=
  ⟨zs[r], List.getElem?_eq_getElem h, by rw [World.cell?_alloc_at _ _ _ _ rfl]; simp [List.getElem?_eq_getElem h]⟩
theorem pick_lt {r : Nat} {m : Int} (h : (r : Int) < m ∨ r = 0) (hm : 0 < m) : (r : Int) < m := by rcases h with h | rfl <;> simp_all
/-- One new cell, as an appended element. -/
theorem one_cell (w : World) (u : Value) (T : TypeId) : ∀ (j : Nat) (v : Value), [u][j]? = some v → (w.alloc (.cells #[u] T)).cell? ((⟨w.heap.size, 0, none⟩ : Addr).add j) = some v := by
  intro j v hj
  match j, hj with
  | 0, hj => simp at hj; subst hj; rw [addr_add0, World.cell?_alloc_at _ _ _ _ rfl]; rfl

theorem draw_row {w : World} {base : Nat} {e : TypeId} {v : Value} {zs : List Int} (h : w.ownsRow base e 1 v zs.length (ints zs)) : ∃ A b o c, v = .slice A zs.length c ∧ zs.length ≤ c ∧ Row w base w.heap.size A b o (ints zs) := by
  obtain ⟨A, b, c, rfl, hR⟩ := Made.row (zs := zs) h
  refine ⟨A, b, 0, c, rfl, ?_, hR⟩
  rcases h.2 with ⟨hv, hz⟩ | ⟨g, cap, cur, hv, _, _, hn, _⟩
  · omega
  · injection hv with _ _ hv; omega

set_option maxRecDepth 20000 in
theorem l20Data_c (R p : Nat) (m : Int) (w : World) (hR : RdV w R p) (hp : p ≤ 900000) (hm : m ≤ 1000000) (hm0 : -1000000 ≤ m) :
    Calls Try.prog 59 #[.pointer (some ⟨R, 0, none⟩), .int .i64 m] w fun e w' => ∃ (v : Value) (zs : List Int) (p' : Nat), e = .returned v ∧ zs.length ≤ 4 ∧ p' ≤ p + 20 ∧ (∃ A b o c, v = .slice A zs.length c ∧ zs.length ≤ c ∧ Row w' w.heap.size w'.heap.size A b o (ints zs)) ∧ RdV w' R p' ∧ w.grownBy w' (some R) := by
  obtain ⟨i0, hi0, hz0, hz1, hz2⟩ := info_parts Try.info3
  have hRlt := hR.lt
  go_enter Try.func59, Try.ntmps59
  go_wp2
  go_loopw [5, 6] (fun v i wr => ∃ (k p' : Nat) (zs : List Int), k ≤ 3 ∧ i = .int .i64 k ∧ zs.length = k ∧ p' ≤ p + 2 * k ∧ wr.ownsRow w.heap.size 3 1 v zs.length (ints zs) ∧ RdV wr R p' ∧ w.grownBy wr (some R)) (fun _ i _ => 3 - (intOf i).toNat)
  case atStart => exact ⟨0, p, [], by omega, rfl, rfl, by omega, own_lit0 w 3, hR.alloc _, World.grownBy_alloc _ _ _⟩
  case round =>
    obtain ⟨k, p', zs, hk, rfl, hzl, hp', hown, hrd, hgr⟩ := hrel
    have HO := Lib.hid hown
    have HRD := Lib.hid hrd
    have HG := Lib.hid hgr
    have hsz := hgr.size
    have HZL := Lib.hid hzl
    clear hown hrd hgr hzl
    by_cases hlt : k < 3
    · go_wp2_with fail
      refine (pick_c R p' 9 wr HRD.out (by omega) (by omega) (by omega)).mono ?_
      rintro e w1 ⟨r1, rfl, hr1, hrd1, hu1⟩
      have HR1 := Lib.hid hrd1
      have HU1 := Lib.hid hu1
      have hs1 := hu1.size
      have HS1 := Lib.hid hs1
      clear hrd1 hu1 hs1
      go_wp2_with fail
      refine (pick_c R (p' + 1) 7 _ (HR1.out.alloc _) (by omega) (by omega) (by omega)).mono ?_
      rintro e w2 ⟨r2, rfl, hr2, hrd2, hu2⟩
      have hr2' := pick_lt hr2 (by omega)
      obtain ⟨x, _, hx⟩ := lit_at w1 [0, 1, -1, 5, 99, -99, (r1 : Int)] 3 r2 (by simp; omega)
      have hc2 : w2.cell? ⟨w1.heap.size, r2, none⟩ = some (.int .i64 x) := (hu2.cell (p := ⟨w1.heap.size, r2, none⟩) (by dsimp only; have := HS1.out; omega)).trans hx
      have HO2 := Lib.hid (own_upd ((own_upd HO.out HU1.out hRlt).alloc _) hu2 hRlt)
      have HG2 := Lib.hid (grown_tr (grown_alloc (grown_tr HG.out (grown_upd HU1.out)) _) (grown_upd hu2))
      have HR2 := Lib.hid hrd2
      have hsz2 : w.heap.size ≤ w2.heap.size := HG2.out.size
      clear hrd2 hu2 hx hr2 hr1
      go_wp2_with (at_builtin; refine wpList_append_own _ rfl _ _ 26 rfl w.heap.size 3 i0 _ 1 8 Try.underlying26 hi0 hz0 hz1 hz2 rfl (by omega) _ zs.length (ints zs) rfl (HO2.out.alloc _) ⟨w2.heap.size, 0, none⟩ 1 1 [.int .i64 x] rfl rfl (one_cell _ _ _) (by intro u hu; simp at hu; subst hu; rfl) (by have := HZL.out; unfold maxLen; omega) (by have := HZL.out; omega) (by simp; omega) ?_; intro v' w3 hown3 hg3 _)
      have HO3 := Lib.hid hown3
      have HG3 := Lib.hid (grown_own (grown_alloc HG2.out _) hg3 (HO2.out.alloc _) (Nat.le_refl _))
      have HR3 := Lib.hid ((HR2.out.alloc _).own hg3 (HO2.out.alloc _) hRlt)
      clear hown3 hg3
      go_wp2
      go_roundw
      case rel => exact ⟨k + 1, p' + 1 + 1, zs ++ [x], by omega, by go_num, by simp [HZL.out], by omega, by have := HO3.out; simpa using this, HR3.out, HG3.out⟩
      case measure => simp [intOf]; omega
    · have hk3 : k = 3 := by omega
      have HK3 := Lib.hid hk3
      clear hk3
      go_wp2_with fail
      refine (pick_c R p' m wr HRD.out (by omega) (by omega) (by omega)).mono ?_
      rintro e w1 ⟨r1, rfl, _, hrd1, hu1⟩
      have HO1 := Lib.hid (own_upd HO.out hu1 hRlt)
      have HG1 := Lib.hid (grown_tr HG.out (grown_upd hu1))
      have HR1 := Lib.hid hrd1
      have hsz1 : w.heap.size ≤ w1.heap.size := HG1.out.size
      clear hrd1 hu1
      by_cases h1 : r1 = 0
      · have h1' : ((r1 : Int) == 0) = true := by simp [h1]
        clear h1
        go_wp2_with fail
        refine (pick_c R (p' + 1) 3 w1 HR1.out (by omega) (by omega) (by omega)).mono ?_
        rintro e w2 ⟨r2, rfl, _, hrd2, hu2⟩
        have HO2 := Lib.hid (own_upd HO1.out hu2 hRlt)
        have HG2 := Lib.hid (grown_tr HG1.out (grown_upd hu2))
        have HR2 := Lib.hid hrd2
        have hsz2 : w.heap.size ≤ w2.heap.size := HG2.out.size
        clear hrd2 hu2
        by_cases h2 : r2 = 0
        · have h2' : ((r2 : Int) == 0) = true := by simp [h2]
          clear h2
          go_wp2_with fail
          refine (pick_c R (p' + 1 + 1) 3 w2 HR2.out (by omega) (by omega) (by omega)).mono ?_
          rintro e w3 ⟨r3, rfl, hr3, hrd3, hu3⟩
          have HO3 := Lib.hid (own_upd HO2.out hu3 hRlt)
          have HG3 := Lib.hid (grown_tr HG2.out (grown_upd hu3))
          have HR3 := Lib.hid hrd3
          have hsz3 : w.heap.size ≤ w3.heap.size := HG3.out.size
          have hr3' := pick_lt hr3 (by omega)
          clear hrd3 hu3 hr3
          go_wp2_with fail
          refine (pick_c R (p' + 1 + 1 + 1) 4 _ (HR3.out.alloc _) (by omega) (by omega) (by omega)).mono ?_
          rintro e w4 ⟨r4, rfl, hr4, hrd4, hu4⟩
          have hr4' := pick_lt hr4 (by omega)
          obtain ⟨x, _, hx⟩ := lit_at w3 [100, -100, 9223372036854775807, -9223372036854775808] 3 r4 (by simp; omega)
          have hc4 : w4.cell? ⟨w3.heap.size, r4, none⟩ = some (.int .i64 x) := (hu4.cell (p := ⟨w3.heap.size, r4, none⟩) (by dsimp only; omega)).trans hx
          have HO4 := Lib.hid (own_upd (HO3.out.alloc _) hu4 hRlt)
          have HG4 := Lib.hid (grown_tr (grown_alloc HG3.out _) (grown_upd hu4))
          have HR4 := Lib.hid hrd4
          have hsz4 : w.heap.size ≤ w4.heap.size := HG4.out.size
          clear hrd4 hu4 hx hr4
          obtain ⟨g, cc, rfl⟩ : ∃ g c, u5 = .slice (some ⟨g, 0, none⟩) zs.length c := by
            obtain ⟨g, c, hv, _⟩ := Made.len (zs := zs) (v := u5) HO4.out (by have := HZL.out; have := HK3.out; omega)
            exact ⟨g, c, hv⟩
          have hgB : w.heap.size ≤ g := (HO4.out.lt g rfl).1
          have hz3 : (r3 : Int) < (zs.length : Int) := by have := HZL.out; have := HK3.out; omega
          obtain ⟨y, hy⟩ : ∃ y, zs[r3]? = some y := ⟨_, List.getElem?_eq_getElem (by omega)⟩
          have hcy : w4.cell? ⟨g, r3, none⟩ = some (.int .i64 y) := by rw [HO4.out.cellAt r3 (by omega)]; exact ints_at hy
          have hfy := HO4.out.frozenAt r3
          have HS := Lib.hid (HO4.out.stored r3 (.int .i64 x))
          clear hy
          go_wp2
          go_ret
          refine ⟨_, zs.set r3 x, p' + 1 + 1 + 1 + 1, rfl, by have := HZL.out; simp; omega, by omega, ?_, RdV.own (v := .slice (some ⟨g, 0, none⟩) zs.length cc) HR4.out HS.out.2 HO4.out hRlt, grown_own (v := .slice (some ⟨g, 0, none⟩) zs.length cc) HG4.out HS.out.2 HO4.out (Nat.le_refl _)⟩
          have h := HS.out.1
          refine draw_row (by simpa [ints, List.map_set] using h)
        · have h2' : ((r2 : Int) == 0) = false := by simp [h2]
          clear h2
          by_cases h3 : r2 = 1
          · have h3' : ((r2 : Int) == 1) = true := by simp [h3]
            clear h3
            obtain ⟨g, cc, rfl⟩ : ∃ g c, u5 = .slice (some ⟨g, 0, none⟩) zs.length c := by
              obtain ⟨g, c, hv, _⟩ := Made.len (zs := zs) (v := u5) HO2.out (by have := HZL.out; have := HK3.out; omega)
              exact ⟨g, c, hv⟩
            have hz3 : (1 : Int) < (zs.length : Int) := by have := HZL.out; have := HK3.out; omega
            have hcc : zs.length ≤ cc := by
              rcases HO2.out.2 with ⟨hv, _⟩ | ⟨g', cap, cur, hv, _, _, hn, _⟩
              · cases hv
              · injection hv with _ _ hv; omega
            have hcc' : (zs.length : Int) ≤ (cc : Int) := by omega
            go_wp2
            go_ret
            have hlo := HO2.out.lt g rfl
            refine ⟨.slice (some ⟨g, 1, none⟩) (zs.length - 1) (cc - 1), zs.tail, p' + 1 + 1, rfl, by have := HZL.out; simp; omega, by omega, ⟨some ⟨g, 1, none⟩, g, 1, cc - 1, by simp, by simp; omega, fun _ => ⟨rfl, hlo.1, hlo.2⟩, fun j u hu => ⟨?_, HO2.out.frozenAt _⟩⟩, HR2.out, HG2.out⟩
            have hj := lt_of_some hu
            simp at hj
            rw [HO2.out.cellAt (1 + j) (by omega), ← hu]
            simp [ints, List.map_tail, List.getElem?_tail, Nat.add_comm]
          · have h3' : ((r2 : Int) == 1) = false := by simp; omega
            clear h3
            go_wp2_with (at_builtin; refine wpList_append_own _ rfl _ _ 26 rfl w.heap.size 3 i0 _ 1 8 Try.underlying26 hi0 hz0 hz1 hz2 rfl (by omega) _ zs.length (ints zs) rfl (HO2.out.alloc _) ⟨w2.heap.size, 0, none⟩ 1 1 [.int .i64 0] rfl rfl (one_cell _ _ _) (by intro u hu; simp at hu; subst hu; rfl) (by have := HZL.out; unfold maxLen; omega) (by have := HZL.out; omega) (by simp; omega) ?_; intro v' w3 hown3 hg3 _)
            have HO3 := Lib.hid hown3
            have HG3 := Lib.hid (grown_own (grown_alloc HG2.out _) hg3 (HO2.out.alloc _) (Nat.le_refl _))
            have HR3 := Lib.hid ((HR2.out.alloc _).own hg3 (HO2.out.alloc _) hRlt)
            clear hown3 hg3
            go_wp2
            go_ret
            exact ⟨_, zs ++ [0], p' + 1 + 1, rfl, by have := HZL.out; simp; omega, by omega, draw_row (by have := HO3.out; simpa using this), HR3.out, HG3.out⟩
      · have h1' : ((r1 : Int) == 0) = false := by simp [h1]
        clear h1
        go_wp2
        go_ret
        exact ⟨_, zs, p' + 1, rfl, by have := HZL.out; omega, by omega, draw_row HO1.out, HR1.out, HG1.out⟩
end Go.Proofs.Ytoggdhbnkbdilaa
