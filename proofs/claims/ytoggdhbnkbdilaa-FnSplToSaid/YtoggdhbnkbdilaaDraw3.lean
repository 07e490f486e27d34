/- Draws of marks. -/
import Derived.Test.YtoggdhbnkbdilaaDraw2
namespace Go.Proofs.Ytoggdhbnkbdilaa
open Go.RowKit
set_option linter.unusedVariables false
set_option linter.unusedSimpArgs false

def MarksInv (w : World) (R p q P d : Nat) (v : Value) (wc : World) : Prop := ∃ (zs : List Int) (p' : Nat), wc.ownsRow w.heap.size 3 1 v zs.length (ints zs) ∧ P ≤ zs.length ∧ zs.length ≤ P + d ∧ (∀ x ∈ zs, -1 ≤ x ∧ x ≤ 5) ∧ p' ≤ p + q ∧ RdV wc R p' ∧ w.grownBy wc (some R)
theorem mem_set_bound {zs : List Int} {k : Nat} {y : Int} (h : ∀ x ∈ zs, -1 ≤ x ∧ x ≤ 5) (hy : -1 ≤ y ∧ y ≤ 5) : ∀ x ∈ zs.set k y, -1 ≤ x ∧ x ≤ 5 := by
  intro x hx
  rcases List.mem_or_eq_of_mem_set hx with h1 | rfl
  · exact h x h1
  · exact hy
theorem own_form {w : World} {base n : Nat} {e : TypeId} {v : Value} {xs : List Value} (h : w.ownsRow base e 1 v n xs) (hn : 0 < n) : ∃ g c, v = .slice (some ⟨g, 0, none⟩) n c ∧ base ≤ g ∧ g < w.heap.size ∧ n ≤ c := by
  rcases h.2 with ⟨_, h0⟩ | ⟨g, cap, cur, rfl, hg, hh, hc, _⟩
  · omega
  · exact ⟨g, cap, rfl, hg, (h.lt g rfl).2, hc⟩

set_option maxHeartbeats 600000 in
set_option maxRecDepth 20000 in
theorem l20Marks_c (R p P : Nat) (m : Int) (w : World) (hR : RdV w R p) (hp : p ≤ 900000) (hP : P ≤ 64) (hm : m ≤ 1000000) (hm0 : -1000000 ≤ m) :
    Calls Try.prog 44 #[.pointer (some ⟨R, 0, none⟩), .int .i64 (P : Int), .int .i64 m] w fun e w' => ∃ (v : Value) (zs : List Int) (p' : Nat), e = .returned v ∧ zs.length ≤ P + 1 ∧ (∀ x ∈ zs, -1 ≤ x ∧ x ≤ 5) ∧ p' ≤ p + 100 ∧ (∃ A b o c, v = .slice A zs.length c ∧ zs.length ≤ c ∧ Row w' w.heap.size w'.heap.size A b o (ints zs)) ∧ RdV w' R p' ∧ w.grownBy w' (some R) := by
  obtain ⟨i0, hi0, hz0, hz1, hz2⟩ := info_parts Try.info3
  have hRlt := hR.lt
  go_enter Try.func44, Try.ntmps44
  go_wp2
  go_loopw [7, 8] (fun v i wr => ∃ (k p' : Nat) (zs : List Int), k ≤ P ∧ i = .int .i64 k ∧ zs.length = k ∧ (∀ x ∈ zs, -1 ≤ x ∧ x ≤ 5) ∧ p' ≤ p + k ∧ wr.ownsRow w.heap.size 3 1 v zs.length (ints zs) ∧ RdV wr R p' ∧ w.grownBy wr (some R)) (fun _ i _ => P - (intOf i).toNat)
  case atStart => exact ⟨0, p, [], by omega, rfl, rfl, by simp, by omega, own_lit0 w 3, hR.alloc _, World.grownBy_alloc _ _ _⟩
  case round =>
    obtain ⟨k, p', zs, hk, rfl, hzl, hzb, hp', hown, hrd, hgr⟩ := hrel
    have HO := Lib.hid hown
    have HRD := Lib.hid hrd
    have HG := Lib.hid hgr
    have hsz := hgr.size
    have HZL := Lib.hid hzl
    have HZB := Lib.hid hzb
    clear hown hrd hgr hzl hzb
    by_cases hlt : k < P
    · go_wp2_with fail
      refine (pick_c R p' 6 _ (HRD.out.alloc _) (by omega) (by omega) (by omega)).mono ?_
      rintro e w2 ⟨r2, rfl, hr2, hrd2, hu2⟩
      have hr2' := pick_lt hr2 (by omega)
      obtain ⟨x, hx0, hx⟩ := lit_at wr [0, 0, 1, 1, 2, 4] 3 r2 (by simp; omega)
      have hxb : -1 ≤ x ∧ x ≤ 5 := by
        have := List.mem_of_getElem? hx0
        simp at this; omega
      have hc2 : w2.cell? ⟨wr.heap.size, r2, none⟩ = some (.int .i64 x) := (hu2.cell (p := ⟨wr.heap.size, r2, none⟩) (by dsimp only; omega)).trans hx
      have HO2 := Lib.hid (own_upd (HO.out.alloc _) hu2 hRlt)
      have HG2 := Lib.hid (grown_tr (grown_alloc HG.out _) (grown_upd hu2))
      have HR2 := Lib.hid hrd2
      have hsz2 : w.heap.size ≤ w2.heap.size := HG2.out.size
      have HXB := Lib.hid hxb
      clear hrd2 hu2 hx hr2 hx0 hxb
      go_wp2_with (at_builtin; refine wpList_append_own _ rfl _ _ 26 rfl w.heap.size 3 i0 _ 1 8 Try.underlying26 hi0 hz0 hz1 hz2 rfl (by omega) _ zs.length (ints zs) rfl (HO2.out.alloc _) ⟨w2.heap.size, 0, none⟩ 1 1 [.int .i64 x] rfl rfl (one_cell _ _ _) (by intro u hu; simp at hu; subst hu; rfl) (by have := HZL.out; unfold maxLen; omega) (by have := HZL.out; omega) (by simp; omega) ?_; intro v' w3 hown3 hg3 _)
      have HO3 := Lib.hid hown3
      have HG3 := Lib.hid (grown_own (grown_alloc HG2.out _) hg3 (HO2.out.alloc _) (Nat.le_refl _))
      have HR3 := Lib.hid ((HR2.out.alloc _).own hg3 (HO2.out.alloc _) hRlt)
      clear hown3 hg3
      go_wp2
      go_roundw
      case rel => exact ⟨k + 1, p' + 1, zs ++ [x], by omega, by go_num, by simp [HZL.out], by
        intro y hy
        rcases List.mem_append.1 hy with h | h
        · exact HZB.out y h
        · simp at h; rw [h]; exact HXB.out, by omega, by have := HO3.out; simpa using this, HR3.out, HG3.out⟩
      case measure => simp [intOf]; omega
    · have hkP : k = P := by omega
      have HKP := Lib.hid hkP
      clear hkP
      by_cases hP1 : 1 < P
      · have hP1' : (1 : Int) < (P : Int) := by omega
        go_upto_if 29 with (first
          | (go_at_call 58; refine (pick_c R p' 4 _ HRD.out (by omega) (by omega) (by omega)).mono ?_; rintro e w1 ⟨r1, rfl, hr1, hrd1, hu1⟩))
        have HO1 := Lib.hid (own_upd HO.out hu1 hRlt)
        have HG1 := Lib.hid (grown_tr HG.out (grown_upd hu1))
        have HR1 := Lib.hid hrd1
        have hsz1 : w.heap.size ≤ w1.heap.size := HG1.out.size
        clear hrd1 hu1 hr1
        go_cut [7] (fun s7 wc => MarksInv w R p 70 P 0 s7 wc)
        case first =>
          by_cases h1 : 0 < r1
          · have h1' : (0 : Int) < (r1 : Int) := by omega
            obtain ⟨g, cc, rfl, hg1, hg2, hcc⟩ := own_form HO1.out (by have := HZL.out; have := HKP.out; omega)
            have hz3 : (1 : Int) < (zs.length : Int) := by have := HZL.out; have := HKP.out; omega
            obtain ⟨y, hy⟩ : ∃ y, zs[1]? = some y := ⟨_, List.getElem?_eq_getElem (by omega)⟩
            have hcy : w1.cell? ⟨g, 1, none⟩ = some (.int .i64 y) := by rw [HO1.out.cellAt 1 (by omega)]; exact ints_at hy
            have hfy := HO1.out.frozenAt 1
            have HS := Lib.hid (HO1.out.stored 1 (.int .i64 0))
            clear hy
            go_wp2
            go_meet
            exact ⟨zs.set 1 0, p' + 1, by have := HS.out.1; simpa [ints, List.map_set] using this, by simp; have := HZL.out; have := HKP.out; omega, by simp; have := HZL.out; have := HKP.out; omega, mem_set_bound HZB.out (by omega), by omega, RdV.own (v := .slice (some ⟨g, 0, none⟩) zs.length cc) HR1.out HS.out.2 HO1.out hRlt, grown_own (v := .slice (some ⟨g, 0, none⟩) zs.length cc) HG1.out HS.out.2 HO1.out (Nat.le_refl _)⟩
          · have h1' : ¬ ((0 : Int) < (r1 : Int)) := by omega
            go_wp2
            go_meet
            exact ⟨zs, p' + 1, HO1.out, by have := HZL.out; have := HKP.out; omega, by have := HZL.out; have := HKP.out; omega, HZB.out, by omega, HR1.out, HG1.out⟩
        case rest =>
          clear HO HRD HG HZB HZL HKP hsz hp' hlt
          obtain ⟨zs, p1, hown, hz1', hz2', hzb, hp1, hrd, hgr⟩ := hcut
          have HO := Lib.hid hown
          have HR := Lib.hid hrd
          have HG := Lib.hid hgr
          have HZB := Lib.hid hzb
          have hsz := hgr.size
          clear hown hrd hgr hzb
          go_upto_if 35 with (first
            | (go_at_call 58; refine (pick_c R p1 m _ HR.out (by omega) (by omega) (by omega)).mono ?_; rintro e w2 ⟨r6, rfl, hr6, hrd2, hu2⟩))
          have HO2 := Lib.hid (own_upd HO.out hu2 hRlt)
          have HG2 := Lib.hid (grown_tr HG.out (grown_upd hu2))
          have HR2 := Lib.hid hrd2
          have hsz2 : w.heap.size ≤ w2.heap.size := HG2.out.size
          clear hrd2 hu2 hr6
          go_cut [7] (fun s7 wc => MarksInv w R p 90 P 1 s7 wc)
          case first =>
            by_cases h6 : r6 = 0
            · have h6' : ((r6 : Int) == 0) = true := by simp [h6]
              clear h6
              go_wp2_with fail
              refine (pick_c R (p1 + 1) 2 _ HR2.out (by omega) (by omega) (by omega)).mono ?_
              rintro e w3 ⟨r7, rfl, _, hrd3, hu3⟩
              have HO3 := Lib.hid (own_upd HO2.out hu3 hRlt)
              have HG3 := Lib.hid (grown_tr HG2.out (grown_upd hu3))
              have HR3 := Lib.hid hrd3
              have hsz3 : w.heap.size ≤ w3.heap.size := HG3.out.size
              clear hrd3 hu3
              by_cases h7 : r7 = 0
              · have h7' : ((r7 : Int) == 0) = true := by simp [h7]
                clear h7
                by_cases h7b : 0 < P
                · have h7c : (0 : Int) < (P : Int) := by omega
                  go_wp2_with fail
                  refine (pick_c R (p1 + 1 + 1) P _ HR3.out (by omega) (by omega) (by omega)).mono ?_
                  rintro e w4 ⟨r8, rfl, hr8, hrd4, hu4⟩
                  have HO4 := Lib.hid (own_upd HO3.out hu4 hRlt)
                  have HG4 := Lib.hid (grown_tr HG3.out (grown_upd hu4))
                  have HR4 := Lib.hid hrd4
                  have hsz4 : w.heap.size ≤ w4.heap.size := HG4.out.size
                  have hr8' : (r8 : Int) < (P : Int) := pick_lt hr8 h7c
                  clear hrd4 hu4 hr8
                  go_wp2_with fail
                  refine (pick_c R (p1 + 1 + 1 + 1) 2 _ (HR4.out.alloc _) (by omega) (by omega) (by omega)).mono ?_
                  rintro e w5 ⟨r9, rfl, hr9, hrd5, hu5⟩
                  have hr9' := pick_lt hr9 (by omega)
                  obtain ⟨x, hx0, hx⟩ := lit_at w4 [-1, 5] 3 r9 (by simp; omega)
                  have hxb : -1 ≤ x ∧ x ≤ 5 := by
                    have := List.mem_of_getElem? hx0
                    simp at this; omega
                  have hc5 : w5.cell? ⟨w4.heap.size, r9, none⟩ = some (.int .i64 x) := (hu5.cell (p := ⟨w4.heap.size, r9, none⟩) (by dsimp only; omega)).trans hx
                  have HO5 := Lib.hid (own_upd (HO4.out.alloc _) hu5 hRlt)
                  have HG5 := Lib.hid (grown_tr (grown_alloc HG4.out _) (grown_upd hu5))
                  have HR5 := Lib.hid hrd5
                  have HXB := Lib.hid hxb
                  clear hrd5 hu5 hr9 hx hx0 hxb
                  obtain ⟨g, cc, rfl, hg1, hg2, hcc⟩ := own_form HO5.out (by omega)
                  have hz3 : (r8 : Int) < (zs.length : Int) := by omega
                  obtain ⟨y, hy⟩ : ∃ y, zs[r8]? = some y := ⟨_, List.getElem?_eq_getElem (by omega)⟩
                  have hcy : w5.cell? ⟨g, r8, none⟩ = some (.int .i64 y) := by rw [HO5.out.cellAt r8 (by omega)]; exact ints_at hy
                  have hfy := HO5.out.frozenAt r8
                  have HS := Lib.hid (HO5.out.stored r8 (.int .i64 x))
                  clear hy
                  go_wp2
                  go_meet
                  exact ⟨zs.set r8 x, p1 + 1 + 1 + 1 + 1, by have := HS.out.1; simpa [ints, List.map_set] using this, by simp; omega, by simp; omega, mem_set_bound HZB.out HXB.out, by omega, RdV.own (v := .slice (some ⟨g, 0, none⟩) zs.length cc) HR5.out HS.out.2 HO5.out hRlt, grown_own (v := .slice (some ⟨g, 0, none⟩) zs.length cc) HG5.out HS.out.2 HO5.out (Nat.le_refl _)⟩
                · exfalso; omega
              · have h7' : ((r7 : Int) == 0) = false := by simp [h7]
                clear h7
                go_wp2_with (at_builtin; refine wpList_append_own _ rfl _ _ 26 rfl w.heap.size 3 i0 _ 1 8 Try.underlying26 hi0 hz0 hz1 hz2 rfl (by omega) _ zs.length (ints zs) rfl (HO3.out.alloc _) ⟨w3.heap.size, 0, none⟩ 1 1 [.int .i64 0] rfl rfl (one_cell _ _ _) (by intro u hu; simp at hu; subst hu; rfl) (by unfold maxLen; omega) (by omega) (by simp; omega) ?_; intro v' w4 hown4 hg4 _)
                have HO4 := Lib.hid hown4
                have HG4 := Lib.hid (grown_own (grown_alloc HG3.out _) hg4 (HO3.out.alloc _) (Nat.le_refl _))
                have HR4 := Lib.hid ((HR3.out.alloc _).own hg4 (HO3.out.alloc _) hRlt)
                clear hown4 hg4
                go_wp2
                go_meet
                exact ⟨zs ++ [0], p1 + 1 + 1, by have := HO4.out; simpa using this, by simp; omega, by simp; omega, by
                  intro y hy
                  rcases List.mem_append.1 hy with h | h
                  · exact HZB.out y h
                  · simp at h; omega, by omega, HR4.out, HG4.out⟩
            · have h6' : ((r6 : Int) == 0) = false := by simp [h6]
              clear h6
              go_wp2
              go_meet
              exact ⟨zs, p1 + 1, HO2.out, hz1', by omega, HZB.out, by omega, HR2.out, HG2.out⟩
          case rest =>
            clear HO2 HR2 HG2 HO HR HG HZB hsz hsz2 hp1 hz1' hz2'
            obtain ⟨zs, p1, hown, hz1', hz2', hzb, hp1, hrd, hgr⟩ := hcut
            have HO := Lib.hid hown
            have HR := Lib.hid hrd
            have HG := Lib.hid hgr
            have HZB := Lib.hid hzb
            clear hown hrd hgr hzb
            go_wp2
            go_ret
            exact ⟨_, zs, p1, rfl, hz2', HZB.out, by omega, draw_row HO.out, HR.out, HG.out⟩
      · have hP1' : ¬ ((1 : Int) < (P : Int)) := by omega
        go_upto_if 29 with fail
        go_cut [7] (fun s7 wc => MarksInv w R p 70 P 0 s7 wc)
        case first =>
          go_wp2
          go_meet
          exact ⟨zs, p', HO.out, by have := HZL.out; have := HKP.out; omega, by have := HZL.out; have := HKP.out; omega, HZB.out, by omega, HRD.out, HG.out⟩
        case rest =>
          clear HO HRD HG HZB HZL HKP hsz hp' hlt
          obtain ⟨zs, p1, hown, hz1', hz2', hzb, hp1, hrd, hgr⟩ := hcut
          have HO := Lib.hid hown
          have HR := Lib.hid hrd
          have HG := Lib.hid hgr
          have HZB := Lib.hid hzb
          have hsz := hgr.size
          clear hown hrd hgr hzb
          go_upto_if 35 with (first
            | (go_at_call 58; refine (pick_c R p1 m _ HR.out (by omega) (by omega) (by omega)).mono ?_; rintro e w2 ⟨r6, rfl, hr6, hrd2, hu2⟩))
          have HO2 := Lib.hid (own_upd HO.out hu2 hRlt)
          have HG2 := Lib.hid (grown_tr HG.out (grown_upd hu2))
          have HR2 := Lib.hid hrd2
          have hsz2 : w.heap.size ≤ w2.heap.size := HG2.out.size
          clear hrd2 hu2 hr6
          go_cut [7] (fun s7 wc => MarksInv w R p 90 P 1 s7 wc)
          case first =>
            by_cases h6 : r6 = 0
            · have h6' : ((r6 : Int) == 0) = true := by simp [h6]
              clear h6
              go_wp2_with fail
              refine (pick_c R (p1 + 1) 2 _ HR2.out (by omega) (by omega) (by omega)).mono ?_
              rintro e w3 ⟨r7, rfl, _, hrd3, hu3⟩
              have HO3 := Lib.hid (own_upd HO2.out hu3 hRlt)
              have HG3 := Lib.hid (grown_tr HG2.out (grown_upd hu3))
              have HR3 := Lib.hid hrd3
              have hsz3 : w.heap.size ≤ w3.heap.size := HG3.out.size
              clear hrd3 hu3
              by_cases h7 : r7 = 0
              · have h7' : ((r7 : Int) == 0) = true := by simp [h7]
                clear h7
                by_cases h7b : 0 < P
                · have h7c : (0 : Int) < (P : Int) := by omega
                  go_wp2_with fail
                  refine (pick_c R (p1 + 1 + 1) P _ HR3.out (by omega) (by omega) (by omega)).mono ?_
                  rintro e w4 ⟨r8, rfl, hr8, hrd4, hu4⟩
                  have HO4 := Lib.hid (own_upd HO3.out hu4 hRlt)
                  have HG4 := Lib.hid (grown_tr HG3.out (grown_upd hu4))
                  have HR4 := Lib.hid hrd4
                  have hsz4 : w.heap.size ≤ w4.heap.size := HG4.out.size
                  have hr8' : (r8 : Int) < (P : Int) := pick_lt hr8 h7c
                  clear hrd4 hu4 hr8
                  go_wp2_with fail
                  refine (pick_c R (p1 + 1 + 1 + 1) 2 _ (HR4.out.alloc _) (by omega) (by omega) (by omega)).mono ?_
                  rintro e w5 ⟨r9, rfl, hr9, hrd5, hu5⟩
                  have hr9' := pick_lt hr9 (by omega)
                  obtain ⟨x, hx0, hx⟩ := lit_at w4 [-1, 5] 3 r9 (by simp; omega)
                  have hxb : -1 ≤ x ∧ x ≤ 5 := by
                    have := List.mem_of_getElem? hx0
                    simp at this; omega
                  have hc5 : w5.cell? ⟨w4.heap.size, r9, none⟩ = some (.int .i64 x) := (hu5.cell (p := ⟨w4.heap.size, r9, none⟩) (by dsimp only; omega)).trans hx
                  have HO5 := Lib.hid (own_upd (HO4.out.alloc _) hu5 hRlt)
                  have HG5 := Lib.hid (grown_tr (grown_alloc HG4.out _) (grown_upd hu5))
                  have HR5 := Lib.hid hrd5
                  have HXB := Lib.hid hxb
                  clear hrd5 hu5 hr9 hx hx0 hxb
                  obtain ⟨g, cc, rfl, hg1, hg2, hcc⟩ := own_form HO5.out (by omega)
                  have hz3 : (r8 : Int) < (zs.length : Int) := by omega
                  obtain ⟨y, hy⟩ : ∃ y, zs[r8]? = some y := ⟨_, List.getElem?_eq_getElem (by omega)⟩
                  have hcy : w5.cell? ⟨g, r8, none⟩ = some (.int .i64 y) := by rw [HO5.out.cellAt r8 (by omega)]; exact ints_at hy
                  have hfy := HO5.out.frozenAt r8
                  have HS := Lib.hid (HO5.out.stored r8 (.int .i64 x))
                  clear hy
                  go_wp2
                  go_meet
                  exact ⟨zs.set r8 x, p1 + 1 + 1 + 1 + 1, by have := HS.out.1; simpa [ints, List.map_set] using this, by simp; omega, by simp; omega, mem_set_bound HZB.out HXB.out, by omega, RdV.own (v := .slice (some ⟨g, 0, none⟩) zs.length cc) HR5.out HS.out.2 HO5.out hRlt, grown_own (v := .slice (some ⟨g, 0, none⟩) zs.length cc) HG5.out HS.out.2 HO5.out (Nat.le_refl _)⟩
                · have h9' : ¬ ((0 : Int) < (P : Int)) := by omega
                  go_wp2_with (at_builtin; refine wpList_append_own _ rfl _ _ 26 rfl w.heap.size 3 i0 _ 1 8 Try.underlying26 hi0 hz0 hz1 hz2 rfl (by omega) _ zs.length (ints zs) rfl (HO3.out.alloc _) ⟨w3.heap.size, 0, none⟩ 1 1 [.int .i64 0] rfl rfl (one_cell _ _ _) (by intro u hu; simp at hu; subst hu; rfl) (by unfold maxLen; omega) (by omega) (by simp; omega) ?_; intro v' w4 hown4 hg4 _)
                  have HO4 := Lib.hid hown4
                  have HG4 := Lib.hid (grown_own (grown_alloc HG3.out _) hg4 (HO3.out.alloc _) (Nat.le_refl _))
                  have HR4 := Lib.hid ((HR3.out.alloc _).own hg4 (HO3.out.alloc _) hRlt)
                  clear hown4 hg4
                  go_wp2
                  go_meet
                  exact ⟨zs ++ [0], p1 + 1 + 1, by have := HO4.out; simpa using this, by simp; omega, by simp; omega, by
                    intro y hy
                    rcases List.mem_append.1 hy with h | h
                    · exact HZB.out y h
                    · simp at h; omega, by omega, HR4.out, HG4.out⟩
              · have h7' : ((r7 : Int) == 0) = false := by simp [h7]
                clear h7
                go_wp2_with (at_builtin; refine wpList_append_own _ rfl _ _ 26 rfl w.heap.size 3 i0 _ 1 8 Try.underlying26 hi0 hz0 hz1 hz2 rfl (by omega) _ zs.length (ints zs) rfl (HO3.out.alloc _) ⟨w3.heap.size, 0, none⟩ 1 1 [.int .i64 0] rfl rfl (one_cell _ _ _) (by intro u hu; simp at hu; subst hu; rfl) (by unfold maxLen; omega) (by omega) (by simp; omega) ?_; intro v' w4 hown4 hg4 _)
                have HO4 := Lib.hid hown4
                have HG4 := Lib.hid (grown_own (grown_alloc HG3.out _) hg4 (HO3.out.alloc _) (Nat.le_refl _))
                have HR4 := Lib.hid ((HR3.out.alloc _).own hg4 (HO3.out.alloc _) hRlt)
                clear hown4 hg4
                go_wp2
                go_meet
                exact ⟨zs ++ [0], p1 + 1 + 1, by have := HO4.out; simpa using this, by simp; omega, by simp; omega, by
                  intro y hy
                  rcases List.mem_append.1 hy with h | h
                  · exact HZB.out y h
                  · simp at h; omega, by omega, HR4.out, HG4.out⟩
            · have h6' : ((r6 : Int) == 0) = false := by simp [h6]
              clear h6
              go_wp2
              go_meet
              exact ⟨zs, p1 + 1, HO2.out, hz1', by omega, HZB.out, by omega, HR2.out, HG2.out⟩
          case rest =>
            clear HO2 HR2 HG2 HO HR HG HZB hsz hsz2 hp1 hz1' hz2'
            obtain ⟨zs, p1, hown, hz1', hz2', hzb, hp1, hrd, hgr⟩ := hcut
            have HO := Lib.hid hown
            have HR := Lib.hid hrd
            have HG := Lib.hid hgr
            have HZB := Lib.hid hzb
            clear hown hrd hgr hzb
            go_wp2
            go_ret
            exact ⟨_, zs, p1, rfl, hz2', HZB.out, by omega, draw_row HO.out, HR.out, HG.out⟩
end Go.Proofs.Ytoggdhbnkbdilaa
