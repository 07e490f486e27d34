/- The draw of any net (l20AnyNet): one in so many with something wrong. -/
import Derived.Test.YtkcbghaadjhceaaAnyP
import Derived.Test.YtkcbghaadjhceaaDNet
import Derived.Test.YtkcbghaadjhceaaMore
import Derived.Deep.DeepCutAuto
import Derived.Deep.CutBlock
namespace Go.Proofs.Ytkcbghaadjhceaa
open Go.RowKit
set_option linter.unusedVariables false
set_option linter.unusedSimpArgs false

set_option maxHeartbeats 4000000 in
set_option maxRecDepth 100000 in
theorem l20AnyNet_c (R p : Nat) (q : Int) (w : World) (hR : RdV w R p) (hp : p ≤ 680000) (hq : q ≤ 1000000) (hq0 : -1000000 ≤ q) :
    Calls Try.prog 41 #[.pointer (some ⟨R, 0, none⟩), .int .i64 q] w fun e w' => NetOutQ w R (p + 2200) Small e w' := by
  have hRlt := hR.lt
  obtain ⟨i0, hi0, hz0, hz1, hz2⟩ := info_parts Try.info3
  obtain ⟨iF, hiF, hzF0, hzF1, hzF2⟩ := info_parts Try.infoFlow
  go_enter Try.func41, Try.ntmps41
  go_wp2_with fail
  refine (l20Net_c R p _ (hR.alloc _) (by omega)).mono ?_
  rintro e w1 ⟨P, b, k, c, n, p1, rfl, hok, hp1, hfn, hrd1, hg1⟩
  have hsz : (w.alloc (.cells #[.int .i64 0, .slice none 0 0] 25)).heap.size = w.heap.size + 1 := by simp
  have hs1 := hg1.size
  rw [hsz] at hs1
  have hrb := (Blk.new_ w 25 #[.int .i64 0, .slice none 0 0]).grown hg1 (by omega)
  have hfa := (hfn.alloc (Nat.le_refl _) (.cells #[.int .i64 P, .slice (some ⟨b, 0, none⟩) k c] 25))
  rw [hsz] at hfa
  have H1 : Hid (AnD w R p1 w1.heap.size P b k c n (w1.alloc (.cells #[.int .i64 P, .slice (some ⟨b, 0, none⟩) k c] 25))) :=
    Lib.hid ⟨hrd1.alloc _, grown_alloc (grown_tr (World.grownBy_alloc w _ (some R)) hg1) _, hrb.alloc _, Blk.new_ _ _ _, hfa, by omega, by simp, hRlt⟩
  clear hfn hrd1 hg1 hrb hfa hsz
  have hk : 1 ≤ k ∧ k ≤ 6 := by
    obtain ⟨_, _, h3, h4, _⟩ := netOk_parts hok
    obtain ⟨_, h5, _⟩ := H1.out.bnd
    omega
  have hk1 := hk.1
  have hk6 := hk.2
  clear hk
  have HOK := Lib.hid hok
  clear hok
  generalize hNN : w1.heap.size = N at H1 hs1
  go_wp2_with fail
  refine (pick_c R p1 q _ H1.out.rd (by omega) (by omega) (by omega)).mono ?_
  rintro e w2 ⟨r2, rfl, hr2, hrd2, hu2⟩
  have H2 := Lib.hid (H1.out.upd hu2 hrd2)
  clear hrd2 hu2 hr2 H1 hNN
  by_cases h2 : 0 < r2
  · have h2' : (0 : Int) < (r2 : Int) := by omega
    clear h2
    obtain ⟨⟨hb0, hb1, hf0, hf1⟩, hc0, hc1, _, _⟩ := H2.out.nt.facts
    have hN0 := H2.out.hN
    go_wp2
    refine bodyPost_ret (v := .agg #[.int .i64 P, .slice (some ⟨b, 0, none⟩) k c]) (by simp [results, Try.results41, go_sem, hb0, hb1]) rfl ?_
    have HF := H2.out.nt.fin
    exact NetOutQ.of _ _ _ _ _ _ (small_ok HOK.out) (by omega) HF.1 HF.2.1 HF.2.2
  · have h2' : ¬ ((0 : Int) < (r2 : Int)) := by omega
    clear h2
    go_wp2_with fail
    refine (pick_c R (p1 + 1) 6 _ H2.out.rd (by omega) (by omega) (by omega)).mono ?_
    rintro e w3 ⟨r3, rfl, hr3, hrd3, hu3⟩
    have H3 := Lib.hid (H2.out.upd hu3 hrd3)
    clear hrd3 hu3 hr3 H2
    by_cases h3 : r3 = 0
    · have h3' : ((r3 : Int) == 0) = true := by simp [h3]
      clear h3
      go_wp2_with fail
      refine (pick_c R (p1 + 1 + 1) 3 _ (H3.out.alloc _).rd (by omega) (by omega) (by omega)).mono ?_
      rintro e w4 ⟨r4, rfl, hr4, hrd4, hu4⟩
      have hr4' := pick_lt hr4 (by omega)
      obtain ⟨x, hx0, hx⟩ := lit_at w3 [1, 2, 9] 3 r4 (by simp; omega)
      have hxb : 0 ≤ x ∧ x ≤ 9 := by
        have := List.mem_of_getElem? hx0
        simp at this; omega
      have hl3 := H3.out.lt
      have hR3 := H3.out.hR
      have hN3 := H3.out.hN
      have hc4 : w4.cell? ⟨w3.heap.size, r4, none⟩ = some (.int .i64 x) := (hu4.cell (p := ⟨w3.heap.size, r4, none⟩) (by dsimp only; omega)).trans hx
      have H4 := Lib.hid ((H3.out.alloc _).upd hu4 hrd4)
      clear hrd4 hu4 hr4 hx hx0 H3 hl3 hR3
      obtain ⟨⟨hb0, hb1, hf0, hf1⟩, hc0, hc1, hg0, _⟩ := H4.out.nt.facts
      go_wp2
      refine bodyPost_ret (v := .agg #[.int .i64 x, .slice (some ⟨b, 0, none⟩) k c]) (by simp [results, Try.results41, go_sem, hb0, hb1]) rfl ?_
      have HF := (H4.out.places x).nt.fin
      have hS := small_ok HOK.out
      exact NetOutQ.of _ _ _ _ ⟨x, n.tasks⟩ _ ⟨hxb.1, hxb.2, hS.2.2⟩ (by omega) HF.1 HF.2.1 HF.2.2
    · have h3' : ((r3 : Int) == 0) = false := by simp [h3]
      clear h3
      obtain ⟨_, hc0, hc1, _, _⟩ := H3.out.nt.facts
      go_wp2_with fail
      refine (pick_c R (p1 + 1 + 1) k _ H3.out.rd (by omega) (by omega) (by omega)).mono ?_
      rintro e w4 ⟨r4, rfl, hr4, hrd4, hu4⟩
      have hr4' : (r4 : Int) < (k : Int) := pick_lt hr4 (by omega)
      have H4 := Lib.hid (H3.out.upd hu4 hrd4)
      clear hrd4 hu4 hr4 H3 hc0 hc1
      obtain ⟨_, hc0, hc1, _, _⟩ := H4.out.nt.facts
      obtain ⟨⟨t, vi, vo, vc⟩, hnt, hta, hcm, hfm⟩ := H4.out.fn.task (i := r4) (by omega)
      have hfo := hta.task.forms
      dsimp only at hfo
      obtain ⟨A1, c1, A2, c2, A3, c3, rfl, rfl, rfl⟩ := hfo
      have q0 : w4.cell? ⟨b, r4 * 9, none⟩ = some (.int .i64 t.join) := hcm 0 _ rfl
      have q1 : w4.cell? ⟨b, r4 * 9 + 1, none⟩ = some (.int .i64 t.split) := hcm 1 _ rfl
      have q2 : w4.cell? ⟨b, r4 * 9 + 2, none⟩ = some (.slice A1 t.ins.length c1) := hcm 2 _ rfl
      have q3 : w4.cell? ⟨b, r4 * 9 + 3, none⟩ = some (.slice A2 t.out.length c2) := hcm 3 _ rfl
      have q4 : w4.cell? ⟨b, r4 * 9 + 4, none⟩ = some (.slice A3 t.clear.length c3) := hcm 4 _ rfl
      have q5 : w4.cell? ⟨b, r4 * 9 + 5, none⟩ = some (.int .i64 t.role) := hcm 5 _ rfl
      have q6 : w4.cell? ⟨b, r4 * 9 + 6, none⟩ = some (.int .i64 t.apart) := hcm 6 _ rfl
      have q7 : w4.cell? ⟨b, r4 * 9 + 7, none⟩ = some (.int .i64 t.all) := hcm 7 _ rfl
      have q8 : w4.cell? ⟨b, r4 * 9 + 8, none⟩ = some (.int .i64 t.need) := hcm 8 _ rfl
      have hst : SmallT t ∧ 1 ≤ t.all ∧ t.all ≤ 3 ∧ t.ins.length ≤ 8 ∧ t.out.length ≤ 8 ∧ t.clear.length ≤ 8 := by
        obtain ⟨_, hp8, _, _, h5⟩ := netOk_parts HOK.out
        exact small_task hp8 (h5 t (List.mem_of_getElem? hnt))
      have HST := Lib.hid hst
      have hal1 := hst.2.1
      have hal2 := hst.2.2.1
      have HT4 : Hid (AnT w R (p1 + 1 + 1 + 1) N w4.heap.size P b k c n ⟨t, .slice A1 t.ins.length c1, .slice A2 t.out.length c2, .slice A3 t.clear.length c3⟩ (w4.alloc (.cells (TaskM.cells ⟨t, .slice A1 t.ins.length c1, .slice A2 t.out.length c2, .slice A3 t.clear.length c3⟩).toArray 36))) :=
        Lib.hid ⟨H4.out.alloc _, Row.new w4 _ _, (hta.tt (Nat.le_of_lt H4.out.lt)).keep (by simp) fun g _ hg _ _ => Below.heap_alloc w4 _ g hg, H4.out.lt, by simp, hst.1⟩
      clear hcm hfm hta hst hnt H4
      go_wp2_with fail
      refine (pick_c R (p1 + 1 + 1 + 1) 9 _ HT4.out.d.rd (by omega) (by omega) (by omega)).mono ?_
      rintro e w5 ⟨r5, rfl, hr5, hrd5, hu5⟩
      have hr5' : (r5 : Int) < 9 := pick_lt hr5 (by omega)
      have HT5 := Lib.hid (HT4.out.upd hu5 hrd5)
      clear hrd5 hu5 hr5 HT4 q0 q1 q2 q3 q4 q5 q6 q7 q8 hc0 hc1
      generalize hTT : w4.heap.size = T at HT5
      have hp5 : p1 + 1 + 1 + 1 + 1 ≤ p + 2014 := by omega
      generalize hpp : p1 + 1 + 1 + 1 + 1 = p5 at HT5 hp5
      clear hpp hp1
      go_upto_block 0 with fail
      go_cut [] (fun wc => ∃ (m : TaskM) (p2 : Nat), p2 ≤ p + 2199 ∧ AnT w R p2 N T P b k c n m wc)
      case first =>
        clear hTT
        have hT5 := HT5.out.lT
        have hN5 := HT5.out.hT
        have hbN := HT5.out.d.bnd.2.2.2.2
        have hwb := HT5.out.d.bnd.2.2.2.1
        by_cases h5_0 : r5 = 0
        · have h5_0' : ((r5 : Int) == 0) = true := by simp [h5_0]
          clear h5_0
          go_wp2_with fail
          refine (pick_c R p5 2 _ (HT5.out.alloc _).d.rd (by omega) (by omega) (by omega)).mono ?_
          rintro e w6 ⟨r6, rfl, hr6, hrd6, hu6⟩
          have hr6' := pick_lt hr6 (by omega)
          obtain ⟨x, hx0, hx⟩ := lit_at w5 [0, 4] 3 r6 (by simp; omega)
          have hR5 := HT5.out.d.hR
          have hN0 := HT5.out.d.hN
          have hc6 : w6.cell? ⟨w5.heap.size, r6, none⟩ = some (.int .i64 x) := (hu6.cell (p := ⟨w5.heap.size, r6, none⟩) (by dsimp only; omega)).trans hx
          have hxb := List.mem_of_getElem? hx0
          simp at hxb
          have HT6 := Lib.hid ((HT5.out.alloc _).upd hu6 hrd6)
          clear hrd6 hu6 hr6 hx hx0 HT5
          obtain ⟨⟨f0, f1, f2, f3, f4, f5, f6, f7, f8⟩, g0, g1, g2, g3, g4, g5, g6, g7, g8⟩ := HT6.out.tsk.nine
          have HP := Lib.hid (HT6.out.put (m' := ⟨{ t with join := x }, .slice A1 t.ins.length c1, .slice A2 t.out.length c2, .slice A3 t.clear.length c3⟩) 0 (.int .i64 x) (by omega) rfl ⟨HT6.out.ta.ins, HT6.out.ta.out, HT6.out.ta.clear⟩ (by obtain ⟨⟨h1, h2, h3, h4, h5⟩, _⟩ := HST.out; exact ⟨h1, h2, h3, h4, h5⟩))
          clear hxb
          go_wp2
          go_meet
          exact ⟨_, _, by omega, HP.out⟩
        · have h5_0' : ((r5 : Int) == 0) = false := by simp; omega
          by_cases h5_1 : r5 = 1
          · have h5_1' : ((r5 : Int) == 1) = true := by simp [h5_1]
            clear h5_1
            go_wp2_with fail
            refine (pick_c R p5 4 _ (HT5.out.alloc _).d.rd (by omega) (by omega) (by omega)).mono ?_
            rintro e w6 ⟨r6, rfl, hr6, hrd6, hu6⟩
            have hr6' := pick_lt hr6 (by omega)
            obtain ⟨x, hx0, hx⟩ := lit_at w5 [0, 4, 1, 2] 3 r6 (by simp; omega)
            have hR5 := HT5.out.d.hR
            have hN0 := HT5.out.d.hN
            have hc6 : w6.cell? ⟨w5.heap.size, r6, none⟩ = some (.int .i64 x) := (hu6.cell (p := ⟨w5.heap.size, r6, none⟩) (by dsimp only; omega)).trans hx
            have hxb := List.mem_of_getElem? hx0
            simp at hxb
            have HT6 := Lib.hid ((HT5.out.alloc _).upd hu6 hrd6)
            clear hrd6 hu6 hr6 hx hx0 HT5
            obtain ⟨⟨f0, f1, f2, f3, f4, f5, f6, f7, f8⟩, g0, g1, g2, g3, g4, g5, g6, g7, g8⟩ := HT6.out.tsk.nine
            have HP := Lib.hid (HT6.out.put (m' := ⟨{ t with split := x }, .slice A1 t.ins.length c1, .slice A2 t.out.length c2, .slice A3 t.clear.length c3⟩) 1 (.int .i64 x) (by omega) rfl ⟨HT6.out.ta.ins, HT6.out.ta.out, HT6.out.ta.clear⟩ (by obtain ⟨⟨h1, h2, h3, h4, h5⟩, _⟩ := HST.out; exact ⟨h1, h2, h3, h4, h5⟩))
            clear hxb
            go_wp2
            go_meet
            exact ⟨_, _, by omega, HP.out⟩
          · have h5_1' : ((r5 : Int) == 1) = false := by simp; omega
            by_cases h5_2 : r5 = 2
            · have h5_2' : ((r5 : Int) == 2) = true := by simp [h5_2]
              clear h5_2
              obtain ⟨l0, h0, b0, o0, hh0, hrow0⟩ := HT5.out.ta.ins.row
              have HROW := Lib.hid hrow0
              have hR5 := HT5.out.d.hR
              have hN0 := HT5.out.d.hN
              have hlen : t.ins.length ≤ 8 := by obtain ⟨_, _, _, h6, h7, h8⟩ := HST.out; assumption
              clear hrow0
              obtain ⟨⟨f0, f1, f2, f3, f4, f5, f6, f7, f8⟩, _⟩ := HT5.out.tsk.nine
              have HO5 := Lib.hid (own_lit0 w5 3)
              go_wp2_with (at_builtin; refine wpList_append_row rfl _ _ 26 rfl w5.heap.size 3 i0 _ 1 8 Try.underlying26 hi0 hz0 hz1 hz2 rfl (by omega) (.slice (some ⟨w5.heap.size, 0, none⟩) 0 0) 0 [] rfl HO5.out l0 h0 A1 b0 o0 t.ins.length c1 (ints t.ins) rfl (by simp) (HROW.out.alloc hh0 _) (ints_one t.ins) (by unfold maxLen; omega) (by omega) (by simp) ?_; intro v' w6 hown6 hg6; obtain ⟨A6, b6, o6, c6, rfl, hc6, _⟩ := draw_row (v := v') (zs := t.ins) (by simpa using hown6))
              have HO6 : Hid (w6.ownsRow w5.heap.size 3 1 (.slice A6 t.ins.length c6) t.ins.length (ints t.ins)) := Lib.hid (by simpa using hown6)
              have hB6 : Below w5.heap.size w5 w6 := ((Below.refl w5.heap.size w5).alloc (Nat.le_refl _) _).grown hg6 (by simp) (fun k hk => by simp [Value.ownBlock] at hk; omega)
              have HG6 := Lib.hid (grown_below (some R) hB6)
              have HR6 := Lib.hid (HT5.out.d.rd.below hB6)
              have hs6 := hB6.size
              clear hown6 hg6 hB6 f0 f1 f2 f3 f4 f5 f6 f7 f8
              refine (pick_c R p5 4 _ (HR6.out.alloc _) (by omega) (by omega) (by omega)).mono ?_
              rintro e w7 ⟨r7, rfl, hr7, hrd7, hu7⟩
              have hr7' := pick_lt hr7 (by omega)
              obtain ⟨x, hx0, hx⟩ := lit_at w6 [1, 0, 7, 3] 3 r7 (by simp; omega)
              have hc7 : w7.cell? ⟨w6.heap.size, r7, none⟩ = some (.int .i64 x) := (hu7.cell (p := ⟨w6.heap.size, r7, none⟩) (by dsimp only; omega)).trans hx
              have HO7 := Lib.hid (own_upd (HO6.out.alloc _) hu7 (by omega))
              have HG7 := Lib.hid (grown_tr (grown_alloc HG6.out _) (grown_upd hu7))
              have HR7 := Lib.hid hrd7
              have hs7 : w6.heap.size + 1 = w7.heap.size := by have := hu7.size; simp at this; omega
              clear hrd7 hu7 hr7 hx hx0
              go_wp2_with (at_builtin; refine wpList_append_own _ rfl _ _ 26 rfl w5.heap.size 3 i0 _ 1 8 Try.underlying26 hi0 hz0 hz1 hz2 rfl (by omega) _ t.ins.length (ints t.ins) rfl (HO7.out.alloc _) ⟨w7.heap.size, 0, none⟩ 1 1 [.int .i64 x] rfl rfl (one_cell _ _ _) (by intro u hu; simp at hu; subst hu; rfl) (by unfold maxLen; omega) (by omega) (by simp; omega) ?_; intro v' w8 hown8 hg8 _; obtain ⟨A8, c8, rfl⟩ := own_any hown8; have HT8 := Lib.hid (HT5.out.grown (grown_own (grown_alloc HG7.out _) hg8 (HO7.out.alloc _) (Nat.le_refl _)) ((HR7.out.alloc _).own hg8 (HO7.out.alloc _) (by omega))); obtain ⟨⟨f0, f1, f2, f3, f4, f5, f6, f7, f8⟩, g0, g1, g2, g3, g4, g5, g6, g7, g8⟩ := HT8.out.tsk.nine; have HO8 := Lib.hid hown8; clear hown8 hg8)
              have hown8 := HO8.out
              have HP := Lib.hid (HT8.out.put (m' := ⟨{ t with ins := t.ins ++ [x] }, (.slice A8 (t.ins.length + 1) c8), .slice A2 t.out.length c2, .slice A3 t.clear.length c3⟩) 2 (.slice A8 (t.ins.length + 1) c8) (by omega) rfl ⟨(by have := own_st (lo := w.heap.size + 1) (N := N) (b := b) (T := T) hown8 (by omega) (by omega) (by omega); simpa using this), HT8.out.ta.out, HT8.out.ta.clear⟩ (by obtain ⟨⟨⟨h1, h1', h1''⟩, h2, h3, h4, h5⟩, _, _, h6, h7, h8⟩ := HST.out; refine ⟨⟨?_, ?_, ?_⟩, h2, h3, h4, h5⟩ <;> (try simp) <;> omega))
              go_meet
              exact ⟨_, _, by omega, HP.out⟩
            · have h5_2' : ((r5 : Int) == 2) = false := by simp; omega
              by_cases h5_3 : r5 = 3
              · have h5_3' : ((r5 : Int) == 3) = true := by simp [h5_3]
                clear h5_3
                obtain ⟨l0, h0, b0, o0, hh0, hrow0⟩ := HT5.out.ta.out.row
                have HROW := Lib.hid hrow0
                have hR5 := HT5.out.d.hR
                have hN0 := HT5.out.d.hN
                have hlen : t.out.length ≤ 8 := by obtain ⟨_, _, _, h6, h7, h8⟩ := HST.out; assumption
                clear hrow0
                obtain ⟨⟨f0, f1, f2, f3, f4, f5, f6, f7, f8⟩, _⟩ := HT5.out.tsk.nine
                have HO5 : Hid ((w5.alloc (.cells #[] 56)).ownsRow w5.heap.size 56 4 (.slice (some ⟨w5.heap.size, 0, none⟩) 0 0) 0 []) := Lib.hid (World.ownsRow_made w5 #[] 0 (Nat.le_refl _) (Nat.zero_le _) rfl)
                go_wp2_with (at_builtin; refine wpList_append_row rfl _ _ 34 rfl w5.heap.size 56 iF _ 4 32 Try.underlying34 hiF hzF0 hzF1 hzF2 rfl (by omega) (.slice (some ⟨w5.heap.size, 0, none⟩) 0 0) 0 [] rfl HO5.out l0 h0 A2 b0 o0 t.out.length c2 (flowCells t.out) rfl (flowCells_len t.out) (HROW.out.alloc hh0 _) (flows_one t.out) (by unfold maxLen; omega) (by omega) (by simp) ?_; intro v' w6 hown6 hg6; have hown6' : w6.ownsRow w5.heap.size 56 4 v' t.out.length (flowCells t.out) := (by simpa using hown6); obtain ⟨A6, c6, rfl⟩ := own_any hown6'; clear hown6)
                have HO6 : Hid (w6.ownsRow w5.heap.size 56 4 (.slice A6 t.out.length c6) t.out.length (flowCells t.out)) := Lib.hid hown6'
                have hB6 : Below w5.heap.size w5 w6 := ((Below.refl w5.heap.size w5).alloc (Nat.le_refl _) _).grown hg6 (by simp) (fun k hk => by simp [Value.ownBlock] at hk; omega)
                have HG6 := Lib.hid (grown_below (some R) hB6)
                have HR6 := Lib.hid (HT5.out.d.rd.below hB6)
                have hs6 := hB6.size
                clear hown6' hg6 hB6 f0 f1 f2 f3 f4 f5 f6 f7 f8
                refine (pick_c R p5 4 _ HR6.out (by omega) (by omega) (by omega)).mono ?_
                rintro e w7 ⟨r7, rfl, hr7, hrd7, hu7⟩
                have HO7 := Lib.hid (own_upd HO6.out hu7 (by omega))
                have HG7 := Lib.hid (grown_tr HG6.out (grown_upd hu7))
                have HR7 := Lib.hid hrd7
                have hs7 : w6.heap.size = w7.heap.size := hu7.size.symm
                clear hrd7 hu7 hr7
                go_wp2_with fail
                refine (l20Ask_c R (p5 + 1) 2 _ HR7.out (by omega) (by omega) (by omega)).mono ?_
                rintro e w8 ⟨y1, y2, y3, p8, rfl, hp8, hrd8, hg8⟩
                have HO8 := Lib.hid (own_gr HO7.out hg8 (by omega))
                have HG8 := Lib.hid (grown_tr HG7.out hg8)
                have HR8 := Lib.hid hrd8
                have hs8 := hg8.size
                clear hrd8 hg8
                go_wp2_with (at_builtin; refine wpList_append_own _ rfl _ _ 34 rfl w5.heap.size 56 iF _ 4 32 Try.underlying34 hiF hzF0 hzF1 hzF2 rfl (by omega) _ t.out.length (flowCells t.out) rfl (HO8.out.alloc _) ⟨w8.heap.size, 0, none⟩ 1 1 [.int .i64 (r7 : Int), .int .i64 y1, .int .i64 y2, .int .i64 y3] rfl rfl (four_cells _ _ _ _ _ _) (by intro u hu; simp at hu; rcases hu with rfl | rfl | rfl | rfl <;> rfl) (by unfold maxLen; omega) (by omega) (by simp; omega) ?_; intro v' w9 hown9 hg9 _; obtain ⟨A8, c8, rfl⟩ := own_any hown9; have HT8 := Lib.hid (HT5.out.grown (grown_own (grown_alloc HG8.out _) hg9 (HO8.out.alloc _) (Nat.le_refl _)) ((HR8.out.alloc _).own hg9 (HO8.out.alloc _) (by omega))); obtain ⟨⟨f0, f1, f2, f3, f4, f5, f6, f7, f8⟩, g0, g1, g2, g3, g4, g5, g6, g7, g8⟩ := HT8.out.tsk.nine; have HO9 := Lib.hid hown9; clear hown9 hg9)
                have hown9 := HO9.out
                have HP := Lib.hid (HT8.out.put (m' := ⟨{ t with out := t.out ++ [⟨(r7 : Int), y1, y2, y3⟩] }, .slice A1 t.ins.length c1, .slice A8 (t.out.length + 1) c8, .slice A3 t.clear.length c3⟩) 3 (.slice A8 (t.out.length + 1) c8) (by omega) rfl ⟨HT8.out.ta.ins, (by have := own_st (lo := w.heap.size + 1) (N := N) (b := b) (T := T) hown9 (by omega) (by omega) (by omega); simpa [List.flatMap_append] using this), HT8.out.ta.clear⟩ (by obtain ⟨⟨⟨h1, h1', h1''⟩, h2, h3, h4, h5⟩, _, _, h6, h7, h8⟩ := HST.out; refine ⟨⟨?_, ?_, ?_⟩, h2, h3, h4, h5⟩ <;> (try simp) <;> omega))
                go_meet
                exact ⟨_, _, by omega, HP.out⟩
              · have h5_3' : ((r5 : Int) == 3) = false := by simp; omega
                by_cases h5_4 : r5 = 4
                · have h5_4' : ((r5 : Int) == 4) = true := by simp [h5_4]
                  clear h5_4
                  obtain ⟨l0, h0, b0, o0, hh0, hrow0⟩ := HT5.out.ta.clear.row
                  have HROW := Lib.hid hrow0
                  have hR5 := HT5.out.d.hR
                  have hN0 := HT5.out.d.hN
                  have hlen : t.clear.length ≤ 8 := by obtain ⟨_, _, _, h6, h7, h8⟩ := HST.out; assumption
                  clear hrow0
                  obtain ⟨⟨f0, f1, f2, f3, f4, f5, f6, f7, f8⟩, _⟩ := HT5.out.tsk.nine
                  have HO5 := Lib.hid (own_lit0 w5 3)
                  go_wp2_with (at_builtin; refine wpList_append_row rfl _ _ 26 rfl w5.heap.size 3 i0 _ 1 8 Try.underlying26 hi0 hz0 hz1 hz2 rfl (by omega) (.slice (some ⟨w5.heap.size, 0, none⟩) 0 0) 0 [] rfl HO5.out l0 h0 A3 b0 o0 t.clear.length c3 (ints t.clear) rfl (by simp) (HROW.out.alloc hh0 _) (ints_one t.clear) (by unfold maxLen; omega) (by omega) (by simp) ?_; intro v' w6 hown6 hg6; obtain ⟨A6, b6, o6, c6, rfl, hc6, _⟩ := draw_row (v := v') (zs := t.clear) (by simpa using hown6))
                  have HO6 : Hid (w6.ownsRow w5.heap.size 3 1 (.slice A6 t.clear.length c6) t.clear.length (ints t.clear)) := Lib.hid (by simpa using hown6)
                  have hB6 : Below w5.heap.size w5 w6 := ((Below.refl w5.heap.size w5).alloc (Nat.le_refl _) _).grown hg6 (by simp) (fun k hk => by simp [Value.ownBlock] at hk; omega)
                  have HG6 := Lib.hid (grown_below (some R) hB6)
                  have HR6 := Lib.hid (HT5.out.d.rd.below hB6)
                  have hs6 := hB6.size
                  clear hown6 hg6 hB6 f0 f1 f2 f3 f4 f5 f6 f7 f8
                  refine (pick_c R p5 4 _ (HR6.out.alloc _) (by omega) (by omega) (by omega)).mono ?_
                  rintro e w7 ⟨r7, rfl, hr7, hrd7, hu7⟩
                  have hr7' := pick_lt hr7 (by omega)
                  obtain ⟨x, hx0, hx⟩ := lit_at w6 [0, 1, 2, 9] 3 r7 (by simp; omega)
                  have hc7 : w7.cell? ⟨w6.heap.size, r7, none⟩ = some (.int .i64 x) := (hu7.cell (p := ⟨w6.heap.size, r7, none⟩) (by dsimp only; omega)).trans hx
                  have HO7 := Lib.hid (own_upd (HO6.out.alloc _) hu7 (by omega))
                  have HG7 := Lib.hid (grown_tr (grown_alloc HG6.out _) (grown_upd hu7))
                  have HR7 := Lib.hid hrd7
                  have hs7 : w6.heap.size + 1 = w7.heap.size := by have := hu7.size; simp at this; omega
                  clear hrd7 hu7 hr7 hx hx0
                  go_wp2_with (at_builtin; refine wpList_append_own _ rfl _ _ 26 rfl w5.heap.size 3 i0 _ 1 8 Try.underlying26 hi0 hz0 hz1 hz2 rfl (by omega) _ t.clear.length (ints t.clear) rfl (HO7.out.alloc _) ⟨w7.heap.size, 0, none⟩ 1 1 [.int .i64 x] rfl rfl (one_cell _ _ _) (by intro u hu; simp at hu; subst hu; rfl) (by unfold maxLen; omega) (by omega) (by simp; omega) ?_; intro v' w8 hown8 hg8 _; obtain ⟨A8, c8, rfl⟩ := own_any hown8; have HT8 := Lib.hid (HT5.out.grown (grown_own (grown_alloc HG7.out _) hg8 (HO7.out.alloc _) (Nat.le_refl _)) ((HR7.out.alloc _).own hg8 (HO7.out.alloc _) (by omega))); obtain ⟨⟨f0, f1, f2, f3, f4, f5, f6, f7, f8⟩, g0, g1, g2, g3, g4, g5, g6, g7, g8⟩ := HT8.out.tsk.nine; have HO8 := Lib.hid hown8; clear hown8 hg8)
                  have hown8 := HO8.out
                  have HP := Lib.hid (HT8.out.put (m' := ⟨{ t with clear := t.clear ++ [x] }, .slice A1 t.ins.length c1, .slice A2 t.out.length c2, (.slice A8 (t.clear.length + 1) c8)⟩) 4 (.slice A8 (t.clear.length + 1) c8) (by omega) rfl ⟨HT8.out.ta.ins, HT8.out.ta.out, (by have := own_st (lo := w.heap.size + 1) (N := N) (b := b) (T := T) hown8 (by omega) (by omega) (by omega); simpa using this)⟩ (by obtain ⟨⟨⟨h1, h1', h1''⟩, h2, h3, h4, h5⟩, _, _, h6, h7, h8⟩ := HST.out; refine ⟨⟨?_, ?_, ?_⟩, h2, h3, h4, h5⟩ <;> (try simp) <;> omega))
                  go_meet
                  exact ⟨_, _, by omega, HP.out⟩
                · have h5_4' : ((r5 : Int) == 4) = false := by simp; omega
                  by_cases h5_5 : r5 = 5
                  · have h5_5' : ((r5 : Int) == 5) = true := by simp [h5_5]
                    clear h5_5
                    go_wp2_with fail
                    refine (pick_c R p5 2 _ (HT5.out.alloc _).d.rd (by omega) (by omega) (by omega)).mono ?_
                    rintro e w6 ⟨r6, rfl, hr6, hrd6, hu6⟩
                    have hr6' := pick_lt hr6 (by omega)
                    obtain ⟨x, hx0, hx⟩ := lit_at w5 [0, 4] 3 r6 (by simp; omega)
                    have hR5 := HT5.out.d.hR
                    have hN0 := HT5.out.d.hN
                    have hc6 : w6.cell? ⟨w5.heap.size, r6, none⟩ = some (.int .i64 x) := (hu6.cell (p := ⟨w5.heap.size, r6, none⟩) (by dsimp only; omega)).trans hx
                    have hxb := List.mem_of_getElem? hx0
                    simp at hxb
                    have HT6 := Lib.hid ((HT5.out.alloc _).upd hu6 hrd6)
                    clear hrd6 hu6 hr6 hx hx0 HT5
                    obtain ⟨⟨f0, f1, f2, f3, f4, f5, f6, f7, f8⟩, g0, g1, g2, g3, g4, g5, g6, g7, g8⟩ := HT6.out.tsk.nine
                    have HP := Lib.hid (HT6.out.put (m' := ⟨{ t with role := x }, .slice A1 t.ins.length c1, .slice A2 t.out.length c2, .slice A3 t.clear.length c3⟩) 5 (.int .i64 x) (by omega) rfl ⟨HT6.out.ta.ins, HT6.out.ta.out, HT6.out.ta.clear⟩ (by obtain ⟨⟨h1, h2, h3, h4, h5⟩, _⟩ := HST.out; exact ⟨h1, h2, h3, h4, h5⟩))
                    clear hxb
                    go_wp2
                    go_meet
                    exact ⟨_, _, by omega, HP.out⟩
                  · have h5_5' : ((r5 : Int) == 5) = false := by simp; omega
                    by_cases h5_6 : r5 = 6
                    · have h5_6' : ((r5 : Int) == 6) = true := by simp [h5_6]
                      clear h5_6
                      go_wp2_with fail
                      refine (pick_c R p5 2 _ (HT5.out.alloc _).d.rd (by omega) (by omega) (by omega)).mono ?_
                      rintro e w6 ⟨r6, rfl, hr6, hrd6, hu6⟩
                      have hr6' := pick_lt hr6 (by omega)
                      obtain ⟨x, hx0, hx⟩ := lit_at w5 [-2, 6] 3 r6 (by simp; omega)
                      have hR5 := HT5.out.d.hR
                      have hN0 := HT5.out.d.hN
                      have hc6 : w6.cell? ⟨w5.heap.size, r6, none⟩ = some (.int .i64 x) := (hu6.cell (p := ⟨w5.heap.size, r6, none⟩) (by dsimp only; omega)).trans hx
                      have hxb := List.mem_of_getElem? hx0
                      simp at hxb
                      have HT6 := Lib.hid ((HT5.out.alloc _).upd hu6 hrd6)
                      clear hrd6 hu6 hr6 hx hx0 HT5
                      obtain ⟨⟨f0, f1, f2, f3, f4, f5, f6, f7, f8⟩, g0, g1, g2, g3, g4, g5, g6, g7, g8⟩ := HT6.out.tsk.nine
                      have HP := Lib.hid (HT6.out.put (m' := ⟨{ t with apart := x }, .slice A1 t.ins.length c1, .slice A2 t.out.length c2, .slice A3 t.clear.length c3⟩) 6 (.int .i64 x) (by omega) rfl ⟨HT6.out.ta.ins, HT6.out.ta.out, HT6.out.ta.clear⟩ (by obtain ⟨⟨h1, h2, h3, h4, h5⟩, _⟩ := HST.out; exact ⟨h1, h2, h3, h4, h5⟩))
                      clear hxb
                      go_wp2
                      go_meet
                      exact ⟨_, _, by omega, HP.out⟩
                    · have h5_6' : ((r5 : Int) == 6) = false := by simp; omega
                      by_cases h5_7 : r5 = 7
                      · have h5_7' : ((r5 : Int) == 7) = true := by simp [h5_7]
                        clear h5_7
                        have hwa : IntKind.i64.wrap (t.all + 1) = t.all + 1 := IntWalk.i64_in _ (by omega)
                        have hR5 := HT5.out.d.hR
                        have hN0 := HT5.out.d.hN
                        have HD := Lib.hid (HT5.out.grown (w' := w5.drew) ⟨rfl, rfl, rfl, Nat.le_refl _, fun _ _ _ => rfl⟩ (show RdV w5.drew R p5 from HT5.out.d.rd))
                        have hs0 : w5.heap.size ≤ w5.drew.heap.size := Nat.le_refl _
                        have f7 := (HT5.out.tsk.nine).1.2.2.2.2.2.2.2.1
                        go_wp2
                        refine wp_region_noPanic ?_
                        refine wp_region_held_drew (S := fun w' => w'.cell? ⟨T, 7, none⟩ = some (.int .i64 t.all)) (by kernel_rfl) f7 (fun hHeld => ?_)
                        clear f7
                        generalize hwd : w5.drew = wd at HD hHeld hs0 ⊢
                        clear hwd
                        refine take_yes (i := 0) (v := ?_) rfl (by kernel_rfl) (by kernel_rfl) (by kernel_rfl) (fun _ _ _ h => h) (by kernel_rfl) ?_ (by assumption) ?_
                        rotate_left
                        · (intro w hSw; (try dsimp only at hSw); go_simp; try with_reducible rfl)
                        try simp only [Act.put, List.setIfInBounds_toArray, List.set_cons_zero, List.set_cons_succ]
                        refine take_yes (i := 1) (v := ?_) rfl (by kernel_rfl) (by kernel_rfl) (by kernel_rfl) (fun _ _ _ h => h) (by kernel_rfl) ?_ (by assumption) ?_
                        rotate_left
                        · (intro w hSw; (try dsimp only at hSw); go_simp; try with_reducible rfl)
                        try simp only [Act.put, List.setIfInBounds_toArray, List.set_cons_zero, List.set_cons_succ]
                        refine take_yes (i := 2) (v := ?_) rfl (by kernel_rfl) (by kernel_rfl) (by kernel_rfl) (fun _ _ _ h => h) (by kernel_rfl) ?_ (by assumption) ?_
                        rotate_left
                        · (intro w hSw; (try dsimp only at hSw); go_simp; try with_reducible rfl)
                        try simp only [Act.put, List.setIfInBounds_toArray, List.set_cons_zero, List.set_cons_succ]
                        refine take_yes (i := 4) (v := ?_) rfl (by kernel_rfl) (by kernel_rfl) (by kernel_rfl) (fun _ _ _ h => h) (by kernel_rfl) ?_ (by assumption) ?_
                        rotate_left
                        · (intro w hSw; (try dsimp only at hSw); go_simp; try with_reducible rfl)
                        try simp only [Act.put, List.setIfInBounds_toArray, List.set_cons_zero, List.set_cons_succ]
                        refine wpAnyH_ready (rs := [3, 5]) (by kernel_rfl) (by simp) ?_
                        refine AllReadyH.cons (of_drop rfl) (fun K hK => ?_) (AllReadyH.cons (of_drop rfl) (fun K hK => ?_) AllReadyH.nil)
                        · skip
                          go_simp
                          have HA1 := Lib.hid (HD.out.alloc (.cells #[.int .i64 0, .int .i64 (t.all + 1)] 3))
                          have HL1 : Hid (∀ r : Nat, r < 2 → ∃ z, ([0, t.all + 1] : List Int)[r]? = some z ∧ (wd.alloc (.cells #[.int .i64 0, .int .i64 (t.all + 1)] 3)).cell? ⟨wd.heap.size, r, none⟩ = some (.int .i64 z)) := Lib.hid (fun r hr => lit_at wd [0, t.all + 1] 3 r (by simpa using hr))
                          try go_wp2_with fail
                          refine hK.out _ _ ((HA1.out.tsk.nine).1.2.2.2.2.2.2.2.1) (fun hHeld2 => ?_)
                          clear hK K hHeld
                          have hHeld := hHeld2
                          clear hHeld2
                          try simp only [Act.put, List.setIfInBounds_toArray, List.set_cons_zero, List.set_cons_succ]
                          have hne1 : wd.heap.size < (wd.alloc (.cells #[.int .i64 0, .int .i64 (t.all + 1)] 3)).heap.size := by simp
                          generalize hy1 : (wd.alloc (.cells #[.int .i64 0, .int .i64 (t.all + 1)] 3)) = y1 at HA1 HL1 hHeld hne1 ⊢
                          clear hy1
                          refine wpAnyH_ready (rs := [5]) (by kernel_rfl) (by simp) ?_
                          refine AllReadyH.cons (of_drop rfl) (fun K hK => ?_) AllReadyH.nil
                          go_simp
                          (go_at_call 43; refine (pick_c R p5 2 _ HA1.out.d.rd (by omega) (by omega) (by omega)).mono ?_; rintro e x2 ⟨r6, rfl, hr6, hrd6, hu6⟩)
                          have hr6' := pick_lt hr6 (by omega)
                          have HA2 := Lib.hid (HA1.out.upd hu6 hrd6)
                          have hsx2 := Nat.le_of_eq hu6.size.symm
                          obtain ⟨z, hz0, hz⟩ := HL1.out r6 (by omega)
                          have hcz : x2.cell? ⟨wd.heap.size, r6, none⟩ = some (.int .i64 z) := (hu6.cell (p := ⟨wd.heap.size, r6, none⟩) (by dsimp only; omega)).trans hz
                          clear hz
                          clear hrd6 hu6 hr6
                          try go_wp2_with fail
                          refine hK.out _ _ ((HA2.out.tsk.nine).1.2.2.2.2.2.2.2.1) (fun hHeld2 => ?_)
                          clear hK K hHeld
                          have hHeld := hHeld2
                          clear hHeld2
                          try simp only [Act.put, List.setIfInBounds_toArray, List.set_cons_zero, List.set_cons_succ]
                          have hzb := List.mem_of_getElem? hz0
                          simp at hzb
                          obtain ⟨⟨_, _, _, _, _, _, _, f7', f8⟩, _, _, _, _, _, _, _, _, g8⟩ := HA2.out.tsk.nine
                          refine take_yes (i := 6) (v := ?_) rfl (by kernel_rfl) (by kernel_rfl) (by kernel_rfl) (fun _ _ _ h => h) (by kernel_rfl) ?_ (by assumption) ?_
                          rotate_left
                          · (intro w hSw; (try dsimp only at hSw); go_simp; try with_reducible rfl)
                          try simp only [Act.put, List.setIfInBounds_toArray, List.set_cons_zero, List.set_cons_succ]
                          refine wpAnyH_ready (rs := [7]) (by kernel_rfl) (by simp) ?_
                          refine AllReadyH.cons (of_drop rfl) (fun K hK => ?_) AllReadyH.nil
                          go_simp
                          try go_wp2_with fail
                          refine hK.out _ _ (f7') (fun hHeld2 => ?_)
                          clear hK K hHeld
                          have hHeld := hHeld2
                          clear hHeld2
                          try simp only [Act.put, List.setIfInBounds_toArray, List.set_cons_zero, List.set_cons_succ]
                          refine take_yes (i := 8) (v := ?_) rfl (by kernel_rfl) (by kernel_rfl) (by kernel_rfl) (fun _ _ _ h => h) (by kernel_rfl) ?_ (by assumption) ?_
                          rotate_left
                          · (intro w hSw; (try dsimp only at hSw); go_simp; try with_reducible rfl)
                          try simp only [Act.put, List.setIfInBounds_toArray, List.set_cons_zero, List.set_cons_succ]
                          refine wpAnyH_ready (rs := [9]) (by kernel_rfl) (by simp) ?_
                          refine AllReadyH.cons (of_drop rfl) (fun K hK => ?_) AllReadyH.nil
                          have HP := Lib.hid (HA2.out.put (m' := ⟨{ t with need := z }, .slice A1 t.ins.length c1, .slice A2 t.out.length c2, .slice A3 t.clear.length c3⟩) 8 (.int .i64 z) (by omega) rfl ⟨HA2.out.ta.ins, HA2.out.ta.out, HA2.out.ta.clear⟩ (by obtain ⟨⟨h1, h2, h3, h4, h5⟩, _⟩ := HST.out; exact ⟨h1, by show -10 ≤ z; omega, by show z ≤ 10; omega, h4, h5⟩))
                          go_simp
                          try go_wp2_with fail
                          refine hK.out _ _ ((HP.out.tsk.nine).1.2.2.2.2.2.2.2.1) (fun hHeld2 => ?_)
                          clear hK K hHeld
                          have hHeld := hHeld2
                          clear hHeld2
                          try simp only [Act.put, List.setIfInBounds_toArray, List.set_cons_zero, List.set_cons_succ]
                          refine wpAnyH_done (by kernel_rfl) ?_ _
                          refine NoPanic.normal ?_
                          go_wp2
                          go_meet
                          exact ⟨_, _, by omega, HP.out⟩
                        · skip
                          go_simp
                          (go_at_call 43; refine (pick_c R p5 2 _ HD.out.d.rd (by omega) (by omega) (by omega)).mono ?_; rintro e x3 ⟨r6, rfl, hr6, hrd6, hu6⟩)
                          have hr6' := pick_lt hr6 (by omega)
                          have HA3 := Lib.hid (HD.out.upd hu6 hrd6)
                          have hsx3 := Nat.le_of_eq hu6.size.symm
                          clear hrd6 hu6 hr6
                          try go_wp2_with fail
                          refine hK.out _ _ ((HA3.out.tsk.nine).1.2.2.2.2.2.2.2.1) (fun hHeld2 => ?_)
                          clear hK K hHeld
                          have hHeld := hHeld2
                          clear hHeld2
                          try simp only [Act.put, List.setIfInBounds_toArray, List.set_cons_zero, List.set_cons_succ]
                          refine wpAnyH_ready (rs := [3]) (by kernel_rfl) (by simp) ?_
                          refine AllReadyH.cons (of_drop rfl) (fun K hK => ?_) AllReadyH.nil
                          go_simp
                          have HA4 := Lib.hid (HA3.out.alloc (.cells #[.int .i64 0, .int .i64 (t.all + 1)] 3))
                          have HL4 : Hid (∀ r : Nat, r < 2 → ∃ z, ([0, t.all + 1] : List Int)[r]? = some z ∧ (x3.alloc (.cells #[.int .i64 0, .int .i64 (t.all + 1)] 3)).cell? ⟨x3.heap.size, r, none⟩ = some (.int .i64 z)) := Lib.hid (fun r hr => lit_at x3 [0, t.all + 1] 3 r (by simpa using hr))
                          try go_wp2_with fail
                          refine hK.out _ _ ((HA4.out.tsk.nine).1.2.2.2.2.2.2.2.1) (fun hHeld2 => ?_)
                          clear hK K hHeld
                          have hHeld := hHeld2
                          clear hHeld2
                          try simp only [Act.put, List.setIfInBounds_toArray, List.set_cons_zero, List.set_cons_succ]
                          have hne4 : x3.heap.size < (x3.alloc (.cells #[.int .i64 0, .int .i64 (t.all + 1)] 3)).heap.size := by simp
                          generalize hy4 : (x3.alloc (.cells #[.int .i64 0, .int .i64 (t.all + 1)] 3)) = y4 at HA4 HL4 hHeld hne4 ⊢
                          clear hy4
                          obtain ⟨z, hz0, hcz⟩ := HL4.out r6 (by omega)
                          have hzb := List.mem_of_getElem? hz0
                          simp at hzb
                          obtain ⟨⟨_, _, _, _, _, _, _, f7', f8⟩, _, _, _, _, _, _, _, _, g8⟩ := HA4.out.tsk.nine
                          refine take_yes (i := 6) (v := ?_) rfl (by kernel_rfl) (by kernel_rfl) (by kernel_rfl) (fun _ _ _ h => h) (by kernel_rfl) ?_ (by assumption) ?_
                          rotate_left
                          · (intro w hSw; (try dsimp only at hSw); go_simp; try with_reducible rfl)
                          try simp only [Act.put, List.setIfInBounds_toArray, List.set_cons_zero, List.set_cons_succ]
                          refine wpAnyH_ready (rs := [7]) (by kernel_rfl) (by simp) ?_
                          refine AllReadyH.cons (of_drop rfl) (fun K hK => ?_) AllReadyH.nil
                          go_simp
                          try go_wp2_with fail
                          refine hK.out _ _ (f7') (fun hHeld2 => ?_)
                          clear hK K hHeld
                          have hHeld := hHeld2
                          clear hHeld2
                          try simp only [Act.put, List.setIfInBounds_toArray, List.set_cons_zero, List.set_cons_succ]
                          refine take_yes (i := 8) (v := ?_) rfl (by kernel_rfl) (by kernel_rfl) (by kernel_rfl) (fun _ _ _ h => h) (by kernel_rfl) ?_ (by assumption) ?_
                          rotate_left
                          · (intro w hSw; (try dsimp only at hSw); go_simp; try with_reducible rfl)
                          try simp only [Act.put, List.setIfInBounds_toArray, List.set_cons_zero, List.set_cons_succ]
                          refine wpAnyH_ready (rs := [9]) (by kernel_rfl) (by simp) ?_
                          refine AllReadyH.cons (of_drop rfl) (fun K hK => ?_) AllReadyH.nil
                          have HP := Lib.hid (HA4.out.put (m' := ⟨{ t with need := z }, .slice A1 t.ins.length c1, .slice A2 t.out.length c2, .slice A3 t.clear.length c3⟩) 8 (.int .i64 z) (by omega) rfl ⟨HA4.out.ta.ins, HA4.out.ta.out, HA4.out.ta.clear⟩ (by obtain ⟨⟨h1, h2, h3, h4, h5⟩, _⟩ := HST.out; exact ⟨h1, by show -10 ≤ z; omega, by show z ≤ 10; omega, h4, h5⟩))
                          go_simp
                          try go_wp2_with fail
                          refine hK.out _ _ ((HP.out.tsk.nine).1.2.2.2.2.2.2.2.1) (fun hHeld2 => ?_)
                          clear hK K hHeld
                          have hHeld := hHeld2
                          clear hHeld2
                          try simp only [Act.put, List.setIfInBounds_toArray, List.set_cons_zero, List.set_cons_succ]
                          refine wpAnyH_done (by kernel_rfl) ?_ _
                          refine NoPanic.normal ?_
                          go_wp2
                          go_meet
                          exact ⟨_, _, by omega, HP.out⟩
                      · have h5_7' : ((r5 : Int) == 7) = false := by simp; omega
                        go_wp2_with fail
                        refine (pick_c R p5 3 _ (HT5.out.alloc _).d.rd (by omega) (by omega) (by omega)).mono ?_
                        rintro e w6 ⟨r6, rfl, hr6, hrd6, hu6⟩
                        have hr6' := pick_lt hr6 (by omega)
                        obtain ⟨x, hx0, hx⟩ := lit_at w5 [0, 4, 1] 3 r6 (by simp; omega)
                        have hR5 := HT5.out.d.hR
                        have hN0 := HT5.out.d.hN
                        have hc6 : w6.cell? ⟨w5.heap.size, r6, none⟩ = some (.int .i64 x) := (hu6.cell (p := ⟨w5.heap.size, r6, none⟩) (by dsimp only; omega)).trans hx
                        have hxb := List.mem_of_getElem? hx0
                        simp at hxb
                        have HT6 := Lib.hid ((HT5.out.alloc _).upd hu6 hrd6)
                        clear hrd6 hu6 hr6 hx hx0 HT5
                        obtain ⟨⟨f0, f1, f2, f3, f4, f5, f6, f7, f8⟩, g0, g1, g2, g3, g4, g5, g6, g7, g8⟩ := HT6.out.tsk.nine
                        have HP := Lib.hid (HT6.out.put (m' := ⟨{ t with all := x }, .slice A1 t.ins.length c1, .slice A2 t.out.length c2, .slice A3 t.clear.length c3⟩) 7 (.int .i64 x) (by omega) rfl ⟨HT6.out.ta.ins, HT6.out.ta.out, HT6.out.ta.clear⟩ (by obtain ⟨⟨h1, h2, h3, h4, h5⟩, _⟩ := HST.out; exact ⟨h1, h2, h3, by show -10 ≤ x; omega, by show x ≤ 10; omega⟩))
                        clear hxb
                        go_wp2
                        go_meet
                        exact ⟨_, _, by omega, HP.out⟩
      case rest =>
        clear HT5
        obtain ⟨m, p2, hp2, hmt⟩ := hcut
        have HM := Lib.hid hmt
        clear hmt
        obtain ⟨t', vi', vo', vc'⟩ := m
        obtain ⟨⟨f0, f1, f2, f3, f4, f5, f6, f7, f8⟩, _⟩ := HM.out.tsk.nine
        obtain ⟨_, hc0, hc1, _, _⟩ := HM.out.d.nt.facts
        obtain ⟨m0, _, _, hcm, hfm⟩ := HM.out.d.fn.task (i := r4) (by omega)
        have q0 : wc.cell? ⟨b, r4 * 9, none⟩ = some (.int .i64 m0.t.join) := hcm 0 _ rfl
        have q1 := hcm 1 _ rfl
        have q2 := hcm 2 _ rfl
        have q3 := hcm 3 _ rfl
        have q4 := hcm 4 _ rfl
        have q5 := hcm 5 _ rfl
        have q6 := hcm 6 _ rfl
        have q7 := hcm 7 _ rfl
        have q8 := hcm 8 _ rfl
        have g0 : wc.frozen? ⟨b, r4 * 9, none⟩ = false := hfm 0 (by omega)
        have g1 := hfm 1 (by omega)
        have g2 := hfm 2 (by omega)
        have g3 := hfm 3 (by omega)
        have g4 := hfm 4 (by omega)
        have g5 := hfm 5 (by omega)
        have g6 := hfm 6 (by omega)
        have g7 := hfm 7 (by omega)
        have g8 := hfm 8 (by omega)
        have hfo := HM.out.ta.away.task.forms
        dsimp only at hfo
        obtain ⟨A1', c1', A2', c2', A3', c3', rfl, rfl, rfl⟩ := hfo
        clear hcm hfm
        obtain ⟨n', hsn, hnt⟩ := HM.out.fin (i := r4) (by omega) (small_ok HOK.out)
        have HNT := Lib.hid hnt
        have HSN := Lib.hid hsn
        clear hnt hsn HM
        go_upto_region 27 with fail
        go_cut [] (fun wd => NtD w R p2 N P b k c n' wd)
        case first =>
          go_wp2
          go_meet
          exact HNT.out
        case rest =>
          clear HNT
          have HN := Lib.hid hcut
          clear hcut
          obtain ⟨⟨hb0, hb1, hf0, hf1⟩, hc0, hc1, _, _⟩ := HN.out.facts
          have hN0 := HN.out.hN
          go_wp2
          refine bodyPost_ret (v := .agg #[.int .i64 P, .slice (some ⟨b, 0, none⟩) k c]) (by simp [results, Try.results41, go_sem, hb0, hb1]) rfl ?_
          have HF := HN.out.fin
          exact NetOutQ.of _ _ _ _ _ _ HSN.out (by omega) HF.1 HF.2.1 HF.2.2
end Go.Proofs.Ytkcbghaadjhceaa
