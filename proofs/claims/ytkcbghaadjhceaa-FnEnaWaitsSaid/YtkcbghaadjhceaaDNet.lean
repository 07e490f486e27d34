/- The draw of a net that is ok (l20Net). -/
import Derived.Test.YtkcbghaadjhceaaShpL
import Derived.Test.YtkcbghaadjhceaaShp
import Derived.Test.YtkcbghaadjhceaaSpecNetOk
import Derived.Deep.DeepCutAuto
namespace Go.Proofs.Ytkcbghaadjhceaa
open Go.RowKit
set_option linter.unusedVariables false
set_option linter.unusedSimpArgs false

set_option maxHeartbeats 4000000 in
set_option maxRecDepth 100000 in
theorem l20Net_c (R p : Nat) (w : World) (hR : RdV w R p) (hp : p ≤ 690000) :
    Calls Try.prog 63 #[.pointer (some ⟨R, 0, none⟩)] w fun e w' => NetOutQ w R (p + 2010) (fun n => netOk n = true) e w' := by
  have hRlt := hR.lt
  go_enter Try.func63, Try.ntmps63
  go_wp2_with fail
  refine (l20Shape_c R p _ (hR.alloc _) (by omega)).mono ?_
  rintro e w1 ⟨P, b, k, c, n, p1, rfl, hk8, hp1, hfn, hrd1, hg1⟩
  have hsz : (w.alloc (.cells #[.int .i64 0, .slice none 0 0] 25)).heap.size = w.heap.size + 1 := by simp
  have hs1 := hg1.size
  rw [hsz] at hs1
  have hrb := (Blk.new_ w 25 #[.int .i64 0, .slice none 0 0]).grown hg1 (by omega)
  have hfa := (hfn.alloc (Nat.le_refl _) (.cells #[.int .i64 P, .slice (some ⟨b, 0, none⟩) k c] 25))
  have hbb := hfn.parts
  rw [hsz] at hfa
  have H1 : Hid (NtD w R p1 w1.heap.size P b k c n (w1.alloc (.cells #[.int .i64 P, .slice (some ⟨b, 0, none⟩) k c] 25))) :=
    Lib.hid ⟨hrd1.alloc _, grown_alloc (grown_tr (World.grownBy_alloc w _ (some R)) hg1) _, hrb.alloc _, Blk.new_ _ _ _, hfa.more (Nat.le_refl _) (by simp), by omega, by simp, by have := hbb.2.2.2.2.1; omega, hRlt⟩
  clear hfn hrd1 hg1 hrb hfa hbb hsz
  go_upto_region 2 with fail
  go_cut [20] (fun s wc => ∃ (bb : Bool) (p2 : Nat), s = .bool bb ∧ p2 ≤ p + 2001 ∧ (bb = true → 0 < k) ∧ NtD w R p2 w1.heap.size P b k c n wc)
  case first =>
    go_wp2_with fail
    refine (pick_c R p1 3 _ H1.out.rd (by omega) (by omega) (by omega)).mono ?_
    rintro e w2 ⟨r2, rfl, hr2, hrd2, hu2⟩
    have H2 := Lib.hid (H1.out.upd hu2 hrd2)
    obtain ⟨_, hc0, hc1, _, _⟩ := H2.out.facts
    clear hrd2 hu2 hr2 H1
    by_cases h2 : r2 = 0
    · have h2' : ((r2 : Int) == 0) = true := by simp [h2]
      clear h2
      by_cases h3 : (3 : Int) < P
      · by_cases h4 : 0 < k
        · have h4' : (0 : Int) < (k : Int) := by omega
          go_wp2
          go_meet
          exact ⟨_, _, rfl, by omega, fun _ => h4, H2.out⟩
        · have h4' : ¬ ((0 : Int) < (k : Int)) := by omega
          go_wp2
          go_meet
          exact ⟨false, _, rfl, by omega, fun h => by simp at h, H2.out⟩
      · go_wp2
        go_meet
        exact ⟨false, _, rfl, by omega, fun h => by simp at h, H2.out⟩
    · have h2' : ((r2 : Int) == 0) = false := by simp [h2]
      clear h2
      go_wp2
      go_meet
      exact ⟨false, _, rfl, by omega, fun h => by simp at h, H2.out⟩
  case rest =>
    clear H1
    obtain ⟨bb, p2, rfl, hp2, hbk, hn⟩ := hcut
    have HN := Lib.hid hn
    clear hn
    go_upto_if 20 with fail
    go_cut [] (fun wc => ∃ (n' : NNet) (p3 : Nat), p3 ≤ p + 2002 ∧ NtD w R p3 w1.heap.size P b k c n' wc)
    case first =>
      cases bb with
      | true =>
        have hk0 := hbk rfl
        have hk0' : (0 : Int) < (k : Int) := by omega
        obtain ⟨_, hc0, hc1, _, _⟩ := HN.out.facts
        go_wp2_with fail
        refine (pick_c R p2 k _ HN.out.rd (by omega) (by omega) (by omega)).mono ?_
        rintro e w3 ⟨r3, rfl, hr3, hrd3, hu3⟩
        have hr3' : (r3 : Int) < (k : Int) := pick_lt hr3 hk0'
        have HN3 := Lib.hid (HN.out.upd hu3 hrd3)
        clear hrd3 hu3 hr3 hc0 hc1
        obtain ⟨_, hc0, hc1, _, _⟩ := HN3.out.facts
        obtain ⟨_, _, _, hb4, hb5⟩ := HN3.out.bnd
        obtain ⟨m, _, _, hcm, hfm⟩ := HN3.out.fn.task (i := r3) (by omega)
        have hc4 := hcm 4 m.vc rfl
        have hf4 := hfm 4 (by omega)
        have hN3 := HN3.out.lt
        clear hcm hfm
        have HA := Lib.hid (HN3.out.alloc (.cells #[.int .i64 2, .int .i64 3] 3))
        have hrow := Row.new w3 #[.int .i64 2, .int .i64 3] 3
        obtain ⟨n', hf'⟩ := HA.out.fn.put (i := r3) (j := 4) (u := .slice (some ⟨w3.heap.size, 0, none⟩) 2 2) (by omega) (by omega) (fun m hm => ⟨⟨{ m.t with clear := [2, 3] }, m.vi, m.vo, .slice (some ⟨w3.heap.size, 0, none⟩) 2 2⟩, rfl, hm.ins, hm.out, by
          refine (Sl.away (lo := w3.heap.size) (hi := w3.heap.size + 1) (b := b) ⟨_, _, 0, 2, rfl, by unfold maxLen; omega, hrow⟩ (.inr hb5)).more (by omega) (by simp)⟩)
        have hput := Lib.hid (HA.out.put hf')
        rw [World.setCell_alloc_past (hn := hb5)] at hput
        clear HA hrow hf' HN3 HN
        go_wp2
        go_meet
        exact ⟨n', _, by omega, hput.out⟩
      | false =>
        go_wp2
        go_meet
        exact ⟨_, _, by omega, HN.out⟩
    case rest =>
      clear HN
      obtain ⟨n', p3, hp3, hn⟩ := hcut
      have HN := Lib.hid hn
      clear hn
      obtain ⟨_, hc0, hc1, _, _⟩ := HN.out.facts
      go_wp2_with fail
      refine (specNetOk_c n' _ _ _ wc HN.out.fn.net (Nat.le_refl _)).mono ?_
      rintro e w5 ⟨rfl, hb5⟩
      have HN5 := Lib.hid (HN.out.below hb5)
      clear hb5 hc0 hc1 HN
      obtain ⟨⟨hb0, hb1, hf0, hf1⟩, hc0, hc1, _, _⟩ := HN5.out.facts
      obtain ⟨_, _, _, hb4, hb5⟩ := HN5.out.bnd
      have hN0 := HN5.out.hN
      have hN1 := HN5.out.lt
      cases hok : netOk n' with
      | true =>
        have HOK := Lib.hid hok
        clear hok
        go_wp2
        refine bodyPost_ret (v := .agg #[.int .i64 P, .slice (some ⟨b, 0, none⟩) k c]) (by simp [results, Try.results63, go_sem, hb0, hb1]) rfl ?_
        have HF := HN5.out.fin
        exact NetOutQ.of _ _ _ _ _ _ HOK.out (by omega) HF.1 HF.2.1 HF.2.2
      | false =>
        have HOK := Lib.hid hok
        clear hok
        have hl5 : w.heap.size < w5.heap.size := by omega
        have hl5a : w.heap.size < w5.heap.size + 1 := by omega
        have hl5b : w.heap.size < w5.heap.size + 1 + 1 := by omega
        clear hb4 hb5 hc0 hc1 hN0 hN1
        go_wp2
        have r1 := Row.new w5 #[.int .i64 0] 3
        have r2 := Row.newAt (w5.alloc (.cells #[.int .i64 0] 3)) #[.int .i64 1, .int .i64 0, .int .i64 0, .int .i64 0] 56 (w5.heap.size + 1) (by simp)
        have r1' := r1.alloc (by simp) (.cells #[.int .i64 1, .int .i64 0, .int .i64 0, .int .i64 0] 56)
        have hs : ((w5.alloc (.cells #[.int .i64 0] 3)).alloc (.cells #[.int .i64 1, .int .i64 0, .int .i64 0, .int .i64 0] 56)).heap.size = w5.heap.size + 1 + 1 := by simp
        have hsh : ShD w R p3 [⟨⟨1, 1, [0], [⟨1, 0, 0, 0⟩], [], 1, -1, 1, 1⟩, .slice (some ⟨w5.heap.size, 0, none⟩) 1 1, .slice (some ⟨w5.heap.size + 1, 0, none⟩) 1 1, .slice none 0 0⟩] ((w5.alloc (.cells #[.int .i64 0] 3)).alloc (.cells #[.int .i64 1, .int .i64 0, .int .i64 0, .int .i64 0] 56)) :=
          ⟨(HN5.out.rd.alloc _).alloc _, grown_alloc (grown_alloc HN5.out.gr _) _, (HN5.out.res.alloc _).alloc _, fun m hm => by
            simp at hm; subst hm; rw [hs]
            exact ⟨⟨_, _, 0, 1, rfl, (show (1 : Nat) ≤ maxLen from by unfold maxLen; omega), r1'.more (by omega) (by omega)⟩, ⟨_, _, 0, 1, rfl, (show (1 : Nat) ≤ maxLen from by unfold maxLen; omega), r2.more (by omega) (by omega)⟩, ⟨none, 0, 0, 0, rfl, Nat.zero_le _, Row.nil_⟩⟩, by rw [hs]; omega, HN5.out.hR⟩
        have HF := hsh.fin 1 rfl (by unfold maxLen; omega) #[.int .i64 1, .int .i64 1, .slice (some ⟨w5.heap.size, 0, none⟩) 1 1, .slice (some ⟨w5.heap.size + 1, 0, none⟩) 1 1, .slice none 0 0, .int .i64 1, .int .i64 (-1), .int .i64 1, .int .i64 1] rfl 2
        rw [hs] at HF
        have e : ∀ (W : World) (o : Obj) (i : Nat) (v : Value), w.heap.size < W.heap.size → (W.alloc o).setCell ⟨w.heap.size, i, none⟩ v = (W.setCell ⟨w.heap.size, i, none⟩ v).alloc o := fun W o i v h => World.setCell_alloc_past o _ i v h
        rw [e _ _ 0 _ (by simp; omega), e _ _ 0 _ hl5, e _ _ 1 _ (by simp [World.setCell]; omega), e _ _ 1 _ (by simp [World.setCell]; omega)] at HF
        have hx0 : ((w5.setCell ⟨w.heap.size, 0, none⟩ (.int .i64 2)).setCell ⟨w.heap.size, 1, none⟩ (.slice (some ⟨w5.heap.size + 1 + 1, 0, none⟩) 1 1)).cell? ⟨w.heap.size, 0, none⟩ = some (.int .i64 2) := by
          rw [World.cell?_setCell_other _ _ _ _ (by simp)]; exact cell_setCell_same hb0
        have hx1 : ((w5.setCell ⟨w.heap.size, 0, none⟩ (.int .i64 2)).setCell ⟨w.heap.size, 1, none⟩ (.slice (some ⟨w5.heap.size + 1 + 1, 0, none⟩) 1 1)).cell? ⟨w.heap.size, 1, none⟩ = some (.slice (some ⟨w5.heap.size + 1 + 1, 0, none⟩) 1 1) :=
          cell_setCell_same ((World.cell?_setCell_other _ _ _ _ (by simp)).trans hb1)
        generalize hX : (w5.setCell ⟨w.heap.size, 0, none⟩ (.int .i64 2)).setCell ⟨w.heap.size, 1, none⟩ (.slice (some ⟨w5.heap.size + 1 + 1, 0, none⟩) 1 1) = X at hx0 hx1 HF ⊢
        have hXs : w.heap.size < X.heap.size := by rw [← hX]; simp [World.setCell]; omega
        have hy := fun (o1 o2 o3 : Obj) (i : Nat) => ((((Below.refl X.heap.size X).alloc (Nat.le_refl _) o1).alloc (by simp) o2).alloc (by simp; omega) o3).cell (p := ⟨w.heap.size, i, none⟩) hXs
        have hy0 := fun o1 o2 o3 => (hy o1 o2 o3 0).trans hx0
        have hy1 := fun o1 o2 o3 => (hy o1 o2 o3 1).trans hx1
        clear hy
        refine bodyPost_ret (v := .agg #[.int .i64 2, .slice (some ⟨w5.heap.size + 1 + 1, 0, none⟩) 1 1]) (by simp [results, Try.results63, go_sem, hy0, hy1]) rfl ?_
        exact NetOutQ.of 2 (w5.heap.size + 1 + 1) 1 1 _ _ (show netOk ⟨2, [⟨1, 1, [0], [⟨1, 0, 0, 0⟩], [], 1, -1, 1, 1⟩]⟩ = true from by decide) (by omega) HF.1 HF.2.1 HF.2.2

end Go.Proofs.Ytkcbghaadjhceaa
