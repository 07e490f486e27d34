/- The conversion of a whole net, and its size. -/
import Derived.Test.YteedgmaeopnidaaNetSz
namespace Go.Proofs.Yteedgmaeopnidaa
open Go.RowKit
set_option linter.unusedVariables false
set_option linter.unusedSimpArgs false

theorem szNetNet_c (n : NNet) (v : Value) (lo hi : Nat) (left : Int) (w : World) (hV : NetV w lo hi v n) (hhi : hi ≤ w.heap.size) (h0 : 0 ≤ left) (h1 : left ≤ 1048576) :
    Calls Try.prog 28 #[v, .int .i64 left] w fun e w' => e = .returned (.int .i64 (cutI left (netSize n))) ∧ Below w.heap.size w w' := by
  obtain ⟨A, b, off, c, ms, rfl, hm, hT⟩ := hV
  go_enter Try.func28, Try.ntmps28
  go_wp2_with fail
  refine (szNetTaskS_c n.tasks ms lo hi lo hi A b off c left _ (hT.keep (fun g _ h => Below.heap_alloc w _ g (by omega)) (fun g _ h => Below.heap_alloc w _ g (by omega))) (by simp; omega) hm h0 h1).mono ?_
  rintro e w1 ⟨rfl, hb1⟩
  have HB1 := Lib.hid (((Below.refl w.heap.size w).alloc (Nat.le_refl _) _).trans (hb1.mono (by simp)))
  clear hb1
  rw [show (n.tasks.length : Int) + tasksSize n.tasks = netSize n from rfl]
  by_cases x1 : netSize n ≤ left
  · rw [cutI_pos x1]
    go_wp2
    go_ret
    exact ⟨ret_int (cutI_pos x1).symm, HB1.out⟩
  · rw [cutI_neg x1]
    go_wp2
    go_ret
    exact ⟨ret_int (cutI_neg (by omega)).symm, HB1.out⟩

/-- A net that the call itself has made: its tasks lie in a block b' of their own, what these hold behind it. -/
def FNet (w : World) (lo hi : Nat) (v : Value) (n : NNet) : Prop :=
  ∃ b' ms, v = .agg #[.int .i64 n.places, .slice (some ⟨b', 0, none⟩) n.tasks.length n.tasks.length] ∧ n.tasks.length ≤ maxLen ∧ lo ≤ b' ∧ b' < hi ∧ TasksV w b' (b' + 1) (b' + 1) hi (some ⟨b', 0, none⟩) b' 0 n.tasks ms
theorem FNet.net {w : World} {lo hi : Nat} {v : Value} {n : NNet} (h : FNet w lo hi v n) : NetV w lo hi v n := by
  obtain ⟨b', ms, rfl, hm, h1, h2, hT⟩ := h
  exact ⟨_, _, _, _, ms, rfl, hm, hT.more h1 h2 (by omega) (Nat.le_refl _)⟩
theorem FNet.form {w : World} {lo hi : Nat} {v : Value} {n : NNet} (h : FNet w lo hi v n) : ∃ b', v = .agg #[.int .i64 n.places, .slice (some ⟨b', 0, none⟩) n.tasks.length n.tasks.length] := by
  obtain ⟨b', ms, rfl, _⟩ := h
  exact ⟨b', rfl⟩
theorem FNet.keep {w w' : World} {lo hi : Nat} {v : Value} {n : NNet} (h : FNet w lo hi v n) (hk : ∀ g, lo ≤ g → g < hi → w'.heap[g]? = w.heap[g]?) : FNet w' lo hi v n := by
  obtain ⟨b', ms, rfl, hm, h1, h2, hT⟩ := h
  exact ⟨b', ms, rfl, hm, h1, h2, hT.keep (fun g h3 h4 => hk g (by omega) (by omega)) (fun g h3 h4 => hk g (by omega) (by omega))⟩
theorem FNet.below {w w' : World} {lo hi B : Nat} {v : Value} {n : NNet} (h : FNet w lo hi v n) (hb : Below B w w') (hB : hi ≤ B) : FNet w' lo hi v n := h.keep fun g _ h2 => hb.block g (by omega)

theorem netSize_small {n : NNet} (h : netSize n ≤ 1048576) : n.tasks.length ≤ 1048576 ∧ ∀ t ∈ n.tasks, taskSmall t := by
  have := tasksSize_pos n.tasks
  unfold netSize at h
  refine ⟨by omega, fun t ht => ?_⟩
  have := tasksSize_mem ht
  unfold taskSize at this
  exact ⟨by omega, by omega, by omega⟩

theorem toNetNet_c (n : NNet) (v : Value) (lo hi : Nat) (w : World) (hV : NetV w lo hi v n) (hhi : hi ≤ w.heap.size) (hs : netSize n ≤ 1048576) :
    Calls Try.prog 30 #[v] w fun e w' => ∃ u, e = .returned u ∧ FNet w' w.heap.size w'.heap.size u n ∧ Below w.heap.size w w' := by
  obtain ⟨hs1, hs2⟩ := netSize_small hs
  obtain ⟨A, b, off, c, ms, rfl, hm, hT⟩ := hV
  have HS1 := Lib.hid hs1
  go_enter Try.func30, Try.ntmps30
  go_wp2_with fail
  refine (toNetTaskS_c n.tasks ms lo hi lo hi A b off c _ (hT.keep (fun g _ h => ?_) (fun g _ h => ?_)) (by simp; omega) (by simp; omega) hs1 hs2).mono ?_
  · exact (Below.heap_alloc _ _ g (by simp; omega)).trans ((Below.heap_alloc _ _ g (by simp; omega)).trans (Below.heap_alloc _ _ g (by omega)))
  · exact (Below.heap_alloc _ _ g (by simp; omega)).trans ((Below.heap_alloc _ _ g (by simp; omega)).trans (Below.heap_alloc _ _ g (by omega)))
  rintro e w1 ⟨b', ms', rfl, hl, hg, hT1, hb1⟩
  have R1 := ((Row.newAt (w.alloc _) _ _ (w.heap.size + 1) (by simp)).alloc (by simp) _).below hb1 (by simp)
  have R2 := (Row.newAt ((w.alloc _).alloc _) _ _ (w.heap.size + 1 + 1) (by simp)).below hb1 (by simp)
  have x0 := R1.cell (j := 0) rfl
  have x1 := R1.cell (j := 1) rfl
  have y0 := R2.cell (j := 0) rfl
  have y1 := R2.cell (j := 1) rfl
  simp only [World.size_alloc] at hl
  have HB1 := Lib.hid ((((Below.refl w.heap.size w).alloc (Nat.le_refl _) _).alloc (by simp) _).alloc (by simp; omega) _ |>.trans (hb1.mono (by simp; omega)))
  have HT1 := Lib.hid hT1
  have HL := Lib.hid (And.intro hl hg)
  clear hb1 R1 R2 hT1 hl hg hT hs2 hs1
  obtain ⟨x0, fx0⟩ := x0
  obtain ⟨x1, fx1⟩ := x1
  obtain ⟨y0, fy0⟩ := y0
  obtain ⟨y1, fy1⟩ := y1
  go_wp2
  have hU := upd_put (lo := w.heap.size + 1) (hi := w.heap.size + 1 + 1 + 1) (b := w.heap.size + 1) (Nat.le_refl _) (by omega) [.int .i64 n.places, .slice (some ⟨b', 0, none⟩) n.tasks.length n.tasks.length] 0 (upd_put (b := w.heap.size + 1 + 1) (by omega) (by omega) [.slice (some ⟨b', 0, none⟩) n.tasks.length n.tasks.length] 1 (Upd.refl (w.heap.size + 1) (w.heap.size + 1 + 1 + 1) w1))
  refine bodyPost_ret (v := .agg #[.int .i64 n.places, .slice (some ⟨b', 0, none⟩) n.tasks.length n.tasks.length]) (by simp [results, Try.results30, go_sem, x0, x1, y0, y1, fx0, fx1, fy0, fy1]) rfl ⟨_, rfl, ?_, ?_⟩
  · have hl := HL.out
    have h : FNet w1 w.heap.size w1.heap.size _ n := ⟨b', ms', rfl, by have := HS1.out; unfold maxLen; omega, by omega, hl.2, HT1.out⟩
    rw [← hU.size] at h
    obtain ⟨c', ms2, e, h1, h2, h3, h4⟩ := h
    refine ⟨c', ms2, e, h1, h2, h3, h4.keep (fun g h5 h6 => hU.block g ?_) (fun g h5 h6 => hU.block g ?_)⟩
    all_goals (simp only [Value.agg.injEq, Array.mk.injEq, List.cons.injEq, Value.slice.injEq, Option.some.injEq, Addr.mk.injEq] at e; omega)
  · exact HB1.out.trans (hU.below (by omega))
end Go.Proofs.Yteedgmaeopnidaa
