/- The conversion of a whole net, and its size. -/
import Derived.Test.YtoggdhbnkbdilaaNetSz
namespace Go.Proofs.Ytoggdhbnkbdilaa
open Go.RowKit
set_option linter.unusedVariables false
set_option linter.unusedSimpArgs false


/-- A net that the call itself has made: its tasks lie in a block b' of their own, what these hold behind it. -/
def FNet (w : World) (lo hi : Nat) (v : Value) (n : NNet) : Prop :=
  ∃ b' ms, v = .agg #[.int .i64 n.places, .slice (some ⟨b', 0, none⟩) n.tasks.length n.tasks.length] ∧ n.tasks.length ≤ maxLen ∧ lo ≤ b' ∧ b' < hi ∧ TasksV w b' (b' + 1) (b' + 1) hi (some ⟨b', 0, none⟩) b' 0 n.tasks ms
theorem FNet.net {w : World} {lo hi : Nat} {v : Value} {n : NNet} (h : FNet w lo hi v n) : NetV w lo hi v n := by
  obtain ⟨b', ms, rfl, hm, h1, h2, hT⟩ := h
  exact ⟨_, _, _, _, ms, rfl, hm, hT.more h1 h2 (by omega) (Nat.le_refl _)⟩
theorem FNet.form {w : World} {lo hi : Nat} {v : Value} {n : NNet} (h : FNet w lo hi v n) : ∃ b', v = .agg #[.int .i64 n.places, .slice (some ⟨b', 0, none⟩) n.tasks.length n.tasks.length] := by
  obtain ⟨b', ms, rfl, _⟩ := h
  exact ⟨b', rfl⟩
theorem FNet.keep {w w' : World} {lo hi : Nat} {v : Value} {n : NNet} (h : FNet w lo hi v n) (hk : ∀ g, lo ≤ g → g < hi → w'.heap[g]? = w.heap[g]?) : FNet w' lo hi v n := by
  obtain ⟨b', ms, rfl, hm, h1, h2, hT⟩ := h
  exact ⟨b', ms, rfl, hm, h1, h2, hT.keep (fun g h3 h4 => hk g (by omega) (by omega)) (fun g h3 h4 => hk g (by omega) (by omega))⟩
theorem FNet.below {w w' : World} {lo hi B : Nat} {v : Value} {n : NNet} (h : FNet w lo hi v n) (hb : Below B w w') (hB : hi ≤ B) : FNet w' lo hi v n := h.keep fun g _ h2 => hb.block g (by omega)

theorem netSize_small {n : NNet} (h : netSize n ≤ 1048576) : n.tasks.length ≤ 1048576 ∧ ∀ t ∈ n.tasks, taskSmall t := by
  have := tasksSize_pos n.tasks
  unfold netSize at h
  refine ⟨by omega, fun t ht => ?_⟩
  have := tasksSize_mem ht
  unfold taskSize at this
  exact ⟨by omega, by omega, by omega⟩

end Go.Proofs.Ytoggdhbnkbdilaa
