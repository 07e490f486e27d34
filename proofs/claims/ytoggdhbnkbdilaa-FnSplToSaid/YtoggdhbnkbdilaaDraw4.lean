/- What is drawn of a code: data, marks, questions. -/
import Derived.Test.YtoggdhbnkbdilaaDraw3
import Derived.Deep.RegionWith
namespace Go.Proofs.Ytoggdhbnkbdilaa
open Go.RowKit
set_option linter.unusedVariables false
set_option linter.unusedSimpArgs false

/-- A slice of numbers that a call has made, given by its value. -/
def NumsV (w : World) (lo : Nat) (v : Value) (zs : List Int) : Prop := ∃ A b o c, v = .slice A zs.length c ∧ zs.length ≤ c ∧ Row w lo w.heap.size A b o (ints zs)
theorem NumsV.below {w w' : World} {lo : Nat} {v : Value} {zs : List Int} (h : NumsV w lo v zs) (hb : Below w.heap.size w w') : NumsV w' lo v zs := by
  obtain ⟨A, b, o, c, h1, h2, h3⟩ := h
  exact ⟨A, b, o, c, h1, h2, (h3.below hb (Nat.le_refl _)).more (Nat.le_refl _) hb.size⟩
theorem NumsV.grown {w w' : World} {lo R : Nat} {v : Value} {zs : List Int} (h : NumsV w lo v zs) (hg : w.grownBy w' (some R)) (hR : R < lo) : NumsV w' lo v zs := by
  obtain ⟨A, b, o, c, h1, h2, h3⟩ := h
  exact ⟨A, b, o, c, h1, h2, (h3.grown hg (.inr hR) (Nat.le_refl _)).more (Nat.le_refl _) hg.size⟩
theorem NumsV.lo {w : World} {lo lo' : Nat} {v : Value} {zs : List Int} (h : NumsV w lo v zs) (hl : lo' ≤ lo) : NumsV w lo' v zs := by
  obtain ⟨A, b, o, c, h1, h2, h3⟩ := h
  exact ⟨A, b, o, c, h1, h2, h3.more hl (Nat.le_refl _)⟩

theorem row_lit (w : World) (zs : List Int) (T : TypeId) : Row (w.alloc (.cells (ints zs).toArray T)) w.heap.size (w.heap.size + 1) (some ⟨w.heap.size, 0, none⟩) w.heap.size 0 (ints zs) :=
  ⟨fun _ => ⟨rfl, Nat.le_refl _, Nat.lt_succ_self _⟩, fun j u hu => ⟨by rw [World.cell?_alloc_at _ _ _ _ rfl]; simpa using hu, World.frozen?_alloc_at _ _ _ _ rfl⟩⟩

set_option maxRecDepth 20000 in
theorem guOk_c (w : World) : Calls Try.prog 15 #[] w fun e w' => e = .returned (.bool true) ∧ Below w.heap.size w w' := by
  go_enter Try.func15, Try.ntmps15
  go_wp2_with fail
  refine (implDatOk_c [0, 0, 0] w.heap.size (w.heap.size + 1) _ w.heap.size 0 _ _ (row_lit w [0, 0, 0] 3) (by simp) (by unfold maxLen; simp)).mono ?_
  rintro e w1 ⟨rfl, hb⟩
  have hd : datOk [0, 0, 0] = true := by decide
  rw [hd]
  have HB := Lib.hid hb
  clear hb hd
  go_wp2
  go_ret
  exact ⟨rfl, ((Below.refl w.heap.size w).alloc (Nat.le_refl _) _).trans (HB.out.mono (by simp))⟩




end Go.Proofs.Ytoggdhbnkbdilaa
