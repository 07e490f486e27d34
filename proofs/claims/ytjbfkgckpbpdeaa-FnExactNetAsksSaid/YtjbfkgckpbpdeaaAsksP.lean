/- The roles that tasks of a net ask for, rising: sorted and made compact, or one role after the other. Plain Lean. -/
import Derived.Test.YtjbfkgckpbpdeaaMrkOk
import Derived.Lib.SlicesCompact
namespace Go.Proofs.Ytjbfkgckpbpdeaa
open Go.RowKit
set_option linter.unusedVariables false
set_option linter.unusedSimpArgs false

theorem lt_list_ext : ∀ {l l' : List Int}, l.Pairwise (· < ·) → l'.Pairwise (· < ·) → (∀ x, x ∈ l ↔ x ∈ l') → l = l'
  | [], [], _, _, _ => rfl
  | [], b :: r, _, _, h => absurd ((h b).2 (List.mem_cons_self ..)) (by simp)
  | a :: r, [], _, _, h => absurd ((h a).1 (List.mem_cons_self ..)) (by simp)
  | a :: r, b :: s, h1, h2, h => by
    rw [List.pairwise_cons] at h1 h2
    have e : a = b := by
      have ha := (h a).1 (List.mem_cons_self ..)
      have hb := (h b).2 (List.mem_cons_self ..)
      rcases List.mem_cons.1 ha with ha | ha
      · exact ha
      · rcases List.mem_cons.1 hb with hb | hb
        · exact hb.symm
        · have := h2.1 a ha; have := h1.1 b hb; omega
    subst e
    rw [lt_list_ext h1.2 h2.2 fun x => ?_]
    have hx := h x
    rw [List.mem_cons, List.mem_cons] at hx
    constructor
    · intro hm
      rcases hx.1 (.inr hm) with e | hm'
      · have := h1.1 x hm; omega
      · exact hm'
    · intro hm
      rcases hx.2 (.inr hm) with e | hm'
      · have := h2.1 x hm; omega
      · exact hm'
theorem get!_toArray (zs : List Int) (j : Nat) (h : j < zs.length) : zs.toArray[j]! = zs.getD j 0 := by
  rw [getElem!_pos zs.toArray j (by simpa using h), List.getD_eq_getElem?_getD, List.getElem?_eq_getElem h]; simp
theorem sorted_le {zs : List Int} (h : zs.Pairwise (· ≤ ·)) {i j : Nat} (hij : i ≤ j) (hj : j < zs.length) : zs.getD i 0 ≤ zs.getD j 0 := by
  rcases Nat.lt_or_ge i j with h1 | h1
  · have := List.pairwise_iff_getElem.1 h i j (by omega) hj h1
    rw [List.getD_eq_getElem?_getD, List.getD_eq_getElem?_getD, List.getElem?_eq_getElem (by omega), List.getElem?_eq_getElem hj]; exact this
  · rw [show i = j by omega]; exact Int.le_refl _
theorem keeps_iff {zs : List Int} {j : Nat} (hj : j < zs.length) : Lib.keeps zs.toArray j = true ↔ j = 0 ∨ zs.getD j 0 ≠ zs.getD (j - 1) 0 := by
  unfold Lib.keeps
  rw [decide_eq_true_eq, get!_toArray zs j hj, get!_toArray zs (j - 1) (by omega)]
theorem compact_lt {zs : List Int} (h : zs.Pairwise (· ≤ ·)) : (Lib.compact zs).Pairwise (· < ·) := by
  unfold Lib.compact Lib.compactUpTo
  rw [List.pairwise_map]
  refine List.Pairwise.imp_of_mem ?_ (List.pairwise_lt_range.filter _)
  intro a b ha hb hab
  rw [List.mem_filter, List.mem_range] at ha hb
  rw [get!_toArray zs a ha.1, get!_toArray zs b hb.1]
  rcases (keeps_iff hb.1).1 hb.2 with e | e
  · omega
  · have h1 := sorted_le h (show a ≤ b - 1 by omega) (by omega)
    have h2 := sorted_le h (show b - 1 ≤ b by omega) hb.1
    omega
theorem compact_mem {zs : List Int} (x : Int) : x ∈ Lib.compact zs ↔ x ∈ zs := by
  unfold Lib.compact Lib.compactUpTo
  rw [List.mem_map]
  constructor
  · rintro ⟨j, hj, rfl⟩
    rw [List.mem_filter, List.mem_range] at hj
    rw [get!_toArray zs j hj.1, List.getD_eq_getElem?_getD, List.getElem?_eq_getElem hj.1]
    exact List.getElem_mem hj.1
  · intro hx
    obtain ⟨i, hi⟩ := List.getElem?_of_mem hx
    have key : ∀ m : Nat, m < zs.length → zs.getD m 0 = x → ∃ j, j ∈ (List.range zs.length).filter (Lib.keeps zs.toArray) ∧ zs.toArray[j]! = x := by
      intro m
      induction m with
      | zero =>
        intro hm e
        exact ⟨0, by rw [List.mem_filter, List.mem_range]; exact ⟨hm, (keeps_iff hm).2 (.inl rfl)⟩, by rw [get!_toArray zs 0 hm]; exact e⟩
      | succ m ih =>
        intro hm e
        by_cases hk : Lib.keeps zs.toArray (m + 1) = true
        · exact ⟨m + 1, by rw [List.mem_filter, List.mem_range]; exact ⟨hm, hk⟩, by rw [get!_toArray zs _ hm]; exact e⟩
        · have : zs.getD (m + 1) 0 = zs.getD m 0 := by
            by_cases e2 : zs.getD (m + 1) 0 = zs.getD (m + 1 - 1) 0
            · exact e2
            · exact absurd ((keeps_iff hm).2 (.inr e2)) hk
          exact ih (by omega) (by rw [← this]; exact e)
    exact key i (lt_of_some hi) (getD_of hi)
/-- The roles of all tasks, as they stand. -/
def rolesL (n : NNet) : List Int := n.tasks.map NTask.role
def askedB (n : NNet) (r : Int) : Bool := n.tasks.any fun t => t.role == r
def asksL (n : NNet) : List Int := if netOk n then ([1, 2, 3] : List Int).filter (askedB n) else []
theorem asksL_no {n : NNet} (h : netOk n = false) : asksL n = [] := by rw [asksL, h]; rfl
theorem asksL_yes {n : NNet} (h : netOk n = true) : asksL n = ([1, 2, 3] : List Int).filter (askedB n) := by rw [asksL, if_pos h]
theorem asksL_len (n : NNet) : (asksL n).length ≤ 1048576 := by
  unfold asksL
  split
  · have := List.length_filter_le (askedB n) ([1, 2, 3] : List Int)
    simp at this; omega
  · simp
theorem asks_law {n : NNet} (h : netOk n = true) : Lib.compact ((rolesL n).mergeSort fun x y => decide (x ≤ y)) = asksL n := by
  rw [asksL_yes h]
  have hs : ((rolesL n).mergeSort fun x y => decide (x ≤ y)).Pairwise (· ≤ ·) := by
    have := List.pairwise_mergeSort (le := fun x y : Int => decide (x ≤ y)) (fun a b c h1 h2 => by simp at h1 h2 ⊢; omega) (fun a b => by simp; omega) (rolesL n)
    exact this.imp fun h => by simpa using h
  refine lt_list_ext (compact_lt hs) (List.Pairwise.filter _ (by decide)) fun x => ?_
  rw [compact_mem, (List.mergeSort_perm _ _).mem_iff, List.mem_filter, rolesL, List.mem_map]
  constructor
  · rintro ⟨t, ht, rfl⟩
    obtain ⟨_, _, _, _, _, _, h7, _⟩ := taskOk_parts ((netOk_parts h).2.2.2.2 t ht)
    rw [inB_iff] at h7
    refine ⟨?_, List.any_eq_true.2 ⟨t, ht, by simp⟩⟩
    have : t.role = 1 ∨ t.role = 2 ∨ t.role = 3 := by omega
    simpa using this
  · rintro ⟨_, hx⟩
    obtain ⟨t, ht, e⟩ := List.any_eq_true.1 hx
    exact ⟨t, ht, by simpa using e⟩
end Go.Proofs.Ytjbfkgckpbpdeaa
