/- What a task takes of marks, in plain Lean; a row of numbers of a call's own, one of them stored. -/
import Derived.Test.YtililbgpjbpnkaaMrkOk
import Derived.Test.YtililbgpjbpnkaaPick
import Derived.Test.YtililbgpjbpnkaaBools
namespace Go.Proofs.Ytililbgpjbpnkaa
open Go.RowKit
set_option linter.unusedVariables false
set_option linter.unusedSimpArgs false

/-- Marks without those that a task takes at some of its places. -/
def takeL (join : Int) : List Int → List Int → List Int
  | [], zs => zs
  | p :: r, zs => if 0 < zs.getD p.toNat 0 then (if join = 2 then zs.set p.toNat (zs.getD p.toNat 0 - 1) else takeL join r (zs.set p.toNat (zs.getD p.toNat 0 - 1))) else takeL join r zs
def taskOf (n : NNet) (t : Int) : NTask := n.tasks.getD t.toNat default
theorem taskOf_at {n : NNet} {k : Nat} {t : NTask} (h : n.tasks[k]? = some t) : taskOf n (k : Int) = t := by
  rw [taskOf]; exact getD_of h
def takeN (n : NNet) (zs : List Int) (t : Int) : List Int := if mrkOk n zs && inB t 0 ((n.tasks.length : Int) - 1) then takeL (taskOf n t).join (taskOf n t).ins zs else []
theorem takeN_no1 {n : NNet} {zs : List Int} {t : Int} (h : mrkOk n zs = false) : takeN n zs t = [] := by rw [takeN, h]; rfl
theorem takeN_no2 {n : NNet} {zs : List Int} {t : Int} (h : mrkOk n zs = true) (h2 : inB t 0 ((n.tasks.length : Int) - 1) = false) : takeN n zs t = [] := by rw [takeN, h, h2]; rfl
theorem takeN_yes {n : NNet} {zs : List Int} {k : Nat} {t : NTask} (h : mrkOk n zs = true) (h2 : inB (k : Int) 0 ((n.tasks.length : Int) - 1) = true) (ht : n.tasks[k]? = some t) : takeN n zs (k : Int) = takeL t.join t.ins zs := by
  rw [takeN, h, h2, taskOf_at ht]; rfl
theorem takeL_length (join : Int) : ∀ (l zs : List Int), (takeL join l zs).length = zs.length
  | [], zs => rfl
  | p :: r, zs => by
    unfold takeL
    split
    · split
      · simp
      · rw [takeL_length join r]; simp
    · exact takeL_length join r zs
theorem drop_at {α : Type} {l : List α} {k : Nat} {x : α} (h : l[k]? = some x) : l.drop k = x :: l.drop (k + 1) := by
  have hk := lt_of_some h
  rw [List.getElem?_eq_getElem hk] at h
  injection h with h
  rw [List.drop_eq_getElem_cons hk, h]
theorem takeL_skip {join : Int} {l zs : List Int} {k : Nat} {x : Int} (h : l[k]? = some x) (hz : ¬ 0 < zs.getD x.toNat 0) : takeL join (l.drop k) zs = takeL join (l.drop (k + 1)) zs := by
  rw [drop_at h]; conv => lhs; unfold takeL
  rw [if_neg hz]
theorem takeL_one {join : Int} {l zs : List Int} {k : Nat} {x : Int} (h : l[k]? = some x) (hz : 0 < zs.getD x.toNat 0) (hj : join = 2) : takeL join (l.drop k) zs = zs.set x.toNat (zs.getD x.toNat 0 - 1) := by
  rw [drop_at h]; conv => lhs; unfold takeL
  rw [if_pos hz, if_pos hj]
theorem takeL_more {join : Int} {l zs : List Int} {k : Nat} {x : Int} (h : l[k]? = some x) (hz : 0 < zs.getD x.toNat 0) (hj : ¬ join = 2) : takeL join (l.drop k) zs = takeL join (l.drop (k + 1)) (zs.set x.toNat (zs.getD x.toNat 0 - 1)) := by
  rw [drop_at h]; conv => lhs; unfold takeL
  rw [if_pos hz, if_neg hj]
/-- Marks as they may be. -/
def Few (zs : List Int) : Prop := ∀ y ∈ zs, 0 ≤ y ∧ y ≤ 4
theorem few_getD {zs : List Int} (h : Few zs) (k : Nat) : 0 ≤ zs.getD k 0 ∧ zs.getD k 0 ≤ 4 := by
  rw [List.getD_eq_getElem?_getD]
  by_cases hk : k < zs.length
  · rw [List.getElem?_eq_getElem hk]; exact h _ (List.getElem_mem hk)
  · rw [List.getElem?_eq_none (by omega)]; simp
theorem few_less {zs : List Int} (h : Few zs) {k : Nat} (h0 : 0 < zs.getD k 0) : Few (zs.set k (zs.getD k 0 - 1)) := by
  intro y hy
  rcases List.mem_or_eq_of_mem_set hy with h1 | h1
  · exact h y h1
  · have := few_getD h k; omega
theorem mrkOk_parts {n : NNet} {zs : List Int} (h : mrkOk n zs = true) : netOk n = true ∧ (zs.length : Int) = n.places ∧ Few zs := by
  rw [mrkOk, Bool.and_eq_true] at h
  have h2 := h.2
  rw [marksB, Bool.and_eq_true, decide_eq_true_eq, List.all_eq_true] at h2
  exact ⟨h.1, h2.1, fun y hy => inB_iff.1 (h2.2 y hy)⟩
theorem takeN_len (n : NNet) (zs : List Int) (t : Int) : (takeN n zs t).length ≤ 1048576 := by
  by_cases h : mrkOk n zs = true
  · have hp := mrkOk_parts h
    have hq := netOk_parts hp.1
    unfold takeN
    split
    · rw [takeL_length]; omega
    · simp
  · rw [takeN_no1 (by simpa using h)]; simp

/-- A place of it: what it reads, and what it is when a number is stored there. -/
theorem Made.at_ {w : World} {base g m c : Nat} {e : TypeId} {zs : List Int} (h : Made w base e zs (.slice (some ⟨g, 0, none⟩) m c)) (hm : zs.length = m) {k : Nat} (hk : k < zs.length) :
    w.cell? ⟨g, k, none⟩ = some (.int .i64 (zs.getD k 0)) ∧ w.frozen? ⟨g, k, none⟩ = false ∧ ∀ x : Int, Made (w.setCell ⟨g, k, none⟩ (.int .i64 x)) base e (zs.set k x) (.slice (some ⟨g, 0, none⟩) m c) := by
  subst hm
  have h' := h
  unfold Made at h'
  have hd := h'.cellAt k (by omega)
  rw [ints_at (List.getElem?_eq_getElem hk)] at hd
  refine ⟨by rw [hd, List.getD_eq_getElem?_getD, List.getElem?_eq_getElem hk]; rfl, h'.frozenAt k, fun x => ?_⟩
  have := (h'.stored k (.int .i64 x)).1
  unfold Made
  rw [show ints (zs.set k x) = (ints zs).set k (.int .i64 x) by simp [ints, List.map_set]]
  rw [show (zs.set k x).length = zs.length by simp]
  exact this
end Go.Proofs.Ytililbgpjbpnkaa
