/- When a task can begin, in plain Lean: what the program reckons place by place is what the reference reckons at once. -/
import Derived.Test.YtililbgpjbpnkaaBusy
import Derived.Test.YtililbgpjbpnkaaReachP
import Derived.Test.YtililbgpjbpnkaaBools
namespace Go.Proofs.Ytililbgpjbpnkaa
open Go.RowKit
set_option linter.unusedVariables false
set_option linter.unusedSimpArgs false

def someB (ms ins : List Int) : Bool := ins.any fun p => decide (0 < ms.getD p.toNat 0)
def allB (ms ins : List Int) : Bool := ins.all fun p => decide (0 < ms.getD p.toNat 0)
def outsOf (n : NNet) (bs : List NItem) : List NFlow := bs.flatMap fun b => (taskOf n b.task).out
/-- A mark lies at a place that is none of the task's own. -/
def awayAt (ms ins : List Int) (p : Nat) : Bool := decide (0 < ms.getD p 0) && !decide ((p : Int) ∈ ins)
def startB (n : NNet) (ms : List Int) (bs : List NItem) (t : Int) : List Bool := light ((List.range n.places.toNat).map (awayAt ms (taskOf n t).ins)) (outsOf n bs)
def wantsB (ms : List Int) (s : List Bool) (q : Int) : Bool := decide (ms.getD q.toNat 0 = 0) && bit s q
def comingB (n : NNet) (ms : List Int) (bs : List NItem) (t : Int) : Bool := (taskOf n t).ins.any (wantsB ms (reachAll n t (startB n ms bs t)))
def fromL (n : NNet) (ms : List Int) (bs : List NItem) (t : Int) : List Int := atsN (awayAt ms (taskOf n t).ins) n.places.toNat ++ (outsOf n bs).map NFlow.to
def arrivesB (n : NNet) (ms : List Int) (bs : List NItem) (t : Int) : Bool := (fromL n ms bs t).any fun p => (taskOf n t).ins.any (wantsB ms (reachAll n t (single n.places.toNat p)))
def canB (n : NNet) (ms : List Int) (bs : List NItem) (t : Int) : Bool :=
  if (taskOf n t).join = 1 then allB ms (taskOf n t).ins
  else if (taskOf n t).join = 2 then someB ms (taskOf n t).ins
  else someB ms (taskOf n t).ins && (allB ms (taskOf n t).ins || !comingB n ms bs t)
def enaB (n : NNet) (ms : List Int) (bs : List NItem) (t : Int) : Bool := mrkOk n ms && (busyB n bs && (inB t 0 ((n.tasks.length : Int) - 1) && canB n ms bs t))

theorem mem_atsN {p : Nat → Bool} {x : Int} : ∀ {k : Nat}, x ∈ atsN p k ↔ ∃ j : Nat, j < k ∧ p j = true ∧ x = (j : Int)
  | 0 => by simp [atsN]
  | k + 1 => by
    rw [atsN, List.mem_append, mem_atsN]
    constructor
    · rintro (⟨j, h1, h2, h3⟩ | h)
      · exact ⟨j, by omega, h2, h3⟩
      · split at h
        · next hp => simp at h; exact ⟨k, by omega, hp, h⟩
        · simp at h
    · rintro ⟨j, h1, h2, h3⟩
      by_cases hj : j < k
      · exact .inl ⟨j, hj, h2, h3⟩
      · obtain rfl : j = k := by omega
        right; rw [if_pos h2]; simp [h3]
theorem light_iff : ∀ (outs : List NFlow) (s : List Bool) (j : Nat), (light s outs).getD j false = true ↔ s.getD j false = true ∨ ∃ f ∈ outs, f.to.toNat = j ∧ j < s.length
  | [], s, j => by simp [light]
  | f :: r, s, j => by
    show (light (s.set f.to.toNat true) r).getD j false = true ↔ _
    rw [light_iff r, getD_set]
    constructor
    · rintro (h | ⟨g, hg, h1, h2⟩)
      · split at h
        · next e => exact .inr ⟨f, List.mem_cons_self .., e.1, e.2⟩
        · exact .inl h
      · exact .inr ⟨g, List.mem_cons_of_mem _ hg, h1, by simpa using h2⟩
    · rintro (h | ⟨g, hg, h1, h2⟩)
      · left; split
        · rfl
        · exact h
      · rcases List.mem_cons.1 hg with rfl | hg
        · left; rw [if_pos ⟨h1, h2⟩]
        · exact .inr ⟨g, hg, h1, by simpa using h2⟩
theorem taskOf_mem {n : NNet} {t : Int} (h0 : 0 ≤ t) (h1 : t < (n.tasks.length : Int)) : taskOf n t ∈ n.tasks := by
  obtain ⟨k, rfl⟩ := Int.eq_ofNat_of_zero_le h0
  have hk : k < n.tasks.length := by omega
  rw [taskOf_at (List.getElem?_eq_getElem hk)]; exact List.getElem_mem hk
theorem outsOf_bound {n : NNet} (h : netOk n = true) {bs : List NItem} (hb : busyB n bs = true) {f : NFlow} (hf : f ∈ outsOf n bs) : 1 ≤ f.to ∧ f.to < n.places := by
  obtain ⟨b, hb1, hb2⟩ := List.mem_flatMap.1 hf
  have h3 := itemOk_task ((busyB_parts hb).2 b hb1)
  exact out_bound h (taskOf_mem h3.1 h3.2) hb2
theorem startB_length (n : NNet) (ms : List Int) (bs : List NItem) (t : Int) : (startB n ms bs t).length = n.places.toNat := by
  rw [startB, light_length]; simp
theorem startB_iff {n : NNet} (h : netOk n = true) {ms : List Int} {bs : List NItem} (hb : busyB n bs = true) {t : Int} {p : Nat} (hp : p < n.places.toNat) : (startB n ms bs t).getD p false = true ↔ (p : Int) ∈ fromL n ms bs t := by
  rw [startB, light_iff, fromL, List.mem_append, mem_atsN, List.mem_map]
  constructor
  · rintro (h1 | ⟨f, hf, h1, h2⟩)
    · left
      refine ⟨p, hp, ?_, rfl⟩
      rw [List.getD_eq_getElem?_getD, List.getElem?_map, List.getElem?_range hp] at h1
      exact h1
    · right
      have := outsOf_bound h hb hf
      exact ⟨f, hf, by omega⟩
  · rintro (⟨j, h1, h2, h3⟩ | ⟨f, hf, h1⟩)
    · left
      obtain rfl : p = j := by omega
      rw [List.getD_eq_getElem?_getD, List.getElem?_map, List.getElem?_range hp]; exact h2
    · right
      exact ⟨f, hf, by omega, by simpa using hp⟩
theorem fromL_bound {n : NNet} (h : netOk n = true) {ms : List Int} {bs : List NItem} (hb : busyB n bs = true) {t : Int} {x : Int} (hx : x ∈ fromL n ms bs t) : 0 ≤ x ∧ x < n.places := by
  have hp := netOk_parts h
  rw [fromL, List.mem_append, mem_atsN, List.mem_map] at hx
  rcases hx with ⟨j, h1, _, h3⟩ | ⟨f, hf, h1⟩
  · omega
  · have := outsOf_bound h hb hf; omega
/-- Something can come to a task: place by place, or all at once. -/
theorem arrives_coming {n : NNet} (h : netOk n = true) {ms : List Int} {bs : List NItem} (hb : busyB n bs = true) (t : Int) (ht0 : 0 ≤ t) (ht1 : t < (n.tasks.length : Int)) : arrivesB n ms bs t = comingB n ms bs t := by
  have hun := fun q => reach_union t n.tasks (startB n ms bs t) n.places.toNat (startB_length n ms bs t) q
  have hp := netOk_parts h
  refine Bool.eq_iff_iff.2 ⟨fun h1 => ?_, fun h1 => ?_⟩
  · obtain ⟨p, hpm, h2⟩ := List.any_eq_true.1 h1
    obtain ⟨q, hq, h3⟩ := List.any_eq_true.1 h2
    have hpb := fromL_bound h hb hpm
    obtain ⟨k, rfl⟩ := Int.eq_ofNat_of_zero_le hpb.1
    refine List.any_eq_true.2 ⟨q, hq, ?_⟩
    rw [wantsB, Bool.and_eq_true] at h3 ⊢
    refine ⟨h3.1, ?_⟩
    rw [bit, reachAll, hun]
    refine List.any_eq_true.2 ⟨k, List.mem_range.2 (by omega), ?_⟩
    rw [Bool.and_eq_true]
    exact ⟨(startB_iff h hb (by omega)).2 hpm, h3.2⟩
  · obtain ⟨q, hq, h3⟩ := List.any_eq_true.1 h1
    rw [wantsB, Bool.and_eq_true] at h3
    have h4 := h3.2
    rw [bit, reachAll, hun] at h4
    obtain ⟨k, hk, h5⟩ := List.any_eq_true.1 h4
    rw [Bool.and_eq_true] at h5
    refine List.any_eq_true.2 ⟨(k : Int), (startB_iff h hb (List.mem_range.1 hk)).1 h5.1, List.any_eq_true.2 ⟨q, hq, ?_⟩⟩
    rw [wantsB, Bool.and_eq_true]
    exact ⟨h3.1, h5.2⟩
end Go.Proofs.Ytililbgpjbpnkaa
