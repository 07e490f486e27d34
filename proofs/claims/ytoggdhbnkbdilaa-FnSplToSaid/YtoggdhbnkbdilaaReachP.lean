/- Which places can be come to from some: in plain Lean, no function of the program. -/
import Derived.Test.YtoggdhbnkbdilaaNetFlows
namespace Go.Proofs.Ytoggdhbnkbdilaa
open Go.RowKit
set_option linter.unusedVariables false
set_option linter.unusedSimpArgs false

/-- Place x of a set. -/
def bit (s : List Bool) (x : Int) : Bool := s.getD x.toNat false
def light (s : List Bool) (outs : List NFlow) : List Bool := outs.foldl (fun s f => s.set f.to.toNat true) s
def goes (but : Int) (i : Nat) (t : NTask) (s : List Bool) : Bool := !(decide ((i : Int) = but)) && t.ins.any (bit s)
def stepT (but : Int) (i : Nat) (t : NTask) (s : List Bool) : List Bool := if goes but i t s then light s t.out else s
/-- The first k tasks, one behind the other. -/
def passN (but : Int) (ts : List NTask) : Nat → List Bool → List Bool
  | 0, s => s
  | k + 1, s => match ts[k]? with
    | some t => stepT but k t (passN but ts k s)
    | none => passN but ts k s
def pass (but : Int) (ts : List NTask) (s : List Bool) : List Bool := passN but ts ts.length s
def spread (but : Int) (ts : List NTask) : Nat → List Bool → List Bool
  | 0, s => s
  | k + 1, s => pass but ts (spread but ts k s)
def reachAll (n : NNet) (but : Int) (s : List Bool) : List Bool := spread but n.tasks n.places.toNat s
def single (m : Nat) (p : Int) : List Bool := (List.replicate m false).set p.toNat true

theorem passN_succ {but : Int} {ts : List NTask} {k : Nat} {t : NTask} {s : List Bool} (h : ts[k]? = some t) : passN but ts (k + 1) s = stepT but k t (passN but ts k s) := by
  simp [passN, h]

theorem light_length : ∀ (outs : List NFlow) (s : List Bool), (light s outs).length = s.length
  | [], _ => rfl
  | f :: r, s => by show (light (s.set f.to.toNat true) r).length = _; rw [light_length r]; simp
theorem stepT_length (but : Int) (i : Nat) (t : NTask) (s : List Bool) : (stepT but i t s).length = s.length := by
  unfold stepT; split
  · exact light_length _ _
  · rfl
theorem passN_length (but : Int) (ts : List NTask) : ∀ (k : Nat) (s : List Bool), (passN but ts k s).length = s.length
  | 0, _ => rfl
  | k + 1, s => by
    unfold passN; split
    · rw [stepT_length, passN_length but ts k]
    · exact passN_length but ts k s
theorem pass_length (but : Int) (ts : List NTask) (s : List Bool) : (pass but ts s).length = s.length := passN_length _ _ _ _
theorem spread_length (but : Int) (ts : List NTask) : ∀ (k : Nat) (s : List Bool), (spread but ts k s).length = s.length
  | 0, _ => rfl
  | k + 1, s => by rw [spread, pass_length, spread_length but ts k]

/-- How many places are not in a set. -/
def unlit (s : List Bool) : Nat := s.countP (fun b => !b)
theorem unlit_le (s : List Bool) : unlit s ≤ s.length := List.countP_le_length
theorem unlit_set (s : List Bool) (j : Nat) (h : s[j]? = some false) : unlit (s.set j true) + 1 = unlit s := by
  have hj := lt_of_some h
  have hg : s[j] = false := by rw [List.getElem?_eq_getElem hj] at h; injection h
  have hpos : 0 < unlit s := List.countP_pos_iff.2 ⟨false, hg ▸ List.getElem_mem hj, rfl⟩
  unfold unlit at hpos ⊢
  rw [List.countP_set (h := hj)]
  simp [hg]; omega
theorem set_same {s : List Bool} {j : Nat} (h : s[j]? ≠ some false) : s.set j true = s := by
  refine List.ext_getElem? fun i => ?_
  rw [List.getElem?_set]
  split
  · next e =>
    subst e
    split
    · next hj =>
      rw [List.getElem?_eq_getElem hj] at h ⊢
      cases hb : s[j] with
      | true => rfl
      | false => rw [hb] at h; exact absurd rfl h
    · next hj => rw [List.getElem?_eq_none (by omega)]
  · rfl
/-- Nothing changed, or a place came in. -/
def Up (s s' : List Bool) : Prop := s' = s ∨ unlit s' < unlit s
theorem Up.refl (s : List Bool) : Up s s := .inl rfl
theorem Up.trans {a b c : List Bool} (h : Up a b) (k : Up b c) : Up a c := by
  rcases h with rfl | h
  · exact k
  · rcases k with rfl | k
    · exact .inr h
    · exact .inr (Nat.lt_trans k h)
theorem Up.le {a b : List Bool} (h : Up a b) : unlit b ≤ unlit a := by
  rcases h with rfl | h
  · exact Nat.le_refl _
  · exact Nat.le_of_lt h
theorem up_set (s : List Bool) (j : Nat) : Up s (s.set j true) := by
  by_cases h : s[j]? = some false
  · exact .inr (by have := unlit_set s j h; omega)
  · exact .inl (set_same h)
theorem up_light : ∀ (outs : List NFlow) (s : List Bool), Up s (light s outs)
  | [], s => Up.refl s
  | f :: r, s => (up_set s f.to.toNat).trans (up_light r _)
theorem up_step (but : Int) (i : Nat) (t : NTask) (s : List Bool) : Up s (stepT but i t s) := by
  unfold stepT; split
  · exact up_light _ _
  · exact Up.refl _
theorem up_next (but : Int) (ts : List NTask) (k : Nat) (s : List Bool) : Up (passN but ts k s) (passN but ts (k + 1) s) := by
  show Up _ (match ts[k]? with | some t => stepT but k t (passN but ts k s) | none => passN but ts k s)
  split
  · exact up_step _ _ _ _
  · exact Up.refl _
theorem up_passN (but : Int) (ts : List NTask) (s : List Bool) (k : Nat) : ∀ d, Up (passN but ts k s) (passN but ts (k + d) s)
  | 0 => Up.refl _
  | d + 1 => (up_passN but ts s k d).trans (up_next but ts (k + d) s)
theorem up_pass (but : Int) (ts : List NTask) (s : List Bool) : Up s (pass but ts s) := by
  have := up_passN but ts s 0 ts.length; rwa [Nat.zero_add] at this

theorem spread_stable (but : Int) (ts : List NTask) (s : List Bool) : ∀ k, pass but ts (spread but ts k s) = spread but ts k s ∨ unlit (spread but ts (k + 1) s) + (k + 1) ≤ unlit s
  | 0 => by
    rcases up_pass but ts s with h | h
    · exact .inl h
    · exact .inr (by show unlit (pass but ts s) + 1 ≤ _; omega)
  | k + 1 => by
    rcases spread_stable but ts s k with h | h
    · left
      have e : spread but ts (k + 1) s = spread but ts k s := h
      rw [e, h]
    · rcases up_pass but ts (spread but ts (k + 1) s) with e | e
      · exact .inl e
      · exact .inr (by show unlit (pass but ts (spread but ts (k + 1) s)) + (k + 1 + 1) ≤ _; omega)
theorem spread_fix (but : Int) (ts : List NTask) (s : List Bool) (k : Nat) (hk : s.length ≤ k) : pass but ts (spread but ts k s) = spread but ts k s := by
  rcases spread_stable but ts s k with h | h
  · exact h
  · have := unlit_le s; omega
theorem spread_stay (but : Int) (ts : List NTask) (s : List Bool) (k : Nat) (h : pass but ts (spread but ts k s) = spread but ts k s) : ∀ d, spread but ts (k + d) s = spread but ts k s
  | 0 => rfl
  | d + 1 => by
    show pass but ts (spread but ts (k + d) s) = _
    rw [spread_stay but ts s k h d, h]
/-- Where nothing changes any more, all is reached. -/
theorem spread_done (but : Int) (ts : List NTask) (s : List Bool) (j k : Nat) (hk : s.length ≤ k) (h : pass but ts (spread but ts j s) = spread but ts j s) : spread but ts j s = spread but ts k s := by
  rcases Nat.le_total j k with hjk | hjk
  · obtain ⟨d, rfl⟩ := Nat.exists_eq_add_of_le hjk
    exact (spread_stay but ts s j h d).symm
  · obtain ⟨d, rfl⟩ := Nat.exists_eq_add_of_le hjk
    exact spread_stay but ts s k (spread_fix but ts s k hk) d

/-- Nothing leads out of a set. -/
def Closed (but : Int) (ts : List NTask) (c : List Bool) : Prop :=
  ∀ (k : Nat) (t : NTask), ts[k]? = some t → (k : Int) ≠ but → ∀ x ∈ t.ins, bit c x = true → ∀ f ∈ t.out, f.to.toNat < c.length → bit c f.to = true
def Sub (s c : List Bool) : Prop := ∀ j, s.getD j false = true → c.getD j false = true
theorem getD_set (s : List Bool) (j i : Nat) : (s.set j true).getD i false = if j = i ∧ i < s.length then true else s.getD i false := by
  simp only [List.getD_eq_getElem?_getD, List.getElem?_set]
  by_cases h : j = i
  · subst h
    by_cases h2 : j < s.length
    · simp [h2]
    · simp [h2]
  · simp [h]
theorem light_mono : ∀ (outs : List NFlow) (s : List Bool), Sub s (light s outs)
  | [], s => fun _ h => h
  | f :: r, s => fun j h => light_mono r _ j (by
    rw [getD_set]; split
    · rfl
    · exact h)
theorem light_at : ∀ (outs : List NFlow) (s : List Bool) (f : NFlow), f ∈ outs → f.to.toNat < s.length → bit (light s outs) f.to = true
  | g :: r, s, f, hf, hl => by
    rcases List.mem_cons.1 hf with rfl | hf
    · exact light_mono r _ _ (by rw [getD_set]; simp [hl])
    · exact light_at r _ f hf (by simpa using hl)
theorem light_sub {c : List Bool} : ∀ (outs : List NFlow) (s : List Bool), s.length = c.length → Sub s c → (∀ f ∈ outs, f.to.toNat < c.length → bit c f.to = true) → Sub (light s outs) c
  | [], s, _, h, _ => h
  | f :: r, s, hl, h, ho => by
    refine light_sub r (s.set f.to.toNat true) (by simpa using hl) (fun j hj => ?_) (fun g hg => ho g (List.mem_cons_of_mem _ hg))
    rw [getD_set] at hj
    split at hj
    · next e => have := ho f (List.mem_cons_self ..) (by omega); rw [← e.1]; exact this
    · exact h j hj
theorem step_sub {but : Int} {ts : List NTask} {c : List Bool} (hc : Closed but ts c) {k : Nat} {t : NTask} (ht : ts[k]? = some t) {s : List Bool} (hl : s.length = c.length) (h : Sub s c) : Sub (stepT but k t s) c := by
  unfold stepT; split
  · next hg =>
    rw [goes, Bool.and_eq_true, List.any_eq_true] at hg
    obtain ⟨hb, x, hx, hxs⟩ := hg
    exact light_sub _ _ hl h fun f hf hfl => hc k t ht (by simpa using hb) x hx (h _ hxs) f hf hfl
  · exact h
theorem passN_sub {but : Int} {ts : List NTask} {c : List Bool} (hc : Closed but ts c) : ∀ (k : Nat) {s : List Bool}, s.length = c.length → Sub s c → Sub (passN but ts k s) c
  | 0, s, _, h => h
  | k + 1, s, hl, h => by
    unfold passN; split
    · next t ht => exact step_sub hc ht (by rw [passN_length]; exact hl) (passN_sub hc k hl h)
    · exact passN_sub hc k hl h
theorem spread_sub {but : Int} {ts : List NTask} {c : List Bool} (hc : Closed but ts c) : ∀ (k : Nat) {s : List Bool}, s.length = c.length → Sub s c → Sub (spread but ts k s) c
  | 0, s, _, h => h
  | k + 1, s, hl, h => passN_sub hc _ (by rw [spread_length]; exact hl) (spread_sub hc k hl h)
theorem step_mono (but : Int) (k : Nat) (t : NTask) (s : List Bool) : Sub s (stepT but k t s) := by
  unfold stepT; split
  · exact light_mono _ _
  · exact fun _ h => h
theorem passN_mono (but : Int) (ts : List NTask) : ∀ (k : Nat) (s : List Bool), Sub s (passN but ts k s)
  | 0, s => fun _ h => h
  | k + 1, s => by
    unfold passN; split
    · exact fun j h => step_mono _ _ _ _ j (passN_mono but ts k s j h)
    · exact passN_mono but ts k s
theorem spread_mono (but : Int) (ts : List NTask) : ∀ (k : Nat) (s : List Bool), Sub s (spread but ts k s)
  | 0, s => fun _ h => h
  | k + 1, s => fun j h => passN_mono but ts _ _ j (spread_mono but ts k s j h)
theorem fix_closed {but : Int} {ts : List NTask} {s : List Bool} (h : pass but ts s = s) : Closed but ts s := by
  have hk : ∀ k, k ≤ ts.length → passN but ts k s = s := fun k hk => by
    have h1 := up_passN but ts s 0 k
    have h2 := up_passN but ts s k (ts.length - k)
    rw [Nat.zero_add] at h1
    rw [show k + (ts.length - k) = ts.length by omega] at h2
    change Up (passN but ts k s) (pass but ts s) at h2
    rw [h] at h2
    rcases h1 with e | e
    · exact e
    · have := h2.le; change unlit (passN but ts k s) < unlit s at e; omega
  intro k t ht hb x hx hxs f hf hfl
  have hlt := lt_of_some ht
  have e := hk (k + 1) hlt
  rw [passN_succ ht, hk k (by omega)] at e
  have hg : goes but k t s = true := by
    rw [goes, Bool.and_eq_true, List.any_eq_true]; exact ⟨by simpa using hb, x, hx, hxs⟩
  rw [stepT, if_pos hg] at e
  rw [← e]; exact light_at _ _ _ hf hfl
theorem single_length (m : Nat) (p : Int) : (single m p).length = m := by simp [single]
theorem single_at (m : Nat) (p : Int) (j : Nat) : (single m p).getD j false = decide (p.toNat = j ∧ j < m) := by
  rw [single, getD_set]
  simp only [List.length_replicate]
  by_cases h : p.toNat = j ∧ j < m
  · simp [h]
  · rw [if_neg h]; simp [h, List.getD_eq_getElem?_getD, List.getElem?_replicate]; split <;> rfl
/-- What can be come to from many places can be come to from one of them. -/
theorem reach_union (but : Int) (ts : List NTask) (s : List Bool) (m : Nat) (hm : s.length = m) (q : Nat) :
    (spread but ts m s).getD q false = (List.range m).any fun p => s.getD p false && (spread but ts m (single m (p : Int))).getD q false := by
  have hcl : ∀ p : Nat, Closed but ts (spread but ts m (single m (p : Int))) := fun p => fix_closed (spread_fix but ts _ m (by rw [single_length]; exact Nat.le_refl _))
  have hlen : ∀ p : Nat, (spread but ts m (single m (p : Int))).length = m := fun p => by rw [spread_length, single_length]
  have hS := fix_closed (spread_fix but ts s m (by omega))
  refine Bool.eq_iff_iff.2 ⟨fun h => ?_, fun h => ?_⟩
  · let F : Nat → Bool := fun q => (List.range m).any fun p => s.getD p false && (spread but ts m (single m (p : Int))).getD q false
    let c : List Bool := (List.range m).map F
    have hcl2 : c.length = m := by simp [c]
    have hcg : ∀ j, c.getD j false = (decide (j < m) && F j) := fun j => by
      simp only [c, List.getD_eq_getElem?_getD, List.getElem?_map]
      by_cases hj : j < m
      · simp [hj]
      · simp [hj]
    have hc : Closed but ts c := by
      intro k t ht hb x hx hxs f hf hfl
      unfold bit at hxs ⊢
      rw [hcg, Bool.and_eq_true] at hxs
      rw [hcg, Bool.and_eq_true]
      refine ⟨by simpa [hcl2] using hfl, ?_⟩
      obtain ⟨p, hp, hp2⟩ := List.any_eq_true.1 hxs.2
      rw [Bool.and_eq_true] at hp2
      refine List.any_eq_true.2 ⟨p, hp, ?_⟩
      rw [Bool.and_eq_true]
      exact ⟨hp2.1, hcl p k t ht hb x hx hp2.2 f hf (by rw [hlen]; rw [hcl2] at hfl; exact hfl)⟩
    have hsub : Sub s c := fun j hj => by
      have hjm : j < m := by
        rcases Nat.lt_or_ge j m with h | h
        · exact h
        · rw [List.getD_eq_getElem?_getD, List.getElem?_eq_none (by omega)] at hj; simp at hj
      rw [hcg, Bool.and_eq_true]
      refine ⟨by simpa using hjm, List.any_eq_true.2 ⟨j, List.mem_range.2 hjm, ?_⟩⟩
      rw [Bool.and_eq_true]
      exact ⟨hj, spread_mono but ts m _ j (by rw [single_at]; simp [hjm])⟩
    have := spread_sub hc m (by rw [hm, hcl2]) hsub q h
    rw [hcg, Bool.and_eq_true] at this
    exact this.2
  · obtain ⟨p, hp, hp2⟩ := List.any_eq_true.1 h
    rw [Bool.and_eq_true] at hp2
    refine spread_sub hS m (by rw [single_length, spread_length]; exact hm.symm) (fun j hj => ?_) q hp2.2
    rw [single_at, decide_eq_true_eq] at hj
    have e : p = j := by simpa using hj.1
    rw [← e]; exact spread_mono but ts m s p hp2.1
end Go.Proofs.Ytoggdhbnkbdilaa
