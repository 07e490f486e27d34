/- The tasks of a net for which something holds: the program's pick, and the plain list it makes. -/
import Derived.Test.YtjbfkgckpbpdeaaMrkOk
import Derived.Test.YtjbfkgckpbpdeaaMore
import Derived.Laws.AppendOwnNone
namespace Go.Proofs.Ytjbfkgckpbpdeaa
open Go.RowKit
set_option linter.unusedVariables false
set_option linter.unusedSimpArgs false

/-- The numbers below k at which p holds. -/
def atsN (p : Nat → Bool) : Nat → List Int
  | 0 => []
  | k + 1 => atsN p k ++ (if p k then [(k : Int)] else [])
theorem atsN_yes {p : Nat → Bool} {k : Nat} (h : p k = true) : atsN p (k + 1) = atsN p k ++ [(k : Int)] := by rw [atsN, if_pos h]
theorem atsN_no {p : Nat → Bool} {k : Nat} (h : p k = false) : atsN p (k + 1) = atsN p k := by rw [atsN, h]; simp
theorem atsN_len (p : Nat → Bool) : ∀ k, (atsN p k).length ≤ k
  | 0 => Nat.le_refl _
  | k + 1 => by
    have := atsN_len p k
    rw [atsN, List.length_append]
    split <;> simp <;> omega
theorem atsN_congr {p q : Nat → Bool} : ∀ (k : Nat), (∀ j, j < k → p j = q j) → atsN p k = atsN q k
  | 0, _ => rfl
  | k + 1, h => by rw [atsN, atsN, atsN_congr k (fun j hj => h j (by omega)), h k (by omega)]
def taskAt (p : NTask → Bool) (n : NNet) (k : Nat) : Bool := match n.tasks[k]? with | some t => p t | none => false
theorem taskAt_of {p : NTask → Bool} {n : NNet} {k : Nat} {t : NTask} (h : n.tasks[k]? = some t) : taskAt p n k = p t := by simp [taskAt, h]
/-- The tasks of a net that is ok for which p holds. -/
def pickN (p : NTask → Bool) (n : NNet) : List Int := if netOk n then atsN (taskAt p n) n.tasks.length else []
theorem pickN_ok {p : NTask → Bool} {n : NNet} (h : netOk n = true) : pickN p n = atsN (taskAt p n) n.tasks.length := by rw [pickN, if_pos h]
theorem pickN_no {p : NTask → Bool} {n : NNet} (h : netOk n = false) : pickN p n = [] := by rw [pickN, h]; rfl
theorem pickN_len (p : NTask → Bool) (n : NNet) : (pickN p n).length ≤ 1048576 := by
  by_cases h : netOk n = true
  · have := atsN_len (taskAt p n) n.tasks.length
    have := netOk_parts h
    rw [pickN_ok h]; omega
  · rw [pickN_no (by simpa using h)]; simp

/-- One new cell, as an appended element. -/
theorem one_new (w : World) (u : Value) (T : TypeId) : ∀ (j : Nat) (v : Value), [u][j]? = some v → (w.alloc (.cells #[u] T)).cell? ((⟨w.heap.size, 0, none⟩ : Addr).add j) = some v := by
  intro j v hj
  match j, hj with
  | 0, hj => simp at hj; subst hj; rw [addr_add0, World.cell?_alloc_at _ _ _ _ rfl]; rfl
theorem Made.nil_ (w : World) (base : Nat) (e : TypeId) : Made w base e [] (.slice none 0 0) := World.ownsRow_nil _ _ _ _
theorem Made.alloc {w : World} {base : Nat} {e : TypeId} {zs : List Int} {v : Value} (h : Made w base e zs v) (o : Obj) : Made (w.alloc o) base e zs v :=
  h.below ((Below.refl w.heap.size w).alloc (Nat.le_refl _) o) (Nat.le_refl _)
theorem Made.drewN {w : World} {base : Nat} {e : TypeId} {zs : List Int} {v : Value} (h : Made w base e zs v) (n : Nat) : Made (w.drewN n) base e zs v :=
  h.below (below_draws w.heap.size w n) (Nat.le_refl _)
theorem Made.own {w : World} {base : Nat} {e : TypeId} {zs : List Int} {v : Value} (h : Made w base e zs v) {k : Nat} (hk : v.ownBlock = some k) : base ≤ k := (World.ownsRow.lt h k hk).1
theorem Made.base {w : World} {base base' : Nat} {e : TypeId} {zs : List Int} {v : Value} (h : Made w base e zs v) (hb : base' ≤ base) : Made w base' e zs v := by
  unfold Made World.ownsRow at h ⊢
  refine ⟨h.1, ?_⟩
  rcases h.2 with h2 | ⟨g, cap, cur, h3, h4, h5⟩
  · exact .inl h2
  · exact .inr ⟨g, cap, cur, h3, Nat.le_trans hb h4, h5⟩

end Go.Proofs.Ytjbfkgckpbpdeaa

/- Which places can be come to from some: in plain Lean, no function of the program. -/
namespace Go.Proofs.Ytjbfkgckpbpdeaa
open Go.RowKit
set_option linter.unusedVariables false
set_option linter.unusedSimpArgs false

/-- Place x of a set. -/
def bit (s : List Bool) (x : Int) : Bool := s.getD x.toNat false
def light (s : List Bool) (outs : List NFlow) : List Bool := outs.foldl (fun s f => s.set f.to.toNat true) s
def goes (but : Int) (i : Nat) (t : NTask) (s : List Bool) : Bool := !(decide ((i : Int) = but)) && t.ins.any (bit s)
def stepT (but : Int) (i : Nat) (t : NTask) (s : List Bool) : List Bool := if goes but i t s then light s t.out else s
/-- The first k tasks, one behind the other. -/
def passN (but : Int) (ts : List NTask) : Nat → List Bool → List Bool
  | 0, s => s
  | k + 1, s => match ts[k]? with
    | some t => stepT but k t (passN but ts k s)
    | none => passN but ts k s
def pass (but : Int) (ts : List NTask) (s : List Bool) : List Bool := passN but ts ts.length s
def spread (but : Int) (ts : List NTask) : Nat → List Bool → List Bool
  | 0, s => s
  | k + 1, s => pass but ts (spread but ts k s)
def reachAll (n : NNet) (but : Int) (s : List Bool) : List Bool := spread but n.tasks n.places.toNat s
def single (m : Nat) (p : Int) : List Bool := (List.replicate m false).set p.toNat true

theorem passN_succ {but : Int} {ts : List NTask} {k : Nat} {t : NTask} {s : List Bool} (h : ts[k]? = some t) : passN but ts (k + 1) s = stepT but k t (passN but ts k s) := by
  simp [passN, h]

theorem light_length : ∀ (outs : List NFlow) (s : List Bool), (light s outs).length = s.length
  | [], _ => rfl
  | f :: r, s => by show (light (s.set f.to.toNat true) r).length = _; rw [light_length r]; simp
theorem stepT_length (but : Int) (i : Nat) (t : NTask) (s : List Bool) : (stepT but i t s).length = s.length := by
  unfold stepT; split
  · exact light_length _ _
  · rfl
theorem passN_length (but : Int) (ts : List NTask) : ∀ (k : Nat) (s : List Bool), (passN but ts k s).length = s.length
  | 0, _ => rfl
  | k + 1, s => by
    unfold passN; split
    · rw [stepT_length, passN_length but ts k]
    · exact passN_length but ts k s
theorem pass_length (but : Int) (ts : List NTask) (s : List Bool) : (pass but ts s).length = s.length := passN_length _ _ _ _
theorem spread_length (but : Int) (ts : List NTask) : ∀ (k : Nat) (s : List Bool), (spread but ts k s).length = s.length
  | 0, _ => rfl
  | k + 1, s => by rw [spread, pass_length, spread_length but ts k]

/-- How many places are not in a set. -/
def unlit (s : List Bool) : Nat := s.countP (fun b => !b)
theorem unlit_le (s : List Bool) : unlit s ≤ s.length := List.countP_le_length
theorem unlit_set (s : List Bool) (j : Nat) (h : s[j]? = some false) : unlit (s.set j true) + 1 = unlit s := by
  have hj := lt_of_some h
  have hg : s[j] = false := by rw [List.getElem?_eq_getElem hj] at h; injection h
  have hpos : 0 < unlit s := List.countP_pos_iff.2 ⟨false, hg ▸ List.getElem_mem hj, rfl⟩
  unfold unlit at hpos ⊢
  rw [List.countP_set (h := hj)]
  simp [hg]; omega
theorem set_same {s : List Bool} {j : Nat} (h : s[j]? ≠ some false) : s.set j true = s := by
  refine List.ext_getElem? fun i => ?_
  rw [List.getElem?_set]
  split
  · next e =>
    subst e
    split
    · next hj =>
      rw [List.getElem?_eq_getElem hj] at h ⊢
      cases hb : s[j] with
      | true => rfl
      | false => rw [hb] at h; exact absurd rfl h
    · next hj => rw [List.getElem?_eq_none (by omega)]
  · rfl
/-- Nothing changed, or a place came in. -/
def Up (s s' : List Bool) : Prop := s' = s ∨ unlit s' < unlit s
theorem Up.refl (s : List Bool) : Up s s := .inl rfl
theorem Up.trans {a b c : List Bool} (h : Up a b) (k : Up b c) : Up a c := by
  rcases h with rfl | h
  · exact k
  · rcases k with rfl | k
    · exact .inr h
    · exact .inr (Nat.lt_trans k h)
theorem Up.le {a b : List Bool} (h : Up a b) : unlit b ≤ unlit a := by
  rcases h with rfl | h
  · exact Nat.le_refl _
  · exact Nat.le_of_lt h
theorem up_set (s : List Bool) (j : Nat) : Up s (s.set j true) := by
  by_cases h : s[j]? = some false
  · exact .inr (by have := unlit_set s j h; omega)
  · exact .inl (set_same h)
theorem up_light : ∀ (outs : List NFlow) (s : List Bool), Up s (light s outs)
  | [], s => Up.refl s
  | f :: r, s => (up_set s f.to.toNat).trans (up_light r _)
theorem up_step (but : Int) (i : Nat) (t : NTask) (s : List Bool) : Up s (stepT but i t s) := by
  unfold stepT; split
  · exact up_light _ _
  · exact Up.refl _
theorem up_next (but : Int) (ts : List NTask) (k : Nat) (s : List Bool) : Up (passN but ts k s) (passN but ts (k + 1) s) := by
  show Up _ (match ts[k]? with | some t => stepT but k t (passN but ts k s) | none => passN but ts k s)
  split
  · exact up_step _ _ _ _
  · exact Up.refl _
theorem up_passN (but : Int) (ts : List NTask) (s : List Bool) (k : Nat) : ∀ d, Up (passN but ts k s) (passN but ts (k + d) s)
  | 0 => Up.refl _
  | d + 1 => (up_passN but ts s k d).trans (up_next but ts (k + d) s)
theorem up_pass (but : Int) (ts : List NTask) (s : List Bool) : Up s (pass but ts s) := by
  have := up_passN but ts s 0 ts.length; rwa [Nat.zero_add] at this

theorem spread_stable (but : Int) (ts : List NTask) (s : List Bool) : ∀ k, pass but ts (spread but ts k s) = spread but ts k s ∨ unlit (spread but ts (k + 1) s) + (k + 1) ≤ unlit s
  | 0 => by
    rcases up_pass but ts s with h | h
    · exact .inl h
    · exact .inr (by show unlit (pass but ts s) + 1 ≤ _; omega)
  | k + 1 => by
    rcases spread_stable but ts s k with h | h
    · left
      have e : spread but ts (k + 1) s = spread but ts k s := h
      rw [e, h]
    · rcases up_pass but ts (spread but ts (k + 1) s) with e | e
      · exact .inl e
      · exact .inr (by show unlit (pass but ts (spread but ts (k + 1) s)) + (k + 1 + 1) ≤ _; omega)
theorem spread_fix (but : Int) (ts : List NTask) (s : List Bool) (k : Nat) (hk : s.length ≤ k) : pass but ts (spread but ts k s) = spread but ts k s := by
  rcases spread_stable but ts s k with h | h
  · exact h
  · have := unlit_le s; omega
theorem spread_stay (but : Int) (ts : List NTask) (s : List Bool) (k : Nat) (h : pass but ts (spread but ts k s) = spread but ts k s) : ∀ d, spread but ts (k + d) s = spread but ts k s
  | 0 => rfl
  | d + 1 => by
    show pass but ts (spread but ts (k + d) s) = _
    rw [spread_stay but ts s k h d, h]
/-- Where nothing changes any more, all is reached. -/
theorem spread_done (but : Int) (ts : List NTask) (s : List Bool) (j k : Nat) (hk : s.length ≤ k) (h : pass but ts (spread but ts j s) = spread but ts j s) : spread but ts j s = spread but ts k s := by
  rcases Nat.le_total j k with hjk | hjk
  · obtain ⟨d, rfl⟩ := Nat.exists_eq_add_of_le hjk
    exact (spread_stay but ts s j h d).symm
  · obtain ⟨d, rfl⟩ := Nat.exists_eq_add_of_le hjk
    exact spread_stay but ts s k (spread_fix but ts s k hk) d

/-- Nothing leads out of a set. -/
def Closed (but : Int) (ts : List NTask) (c : List Bool) : Prop :=
  ∀ (k : Nat) (t : NTask), ts[k]? = some t → (k : Int) ≠ but → ∀ x ∈ t.ins, bit c x = true → ∀ f ∈ t.out, f.to.toNat < c.length → bit c f.to = true
def Sub (s c : List Bool) : Prop := ∀ j, s.getD j false = true → c.getD j false = true
theorem getD_set (s : List Bool) (j i : Nat) : (s.set j true).getD i false = if j = i ∧ i < s.length then true else s.getD i false := by
  simp only [List.getD_eq_getElem?_getD, List.getElem?_set]
  by_cases h : j = i
  · subst h
    by_cases h2 : j < s.length
    · simp [h2]
    · simp [h2]
  · simp [h]
theorem light_mono : ∀ (outs : List NFlow) (s : List Bool), Sub s (light s outs)
  | [], s => fun _ h => h
  | f :: r, s => fun j h => light_mono r _ j (by
    rw [getD_set]; split
    · rfl
    · exact h)
theorem light_at : ∀ (outs : List NFlow) (s : List Bool) (f : NFlow), f ∈ outs → f.to.toNat < s.length → bit (light s outs) f.to = true
  | g :: r, s, f, hf, hl => by
    rcases List.mem_cons.1 hf with rfl | hf
    · exact light_mono r _ _ (by rw [getD_set]; simp [hl])
    · exact light_at r _ f hf (by simpa using hl)
theorem light_sub {c : List Bool} : ∀ (outs : List NFlow) (s : List Bool), s.length = c.length → Sub s c → (∀ f ∈ outs, f.to.toNat < c.length → bit c f.to = true) → Sub (light s outs) c
  | [], s, _, h, _ => h
  | f :: r, s, hl, h, ho => by
    refine light_sub r (s.set f.to.toNat true) (by simpa using hl) (fun j hj => ?_) (fun g hg => ho g (List.mem_cons_of_mem _ hg))
    rw [getD_set] at hj
    split at hj
    · next e => have := ho f (List.mem_cons_self ..) (by omega); rw [← e.1]; exact this
    · exact h j hj
theorem step_sub {but : Int} {ts : List NTask} {c : List Bool} (hc : Closed but ts c) {k : Nat} {t : NTask} (ht : ts[k]? = some t) {s : List Bool} (hl : s.length = c.length) (h : Sub s c) : Sub (stepT but k t s) c := by
  unfold stepT; split
  · next hg =>
    rw [goes, Bool.and_eq_true, List.any_eq_true] at hg
    obtain ⟨hb, x, hx, hxs⟩ := hg
    exact light_sub _ _ hl h fun f hf hfl => hc k t ht (by simpa using hb) x hx (h _ hxs) f hf hfl
  · exact h
theorem passN_sub {but : Int} {ts : List NTask} {c : List Bool} (hc : Closed but ts c) : ∀ (k : Nat) {s : List Bool}, s.length = c.length → Sub s c → Sub (passN but ts k s) c
  | 0, s, _, h => h
  | k + 1, s, hl, h => by
    unfold passN; split
    · next t ht => exact step_sub hc ht (by rw [passN_length]; exact hl) (passN_sub hc k hl h)
    · exact passN_sub hc k hl h
theorem spread_sub {but : Int} {ts : List NTask} {c : List Bool} (hc : Closed but ts c) : ∀ (k : Nat) {s : List Bool}, s.length = c.length → Sub s c → Sub (spread but ts k s) c
  | 0, s, _, h => h
  | k + 1, s, hl, h => passN_sub hc _ (by rw [spread_length]; exact hl) (spread_sub hc k hl h)
theorem step_mono (but : Int) (k : Nat) (t : NTask) (s : List Bool) : Sub s (stepT but k t s) := by
  unfold stepT; split
  · exact light_mono _ _
  · exact fun _ h => h
theorem passN_mono (but : Int) (ts : List NTask) : ∀ (k : Nat) (s : List Bool), Sub s (passN but ts k s)
  | 0, s => fun _ h => h
  | k + 1, s => by
    unfold passN; split
    · exact fun j h => step_mono _ _ _ _ j (passN_mono but ts k s j h)
    · exact passN_mono but ts k s
theorem spread_mono (but : Int) (ts : List NTask) : ∀ (k : Nat) (s : List Bool), Sub s (spread but ts k s)
  | 0, s => fun _ h => h
  | k + 1, s => fun j h => passN_mono but ts _ _ j (spread_mono but ts k s j h)
theorem fix_closed {but : Int} {ts : List NTask} {s : List Bool} (h : pass but ts s = s) : Closed but ts s := by
  have hk : ∀ k, k ≤ ts.length → passN but ts k s = s := fun k hk => by
    have h1 := up_passN but ts s 0 k
    have h2 := up_passN but ts s k (ts.length - k)
    rw [Nat.zero_add] at h1
    rw [show k + (ts.length - k) = ts.length by omega] at h2
    change Up (passN but ts k s) (pass but ts s) at h2
    rw [h] at h2
    rcases h1 with e | e
    · exact e
    · have := h2.le; change unlit (passN but ts k s) < unlit s at e; omega
  intro k t ht hb x hx hxs f hf hfl
  have hlt := lt_of_some ht
  have e := hk (k + 1) hlt
  rw [passN_succ ht, hk k (by omega)] at e
  have hg : goes but k t s = true := by
    rw [goes, Bool.and_eq_true, List.any_eq_true]; exact ⟨by simpa using hb, x, hx, hxs⟩
  rw [stepT, if_pos hg] at e
  rw [← e]; exact light_at _ _ _ hf hfl
theorem single_length (m : Nat) (p : Int) : (single m p).length = m := by simp [single]
theorem single_at (m : Nat) (p : Int) (j : Nat) : (single m p).getD j false = decide (p.toNat = j ∧ j < m) := by
  rw [single, getD_set]
  simp only [List.length_replicate]
  by_cases h : p.toNat = j ∧ j < m
  · simp [h]
  · rw [if_neg h]; simp [h, List.getD_eq_getElem?_getD, List.getElem?_replicate]; split <;> rfl
/-- What can be come to from many places can be come to from one of them. -/
theorem reach_union (but : Int) (ts : List NTask) (s : List Bool) (m : Nat) (hm : s.length = m) (q : Nat) :
    (spread but ts m s).getD q false = (List.range m).any fun p => s.getD p false && (spread but ts m (single m (p : Int))).getD q false := by
  have hcl : ∀ p : Nat, Closed but ts (spread but ts m (single m (p : Int))) := fun p => fix_closed (spread_fix but ts _ m (by rw [single_length]; exact Nat.le_refl _))
  have hlen : ∀ p : Nat, (spread but ts m (single m (p : Int))).length = m := fun p => by rw [spread_length, single_length]
  have hS := fix_closed (spread_fix but ts s m (by omega))
  refine Bool.eq_iff_iff.2 ⟨fun h => ?_, fun h => ?_⟩
  · let F : Nat → Bool := fun q => (List.range m).any fun p => s.getD p false && (spread but ts m (single m (p : Int))).getD q false
    let c : List Bool := (List.range m).map F
    have hcl2 : c.length = m := by simp [c]
    have hcg : ∀ j, c.getD j false = (decide (j < m) && F j) := fun j => by
      simp only [c, List.getD_eq_getElem?_getD, List.getElem?_map]
      by_cases hj : j < m
      · simp [hj]
      · simp [hj]
    have hc : Closed but ts c := by
      intro k t ht hb x hx hxs f hf hfl
      unfold bit at hxs ⊢
      rw [hcg, Bool.and_eq_true] at hxs
      rw [hcg, Bool.and_eq_true]
      refine ⟨by simpa [hcl2] using hfl, ?_⟩
      obtain ⟨p, hp, hp2⟩ := List.any_eq_true.1 hxs.2
      rw [Bool.and_eq_true] at hp2
      refine List.any_eq_true.2 ⟨p, hp, ?_⟩
      rw [Bool.and_eq_true]
      exact ⟨hp2.1, hcl p k t ht hb x hx hp2.2 f hf (by rw [hlen]; rw [hcl2] at hfl; exact hfl)⟩
    have hsub : Sub s c := fun j hj => by
      have hjm : j < m := by
        rcases Nat.lt_or_ge j m with h | h
        · exact h
        · rw [List.getD_eq_getElem?_getD, List.getElem?_eq_none (by omega)] at hj; simp at hj
      rw [hcg, Bool.and_eq_true]
      refine ⟨by simpa using hjm, List.any_eq_true.2 ⟨j, List.mem_range.2 hjm, ?_⟩⟩
      rw [Bool.and_eq_true]
      exact ⟨hj, spread_mono but ts m _ j (by rw [single_at]; simp [hjm])⟩
    have := spread_sub hc m (by rw [hm, hcl2]) hsub q h
    rw [hcg, Bool.and_eq_true] at this
    exact this.2
  · obtain ⟨p, hp, hp2⟩ := List.any_eq_true.1 h
    rw [Bool.and_eq_true] at hp2
    refine spread_sub hS m (by rw [single_length, spread_length]; exact hm.symm) (fun j hj => ?_) q hp2.2
    rw [single_at, decide_eq_true_eq] at hj
    have e : p = j := by simpa using hj.1
    rw [← e]; exact spread_mono but ts m s p hp2.1
end Go.Proofs.Ytjbfkgckpbpdeaa

/- Rows of truth values that a call has made; how places lie in a net that is ok. -/
namespace Go.Proofs.Ytjbfkgckpbpdeaa
open Go.RowKit
set_option linter.unusedVariables false
set_option linter.unusedSimpArgs false

theorem Try.infoB : (Try.prog.info? 4).map (fun i => (i.zero, i.size, i.bytes)) = some (some (.bool false), 1, 1) := by kernel_rfl
abbrev bools (zs : List Bool) : List Value := zs.map Value.bool
theorem bools_at {zs : List Bool} {k : Nat} {x : Bool} (h : zs[k]? = some x) : (bools zs)[k]? = some (.bool x) := by simp [h]
theorem bools_one (zs : List Bool) : ∀ u ∈ bools zs, u.oneCell' = true := by
  intro u hu
  obtain ⟨x, _, rfl⟩ := List.mem_map.1 hu
  rfl
theorem Row.bool {w : World} {lo hi b off : Nat} {A : Option Addr} {zs : List Bool} (h : Row w lo hi A b off (bools zs)) {k : Nat} (hk : k < zs.length) :
    A = some ⟨b, off, none⟩ ∧ lo ≤ b ∧ b < hi ∧ ∃ x, zs[k]? = some x ∧ w.cell? ⟨b, off + k, none⟩ = some (.bool x) ∧ w.frozen? ⟨b, off + k, none⟩ = false := by
  obtain ⟨h1, h2, h3⟩ := h.ref (k := k) (by simpa using hk)
  have hx := List.getElem?_eq_getElem hk
  obtain ⟨h4, h5⟩ := h.2 _ _ (bools_at hx)
  exact ⟨h1, h2, h3, _, hx, h4, h5⟩
/-- What a call has made: a row of truth values of its own. -/
def MadeB (w' : World) (base : Nat) (e : TypeId) (zs : List Bool) (v : Value) : Prop := w'.ownsRow base e 1 v zs.length (bools zs)
theorem MadeB.row {w' : World} {base : Nat} {e : TypeId} {zs : List Bool} {v : Value} (h : MadeB w' base e zs v) : ∃ A b c, v = .slice A zs.length c ∧ Row w' base w'.heap.size A b 0 (bools zs) := by
  have h' := h
  unfold MadeB at h'
  rcases h'.2 with ⟨rfl, hn⟩ | ⟨g, cap, cur, rfl, _⟩
  · have hz : zs = [] := List.eq_nil_of_length_eq_zero hn
    subst hz
    exact ⟨none, 0, 0, rfl, Row.nil_⟩
  · obtain ⟨b, hR⟩ := Row.of_own h'
    exact ⟨_, b, _, rfl, hR⟩
theorem MadeB.len {w' : World} {base : Nat} {e : TypeId} {zs : List Bool} {v : Value} (h : MadeB w' base e zs v) (hz : 0 < zs.length) : ∃ g c, v = .slice (some ⟨g, 0, none⟩) zs.length c ∧ base ≤ g ∧ g < w'.heap.size := by
  unfold MadeB at h
  rcases h.2 with ⟨_, hn⟩ | ⟨g, cap, cur, rfl, hg, hh, _⟩
  · omega
  · exact ⟨g, cap, rfl, hg, (h.lt g rfl).2⟩
theorem MadeB.below {w w' : World} {base B : Nat} {e : TypeId} {zs : List Bool} {v : Value} (h : MadeB w base e zs v) (hb : Below B w w') (hB : w.heap.size ≤ B) : MadeB w' base e zs v :=
  h.kept (row := none) ⟨hb.os, hb.tape, hb.output, hb.size, fun k hk _ => hb.block k (by omega)⟩ (by rcases v.ownBlock with _ | g <;> simp)
theorem MadeB.nil_ (w : World) (base : Nat) (e : TypeId) : MadeB w base e [] (.slice none 0 0) := World.ownsRow_nil _ _ _ _
theorem MadeB.alloc {w : World} {base : Nat} {e : TypeId} {zs : List Bool} {v : Value} (h : MadeB w base e zs v) (o : Obj) : MadeB (w.alloc o) base e zs v :=
  h.below ((Below.refl w.heap.size w).alloc (Nat.le_refl _) o) (Nat.le_refl _)
theorem MadeB.drewN {w : World} {base : Nat} {e : TypeId} {zs : List Bool} {v : Value} (h : MadeB w base e zs v) (n : Nat) : MadeB (w.drewN n) base e zs v :=
  h.below (below_draws w.heap.size w n) (Nat.le_refl _)
theorem MadeB.own {w : World} {base : Nat} {e : TypeId} {zs : List Bool} {v : Value} (h : MadeB w base e zs v) {k : Nat} (hk : v.ownBlock = some k) : base ≤ k := (World.ownsRow.lt h k hk).1
theorem MadeB.base {w : World} {base base' : Nat} {e : TypeId} {zs : List Bool} {v : Value} (h : MadeB w base e zs v) (hb : base' ≤ base) : MadeB w base' e zs v := by
  unfold MadeB World.ownsRow at h ⊢
  refine ⟨h.1, ?_⟩
  rcases h.2 with h2 | ⟨g, cap, cur, h3, h4, h5⟩
  · exact .inl h2
  · exact .inr ⟨g, cap, cur, h3, Nat.le_trans hb h4, h5⟩
/-- A place of it: what it reads, and what it is when a truth value is stored there. -/
theorem MadeB.at_ {w : World} {base g m c : Nat} {e : TypeId} {zs : List Bool} (h : MadeB w base e zs (.slice (some ⟨g, 0, none⟩) m c)) (hm : zs.length = m) {k : Nat} (hk : k < zs.length) :
    w.cell? ⟨g, k, none⟩ = some (.bool (zs.getD k false)) ∧ w.frozen? ⟨g, k, none⟩ = false ∧ MadeB (w.setCell ⟨g, k, none⟩ (.bool true)) base e (zs.set k true) (.slice (some ⟨g, 0, none⟩) m c) := by
  subst hm
  have h' := h
  unfold MadeB at h'
  have hd := h'.cellAt k (by omega)
  rw [bools_at (List.getElem?_eq_getElem hk)] at hd
  refine ⟨by rw [hd, List.getD_eq_getElem?_getD, List.getElem?_eq_getElem hk]; rfl, h'.frozenAt k, ?_⟩
  have := (h'.stored k (.bool true)).1
  unfold MadeB
  rw [show bools (zs.set k true) = (bools zs).set k (.bool true) by simp [bools, List.map_set]]
  rw [show (zs.set k true).length = zs.length by simp]
  exact this

theorem ins_bound {n : NNet} (h : netOk n = true) {t : NTask} (ht : t ∈ n.tasks) {x : Int} (hx : x ∈ t.ins) : 0 ≤ x ∧ x < n.places := by
  obtain ⟨_, _, h3, _⟩ := taskOk_parts ((netOk_parts h).2.2.2.2 t ht)
  rw [risesB, Bool.and_eq_true] at h3
  obtain ⟨j, hj⟩ := List.getElem?_of_mem hx
  have := of_all_range h3.2 (lt_of_some hj)
  rw [stepOk, Bool.and_eq_true, getD_of hj, inB_iff] at this
  omega
theorem out_bound {n : NNet} (h : netOk n = true) {t : NTask} (ht : t ∈ n.tasks) {f : NFlow} (hf : f ∈ t.out) : 1 ≤ f.to ∧ f.to < n.places := by
  obtain ⟨_, _, _, _, h5, _⟩ := taskOk_parts ((netOk_parts h).2.2.2.2 t ht)
  rw [outB, Bool.and_eq_true] at h5
  obtain ⟨j, hj⟩ := List.getElem?_of_mem hf
  have := of_all_range h5.2 (lt_of_some hj)
  rw [flowOk, Bool.and_eq_true, getD_of hj, inB_iff] at this
  omega
theorem any_snoc {α : Type} {l : List α} {k : Nat} {x : α} (p : α → Bool) (h : l[k]? = some x) : (l.take (k + 1)).any p = ((l.take k).any p || p x) := by
  rw [take_succ_of h]; simp
theorem light_snoc {l : List NFlow} {k : Nat} {f : NFlow} (s : List Bool) (h : l[k]? = some f) : light s (l.take (k + 1)) = (light s (l.take k)).set f.to.toNat true := by
  rw [take_succ_of h, light, List.foldl_append]; rfl
theorem bit_nat (s : List Bool) (k : Nat) : bit s (k : Int) = s.getD k false := rfl
theorem reachAll_length (n : NNet) (but : Int) (s : List Bool) : (reachAll n but s).length = s.length := spread_length _ _ _ _
end Go.Proofs.Ytjbfkgckpbpdeaa

/- What a task takes of marks, in plain Lean; a row of numbers of a call's own, one of them stored. -/
namespace Go.Proofs.Ytjbfkgckpbpdeaa
open Go.RowKit
set_option linter.unusedVariables false
set_option linter.unusedSimpArgs false

/-- Marks without those that a task takes at some of its places. -/
def takeL (join : Int) : List Int → List Int → List Int
  | [], zs => zs
  | p :: r, zs => if 0 < zs.getD p.toNat 0 then (if join = 2 then zs.set p.toNat (zs.getD p.toNat 0 - 1) else takeL join r (zs.set p.toNat (zs.getD p.toNat 0 - 1))) else takeL join r zs
def taskOf (n : NNet) (t : Int) : NTask := n.tasks.getD t.toNat default
theorem taskOf_at {n : NNet} {k : Nat} {t : NTask} (h : n.tasks[k]? = some t) : taskOf n (k : Int) = t := by
  rw [taskOf]; exact getD_of h
def takeN (n : NNet) (zs : List Int) (t : Int) : List Int := if mrkOk n zs && inB t 0 ((n.tasks.length : Int) - 1) then takeL (taskOf n t).join (taskOf n t).ins zs else []
theorem takeN_no1 {n : NNet} {zs : List Int} {t : Int} (h : mrkOk n zs = false) : takeN n zs t = [] := by rw [takeN, h]; rfl
theorem takeN_no2 {n : NNet} {zs : List Int} {t : Int} (h : mrkOk n zs = true) (h2 : inB t 0 ((n.tasks.length : Int) - 1) = false) : takeN n zs t = [] := by rw [takeN, h, h2]; rfl
theorem takeN_yes {n : NNet} {zs : List Int} {k : Nat} {t : NTask} (h : mrkOk n zs = true) (h2 : inB (k : Int) 0 ((n.tasks.length : Int) - 1) = true) (ht : n.tasks[k]? = some t) : takeN n zs (k : Int) = takeL t.join t.ins zs := by
  rw [takeN, h, h2, taskOf_at ht]; rfl
theorem takeL_length (join : Int) : ∀ (l zs : List Int), (takeL join l zs).length = zs.length
  | [], zs => rfl
  | p :: r, zs => by
    unfold takeL
    split
    · split
      · simp
      · rw [takeL_length join r]; simp
    · exact takeL_length join r zs
theorem drop_at {α : Type} {l : List α} {k : Nat} {x : α} (h : l[k]? = some x) : l.drop k = x :: l.drop (k + 1) := by
  have hk := lt_of_some h
  rw [List.getElem?_eq_getElem hk] at h
  injection h with h
  rw [List.drop_eq_getElem_cons hk, h]
theorem takeL_skip {join : Int} {l zs : List Int} {k : Nat} {x : Int} (h : l[k]? = some x) (hz : ¬ 0 < zs.getD x.toNat 0) : takeL join (l.drop k) zs = takeL join (l.drop (k + 1)) zs := by
  rw [drop_at h]; conv => lhs; unfold takeL
  rw [if_neg hz]
theorem takeL_one {join : Int} {l zs : List Int} {k : Nat} {x : Int} (h : l[k]? = some x) (hz : 0 < zs.getD x.toNat 0) (hj : join = 2) : takeL join (l.drop k) zs = zs.set x.toNat (zs.getD x.toNat 0 - 1) := by
  rw [drop_at h]; conv => lhs; unfold takeL
  rw [if_pos hz, if_pos hj]
theorem takeL_more {join : Int} {l zs : List Int} {k : Nat} {x : Int} (h : l[k]? = some x) (hz : 0 < zs.getD x.toNat 0) (hj : ¬ join = 2) : takeL join (l.drop k) zs = takeL join (l.drop (k + 1)) (zs.set x.toNat (zs.getD x.toNat 0 - 1)) := by
  rw [drop_at h]; conv => lhs; unfold takeL
  rw [if_pos hz, if_neg hj]
/-- Marks as they may be. -/
def Few (zs : List Int) : Prop := ∀ y ∈ zs, 0 ≤ y ∧ y ≤ 4
theorem few_getD {zs : List Int} (h : Few zs) (k : Nat) : 0 ≤ zs.getD k 0 ∧ zs.getD k 0 ≤ 4 := by
  rw [List.getD_eq_getElem?_getD]
  by_cases hk : k < zs.length
  · rw [List.getElem?_eq_getElem hk]; exact h _ (List.getElem_mem hk)
  · rw [List.getElem?_eq_none (by omega)]; simp
theorem few_less {zs : List Int} (h : Few zs) {k : Nat} (h0 : 0 < zs.getD k 0) : Few (zs.set k (zs.getD k 0 - 1)) := by
  intro y hy
  rcases List.mem_or_eq_of_mem_set hy with h1 | h1
  · exact h y h1
  · have := few_getD h k; omega
theorem mrkOk_parts {n : NNet} {zs : List Int} (h : mrkOk n zs = true) : netOk n = true ∧ (zs.length : Int) = n.places ∧ Few zs := by
  rw [mrkOk, Bool.and_eq_true] at h
  have h2 := h.2
  rw [marksB, Bool.and_eq_true, decide_eq_true_eq, List.all_eq_true] at h2
  exact ⟨h.1, h2.1, fun y hy => inB_iff.1 (h2.2 y hy)⟩
theorem takeN_len (n : NNet) (zs : List Int) (t : Int) : (takeN n zs t).length ≤ 1048576 := by
  by_cases h : mrkOk n zs = true
  · have hp := mrkOk_parts h
    have hq := netOk_parts hp.1
    unfold takeN
    split
    · rw [takeL_length]; omega
    · simp
  · rw [takeN_no1 (by simpa using h)]; simp

/-- A place of it: what it reads, and what it is when a number is stored there. -/
theorem Made.at_ {w : World} {base g m c : Nat} {e : TypeId} {zs : List Int} (h : Made w base e zs (.slice (some ⟨g, 0, none⟩) m c)) (hm : zs.length = m) {k : Nat} (hk : k < zs.length) :
    w.cell? ⟨g, k, none⟩ = some (.int .i64 (zs.getD k 0)) ∧ w.frozen? ⟨g, k, none⟩ = false ∧ ∀ x : Int, Made (w.setCell ⟨g, k, none⟩ (.int .i64 x)) base e (zs.set k x) (.slice (some ⟨g, 0, none⟩) m c) := by
  subst hm
  have h' := h
  unfold Made at h'
  have hd := h'.cellAt k (by omega)
  rw [ints_at (List.getElem?_eq_getElem hk)] at hd
  refine ⟨by rw [hd, List.getD_eq_getElem?_getD, List.getElem?_eq_getElem hk]; rfl, h'.frozenAt k, fun x => ?_⟩
  have := (h'.stored k (.int .i64 x)).1
  unfold Made
  rw [show ints (zs.set k x) = (ints zs).set k (.int .i64 x) by simp [ints, List.map_set]]
  rw [show (zs.set k x).length = zs.length by simp]
  exact this
end Go.Proofs.Ytjbfkgckpbpdeaa

/- What a task takes, place by place, and how many marks in all: in plain Lean, no function of the program. -/
namespace Go.Proofs.Ytjbfkgckpbpdeaa
open Go.RowKit
set_option linter.unusedVariables false
set_option linter.unusedSimpArgs false

theorem rises_lt {zs : List Int} {a b c d : Int} (h : risesB zs a b c d = true) (i : Nat) : ∀ (j : Nat), i < j → j < zs.length → zs.getD i 0 < zs.getD j 0 := by
  rw [risesB, Bool.and_eq_true] at h
  intro j
  induction j with
  | zero => intro h1; omega
  | succ j ih =>
    intro hij hj
    have h1 := of_all_range h.2 hj
    rw [stepOk, Bool.and_eq_true, Bool.or_eq_true] at h1
    have h2 : zs.getD j 0 < zs.getD (j + 1) 0 := by
      rcases h1.2 with h3 | h3
      · simp at h3
      · exact of_decide_eq_true h3
    by_cases e : i = j
    · rw [e]; exact h2
    · have := ih (by omega) (by omega); omega
theorem rises_nodup {zs : List Int} {a b c d : Int} (h : risesB zs a b c d = true) : zs.Nodup := by
  refine List.pairwise_iff_getElem.2 fun i j hi hj hij e => ?_
  have := rises_lt h i j hij hj
  rw [List.getD_eq_getElem?_getD, List.getD_eq_getElem?_getD, List.getElem?_eq_getElem hi, List.getElem?_eq_getElem hj] at this
  simp only [Option.getD_some] at this
  omega
theorem getD_setI (zs : List Int) (i p : Nat) (x : Int) : (zs.set i x).getD p 0 = if i = p ∧ i < zs.length then x else zs.getD p 0 := by
  simp only [List.getD_eq_getElem?_getD, List.getElem?_set]
  by_cases h : i = p
  · subst h
    by_cases h2 : i < zs.length
    · simp [h2]
    · simp [h2]
  · simp [h]
theorem getD_pos {zs : List Int} {i : Nat} (h : 0 < zs.getD i 0) : i < zs.length := by
  rcases Nat.lt_or_ge i zs.length with h1 | h1
  · exact h1
  · rw [List.getD_eq_getElem?_getD, List.getElem?_eq_none h1] at h; simp at h
theorem takeL_and {join : Int} (hj : ¬ join = 2) : ∀ (ins zs : List Int), (∀ x ∈ ins, 0 ≤ x) → ins.Nodup → ∀ p : Nat, (takeL join ins zs).getD p 0 = if (p : Int) ∈ ins ∧ 0 < zs.getD p 0 then zs.getD p 0 - 1 else zs.getD p 0
  | [], zs, _, _, p => by simp [takeL]
  | q :: r, zs, h0, hn, p => by
    have hq0 := h0 q (List.mem_cons_self ..)
    have hqr : q ∉ r := (List.nodup_cons.1 hn).1
    have ih := fun zs' => takeL_and hj r zs' (fun x hx => h0 x (List.mem_cons_of_mem _ hx)) (List.nodup_cons.1 hn).2 p
    unfold takeL
    by_cases hz : 0 < zs.getD q.toNat 0
    · rw [if_pos hz, if_neg hj, ih, getD_setI]
      have hlt := getD_pos hz
      by_cases e : q.toNat = p
      · have e2 : (p : Int) = q := by omega
        rw [if_neg (fun h : (p : Int) ∈ r ∧ _ => hqr (e2 ▸ h.1)), if_pos (show q.toNat = p ∧ q.toNat < zs.length from ⟨e, hlt⟩), if_pos (show (p : Int) ∈ q :: r ∧ 0 < zs.getD p 0 from ⟨by rw [e2]; exact List.mem_cons_self .., by rw [← e]; exact hz⟩), e]
      · have e2 : ¬ (p : Int) = q := by omega
        rw [if_neg (fun h : q.toNat = p ∧ q.toNat < zs.length => e h.1)]
        simp only [List.mem_cons, e2, false_or]
    · rw [if_neg hz, ih]
      by_cases e : (p : Int) = q
      · have e3 : q.toNat = p := by omega
        rw [e3] at hz
        rw [if_neg (fun h => hz h.2), if_neg (fun h => hz h.2)]
      · simp only [List.mem_cons, e, false_or]
theorem takeL_xor {join : Int} (hj : join = 2) : ∀ (ins zs : List Int), ((∀ x ∈ ins, ¬ 0 < zs.getD x.toNat 0) ∧ takeL join ins zs = zs) ∨ ∃ q ∈ ins, 0 < zs.getD q.toNat 0 ∧ takeL join ins zs = zs.set q.toNat (zs.getD q.toNat 0 - 1)
  | [], zs => .inl ⟨(fun x hx => absurd hx (by simp)), rfl⟩
  | q :: r, zs => by
    unfold takeL
    by_cases hz : 0 < zs.getD q.toNat 0
    · rw [if_pos hz, if_pos hj]
      exact .inr ⟨q, List.mem_cons_self .., hz, rfl⟩
    · rw [if_neg hz]
      rcases takeL_xor hj r zs with ⟨h1, h2⟩ | ⟨q', h1, h2, h3⟩
      · exact .inl ⟨fun x hx => by rcases List.mem_cons.1 hx with rfl | hx; exact hz; exact h1 x hx, h2⟩
      · exact .inr ⟨q', List.mem_cons_of_mem _ h1, h2, h3⟩

def hadAt (zs ins : List Int) (p : Nat) : Bool := decide ((p : Int) ∈ ins) && decide (0 < zs.getD p 0)
def tookN (zs xs : List Int) : Nat → Int
  | 0 => 0
  | k + 1 => tookN zs xs k + zs.getD k 0 - xs.getD k 0
def hadN (zs ins : List Int) : Nat → Int
  | 0 => 0
  | k + 1 => if hadAt zs ins k = true then hadN zs ins k + 1 else hadN zs ins k
/-- What is taken is none or one at a place, and none elsewhere. -/
def TookOk (zs xs ins : List Int) : Prop := ∀ p : Nat, 0 ≤ zs.getD p 0 - xs.getD p 0 ∧ zs.getD p 0 - xs.getD p 0 ≤ 1 ∧ ((p : Int) ∉ ins → zs.getD p 0 = xs.getD p 0)
theorem hadN_bound (zs ins : List Int) : ∀ k : Nat, 0 ≤ hadN zs ins k ∧ hadN zs ins k ≤ (k : Int)
  | 0 => ⟨Int.le_refl _, Int.le_refl _⟩
  | k + 1 => by have := hadN_bound zs ins k; unfold hadN; split <;> omega
theorem tookN_bound {zs xs ins : List Int} (h : TookOk zs xs ins) : ∀ k : Nat, 0 ≤ tookN zs xs k ∧ tookN zs xs k ≤ (k : Int)
  | 0 => ⟨Int.le_refl _, Int.le_refl _⟩
  | k + 1 => by have := tookN_bound h k; have := h k; unfold tookN; omega
theorem took_ok {zs ins : List Int} {join : Int} (h0 : ∀ x ∈ ins, 0 ≤ x) (hn : ins.Nodup) : TookOk zs (takeL join ins zs) ins := by
  intro p
  by_cases hj : join = 2
  · rcases takeL_xor hj ins zs with ⟨_, h2⟩ | ⟨q, hq, h2, h3⟩
    · rw [h2]; exact ⟨by omega, by omega, fun _ => rfl⟩
    · rw [h3, getD_setI]
      have := h0 q hq
      by_cases e : q.toNat = p ∧ q.toNat < zs.length
      · rw [if_pos e, e.1]
        exact ⟨by omega, by omega, fun h => absurd (by rw [show (p : Int) = q by omega]; exact hq) h⟩
      · rw [if_neg e]; exact ⟨by omega, by omega, fun _ => rfl⟩
  · rw [takeL_and hj ins zs h0 hn p]
    by_cases hc : (p : Int) ∈ ins ∧ 0 < zs.getD p 0
    · rw [if_pos hc]; exact ⟨by omega, by omega, fun h => absurd hc.1 h⟩
    · rw [if_neg hc]; exact ⟨by omega, by omega, fun _ => rfl⟩
theorem took_and {zs ins : List Int} {join : Int} (hj : ¬ join = 2) (h0 : ∀ x ∈ ins, 0 ≤ x) (hn : ins.Nodup) : ∀ k, tookN zs (takeL join ins zs) k = hadN zs ins k
  | 0 => rfl
  | k + 1 => by
    unfold tookN hadN
    rw [took_and hj h0 hn k, takeL_and hj ins zs h0 hn k, hadAt]
    by_cases hc : (k : Int) ∈ ins ∧ 0 < zs.getD k 0
    · rw [if_pos hc, if_pos (by simp only [Bool.and_eq_true, decide_eq_true_eq]; exact hc)]; omega
    · rw [if_neg hc, if_neg (by simp only [Bool.and_eq_true, decide_eq_true_eq]; exact hc)]; omega
theorem tookN_same (zs : List Int) : ∀ k, tookN zs zs k = 0
  | 0 => rfl
  | k + 1 => by unfold tookN; rw [tookN_same zs k]; omega
theorem tookN_one {zs : List Int} {i : Nat} (hi : i < zs.length) : ∀ k, tookN zs (zs.set i (zs.getD i 0 - 1)) k = if i < k then 1 else 0
  | 0 => rfl
  | k + 1 => by
    unfold tookN
    rw [tookN_one hi k, getD_setI]
    by_cases e : i = k
    · subst e; rw [if_neg (by omega), if_pos ⟨rfl, hi⟩, if_pos (by omega)]; omega
    · rw [if_neg (fun h : i = k ∧ i < zs.length => e h.1)]
      by_cases h : i < k
      · rw [if_pos h, if_pos (by omega)]; omega
      · rw [if_neg h, if_neg (by omega)]; omega
theorem hadN_none {zs ins : List Int} (h : ∀ x ∈ ins, ¬ 0 < zs.getD x.toNat 0) : ∀ k, hadN zs ins k = 0
  | 0 => rfl
  | k + 1 => by
    unfold hadN
    rw [if_neg, hadN_none h k]
    rw [hadAt, Bool.and_eq_true, decide_eq_true_eq, decide_eq_true_eq]
    intro hc
    have := h _ hc.1
    rw [Int.toNat_natCast] at this
    exact this hc.2
theorem hadN_some {zs ins : List Int} {q : Int} (h0 : 0 ≤ q) (hq : q ∈ ins) (hz : 0 < zs.getD q.toNat 0) : ∀ k : Nat, q.toNat < k → 1 ≤ hadN zs ins k
  | 0, h => by omega
  | k + 1, h => by
    have hb := hadN_bound zs ins k
    unfold hadN
    by_cases e : q.toNat = k
    · rw [if_pos]
      · omega
      · rw [hadAt, Bool.and_eq_true, decide_eq_true_eq, decide_eq_true_eq, ← e]
        exact ⟨by rw [show ((q.toNat : Nat) : Int) = q by omega]; exact hq, hz⟩
    · have := hadN_some h0 hq hz k (by omega)
      split <;> omega
theorem took_xor {zs ins : List Int} {join : Int} (hj : join = 2) (h0 : ∀ x ∈ ins, 0 ≤ x) {k : Nat} (hk : ∀ x ∈ ins, x.toNat < k) : tookN zs (takeL join ins zs) k = min (hadN zs ins k) 1 := by
  rcases takeL_xor hj ins zs with ⟨h1, h2⟩ | ⟨q, hq, h2, h3⟩
  · rw [h2, tookN_same, hadN_none h1]; rfl
  · have := hadN_some (h0 q hq) hq h2 k (hk q hq)
    rw [h3, tookN_one (getD_pos h2), if_pos (hk q hq)]; omega
theorem took_more {zs xs ins : List Int} (h : TookOk zs xs ins) (hl : xs.length = zs.length) : moreB zs xs = true := by
  refine moreB_true hl.symm fun j x y hx hy => ?_
  have := h j
  rw [getD_of hx, getD_of hy] at this
  omega
end Go.Proofs.Ytjbfkgckpbpdeaa
