/- Rows of truth values that a call has made; how places lie in a net that is ok. -/
import Derived.Test.YtoggdhbnkbdilaaPick
import Derived.Test.YtoggdhbnkbdilaaReachP
namespace Go.Proofs.Ytoggdhbnkbdilaa
open Go.RowKit
set_option linter.unusedVariables false
set_option linter.unusedSimpArgs false

theorem Try.infoB : (Try.prog.info? 4).map (fun i => (i.zero, i.size, i.bytes)) = some (some (.bool false), 1, 1) := by kernel_rfl
abbrev bools (zs : List Bool) : List Value := zs.map Value.bool
theorem bools_at {zs : List Bool} {k : Nat} {x : Bool} (h : zs[k]? = some x) : (bools zs)[k]? = some (.bool x) := by simp [h]
theorem bools_one (zs : List Bool) : ∀ u ∈ bools zs, u.oneCell' = true := by
  intro u hu
  obtain ⟨x, _, rfl⟩ := List.mem_map.1 hu
  rfl
theorem Row.bool {w : World} {lo hi b off : Nat} {A : Option Addr} {zs : List Bool} (h : Row w lo hi A b off (bools zs)) {k : Nat} (hk : k < zs.length) :
    A = some ⟨b, off, none⟩ ∧ lo ≤ b ∧ b < hi ∧ ∃ x, zs[k]? = some x ∧ w.cell? ⟨b, off + k, none⟩ = some (.bool x) ∧ w.frozen? ⟨b, off + k, none⟩ = false := by
  obtain ⟨h1, h2, h3⟩ := h.ref (k := k) (by simpa using hk)
  have hx := List.getElem?_eq_getElem hk
  obtain ⟨h4, h5⟩ := h.2 _ _ (bools_at hx)
  exact ⟨h1, h2, h3, _, hx, h4, h5⟩
/-- What a call has made: a row of truth values of its own. -/
def MadeB (w' : World) (base : Nat) (e : TypeId) (zs : List Bool) (v : Value) : Prop := w'.ownsRow base e 1 v zs.length (bools zs)
theorem MadeB.row {w' : World} {base : Nat} {e : TypeId} {zs : List Bool} {v : Value} (h : MadeB w' base e zs v) : ∃ A b c, v = .slice A zs.length c ∧ Row w' base w'.heap.size A b 0 (bools zs) := by
  have h' := h
  unfold MadeB at h'
  rcases h'.2 with ⟨rfl, hn⟩ | ⟨g, cap, cur, rfl, _⟩
  · have hz : zs = [] := List.eq_nil_of_length_eq_zero hn
    subst hz
    exact ⟨none, 0, 0, rfl, Row.nil_⟩
  · obtain ⟨b, hR⟩ := Row.of_own h'
    exact ⟨_, b, _, rfl, hR⟩
theorem MadeB.len {w' : World} {base : Nat} {e : TypeId} {zs : List Bool} {v : Value} (h : MadeB w' base e zs v) (hz : 0 < zs.length) : ∃ g c, v = .slice (some ⟨g, 0, none⟩) zs.length c ∧ base ≤ g ∧ g < w'.heap.size := by
  unfold MadeB at h
  rcases h.2 with ⟨_, hn⟩ | ⟨g, cap, cur, rfl, hg, hh, _⟩
  · omega
  · exact ⟨g, cap, rfl, hg, (h.lt g rfl).2⟩
theorem MadeB.below {w w' : World} {base B : Nat} {e : TypeId} {zs : List Bool} {v : Value} (h : MadeB w base e zs v) (hb : Below B w w') (hB : w.heap.size ≤ B) : MadeB w' base e zs v :=
  h.kept (row := none) ⟨hb.os, hb.tape, hb.output, hb.size, fun k hk _ => hb.block k (by omega)⟩ (by rcases v.ownBlock with _ | g <;> simp)
theorem MadeB.nil_ (w : World) (base : Nat) (e : TypeId) : MadeB w base e [] (.slice none 0 0) := World.ownsRow_nil _ _ _ _
theorem MadeB.alloc {w : World} {base : Nat} {e : TypeId} {zs : List Bool} {v : Value} (h : MadeB w base e zs v) (o : Obj) : MadeB (w.alloc o) base e zs v :=
  h.below ((Below.refl w.heap.size w).alloc (Nat.le_refl _) o) (Nat.le_refl _)
theorem MadeB.drewN {w : World} {base : Nat} {e : TypeId} {zs : List Bool} {v : Value} (h : MadeB w base e zs v) (n : Nat) : MadeB (w.drewN n) base e zs v :=
  h.below (below_draws w.heap.size w n) (Nat.le_refl _)
theorem MadeB.own {w : World} {base : Nat} {e : TypeId} {zs : List Bool} {v : Value} (h : MadeB w base e zs v) {k : Nat} (hk : v.ownBlock = some k) : base ≤ k := (World.ownsRow.lt h k hk).1
theorem MadeB.base {w : World} {base base' : Nat} {e : TypeId} {zs : List Bool} {v : Value} (h : MadeB w base e zs v) (hb : base' ≤ base) : MadeB w base' e zs v := by
  unfold MadeB World.ownsRow at h ⊢
  refine ⟨h.1, ?_⟩
  rcases h.2 with h2 | ⟨g, cap, cur, h3, h4, h5⟩
  · exact .inl h2
  · exact .inr ⟨g, cap, cur, h3, Nat.le_trans hb h4, h5⟩
/-- A place of it: what it reads, and what it is when a truth value is stored there. -/
theorem MadeB.at_ {w : World} {base g m c : Nat} {e : TypeId} {zs : List Bool} (h : MadeB w base e zs (.slice (some ⟨g, 0, none⟩) m c)) (hm : zs.length = m) {k : Nat} (hk : k < zs.length) :
    w.cell? ⟨g, k, none⟩ = some (.bool (zs.getD k false)) ∧ w.frozen? ⟨g, k, none⟩ = false ∧ MadeB (w.setCell ⟨g, k, none⟩ (.bool true)) base e (zs.set k true) (.slice (some ⟨g, 0, none⟩) m c) := by
  subst hm
  have h' := h
  unfold MadeB at h'
  have hd := h'.cellAt k (by omega)
  rw [bools_at (List.getElem?_eq_getElem hk)] at hd
  refine ⟨by rw [hd, List.getD_eq_getElem?_getD, List.getElem?_eq_getElem hk]; rfl, h'.frozenAt k, ?_⟩
  have := (h'.stored k (.bool true)).1
  unfold MadeB
  rw [show bools (zs.set k true) = (bools zs).set k (.bool true) by simp [bools, List.map_set]]
  rw [show (zs.set k true).length = zs.length by simp]
  exact this

theorem ins_bound {n : NNet} (h : netOk n = true) {t : NTask} (ht : t ∈ n.tasks) {x : Int} (hx : x ∈ t.ins) : 0 ≤ x ∧ x < n.places := by
  obtain ⟨_, _, h3, _⟩ := taskOk_parts ((netOk_parts h).2.2.2.2 t ht)
  rw [risesB, Bool.and_eq_true] at h3
  obtain ⟨j, hj⟩ := List.getElem?_of_mem hx
  have := of_all_range h3.2 (lt_of_some hj)
  rw [stepOk, Bool.and_eq_true, getD_of hj, inB_iff] at this
  omega
theorem out_bound {n : NNet} (h : netOk n = true) {t : NTask} (ht : t ∈ n.tasks) {f : NFlow} (hf : f ∈ t.out) : 1 ≤ f.to ∧ f.to < n.places := by
  obtain ⟨_, _, _, _, h5, _⟩ := taskOk_parts ((netOk_parts h).2.2.2.2 t ht)
  rw [outB, Bool.and_eq_true] at h5
  obtain ⟨j, hj⟩ := List.getElem?_of_mem hf
  have := of_all_range h5.2 (lt_of_some hj)
  rw [flowOk, Bool.and_eq_true, getD_of hj, inB_iff] at this
  omega
theorem any_snoc {α : Type} {l : List α} {k : Nat} {x : α} (p : α → Bool) (h : l[k]? = some x) : (l.take (k + 1)).any p = ((l.take k).any p || p x) := by
  rw [take_succ_of h]; simp
theorem light_snoc {l : List NFlow} {k : Nat} {f : NFlow} (s : List Bool) (h : l[k]? = some f) : light s (l.take (k + 1)) = (light s (l.take k)).set f.to.toNat true := by
  rw [take_succ_of h, light, List.foldl_append]; rfl
theorem bit_nat (s : List Bool) (k : Nat) : bit s (k : Int) = s.getD k false := rfl
theorem reachAll_length (n : NNet) (but : Int) (s : List Bool) : (reachAll n but s).length = s.length := spread_length _ _ _ _
end Go.Proofs.Ytoggdhbnkbdilaa
