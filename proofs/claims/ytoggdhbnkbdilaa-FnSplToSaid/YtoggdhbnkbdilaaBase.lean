/- Words for memory: a slice that reads as a list of cells ('Row'), what keeps it, and small closers. No function of the program is spoken of. -/
import Derived.Test.YtoggdhbnkbdilaaChecked
import Derived.WalkKit
import Derived.WalkLawsBesides
import Derived.WalkSpells
import Derived.BigQuiet
import Derived.Deep.QuietTactic
import Derived.Lib.Hide
namespace Go.Proofs.Ytoggdhbnkbdilaa
open Go.RowKit
set_option linter.unusedVariables false
set_option linter.unusedSimpArgs false

theorem ret_bool {a b : Bool} (h : a = b) : Ending.returned (.bool a) = .returned (.bool b) := by rw [h]
theorem ret_int {k : IntKind} {a b : Int} (h : a = b) : Ending.returned (.int k a) = .returned (.int k b) := by rw [h]

theorem below_le {B B' : Nat} {w w' : World} (h : Below B w w') (hb : B' ≤ B) : Below B' w w' := h.mono hb
theorem below_drewN {B : Nat} {a w : World} (h : Below B a w) (n : Nat) : Below B a (w.drewN n) := ⟨h.os, h.tape, h.output, h.size, h.block⟩
theorem below_draws (B : Nat) (w : World) (n : Nat) : Below B w (w.drewN n) := ⟨rfl, rfl, rfl, Nat.le_refl _, fun _ _ => rfl⟩
theorem bcell {W w1 : World} (hb : Below W.heap.size W w1) : (∀ b o, b < W.heap.size → w1.cell? ⟨b, o, none⟩ = W.cell? ⟨b, o, none⟩) ∧ (∀ b o, b < W.heap.size → w1.frozen? ⟨b, o, none⟩ = W.frozen? ⟨b, o, none⟩) :=
  ⟨fun b o h => hb.cell (p := ⟨b, o, none⟩) h, fun b o h => hb.frozen (p := ⟨b, o, none⟩) h⟩

/-- The slice of address A reads as the cells xs: they lie in block b from place off on, b from lo on and ahead of hi, and may be written. -/
def Row (w : World) (lo hi : Nat) (A : Option Addr) (b off : Nat) (xs : List Value) : Prop :=
  (xs ≠ [] → A = some ⟨b, off, none⟩ ∧ lo ≤ b ∧ b < hi) ∧ ∀ j u, xs[j]? = some u → w.cell? ⟨b, off + j, none⟩ = some u ∧ w.frozen? ⟨b, off + j, none⟩ = false

section
variable {w w' : World} {lo hi lo' hi' b off : Nat} {A : Option Addr} {xs : List Value}
theorem Row.ref (h : Row w lo hi A b off xs) {k : Nat} (hk : k < xs.length) : A = some ⟨b, off, none⟩ ∧ lo ≤ b ∧ b < hi :=
  h.1 (by intro e; subst e; simp at hk)
theorem Row.nil_ : Row w lo hi A b off [] := ⟨fun h => absurd rfl h, fun j u h => by simp at h⟩
theorem Row.at_ (h : Row w lo hi A b off xs) {k : Nat} (hk : k < xs.length) : ∃ u, xs[k]? = some u ∧ w.cell? ⟨b, off + k, none⟩ = some u ∧ w.frozen? ⟨b, off + k, none⟩ = false :=
  ⟨xs[k], List.getElem?_eq_getElem hk, (h.2 k _ (List.getElem?_eq_getElem hk)).1, (h.2 k _ (List.getElem?_eq_getElem hk)).2⟩
theorem Row.keep (h : Row w lo hi A b off xs) (hk : ∀ g, lo ≤ g → g < hi → w'.heap[g]? = w.heap[g]?) : Row w' lo hi A b off xs :=
  ⟨h.1, fun j u hu => by
    have hj : j < xs.length := (List.getElem?_eq_some_iff.1 hu).1
    obtain ⟨_, h1, h2⟩ := h.ref hj
    have e := hk b h1 h2
    exact ⟨(World.cell?_of_block (a := ⟨b, off + j, none⟩) e).trans (h.2 j u hu).1, (World.frozen?_of_block (a := ⟨b, off + j, none⟩) e).trans (h.2 j u hu).2⟩⟩
theorem Row.more (h : Row w lo hi A b off xs) (h1 : lo' ≤ lo) (h2 : hi ≤ hi') : Row w lo' hi' A b off xs :=
  ⟨fun hn => ⟨(h.1 hn).1, by have := (h.1 hn).2.1; omega, by have := (h.1 hn).2.2; omega⟩, h.2⟩
theorem Row.below {B : Nat} (h : Row w lo hi A b off xs) (hb : Below B w w') (hB : hi ≤ B) : Row w' lo hi A b off xs := h.keep fun g _ h2 => hb.block g (by omega)
theorem Row.drewN (h : Row w lo hi A b off xs) (n : Nat) : Row (w.drewN n) lo hi A b off xs := h
theorem Row.drew (h : Row w lo hi A b off xs) : Row w.drew lo hi A b off xs := h
theorem Row.alloc (h : Row w lo hi A b off xs) (hB : hi ≤ w.heap.size) (o : Obj) : Row (w.alloc o) lo hi A b off xs := h.keep fun g _ h2 => Below.heap_alloc w o g (by omega)
theorem Row.setCell (h : Row w lo hi A b off xs) {p : Addr} (hp : p.block < lo ∨ hi ≤ p.block) (u : Value) : Row (w.setCell p u) lo hi A b off xs :=
  h.keep fun g h1 h2 => Below.heap_setCell w p u g (by omega)
end

theorem Try.info3 : (Try.prog.info? 3).map (fun i => (i.zero, i.size, i.bytes)) = some (some (.int .i64 0), 1, 8) := by kernel_rfl

/-- Numbers as cells. -/
abbrev ints (zs : List Int) : List Value := zs.map (Value.int .i64)
theorem ints_at {zs : List Int} {k : Nat} {x : Int} (h : zs[k]? = some x) : (ints zs)[k]? = some (.int .i64 x) := by simp [h]
theorem Row.int {w : World} {lo hi b off : Nat} {A : Option Addr} {zs : List Int} (h : Row w lo hi A b off (ints zs)) {k : Nat} (hk : k < zs.length) :
    A = some ⟨b, off, none⟩ ∧ lo ≤ b ∧ b < hi ∧ ∃ x, zs[k]? = some x ∧ w.cell? ⟨b, off + k, none⟩ = some (.int .i64 x) ∧ w.frozen? ⟨b, off + k, none⟩ = false := by
  obtain ⟨h1, h2, h3⟩ := h.ref (k := k) (by simpa using hk)
  exact ⟨h1, h2, h3, zs[k], List.getElem?_eq_getElem hk, h.2 k _ (ints_at (List.getElem?_eq_getElem hk))⟩
theorem addr_add0 (b off j : Nat) : (⟨b, off, none⟩ : Addr).add j = ⟨b, off + j, none⟩ := by
  unfold Addr.add; split <;> simp_all
/-- What the call owns reads as a row. -/
theorem Row.of_own {w : World} {base : Nat} {e : TypeId} {A : Option Addr} {n c : Nat} {size : Nat} {xs : List Value} (h : w.ownsRow base e size (.slice A n c) n xs) : ∃ b, Row w base w.heap.size A b 0 xs := by
  rcases h.2 with ⟨hv, rfl⟩ | ⟨g, cap, cur, hv, hg, hh, _⟩
  · have hx : xs = [] := List.eq_nil_of_length_eq_zero (by simpa using h.1)
    subst hx; exact ⟨0, Row.nil_⟩
  · have hA : A = some ⟨g, 0, none⟩ := by injection hv
    subst hA
    have hlt := (h.lt g (by simp [Value.ownBlock])).2
    exact ⟨g, fun _ => ⟨rfl, hg, hlt⟩, fun j u hu => ⟨by have := h.cells (g := g) rfl j u hu; rw [addr_add0] at this; simpa using this, by simp [World.frozen?, hh]⟩⟩

theorem take_succ_of {α : Type} {l : List α} {k : Nat} {x : α} (h : l[k]? = some x) : l.take (k + 1) = l.take k ++ [x] := by
  rw [List.take_add_one, h]; rfl
theorem lt_of_some {α : Type} {l : List α} {k : Nat} {x : α} (h : l[k]? = some x) : k < l.length := (List.getElem?_eq_some_iff.1 h).1
end Go.Proofs.Ytoggdhbnkbdilaa
