/- Data: whether they are ok, a number turned, whether a question holds of them. -/
import Derived.Test.YtililbgpjbpnkaaData
import Derived.Test.YtililbgpjbpnkaaFuncs
import Derived.Test.YtililbgpjbpnkaaAppend
namespace Go.Proofs.Ytililbgpjbpnkaa
open Go.RowKit
set_option linter.unusedVariables false
set_option linter.unusedSimpArgs false

theorem all_of {α : Type} {p : α → Bool} {l : List α} (h : ∀ j y, j < l.length → l[j]? = some y → p y = true) : l.all p = true := by
  rw [List.all_eq_true]
  intro x hx
  obtain ⟨j, hj⟩ := List.getElem?_of_mem hx
  exact h j x (lt_of_some hj) hj
theorem not_all_of {α : Type} {p : α → Bool} {l : List α} {k : Nat} {x : α} (h : l[k]? = some x) (hp : p x = false) : l.all p = false := by
  rw [List.all_eq_false]
  exact ⟨x, List.mem_of_getElem? h, by simp [hp]⟩

def datOk (zs : List Int) : Bool := decide (zs.length = 3) && zs.all datumB




/-- Data with one number turned. -/
def datSet (zs : List Int) (k n : Int) : List Int := if datOk zs && inB k 0 2 && datumB n then zs.set k.toNat n else zs

/-- What a call has made: a row of numbers of its own, known by its slice value. -/
def Made (w' : World) (base : Nat) (e : TypeId) (zs : List Int) (v : Value) : Prop := w'.ownsRow base e 1 v zs.length (ints zs)
theorem Made.row {w' : World} {base : Nat} {e : TypeId} {zs : List Int} {v : Value} (h : Made w' base e zs v) : ∃ A b c, v = .slice A zs.length c ∧ Row w' base w'.heap.size A b 0 (ints zs) := by
  have h' := h
  unfold Made at h'
  rcases h'.2 with ⟨rfl, hn⟩ | ⟨g, cap, cur, rfl, _⟩
  · have hz : zs = [] := List.eq_nil_of_length_eq_zero hn
    subst hz
    exact ⟨none, 0, 0, rfl, Row.nil_⟩
  · obtain ⟨b, hR⟩ := Row.of_own h'
    exact ⟨_, b, _, rfl, hR⟩

theorem cloneInts_c (zs : List Int) (lo hi : Nat) (A : Option Addr) (b off c : Nat) (w : World) (hV : Row w lo hi A b off (ints zs)) (hm : zs.length ≤ 1048576) :
    Calls Try.prog 106 #[.slice A zs.length c] w fun e w' => ∃ v, e = .returned v ∧ Made w' w.heap.size 3 zs v ∧ Below w.heap.size w w' := by
  obtain ⟨i0, hi0, hz0, hz1, hz2⟩ := info_parts Try.info3
  go_enter Try.func106, Try.ntmps106
  go_wp2_with (at_builtin; refine wpList_append_row rfl _ _ 33 rfl w.heap.size 3 i0 _ 1 8 Try.underlying33 hi0 hz0 hz1 hz2 rfl (by omega) (.slice none 0 0) 0 [] rfl (World.ownsRow_nil _ _ _ _) lo hi A b off zs.length c (ints zs) rfl (by simp) hV (ints_one zs) (by unfold maxLen; omega) (by omega) (Nat.le_refl _) ?_; intro v' w1 hown hg)
  have HO := Lib.hid hown
  have HB := Lib.hid ((Below.refl w.heap.size w).grown hg (Nat.le_refl _) (fun k hk => by simp [Value.ownBlock] at hk))
  clear hown hg
  go_wp2
  go_ret
  exact ⟨_, rfl, by have := HO.out; simpa [Made] using this, HB.out⟩

theorem Made.len {w' : World} {base : Nat} {e : TypeId} {zs : List Int} {v : Value} (h : Made w' base e zs v) (hz : 0 < zs.length) : ∃ g c, v = .slice (some ⟨g, 0, none⟩) zs.length c ∧ base ≤ g ∧ g < w'.heap.size := by
  unfold Made at h
  rcases h.2 with ⟨_, hn⟩ | ⟨g, cap, cur, rfl, hg, hh, _⟩
  · omega
  · exact ⟨g, cap, rfl, hg, (h.lt g rfl).2⟩
theorem Made.below {w w' : World} {base B : Nat} {e : TypeId} {zs : List Int} {v : Value} (h : Made w base e zs v) (hb : Below B w w') (hB : w.heap.size ≤ B) : Made w' base e zs v :=
  h.kept (row := none) ⟨hb.os, hb.tape, hb.output, hb.size, fun k hk _ => hb.block k (by omega)⟩ (by rcases v.ownBlock with _ | g <;> simp)


theorem own_lit0 (w : World) (e : TypeId) : (w.alloc (.cells #[] e)).ownsRow w.heap.size e 1 (.slice (some ⟨w.heap.size, 0, none⟩) 0 0) 0 [] :=
  World.ownsRow_made w #[] 0 (Nat.le_refl _) (Nat.zero_le _) rfl

end Go.Proofs.Ytililbgpjbpnkaa
