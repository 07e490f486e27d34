/- Marks: numbers written into a row, and read back. -/
import Derived.Test.YteedgmaeopnidaaBase
namespace Go.Proofs.Yteedgmaeopnidaa
open Go.RowKit
set_option linter.unusedVariables false
set_option linter.unusedSimpArgs false

/-- w' is w but for writes to blocks from lo on and ahead of hi. -/
structure Upd (lo hi : Nat) (w w' : World) : Prop where
  os : w'.os = w.os
  tape : w'.tape = w.tape
  output : w'.output = w.output
  size : w'.heap.size = w.heap.size
  block : ∀ g, ¬ (lo ≤ g ∧ g < hi) → w'.heap[g]? = w.heap[g]?
theorem Upd.refl (lo hi : Nat) (w : World) : Upd lo hi w w := ⟨rfl, rfl, rfl, rfl, fun _ _ => rfl⟩
theorem Upd.trans {lo hi : Nat} {a b c : World} (h : Upd lo hi a b) (k : Upd lo hi b c) : Upd lo hi a c :=
  ⟨k.os.trans h.os, k.tape.trans h.tape, k.output.trans h.output, k.size.trans h.size, fun g hg => (k.block g hg).trans (h.block g hg)⟩
theorem Upd.setCell {lo hi : Nat} {a w : World} (h : Upd lo hi a w) {p : Addr} (h1 : lo ≤ p.block) (h2 : p.block < hi) (u : Value) : Upd lo hi a (w.setCell p u) :=
  h.trans ⟨rfl, rfl, rfl, by simp [World.setCell], fun g hg => Below.heap_setCell w p u g (by rintro rfl; exact hg ⟨h1, h2⟩)⟩
theorem Upd.below {lo hi B : Nat} {w w' : World} (h : Upd lo hi w w') (hB : B ≤ lo) : Below B w w' := ⟨h.os, h.tape, h.output, by rw [h.size]; exact Nat.le_refl _, fun g hg => h.block g (by omega)⟩
theorem Upd.drewN {lo hi : Nat} {a w : World} (h : Upd lo hi a w) (n : Nat) : Upd lo hi a (w.drewN n) := ⟨h.os, h.tape, h.output, h.size, h.block⟩
theorem Upd.more {lo hi lo' hi' : Nat} {a w : World} (h : Upd lo hi a w) (h1 : lo' ≤ lo) (h2 : hi ≤ hi') : Upd lo' hi' a w := ⟨h.os, h.tape, h.output, h.size, fun g hg => h.block g (by omega)⟩
theorem Row.upd {w w' : World} {lo hi lo' hi' b off : Nat} {A : Option Addr} {xs : List Value} (h : Row w lo' hi' A b off xs) (hu : Upd lo hi w w') (hd : hi' ≤ lo ∨ hi ≤ lo') : Row w' lo' hi' A b off xs :=
  h.keep fun g h1 h2 => hu.block g (by omega)

theorem cell_setCell_same {w : World} {p : Addr} {u v : Value} (h : w.cell? p = some v) : (w.setCell p u).cell? p = some u := World.cell?_setCell_same _ _ _ h
/-- One cell of a row is stored. -/
theorem Row.set_ {w : World} {lo hi b off : Nat} {A : Option Addr} {xs : List Value} (h : Row w lo hi A b off xs) (k : Nat) (u : Value) (hk : k < xs.length) : Row (w.setCell ⟨b, off + k, none⟩ u) lo hi A b off (xs.set k u) := by
  refine ⟨fun _ => h.ref hk, fun j v hj => ?_⟩
  have hf : (w.setCell ⟨b, off + k, none⟩ u).frozen? ⟨b, off + j, none⟩ = w.frozen? ⟨b, off + j, none⟩ := World.frozen?_setCell _ _ _ _
  rw [List.getElem?_set] at hj
  by_cases hjk : k = j
  · subst hjk
    rw [if_pos rfl, if_pos hk] at hj
    injection hj with hj
    subst hj
    obtain ⟨u0, _, hc, hz⟩ := h.at_ hk
    exact ⟨cell_setCell_same hc, hf.trans hz⟩
  · rw [if_neg hjk] at hj
    obtain ⟨hc, hz⟩ := h.2 j v hj
    exact ⟨(World.cell?_setCell_other _ _ _ _ (by intro e; simp only [Addr.mk.injEq] at e; omega)).trans hc, hf.trans hz⟩

/-- k, k + 1, .. : n of them. -/
def marks (k : Int) (n : Nat) : List Int := (List.range n).map fun i : Nat => k + (i : Int)
theorem marks_length (k : Int) (n : Nat) : (marks k n).length = n := by simp [marks]
theorem marks_at (k : Int) (n j : Nat) (h : j < n) : (marks k n)[j]? = some (k + (j : Int)) := by simp [marks, h]

theorem markIntS_c (zs : List Int) (lo hi : Nat) (A : Option Addr) (b off c : Nat) (k0 : Int) (w : World) (hV : Row w lo hi A b off (ints zs)) (hm : zs.length ≤ 16777216) (hk0 : 0 ≤ k0) (hk1 : k0 ≤ 1099511627776) :
    Calls Try.prog 26 #[.slice A zs.length c, .int .i64 k0] w fun e w' => e = .returned (.int .i64 (k0 + (zs.length : Int))) ∧ Row w' lo hi A b off (ints (marks k0 zs.length)) ∧ Upd lo hi w w' := by
  go_enter Try.func26, Try.ntmps26
  go_wp2
  go_loopw [1, 5] (fun kk i wr => ∃ (k : Nat) (xs : List Int), k ≤ zs.length ∧ i = .int .i64 k ∧ kk = .int .i64 (k0 + (k : Int)) ∧ xs.length = zs.length ∧ (∀ j, j < k → xs[j]? = some (k0 + (j : Int))) ∧ Row wr lo hi A b off (ints xs) ∧ Upd lo hi w wr) (fun _ i _ => zs.length - (intOf i).toNat)
  case atStart => exact ⟨0, zs, Nat.zero_le _, rfl, by simp, rfl, fun j hj => absurd hj (Nat.not_lt_zero _), hV, Upd.refl _ _ _⟩
  case round =>
    obtain ⟨k, xs, hk, rfl, rfl, hxl, hxs, hR, hU⟩ := hrel
    have HL := Lib.hid hxl
    have HXS := Lib.hid hxs
    have HU := Lib.hid hU
    have HRR := Lib.hid hR
    by_cases hlt : k < zs.length
    · obtain ⟨rfl, h2, h3, x, hx, hc, hf⟩ := hR.int (k := k) (by omega)
      clear hxl hxs hR hU hx hV
      have HS := Lib.hid (HRR.out.set_ k (.int .i64 (k0 + (k : Int))) (by have := HL.out; simp; omega))
      go_wp2
      go_roundw
      case rel =>
        refine ⟨k + 1, xs.set k (k0 + (k : Int)), by omega, by go_num, by go_num, by simp [HL.out], fun j hj => ?_, by have := HS.out; simpa [ints, List.map_set] using this, HU.out.setCell h2 h3 _⟩
        rw [List.getElem?_set]
        by_cases hjk : k = j
        · subst hjk; have := HL.out; simp; omega
        · rw [if_neg hjk]; exact HXS.out j (by omega)
      case measure => simp [intOf]; omega
    · have hkn : k = zs.length := by omega
      clear hxl hxs hR hU hV
      go_wp2
      go_ret
      have he : xs = marks k0 zs.length := List.ext_getElem? fun j => by
        by_cases hj : j < zs.length
        · rw [marks_at _ _ _ hj]; exact HXS.out j (by omega)
        · rw [List.getElem?_eq_none (by have := HL.out; omega), List.getElem?_eq_none (by rw [marks_length]; omega)]
      exact ⟨ret_int (by omega), by rw [← he]; exact HRR.out, HU.out⟩

theorem heldIntS_c (n lo hi : Nat) (A : Option Addr) (b off c : Nat) (k0 : Int) (w : World) (hV : Row w lo hi A b off (ints (marks k0 n))) (hm : n ≤ 16777216) (hk0 : 0 ≤ k0) (hk1 : k0 ≤ 1099511627776) :
    Calls Try.prog 27 #[.slice A n c, .int .i64 k0] w fun e w' => e = .returned (.int .i64 (k0 + (n : Int))) ∧ w = w' := by
  go_enter Try.func27, Try.ntmps27
  go_wp2
  go_loop [1, 5] (fun kk i => ∃ (k : Nat), k ≤ n ∧ i = .int .i64 k ∧ kk = .int .i64 (k0 + (k : Int))) (fun _ i => n - (intOf i).toNat)
  case atStart => exact ⟨0, Nat.zero_le _, rfl, by simp⟩
  case round =>
    obtain ⟨k, hk, rfl, rfl⟩ := hrel
    by_cases hlt : k < n
    · obtain ⟨rfl, h2, h3, x, hx, hc, hf⟩ := hV.int (k := k) (by rw [marks_length]; exact hlt)
      rw [marks_at _ _ _ hlt] at hx
      injection hx with hx
      rw [← hx] at hc
      have hne : ((k0 + (k : Int)) != (k0 + (k : Int))) = false := by simp
      clear hx
      go_wp2
      go_round
      case rel => exact ⟨k + 1, by omega, by go_num, by go_num⟩
      case measure => simp [intOf]; omega
    · have hkn : k = n := by omega
      go_wp2
      go_ret
      exact ⟨ret_int (by omega), rfl⟩
end Go.Proofs.Yteedgmaeopnidaa
