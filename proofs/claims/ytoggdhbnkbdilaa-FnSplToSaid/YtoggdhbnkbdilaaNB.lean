/- A drawn net in a variable's block, and what keeps it; lists compared. -/
import Derived.Test.YtoggdhbnkbdilaaDrawN
import Derived.Test.YtoggdhbnkbdilaaInts
import Derived.Test.YtoggdhbnkbdilaaBools
import Derived.Test.YtoggdhbnkbdilaaFlows
namespace Go.Proofs.Ytoggdhbnkbdilaa
open Go.RowKit
set_option linter.unusedVariables false
set_option linter.unusedSimpArgs false

structure NB (w0 : World) (B : Nat) (P : Int) (b1 k c1 : Nat) (n : NNet) (w : World) : Prop where
  net : Blk w B 25 #[.int .i64 P, .slice (some ⟨b1, 0, none⟩) k c1]
  nv : NetV w w0.heap.size B (.agg #[.int .i64 P, .slice (some ⟨b1, 0, none⟩) k c1]) n
  bl : Below w0.heap.size w0 w
  hB : w0.heap.size ≤ B
  lt : B < w.heap.size
section
variable {w0 w w' : World} {B b1 k c1 : Nat} {P : Int} {n : NNet}
theorem NB.start (hg : NetG w0 w P b1 k c1 n) (hb : Below w0.heap.size w0 w) : NB w0 w.heap.size P b1 k c1 n (w.alloc (.cells #[.int .i64 P, .slice (some ⟨b1, 0, none⟩) k c1] 25)) :=
  ⟨Blk.new_ _ _ _, hg.2.2.2.keep fun g _ h => Below.heap_alloc w _ g h, hb.alloc hb.size _, hb.size, by simp⟩
theorem NB.below (h : NB w0 B P b1 k c1 n w) (hb : Below w.heap.size w w') : NB w0 B P b1 k c1 n w' :=
  ⟨h.net.below hb h.lt, h.nv.below hb (Nat.le_of_lt h.lt), h.bl.trans (hb.mono h.bl.size), h.hB, Nat.lt_of_lt_of_le h.lt hb.size⟩
theorem NB.alloc (h : NB w0 B P b1 k c1 n w) (o : Obj) : NB w0 B P b1 k c1 n (w.alloc o) := h.below ((Below.refl _ _).alloc (Nat.le_refl _) o)
theorem NB.drewN (h : NB w0 B P b1 k c1 n w) (d : Nat) : NB w0 B P b1 k c1 n (w.drewN d) := h.below (below_draws _ _ _)
theorem NB.drew (h : NB w0 B P b1 k c1 n w) : NB w0 B P b1 k c1 n w.drew := h.below ⟨rfl, rfl, rfl, Nat.le_refl _, fun _ _ => rfl⟩
theorem NB.cell0 (h : NB w0 B P b1 k c1 n w) : w.cell? ⟨B, 0, none⟩ = some (.int .i64 P) := h.net.cell 0
theorem NB.cell1 (h : NB w0 B P b1 k c1 n w) : w.cell? ⟨B, 1, none⟩ = some (.slice (some ⟨b1, 0, none⟩) k c1) := h.net.cell 1
end
theorem small_out {n : NNet} (h : Small n) : ∀ t ∈ n.tasks, t.out.length ≤ 1048576 := fun t ht => by
  have := (h.2.2.2.2 t ht).1.2.1; omega

theorem guBools_c (zs ys : List Bool) (lo hi lo' hi' : Nat) (A B : Option Addr) (b off c b' off' c' : Nat) (w : World) (hV : Row w lo hi A b off (bools zs)) (hU : Row w lo' hi' B b' off' (bools ys)) (hm : zs.length ≤ maxLen) (hm' : ys.length ≤ maxLen) :
    Calls Try.prog 29 #[.slice A zs.length c, .slice B ys.length c'] w fun e w' => e = .returned (.bool (decide (zs = ys))) ∧ Below w.heap.size w w' := by
  unfold maxLen at hm hm'
  by_cases hl : zs.length = ys.length
  · have hlb : ((zs.length : Int) != (ys.length : Int)) = false := by simp [hl]
    have HL := Lib.hid hl
    clear hl
    go_enter Try.func29, Try.ntmps29
    go_wp2
    go_loopw [5] (fun i wr => ∃ k n : Nat, k ≤ zs.length ∧ i = .int .i64 k ∧ zs.take k = ys.take k ∧ wr = w.drewN n) (fun i _ => zs.length - (intOf i).toNat)
    case atStart => exact ⟨0, 0, Nat.zero_le _, rfl, rfl, rfl⟩
    case round =>
      obtain ⟨k, n, hk, rfl, he, rfl⟩ := hrel
      have HE := Lib.hid he
      clear he
      by_cases hlt : k < zs.length
      · obtain ⟨rfl, _, _, x, hx, hc, _⟩ := hV.bool hlt
        obtain ⟨rfl, _, _, y, hy, hd, _⟩ := hU.bool (k := k) (by rw [← HL.out]; exact hlt)
        have HX := Lib.hid hx
        have HY := Lib.hid hy
        have hlt1 : (k : Int) < (zs.length : Int) := by omega
        have hlt2 : (k : Int) < (ys.length : Int) := by rw [← HL.out]; omega
        clear hx hy
        by_cases hxy : x = y
        · have hne : (x != y) = false := by simp [hxy]
          have hne2 : (x == y) = true := by simp [hxy]
          have hne3 : (!(x == y)) = false := by simp [hxy]
          have HXY := Lib.hid hxy
          clear hxy
          go_wp2
          go_quiet (fail)
          go_wp2
          go_roundw
          case rel => exact ⟨k + 1, _, by omega, by go_num, by rw [take_succ_of HX.out, take_succ_of HY.out, HE.out, HXY.out], rfl⟩
          case measure => simp [intOf]; omega
        · have hne : (x != y) = true := by simp [hxy]
          have hne2 : (x == y) = false := by simp [hxy]
          have hne3 : (!(x == y)) = true := by simp [hxy]
          have HXY := Lib.hid hxy
          clear hxy
          go_wp2
          go_quiet (fail)
          go_wp2
          go_ret
          exact ⟨ret_bool (by
            have : zs ≠ ys := by
              intro e; subst e
              have := HX.out.symm.trans HY.out
              injection this with this; exact HXY.out this
            simp [this]), by first | exact below_draws _ _ _ | exact below_drewN (below_draws _ _ _) _⟩
      · go_wp2
        go_ret
        refine ⟨ret_bool ?_, by first | exact below_draws _ _ _ | exact below_drewN (below_draws _ _ _) _⟩
        have e := HE.out
        rw [List.take_of_length_le (by omega), List.take_of_length_le (by rw [← HL.out]; omega)] at e
        simp [e]
  · have hlb : ((zs.length : Int) != (ys.length : Int)) = true := by simp; omega
    have HL := Lib.hid hl
    clear hl
    go_enter Try.func29, Try.ntmps29
    go_wp2
    go_ret
    exact ⟨ret_bool (by have : zs ≠ ys := fun e => HL.out (by rw [e]); simp [this]), Below.refl _ _⟩

theorem guHas_c (zs : List Int) (lo hi : Nat) (A : Option Addr) (b off c : Nat) (z : Int) (w : World) (hV : Row w lo hi A b off (ints zs)) (hm : zs.length ≤ maxLen) :
    Calls Try.prog 38 #[.slice A zs.length c, .int .i64 z] w fun e w' => e = .returned (.bool (decide (z ∈ zs))) ∧ w = w' := by
  unfold maxLen at hm
  go_enter Try.func38, Try.ntmps38
  go_wp2
  go_loop [5] (fun i => ∃ k : Nat, k ≤ zs.length ∧ i = .int .i64 k ∧ (∀ j y, j < k → zs[j]? = some y → y ≠ z)) (fun i => zs.length - (intOf i).toNat)
  case atStart => exact ⟨0, Nat.zero_le _, rfl, fun j y hj => absurd hj (Nat.not_lt_zero _)⟩
  case round =>
    obtain ⟨k, hk, rfl, hn⟩ := hrel
    have HN := Lib.hid hn
    clear hn
    by_cases hlt : k < zs.length
    · obtain ⟨rfl, _, _, x, hx, hc, _⟩ := hV.int hlt
      have HX := Lib.hid hx
      clear hx
      by_cases hxz : x = z
      · have HZ := Lib.hid hxz
        have e : (x == z) = true := by simpa using hxz
        clear hxz
        go_wp2
        go_ret
        exact ⟨ret_bool (by rw [eq_comm, decide_eq_true_eq, ← HZ.out]; exact List.mem_of_getElem? HX.out), rfl⟩
      · have HZ := Lib.hid hxz
        have e : (x == z) = false := by simpa using hxz
        clear hxz
        go_wp2
        go_round
        case rel =>
          refine ⟨k + 1, by omega, by go_num, fun j y hj hy => ?_⟩
          by_cases hjk : j = k
          · subst hjk
            have e := HX.out.symm.trans hy
            injection e with e; rw [← e]; exact HZ.out
          · exact HN.out j y (by omega) hy
        case measure => simp [intOf]; omega
    · go_wp2
      go_ret
      refine ⟨ret_bool ?_, rfl⟩
      rw [eq_comm, decide_eq_false_iff_not]
      intro hz
      obtain ⟨j, hj⟩ := List.getElem?_of_mem hz
      exact HN.out j z (by have := lt_of_some hj; omega) hj rfl
end Go.Proofs.Ytoggdhbnkbdilaa
