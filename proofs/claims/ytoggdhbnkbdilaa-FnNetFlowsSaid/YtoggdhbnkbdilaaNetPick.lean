/- The tasks into which a place leads, and the tasks that lead to a place: the program. -/
import Derived.Test.YtoggdhbnkbdilaaPick
import Derived.Test.YtoggdhbnkbdilaaAsc
namespace Go.Proofs.Ytoggdhbnkbdilaa
open Go.RowKit
set_option linter.unusedVariables false
set_option linter.unusedSimpArgs false

/-- A function value that answers p of each of some flows, whatever new memory lies beside. -/
def PredFlow (P : Program) (g : FuncId) (lb : Array Value) (l : List NFlow) (p : NFlow → Bool) (w : World) : Prop :=
  ∀ (x : NFlow) (W : World), x ∈ l → Below w.heap.size w W → Calls P g (#[.agg #[.int .i64 x.to, .int .i64 x.op, .int .i64 x.var, .int .i64 x.k]] ++ lb) W fun e W' => e = .returned (.bool (p x)) ∧ Below W.heap.size W W'

theorem indexFuncFlow_c (l : List NFlow) (lo hi : Nat) (A : Option Addr) (b off c : Nat) (g : FuncId) (lb : Array Value) (p : NFlow → Bool) (w : World) (hV : Row w lo hi A b off (flowCells l)) (hhi : hi ≤ w.heap.size) (hm : l.length ≤ maxLen) (hp : PredFlow Try.prog g lb l p w) (eg : EntersF Try.prog g) :
    Calls Try.prog 91 #[.slice A l.length c, .func (.func g) #[] lb] w fun e w' => e = .returned (.int .i64 (idxFrom p 0 l)) ∧ Below w.heap.size w w' := by
  unfold maxLen at hm
  have eg' : ∀ (args : Array Value) (w : World), Sem.run Try.prog (callFunc g args) w = .ok (.enter g args) w := eg
  go_enter Try.func91, Try.ntmps91
  go_wp2
  go_loopw [8] (fun i wr => ∃ k : Nat, k ≤ l.length ∧ i = .int .i64 k ∧ (∀ j y, j < k → l[j]? = some y → p y = false) ∧ Below w.heap.size w wr) (fun i _ => l.length - (intOf i).toNat)
  case atStart => exact ⟨0, Nat.zero_le _, rfl, fun j y hj => absurd hj (Nat.not_lt_zero _), Below.refl _ _⟩
  case round =>
    obtain ⟨k, hk, rfl, hn, hb⟩ := hrel
    have HN := Lib.hid hn
    have HB := Lib.hid hb
    by_cases hlt : k < l.length
    · obtain ⟨rfl, _, h3, x, hx, ⟨c0, c1, c2, c3⟩, _⟩ := hV.flow hlt
      replace c0 := (hb.cell (p := ⟨b, off + k * 4, none⟩) (by show b < _; omega)).trans c0
      replace c1 := (hb.cell (p := ⟨b, off + k * 4 + 1, none⟩) (by show b < _; omega)).trans c1
      replace c2 := (hb.cell (p := ⟨b, off + k * 4 + 2, none⟩) (by show b < _; omega)).trans c2
      replace c3 := (hb.cell (p := ⟨b, off + k * 4 + 3, none⟩) (by show b < _; omega)).trans c3
      have HX := Lib.hid hx
      have HP := Lib.hid (hp x wr (List.mem_of_getElem? hx) hb)
      clear hx hn hb hp
      go_wp2_with fail
      refine HP.out.mono ?_
      rintro e w1 ⟨rfl, hb1⟩
      have HB1 := Lib.hid hb1
      have HBs := Lib.hid HB.out.size
      clear hb1
      by_cases hpx : p x = true
      · have HPX := Lib.hid hpx
        rw [hpx]
        clear hpx
        go_wp2_with fail
        go_ret
        exact ⟨ret_int (by rw [idxFrom_at p l 0 k x HX.out HPX.out (fun i y hi hy => HN.out i y hi hy)]; simp), HB.out.trans (HB1.out.mono HBs.out)⟩
      · have hpx' : p x = false := by simpa using hpx
        have HPX := Lib.hid hpx'
        rw [hpx']
        clear hpx hpx'
        go_wp2_with fail
        go_roundw
        case rel =>
          refine ⟨k + 1, by omega, by go_num, fun j y hj hy => ?_, HB.out.trans (HB1.out.mono HBs.out)⟩
          by_cases hjk : j = k
          · subst hjk
            have e := HX.out.symm.trans hy
            injection e with e; rw [← e]; exact HPX.out
          · exact HN.out j y (by omega) hy
        case measure => simp [intOf]; omega
    · go_wp2
      go_ret
      refine ⟨ret_int ?_, HB.out⟩
      exact (idxFrom_none p l 0 (fun x hx => by
        obtain ⟨j, hj⟩ := List.getElem?_of_mem hx
        exact HN.out j x (by have := lt_of_some hj; omega) hj)).symm

theorem containsFuncFlow_c (l : List NFlow) (lo hi : Nat) (A : Option Addr) (b off c : Nat) (g : FuncId) (lb : Array Value) (p : NFlow → Bool) (w : World) (hV : Row w lo hi A b off (flowCells l)) (hhi : hi ≤ w.heap.size) (hm : l.length ≤ maxLen) (hp : PredFlow Try.prog g lb l p w) (eg : EntersF Try.prog g) :
    Calls Try.prog 83 #[.slice A l.length c, .func (.func g) #[] lb] w fun e w' => e = .returned (.bool (l.any p)) ∧ Below w.heap.size w w' := by
  have hidx := idx_any p l 0
  generalize hr : l.any p = r at hidx
  have HR := Lib.hid hr
  clear hr
  generalize hi : idxFrom p 0 l = i at hidx
  have HI := Lib.hid hi
  clear hi
  go_enter Try.func83, Try.ntmps83
  go_wp2_with fail
  refine (indexFuncFlow_c l lo _ A b off c g lb p w hV hhi hm hp eg).mono ?_
  rintro e w1 ⟨rfl, hb1⟩
  rw [HI.out]
  have HB1 := Lib.hid hb1
  clear hb1
  go_wp2_with fail
  go_ret
  exact ⟨rfl, HB1.out⟩

theorem leadsTo1_c (f : NFlow) (g : Nat) (z : Int) (w : World) (hc : w.cell? ⟨g, 0, none⟩ = some (.int .i64 z)) (hg : g < w.heap.size) :
    Calls Try.prog 84 #[.agg #[.int .i64 f.to, .int .i64 f.op, .int .i64 f.var, .int .i64 f.k], .pointer (some ⟨g, 0, none⟩)] w fun e w' => e = .returned (.bool (f.to == z)) ∧ Below w.heap.size w w' := by
  have hne : g ≠ w.heap.size := by omega
  go_enter Try.func84, Try.ntmps84
  go_wp2
  go_ret
  exact ⟨rfl, (Below.refl _ _).alloc (Nat.le_refl _) _⟩

theorem leadsTo_c (t : NTask) (vi vo vc : Value) (lo hi : Nat) (z : Int) (w : World) (hV : TaskV w lo hi t vi vo vc) (hhi : hi ≤ w.heap.size) (hm : t.out.length ≤ 1048576) :
    Calls Try.prog 57 #[.agg #[.int .i64 t.join, .int .i64 t.split, vi, vo, vc, .int .i64 t.role, .int .i64 t.apart, .int .i64 t.all, .int .i64 t.need], .int .i64 z] w fun e w' => e = .returned (.bool (t.out.any fun f => f.to == z)) ∧ Below w.heap.size w w' := by
  obtain ⟨A1, q1, A2, q2, A3, q3, rfl, rfl, rfl⟩ := hV.forms
  obtain ⟨A, b, off, c, e0, _, hR⟩ := hV.out
  cases e0
  have HR := Lib.hid hR
  have EG := Lib.hid (entersF Try.func84 (by kernel_rfl) rfl : EntersF Try.prog 84)
  clear hR hV
  generalize hw1 : ((w.alloc (.cells #[.int .i64 t.join, .int .i64 t.split, .slice A1 t.ins.length q1, .slice A2 t.out.length q2, .slice A3 t.clear.length q3, .int .i64 t.role, .int .i64 t.apart, .int .i64 t.all, .int .i64 t.need] 38)).alloc (.cells #[.int .i64 z] 3)) = w1
  have hB1 : Below w.heap.size w w1 := by rw [← hw1]; exact ((Below.refl _ _).alloc (Nat.le_refl _) _).alloc (by simp) _
  have hs1 : w1.heap.size = w.heap.size + 2 := by rw [← hw1]; simp
  have hc1 : w1.cell? ⟨w.heap.size + 1, 0, none⟩ = some (.int .i64 z) := by rw [← hw1, World.cell?_alloc_at _ _ _ _ (by simp)]; rfl
  have HC := Lib.hid (containsFuncFlow_c t.out lo hi A2 b off q2 84 #[.pointer (some ⟨w.heap.size + 1, 0, none⟩)] (fun f => f.to == z) w1 (HR.out.below hB1 hhi) (by omega) (by unfold maxLen; omega)
    (fun x W hx hb => leadsTo1_c x _ z W ((hb.cell (p := ⟨w.heap.size + 1, 0, none⟩) (by dsimp only; omega)).trans hc1) (by have := hb.size; omega)) EG.out)
  have HB1 := Lib.hid hB1
  have HS1 := Lib.hid hs1
  have HW1 := Lib.hid hw1
  clear hB1 hs1 hc1 hw1
  go_enter Try.func57, Try.ntmps57
  go_wp2_with fail
  rw [HW1.out]
  refine HC.out.mono ?_
  rintro e w2 ⟨rfl, hb2⟩
  have HB2 := Lib.hid (HB1.out.trans (hb2.mono (by have := HS1.out; omega)))
  clear hb2
  go_wp2
  go_ret
  exact ⟨rfl, HB2.out⟩

def fromB (z : Int) (t : NTask) : Bool := decide (z ∈ t.ins)
def intoB (z : Int) (t : NTask) : Bool := t.out.any fun f => f.to == z

theorem netFrom1_c (t : NTask) (vi vo vc : Value) (lo hi : Nat) (g : Nat) (z : Int) (w : World) (hV : TaskV w lo hi t vi vo vc) (hhi : hi ≤ w.heap.size) (hc : w.cell? ⟨g, 0, none⟩ = some (.int .i64 z)) (hg : g < w.heap.size) :
    Calls Try.prog 54 #[.agg #[.int .i64 t.join, .int .i64 t.split, vi, vo, vc, .int .i64 t.role, .int .i64 t.apart, .int .i64 t.all, .int .i64 t.need], .pointer (some ⟨g, 0, none⟩)] w fun e w' => e = .returned (.bool (fromB z t)) ∧ Below w.heap.size w w' := by
  obtain ⟨A1, q1, A2, q2, A3, q3, rfl, rfl, rfl⟩ := hV.forms
  obtain ⟨A, b, off, c, e0, hm, hR⟩ := hV.ins
  cases e0
  have hne : g ≠ w.heap.size := by omega
  have HR := Lib.hid (hR.alloc hhi (.cells #[.int .i64 t.join, .int .i64 t.split, .slice A1 t.ins.length q1, .slice A2 t.out.length q2, .slice A3 t.clear.length q3, .int .i64 t.role, .int .i64 t.apart, .int .i64 t.all, .int .i64 t.need] 38))
  clear hR hV
  go_enter Try.func54, Try.ntmps54
  go_wp2_with fail
  refine (containsInt_c t.ins lo hi A1 b off q1 z _ HR.out hm).mono ?_
  rintro e w2 ⟨rfl, rfl⟩
  go_wp2
  go_ret
  exact ⟨rfl, (Below.refl _ _).alloc (Nat.le_refl _) _⟩

theorem netInto1_c (t : NTask) (vi vo vc : Value) (lo hi : Nat) (g : Nat) (z : Int) (w : World) (hV : TaskV w lo hi t vi vo vc) (hhi : hi ≤ w.heap.size) (hm : t.out.length ≤ 1048576) (hc : w.cell? ⟨g, 0, none⟩ = some (.int .i64 z)) (hg : g < w.heap.size) :
    Calls Try.prog 56 #[.agg #[.int .i64 t.join, .int .i64 t.split, vi, vo, vc, .int .i64 t.role, .int .i64 t.apart, .int .i64 t.all, .int .i64 t.need], .pointer (some ⟨g, 0, none⟩)] w fun e w' => e = .returned (.bool (intoB z t)) ∧ Below w.heap.size w w' := by
  have HV := Lib.hid hV
  obtain ⟨A1, q1, A2, q2, A3, q3, rfl, rfl, rfl⟩ := hV.forms
  have hne : g ≠ w.heap.size := by omega
  clear hV
  go_enter Try.func56, Try.ntmps56
  go_wp2_with fail
  refine (leadsTo_c t _ _ _ lo hi z _ (HV.out.keep fun g _ h => Below.heap_alloc w _ g (by omega)) (by simp; omega) hm).mono ?_
  rintro e w2 ⟨rfl, hb2⟩
  have HB2 := Lib.hid (((Below.refl w.heap.size w).alloc (Nat.le_refl _) _).trans (hb2.mono (by simp)))
  clear hb2
  go_wp2
  go_ret
  exact ⟨rfl, HB2.out⟩

theorem implNetFrom_c (n : NNet) (v : Value) (lo hi : Nat) (z : Int) (w : World) (hN : NetV w lo hi v n) (hhi : hi ≤ w.heap.size) (hlen : ∀ t ∈ n.tasks, t.out.length ≤ 1048576) :
    Calls Try.prog 20 #[v, .int .i64 z] w fun e w' => ∃ v', e = .returned v' ∧ Made w' w.heap.size 3 (pickN (fromB z) n) v' ∧ Below w.heap.size w w' := by
  have EG := Lib.hid (entersF Try.func54 (by kernel_rfl) rfl : EntersF Try.prog 54)
  have HN := Lib.hid hN
  obtain ⟨A, b, off, c, ms, rfl, hm, hT⟩ := hN
  clear hT
  generalize hw1 : ((w.alloc (.cells #[.int .i64 n.places, .slice A n.tasks.length c] 25)).alloc (.cells #[.int .i64 z] 3)) = w1
  have hB1 : Below w.heap.size w w1 := by rw [← hw1]; exact ((Below.refl _ _).alloc (Nat.le_refl _) _).alloc (by simp) _
  have hs1 : w1.heap.size = w.heap.size + 2 := by rw [← hw1]; simp
  have hc1 : w1.cell? ⟨w.heap.size + 1, 0, none⟩ = some (.int .i64 z) := by rw [← hw1, World.cell?_alloc_at _ _ _ _ (by simp)]; rfl
  have HC := Lib.hid (implPick_c n _ lo hi 54 #[.pointer (some ⟨w.heap.size + 1, 0, none⟩)] (fromB z) w1 (HN.out.below hB1 hhi) (by omega) hlen
    (fun t vi vo vc W ht hb hTV => netFrom1_c t vi vo vc lo hi _ z W hTV (by have := hb.size; omega) ((hb.cell (p := ⟨w.heap.size + 1, 0, none⟩) (by dsimp only; omega)).trans hc1) (by have := hb.size; omega)) EG.out)
  have HB1 := Lib.hid hB1
  have HS1 := Lib.hid hs1
  have HW1 := Lib.hid hw1
  clear hB1 hs1 hc1 hw1
  go_enter Try.func20, Try.ntmps20
  go_wp2_with fail
  rw [HW1.out]
  refine HC.out.mono ?_
  rintro e w2 ⟨v', rfl, hM, hb2⟩
  have HB2 := Lib.hid (HB1.out.trans (hb2.mono (by have := HS1.out; omega)))
  have HM := Lib.hid (hM.base (show w.heap.size ≤ w1.heap.size by have := HS1.out; omega))
  clear hb2 hM
  go_wp2
  go_ret
  exact ⟨_, rfl, HM.out, HB2.out⟩

theorem implNetInto_c (n : NNet) (v : Value) (lo hi : Nat) (z : Int) (w : World) (hN : NetV w lo hi v n) (hhi : hi ≤ w.heap.size) (hlen : ∀ t ∈ n.tasks, t.out.length ≤ 1048576) :
    Calls Try.prog 21 #[v, .int .i64 z] w fun e w' => ∃ v', e = .returned v' ∧ Made w' w.heap.size 3 (pickN (intoB z) n) v' ∧ Below w.heap.size w w' := by
  have EG := Lib.hid (entersF Try.func56 (by kernel_rfl) rfl : EntersF Try.prog 56)
  have HN := Lib.hid hN
  obtain ⟨A, b, off, c, ms, rfl, hm, hT⟩ := hN
  clear hT
  generalize hw1 : ((w.alloc (.cells #[.int .i64 n.places, .slice A n.tasks.length c] 25)).alloc (.cells #[.int .i64 z] 3)) = w1
  have hB1 : Below w.heap.size w w1 := by rw [← hw1]; exact ((Below.refl _ _).alloc (Nat.le_refl _) _).alloc (by simp) _
  have hs1 : w1.heap.size = w.heap.size + 2 := by rw [← hw1]; simp
  have hc1 : w1.cell? ⟨w.heap.size + 1, 0, none⟩ = some (.int .i64 z) := by rw [← hw1, World.cell?_alloc_at _ _ _ _ (by simp)]; rfl
  have HC := Lib.hid (implPick_c n _ lo hi 56 #[.pointer (some ⟨w.heap.size + 1, 0, none⟩)] (intoB z) w1 (HN.out.below hB1 hhi) (by omega) hlen
    (fun t vi vo vc W ht hb hTV => netInto1_c t vi vo vc lo hi _ z W hTV (by have := hb.size; omega) (hlen t ht) ((hb.cell (p := ⟨w.heap.size + 1, 0, none⟩) (by dsimp only; omega)).trans hc1) (by have := hb.size; omega)) EG.out)
  have HB1 := Lib.hid hB1
  have HS1 := Lib.hid hs1
  have HW1 := Lib.hid hw1
  clear hB1 hs1 hc1 hw1
  go_enter Try.func21, Try.ntmps21
  go_wp2_with fail
  rw [HW1.out]
  refine HC.out.mono ?_
  rintro e w2 ⟨v', rfl, hM, hb2⟩
  have HB2 := Lib.hid (HB1.out.trans (hb2.mono (by have := HS1.out; omega)))
  have HM := Lib.hid (hM.base (show w.heap.size ≤ w1.heap.size by have := HS1.out; omega))
  clear hb2 hM
  go_wp2
  go_ret
  exact ⟨_, rfl, HM.out, HB2.out⟩

end Go.Proofs.Ytoggdhbnkbdilaa
