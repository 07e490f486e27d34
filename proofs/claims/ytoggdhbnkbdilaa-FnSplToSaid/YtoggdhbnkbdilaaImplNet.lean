/- Whether a net is ok: the program. -/
import Derived.Test.YtoggdhbnkbdilaaImplTask
namespace Go.Proofs.Ytoggdhbnkbdilaa
open Go.RowKit
set_option linter.unusedVariables false
set_option linter.unusedSimpArgs false

/-- A function value that answers p of each of some tasks, whatever new memory lies beside. -/
def PredTask (P : Program) (g : FuncId) (lb : Array Value) (ts : List NTask) (p : NTask → Bool) (lo hi : Nat) (w : World) : Prop :=
  ∀ (t : NTask) (vi vo vc : Value) (W : World), t ∈ ts → Below w.heap.size w W → TaskV W lo hi t vi vo vc →
    Calls P g (#[.agg #[.int .i64 t.join, .int .i64 t.split, vi, vo, vc, .int .i64 t.role, .int .i64 t.apart, .int .i64 t.all, .int .i64 t.need]] ++ lb) W fun e W' => e = .returned (.bool (p t)) ∧ Below W.heap.size W W'

set_option maxRecDepth 10000 in
set_option maxHeartbeats 1000000 in
theorem indexFuncTask_c (ts : List NTask) (ms : List TaskM) (lo hi lo2 hi2 : Nat) (A : Option Addr) (b off c : Nat) (g : FuncId) (lb : Array Value) (p : NTask → Bool) (w : World) (hV : TasksV w lo hi lo2 hi2 A b off ts ms) (hhi : hi ≤ w.heap.size) (hhi2 : hi2 ≤ w.heap.size) (hm : ts.length ≤ maxLen) (hp : PredTask Try.prog g lb ts p lo2 hi2 w) (eg : EntersF Try.prog g) :
    Calls Try.prog 72 #[.slice A ts.length c, .func (.func g) #[] lb] w fun e w' => e = .returned (.int .i64 (idxFrom p 0 ts)) ∧ Below w.heap.size w w' := by
  unfold maxLen at hm
  have eg' : ∀ (args : Array Value) (w : World), Sem.run Try.prog (callFunc g args) w = .ok (.enter g args) w := eg
  go_enter Try.func72, Try.ntmps72
  go_wp2
  go_loopw [8] (fun i wr => ∃ k : Nat, k ≤ ts.length ∧ i = .int .i64 k ∧ (∀ j y, j < k → ts[j]? = some y → p y = false) ∧ Below w.heap.size w wr) (fun i _ => ts.length - (intOf i).toNat)
  case atStart => exact ⟨0, Nat.zero_le _, rfl, fun j y hj => absurd hj (Nat.not_lt_zero _), Below.refl _ _⟩
  case round =>
    obtain ⟨k, hk, rfl, hn, hb⟩ := hrel
    have HN := Lib.hid hn
    have HB := Lib.hid hb
    by_cases hlt : k < ts.length
    · obtain ⟨rfl, _, h3, t, vi, vo, vc, hx, _, hTV, ⟨c0, c1, c2, c3, c4, c5, c6, c7, c8⟩, _⟩ := hV.task hlt
      replace c0 := (hb.cell (p := ⟨b, off + k * 9, none⟩) (by show b < _; omega)).trans c0
      replace c1 := (hb.cell (p := ⟨b, off + k * 9 + 1, none⟩) (by show b < _; omega)).trans c1
      replace c2 := (hb.cell (p := ⟨b, off + k * 9 + 2, none⟩) (by show b < _; omega)).trans c2
      replace c3 := (hb.cell (p := ⟨b, off + k * 9 + 3, none⟩) (by show b < _; omega)).trans c3
      replace c4 := (hb.cell (p := ⟨b, off + k * 9 + 4, none⟩) (by show b < _; omega)).trans c4
      replace c5 := (hb.cell (p := ⟨b, off + k * 9 + 5, none⟩) (by show b < _; omega)).trans c5
      replace c6 := (hb.cell (p := ⟨b, off + k * 9 + 6, none⟩) (by show b < _; omega)).trans c6
      replace c7 := (hb.cell (p := ⟨b, off + k * 9 + 7, none⟩) (by show b < _; omega)).trans c7
      replace c8 := (hb.cell (p := ⟨b, off + k * 9 + 8, none⟩) (by show b < _; omega)).trans c8
      have HX := Lib.hid hx
      have HP := Lib.hid (hp t vi vo vc wr (List.mem_of_getElem? hx) hb (hTV.keep fun g _ h => hb.block g (by omega)))
      clear hx hn hb hTV hV hp
      go_wp2_with fail
      refine HP.out.mono ?_
      rintro e w1 ⟨rfl, hb1⟩
      have HB1 := Lib.hid hb1
      have HBs := Lib.hid HB.out.size
      clear hb1
      by_cases hpx : p t = true
      · have HPX := Lib.hid hpx
        rw [hpx]
        clear hpx
        go_wp2_with fail
        go_ret
        exact ⟨ret_int (by rw [idxFrom_at p ts 0 k t HX.out HPX.out (fun i y hi hy => HN.out i y hi hy)]; simp), HB.out.trans (HB1.out.mono HBs.out)⟩
      · have hpx' : p t = false := by simpa using hpx
        have HPX := Lib.hid hpx'
        rw [hpx']
        clear hpx hpx'
        go_wp2_with fail
        go_roundw
        case rel =>
          refine ⟨k + 1, by omega, by go_num, fun j y hj hy => ?_, HB.out.trans (HB1.out.mono HBs.out)⟩
          by_cases hjk : j = k
          · subst hjk
            have e := HX.out.symm.trans hy
            injection e with e; rw [← e]; exact HPX.out
          · exact HN.out j y (by omega) hy
        case measure => simp [intOf]; omega
    · go_wp2
      go_ret
      refine ⟨ret_int ?_, HB.out⟩
      exact (idxFrom_none p ts 0 (fun x hx => by
        obtain ⟨j, hj⟩ := List.getElem?_of_mem hx
        exact HN.out j x (by have := lt_of_some hj; omega) hj)).symm

theorem containsFuncTask_c (ts : List NTask) (ms : List TaskM) (lo hi lo2 hi2 : Nat) (A : Option Addr) (b off c : Nat) (g : FuncId) (lb : Array Value) (p : NTask → Bool) (w : World) (hV : TasksV w lo hi lo2 hi2 A b off ts ms) (hhi : hi ≤ w.heap.size) (hhi2 : hi2 ≤ w.heap.size) (hm : ts.length ≤ maxLen) (hp : PredTask Try.prog g lb ts p lo2 hi2 w) (eg : EntersF Try.prog g) :
    Calls Try.prog 46 #[.slice A ts.length c, .func (.func g) #[] lb] w fun e w' => e = .returned (.bool (ts.any p)) ∧ Below w.heap.size w w' := by
  have hidx := idx_any p ts 0
  generalize hr : ts.any p = r at hidx
  have HR := Lib.hid hr
  clear hr
  generalize hi : idxFrom p 0 ts = i at hidx
  have HI := Lib.hid hi
  clear hi
  go_enter Try.func46, Try.ntmps46
  go_wp2_with fail
  refine (indexFuncTask_c ts ms _ _ lo2 hi2 A b off c g lb p w hV hhi hhi2 hm hp eg).mono ?_
  rintro e w1 ⟨rfl, hb1⟩
  rw [HI.out]
  have HB1 := Lib.hid hb1
  clear hb1
  go_wp2_with fail
  go_ret
  exact ⟨rfl, HB1.out⟩

/-- The captured net in block g. -/
theorem netOk1_c (t : NTask) (vi vo vc : Value) (lo hi g : Nat) (places : Int) (A : Option Addr) (m c : Nat) (w : World) (hV : TaskV w lo hi t vi vo vc) (hhi : hi ≤ w.heap.size) (hlen : t.out.length ≤ 1048576) (hp1 : 0 ≤ places) (hp2 : places ≤ 1000) (ht2 : m ≤ 1000)
    (hR : Row w g (g + 1) (some ⟨g, 0, none⟩) g 0 [.int .i64 places, .slice A m c]) (hg : g < w.heap.size) :
    Calls Try.prog 47 #[.agg #[.int .i64 t.join, .int .i64 t.split, vi, vo, vc, .int .i64 t.role, .int .i64 t.apart, .int .i64 t.all, .int .i64 t.need], .pointer (some ⟨g, 0, none⟩)] w
      fun e w' => e = .returned (.bool (!taskOk t places m)) ∧ Below w.heap.size w w' := by
  have s0 := (hR.cell (j := 0) rfl).1
  have s1 := (hR.cell (j := 1) rfl).1
  have hne : g ≠ w.heap.size := by omega
  clear hR
  go_enter Try.func47, Try.ntmps47
  go_wp2_with fail
  refine (implTaskOk_c t vi vo vc lo hi places m _ (hV.keep fun g _ h => Below.heap_alloc w _ g (by omega)) (by simp; omega) hlen hp1 hp2 (by omega) (by omega)).mono ?_
  rintro e w1 ⟨rfl, hb1⟩
  have HB := Lib.hid (((Below.refl w.heap.size w).alloc (Nat.le_refl _) _).trans (hb1.mono (by simp)))
  clear hb1
  go_wp2
  go_ret
  exact ⟨rfl, HB.out⟩

theorem implNetOk_c (n : NNet) (v : Value) (lo hi : Nat) (w : World) (hV : NetV w lo hi v n) (hhi : hi ≤ w.heap.size) (hlen : ∀ t ∈ n.tasks, t.out.length ≤ 1048576) :
    Calls Try.prog 12 #[v] w fun e w' => e = .returned (.bool (netOk n)) ∧ Below w.heap.size w w' := by
  obtain ⟨A, b, off, c, ms, rfl, hm, hT⟩ := hV
  have hm0 := hm
  have eg : EntersF Try.prog 47 := entersF Try.func47 (by kernel_rfl) rfl
  have EG := Lib.hid eg
  have HLEN := Lib.hid hlen
  unfold maxLen at hm
  clear eg hlen
  go_enter Try.func12, Try.ntmps12
  go_wp2_with fail
  refine (sizesOk_c _ _ _).mono ?_
  rintro e w' ⟨rfl, rfl⟩
  by_cases h1 : (inB n.places 2 8 && inB n.tasks.length 1 6) = true
  · have H1 := Lib.hid h1
    rw [h1]
    rw [Bool.and_eq_true, inB_iff, inB_iff] at h1
    have hR := Row.newAt w #[.int .i64 n.places, .slice A n.tasks.length c] 25 _ rfl
    have HB := Lib.hid ((Below.refl w.heap.size w).alloc (Nat.le_refl _) (.cells #[.int .i64 n.places, .slice A n.tasks.length c] 25))
    have hp : PredTask Try.prog 47 #[.pointer (some ⟨w.heap.size, 0, none⟩)] n.tasks (fun t => !taskOk t n.places n.tasks.length) lo hi (w.alloc (.cells #[.int .i64 n.places, .slice A n.tasks.length c] 25)) := by
      intro t vi vo vc W ht hb hTV
      have hz : w.heap.size + 1 ≤ W.heap.size := by simpa using hb.size
      exact netOk1_c t vi vo vc lo hi w.heap.size n.places A n.tasks.length c W hTV (by omega) (HLEN.out t ht) (by omega) (by omega) (by omega) (hR.below hb (by simp)) (by omega)
    have HC := Lib.hid (containsFuncTask_c n.tasks ms lo hi lo hi A b off c _ _ _ _ (hT.keep (fun g _ h => Below.heap_alloc w _ g (by omega)) (fun g _ h => Below.heap_alloc w _ g (by omega))) (by simp; omega) (by simp; omega) hm0 hp EG.out)
    clear hp hR hT h1
    go_wp2_with fail
    refine HC.out.mono ?_
    rintro e w1 ⟨rfl, hb1⟩
    have HB1 := Lib.hid (HB.out.trans (hb1.mono (by simp)))
    clear hb1
    generalize hr : (n.tasks.any fun t => !taskOk t n.places n.tasks.length) = r
    have HR := Lib.hid hr
    clear hr
    go_wp2
    go_ret
    refine ⟨ret_bool ?_, HB1.out⟩
    have e : netOk n = ((inB n.places 2 8 && inB n.tasks.length 1 6) && n.tasks.all fun t => taskOk t n.places n.tasks.length) := by rw [netOk, Bool.and_assoc]
    rw [e, H1.out, ← HR.out, List.any_eq_not_all_not]; simp
  · have h1' : (inB n.places 2 8 && inB n.tasks.length 1 6) = false := by simpa using h1
    have H1 := Lib.hid h1'
    rw [h1']
    clear h1 h1'
    go_wp2
    go_ret
    refine ⟨ret_bool ?_, (Below.refl _ _).alloc (Nat.le_refl _) _⟩
    have e : netOk n = ((inB n.places 2 8 && inB n.tasks.length 1 6) && n.tasks.all fun t => taskOk t n.places n.tasks.length) := by rw [netOk, Bool.and_assoc]
    rw [e, H1.out]; rfl
end Go.Proofs.Ytoggdhbnkbdilaa
