/- How many ways a net has: the program and the reference. -/
import Derived.Test.YtoggdhbnkbdilaaImplNet
import Derived.Test.YtoggdhbnkbdilaaSpecNetOk
namespace Go.Proofs.Ytoggdhbnkbdilaa
open Go.RowKit
set_option linter.unusedVariables false
set_option linter.unusedSimpArgs false

theorem netOk_parts {n : NNet} (h : netOk n = true) : 2 ≤ n.places ∧ n.places ≤ 8 ∧ 1 ≤ n.tasks.length ∧ n.tasks.length ≤ 6 ∧ ∀ t ∈ n.tasks, taskOk t n.places n.tasks.length = true := by
  rw [netOk, Bool.and_eq_true, Bool.and_eq_true, inB_iff, inB_iff, List.all_eq_true] at h
  exact ⟨h.1.1, h.1.2, by omega, by omega, h.2.2⟩
theorem taskOk_parts {t : NTask} {p m : Int} (h : taskOk t p m = true) : inB t.join 1 3 = true ∧ inB t.split 1 3 = true ∧ risesB t.ins 1 3 0 (p - 1) = true ∧ 1 ∉ t.ins ∧ outB p t.split t.out = true ∧ risesB t.clear 0 p 2 (p - 1) = true ∧ inB t.role 1 3 = true ∧ inB t.apart (-1) (m - 1) = true ∧ inB t.all 1 3 = true ∧ inB t.need 1 t.all = true := by
  simp only [taskOk, Bool.and_eq_true, Bool.not_eq_true', decide_eq_false_iff_not] at h
  obtain ⟨h1, h2, h3, h4, h5, h6, h7, h8, h9, h10⟩ := h
  exact ⟨h1, h2, h3, h4, h5, h6, h7, h8, h9, h10⟩
theorem taskOk_lens {t : NTask} {p m : Int} (h : taskOk t p m = true) : 1 ≤ t.ins.length ∧ t.ins.length ≤ 3 ∧ 1 ≤ t.out.length ∧ t.out.length ≤ 3 := by
  obtain ⟨_, _, h3, _, h5, _⟩ := taskOk_parts h
  rw [risesB, Bool.and_eq_true, inB_iff] at h3
  rw [outB, Bool.and_eq_true, inB_iff] at h5
  omega

def waysOf (t : NTask) : Int := (t.ins.length : Int) + (t.out.length : Int)
def waysSum (ts : List NTask) : Int := (ts.map waysOf).sum
def flowsN (n : NNet) : Int := if netOk n then waysSum n.tasks else 0
theorem waysSum_snoc {ts : List NTask} {k : Nat} {t : NTask} (h : ts[k]? = some t) : waysSum (ts.take (k + 1)) = waysSum (ts.take k) + waysOf t := by
  rw [take_succ_of h]; simp [waysSum]
theorem waysSum_bound {n : NNet} (h : netOk n = true) : ∀ k, 0 ≤ waysSum (n.tasks.take k) ∧ waysSum (n.tasks.take k) ≤ 6 * (k : Int)
  | 0 => by simp [waysSum]
  | k + 1 => by
    have ih := waysSum_bound h k
    by_cases hk : k < n.tasks.length
    · have hx := List.getElem?_eq_getElem hk
      have hl := taskOk_lens ((netOk_parts h).2.2.2.2 _ (List.mem_of_getElem? hx))
      rw [waysSum_snoc hx]
      unfold waysOf
      omega
    · rw [List.take_of_length_le (show n.tasks.length ≤ k + 1 by omega), ← List.take_of_length_le (l := n.tasks) (show n.tasks.length ≤ k by omega)]
      omega

set_option maxRecDepth 10000 in
set_option maxHeartbeats 1000000 in
theorem implNetFlows_c (n : NNet) (v : Value) (lo hi : Nat) (w : World) (hN : NetV w lo hi v n) (hhi : hi ≤ w.heap.size) (hlen : ∀ t ∈ n.tasks, t.out.length ≤ 1048576) :
    Calls Try.prog 17 #[v] w fun e w' => e = .returned (.int .i64 (flowsN n)) ∧ Below w.heap.size w w' := by
  have hN' := hN
  obtain ⟨A, b, off, c, ms, rfl, hm, hT⟩ := hN
  have HC := Lib.hid (implNetOk_c n _ lo hi (w.alloc (.cells #[.int .i64 n.places, .slice A n.tasks.length c] 25)) (hN'.keep fun g _ h => Below.heap_alloc w _ g (by omega)) (by simp; omega) hlen)
  have HR := Lib.hid (Row.newAt w #[.int .i64 n.places, .slice A n.tasks.length c] 25 _ rfl)
  clear hN' hlen
  go_enter Try.func17, Try.ntmps17
  go_wp2_with fail
  refine HC.out.mono ?_
  rintro e w1 ⟨rfl, hb1⟩
  have hR1 := HR.out.below hb1 (by simp)
  have hB1 := ((Below.refl w.heap.size w).alloc (Nat.le_refl _) (.cells #[.int .i64 n.places, .slice A n.tasks.length c] 25)).trans (hb1.mono (by simp))
  have s0 := (hR1.cell (j := 0) rfl).1
  have s1 := (hR1.cell (j := 1) rfl).1
  clear hb1 hR1
  by_cases h1 : netOk n = true
  · have H1 := Lib.hid h1
    have hp := netOk_parts h1
    have hq := waysSum_bound h1
    rw [h1]
    clear h1
    go_wp2
    go_loopw [3, 12] (fun s i wr => ∃ k : Nat, k ≤ n.tasks.length ∧ i = .int .i64 k ∧ s = .int .i64 (waysSum (n.tasks.take k)) ∧ Below w.heap.size w wr) (fun _ i _ => n.tasks.length - (intOf i).toNat)
    case atStart => exact ⟨0, Nat.zero_le _, rfl, rfl, hB1⟩
    case round =>
      obtain ⟨k, hk, rfl, rfl, hb⟩ := hrel
      have HB := Lib.hid hb
      clear hB1 s0 s1
      by_cases hlt : k < n.tasks.length
      · obtain ⟨rfl, _, h3, t, vi, vo, vc, hx, _, hTV, ⟨c0, c1, c2, c3, c4, c5, c6, c7, c8⟩, _⟩ := hT.task hlt
        obtain ⟨A1, q1, A2, q2, A3, q3, rfl, rfl, rfl⟩ := hTV.forms
        replace c0 := (hb.cell (p := ⟨b, off + k * 9, none⟩) (by show b < _; omega)).trans c0
        replace c1 := (hb.cell (p := ⟨b, off + k * 9 + 1, none⟩) (by show b < _; omega)).trans c1
        replace c2 := (hb.cell (p := ⟨b, off + k * 9 + 2, none⟩) (by show b < _; omega)).trans c2
        replace c3 := (hb.cell (p := ⟨b, off + k * 9 + 3, none⟩) (by show b < _; omega)).trans c3
        replace c4 := (hb.cell (p := ⟨b, off + k * 9 + 4, none⟩) (by show b < _; omega)).trans c4
        replace c5 := (hb.cell (p := ⟨b, off + k * 9 + 5, none⟩) (by show b < _; omega)).trans c5
        replace c6 := (hb.cell (p := ⟨b, off + k * 9 + 6, none⟩) (by show b < _; omega)).trans c6
        replace c7 := (hb.cell (p := ⟨b, off + k * 9 + 7, none⟩) (by show b < _; omega)).trans c7
        replace c8 := (hb.cell (p := ⟨b, off + k * 9 + 8, none⟩) (by show b < _; omega)).trans c8
        have hl := taskOk_lens (hp.2.2.2.2 t (List.mem_of_getElem? hx))
        have hqk := hq k
        have HW := Lib.hid (waysSum_snoc hx)
        have HL : waysOf t = (t.ins.length : Int) + (t.out.length : Int) := rfl
        have HWO := Lib.hid HL
        generalize waysSum (n.tasks.take k) = s at *
        clear hb hx hTV HL
        go_wp2
        go_roundw
        case rel => exact ⟨k + 1, by omega, by go_num, by rw [HW.out, HWO.out], HB.out.alloc (Nat.le_trans (Nat.le_refl _) HB.out.size) _⟩
        case measure => simp [intOf]; omega
      · have hkn : k = n.tasks.length := by omega
        subst hkn
        rw [List.take_length]
        clear hb
        go_wp2
        go_ret
        exact ⟨ret_int (by rw [flowsN, H1.out]; rfl), HB.out⟩
  · have h1' : netOk n = false := by simpa using h1
    have H1 := Lib.hid h1'
    have HB1 := Lib.hid hB1
    rw [h1']
    clear h1 h1' hB1
    go_wp2
    go_ret
    exact ⟨ret_int (by rw [flowsN, H1.out]; rfl), HB1.out⟩

set_option maxRecDepth 10000 in
set_option maxHeartbeats 1000000 in
theorem specNetFlows_c (n : NNet) (v : Value) (lo hi : Nat) (w : World) (hN : NetV w lo hi v n) (hhi : hi ≤ w.heap.size) :
    Calls Try.prog 18 #[v] w fun e w' => e = .returned (.int .i64 (flowsN n)) ∧ Below w.heap.size w w' := by
  have hN' := hN
  obtain ⟨A, b, off, c, ms, rfl, hm, hT⟩ := hN
  unfold maxLen at hm
  have hR := (Row.newAt w #[.int .i64 n.places, .slice A n.tasks.length c] 25 _ rfl)
  have hB := (Below.refl w.heap.size w).alloc (Nat.le_refl _) (.cells #[.int .i64 n.places, .slice A n.tasks.length c] 25)
  have HN := Lib.hid hN'
  clear hN'
  go_enter Try.func18, Try.ntmps18
  go_wp2
  go_loopw [3, 4] (fun s i wr => ∃ k : Nat, k ≤ n.tasks.length ∧ i = .int .i64 k ∧ s = .int .i64 (waysSum (n.tasks.take k)) ∧ (0 < k → netOk n = true) ∧ Row wr w.heap.size (w.heap.size + 1) (some ⟨w.heap.size, 0, none⟩) w.heap.size 0 [.int .i64 n.places, .slice A n.tasks.length c] ∧ Below w.heap.size w wr ∧ w.heap.size + 1 ≤ wr.heap.size) (fun _ i _ => n.tasks.length - (intOf i).toNat)
  case atStart => exact ⟨0, Nat.zero_le _, rfl, rfl, fun h => absurd h (Nat.lt_irrefl 0), hR, hB, by simp⟩
  case round =>
    obtain ⟨k, hk, rfl, rfl, hok, hR', hb, hsz⟩ := hrel
    clear hR hB
    have s0 := (hR'.cell (j := 0) rfl).1
    have s1 := (hR'.cell (j := 1) rfl).1
    have HR := Lib.hid hR'
    have HB := Lib.hid hb
    have HS := Lib.hid hsz
    have HOK := Lib.hid hok
    clear hR' hok
    by_cases hlt : k < n.tasks.length
    · have hlt1 : (k : Int) < (n.tasks.length : Int) := by omega
      clear hb
      go_wp2_with fail
      refine (specNetOk_c n _ lo hi _ (HN.out.below HB.out hhi) (Nat.le_trans hhi HB.out.size)).mono ?_
      rintro e w2 ⟨rfl, hb2⟩
      have hR2 := HR.out.below hb2 HS.out
      have hB2 := HB.out.trans (hb2.mono HB.out.size)
      have hs2 := Nat.le_trans HS.out hb2.size
      clear hb2 s0 s1
      have s0 := (hR2.cell (j := 0) rfl).1
      have s1 := (hR2.cell (j := 1) rfl).1
      have HR2 := Lib.hid hR2
      have HS2 := Lib.hid hs2
      clear hR2 hs2
      by_cases h1 : netOk n = true
      · have H1 := Lib.hid h1
        have hp := netOk_parts h1
        have hqk := waysSum_bound h1 k
        rw [h1]
        clear h1
        obtain ⟨rfl, _, h3, t, vi, vo, vc, hx, _, hTV, ⟨_, _, c2, c3, _⟩, _⟩ := hT.task hlt
        obtain ⟨A1, q1, A2, q2, A3, q3, rfl, rfl, rfl⟩ := hTV.forms
        replace c2 := (hB2.cell (p := ⟨b, off + k * 9 + 2, none⟩) (by show b < _; omega)).trans c2
        replace c3 := (hB2.cell (p := ⟨b, off + k * 9 + 3, none⟩) (by show b < _; omega)).trans c3
        have hl := taskOk_lens (hp.2.2.2.2 t (List.mem_of_getElem? hx))
        have HW := Lib.hid (waysSum_snoc hx)
        have HL : waysOf t = (t.ins.length : Int) + (t.out.length : Int) := rfl
        have HWO := Lib.hid HL
        have HB2 := Lib.hid hB2
        generalize waysSum (n.tasks.take k) = s at *
        have e1 : IntKind.i64.wrap (s + (t.ins.length : Int)) = s + (t.ins.length : Int) := IntWalk.i64_in _ (by omega)
        have e2 : IntKind.i64.wrap (s + (t.ins.length : Int) + (t.out.length : Int)) = s + (t.ins.length : Int) + (t.out.length : Int) := IntWalk.i64_in _ (by omega)
        clear hx hTV HL hB2
        go_wp2
        go_quiet (fail)
        go_wp2
        go_roundw
        case rel => exact ⟨k + 1, by omega, by go_num, by rw [HW.out, HWO.out]; first | rfl | go_num, fun _ => H1.out, HR2.out.drewN _, below_drewN HB2.out _, HS2.out⟩
        case measure => simp [intOf]; omega
      · have h1' : netOk n = false := by simpa using h1
        have H1 := Lib.hid h1'
        have HB2 := Lib.hid hB2
        rw [h1']
        clear h1 h1' hB2
        have hk0 : k = 0 := by
          rcases Nat.eq_zero_or_pos k with h | h
          · exact h
          · have := HOK.out h; rw [H1.out] at this; cases this
        have HK0 := Lib.hid hk0
        clear hk0
        go_wp2
        go_ret
        exact ⟨ret_int (by rw [flowsN, H1.out, HK0.out]; simp [waysSum]), HB2.out⟩
    · have hkn : k = n.tasks.length := by omega
      have hlt1 : ¬ ((k : Int) < (n.tasks.length : Int)) := by omega
      have HKN := Lib.hid hkn
      clear hb hkn
      go_wp2
      go_ret
      refine ⟨ret_int ?_, HB.out⟩
      rw [HKN.out, List.take_length, flowsN]
      by_cases h0 : 0 < k
      · rw [HOK.out h0]; rfl
      · have : n.tasks = [] := List.eq_nil_of_length_eq_zero (by have := HKN.out; omega)
        rw [this]; simp [waysSum]
end Go.Proofs.Ytoggdhbnkbdilaa
