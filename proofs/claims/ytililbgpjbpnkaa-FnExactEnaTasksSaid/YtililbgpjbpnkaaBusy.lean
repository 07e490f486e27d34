/- Whether tasks under way are ok: the reference. -/
import Derived.Test.YtililbgpjbpnkaaTakeP
import Derived.Test.YtililbgpjbpnkaaRise
import Derived.BigQuiet
namespace Go.Proofs.Ytililbgpjbpnkaa
open Go.RowKit
set_option linter.unusedVariables false
set_option linter.unusedSimpArgs false

def itemOk (n : NNet) (b : NItem) : Bool := inB b.task 0 ((n.tasks.length : Int) - 1) && (inB b.who 1 4 && inB b.did 0 ((taskOf n b.task).need - 1))
def busyB (n : NNet) (bs : List NItem) : Bool := decide (bs.length ≤ 6) && bs.all (itemOk n)
theorem itemOk_at {n : NNet} {b : NItem} {k : Nat} {t : NTask} (hb : b.task = (k : Int)) (ht : n.tasks[k]? = some t) : itemOk n b = (inB (k : Int) 0 ((n.tasks.length : Int) - 1) && (inB b.who 1 4 && inB b.did 0 (t.need - 1))) := by
  rw [itemOk, hb, taskOf_at ht]
theorem itemOk_no {n : NNet} {b : NItem} (h : inB b.task 0 ((n.tasks.length : Int) - 1) = false) : itemOk n b = false := by rw [itemOk, h]; rfl
theorem need_bound {n : NNet} (h : netOk n = true) {t : NTask} (ht : t ∈ n.tasks) : 1 ≤ t.need ∧ t.need ≤ 3 := by
  obtain ⟨_, _, _, _, _, _, _, _, h9, h10⟩ := taskOk_parts ((netOk_parts h).2.2.2.2 t ht)
  rw [inB_iff] at h9 h10
  omega
theorem busy_no {n : NNet} {bs : List NItem} {k : Nat} {b : NItem} (hb : bs[k]? = some b) (h : itemOk n b = false) : busyB n bs = false := by
  rw [busyB, not_all_of (p := itemOk n) hb h]; simp
theorem busyB_parts {n : NNet} {bs : List NItem} (h : busyB n bs = true) : bs.length ≤ 6 ∧ ∀ b ∈ bs, itemOk n b = true := by
  rw [busyB, Bool.and_eq_true, decide_eq_true_eq, List.all_eq_true] at h
  exact h
theorem itemOk_task {n : NNet} {b : NItem} (h : itemOk n b = true) : 0 ≤ b.task ∧ b.task < (n.tasks.length : Int) := by
  rw [itemOk, Bool.and_eq_true, inB_iff] at h; omega

set_option maxRecDepth 10000 in
set_option maxHeartbeats 2000000 in
theorem l3Busy_c (n : NNet) (v : Value) (bs : List NItem) (lo0 hi0 lo hi : Nat) (Ai : Option Addr) (bi oi ci : Nat) (w : World) (hN : NetV w lo0 hi0 v n) (hhi0 : hi0 ≤ w.heap.size) (hok : netOk n = true) (hV : Row w lo hi Ai bi oi (itemCells bs)) (hhi : hi ≤ w.heap.size) (hm1 : bs.length ≤ maxLen) :
    Calls Try.prog 80 #[v, .slice Ai bs.length ci] w fun e w' => e = .returned (.bool (busyB n bs)) ∧ Below w.heap.size w w' := by
  unfold maxLen at hm1
  obtain ⟨p1, p2, p3, p4, p5⟩ := netOk_parts hok
  obtain ⟨A, b, off, c, ms, rfl, hm, hT⟩ := hN
  unfold maxLen at hm
  generalize hob : Obj.cells #[.int .i64 n.places, .slice A n.tasks.length c] 29 = ob
  have hR := (Row.newAt w #[.int .i64 n.places, .slice A n.tasks.length c] 29 _ rfl)
  rw [hob] at hR
  have s1 := (hR.cell (j := 1) rfl).1
  have HB := Lib.hid ((Below.refl w.heap.size w).alloc (Nat.le_refl _) ob)
  have HT := Lib.hid (hT.keep (w' := w.alloc ob) (fun g _ h => Below.heap_alloc w _ g (by omega)) (fun g _ h => Below.heap_alloc w _ g (by omega)))
  have HV := Lib.hid (hV.alloc hhi ob)
  have HO := Lib.hid hob
  have HOK := Lib.hid hok
  clear hR hT hV hob hok p5
  by_cases h6 : 6 < bs.length
  · have h6' : ((6 : Int) < (bs.length : Int)) := by omega
    have H6 := Lib.hid h6
    go_enter Try.func80, Try.ntmps80
    go_wp2
    go_ret
    exact ⟨ret_bool (by rw [busyB, decide_eq_false (by have := H6.out; omega)]; rfl), (Below.refl _ _).alloc (Nat.le_refl _) _⟩
  · have h6' : ¬ ((6 : Int) < (bs.length : Int)) := by omega
    go_enter Try.func80, Try.ntmps80
    go_wp2
    rw [HO.out]
    go_loopw [5] (fun i wr => ∃ k d : Nat, k ≤ bs.length ∧ i = .int .i64 k ∧ (∀ j y, j < bs.length → j < k → bs[j]? = some y → itemOk n y = true) ∧ wr = (w.alloc ob).drewN d) (fun i _ => bs.length - (intOf i).toNat)
    case atStart => exact ⟨0, 0, Nat.zero_le _, rfl, fun j y _ hj => absurd hj (Nat.not_lt_zero _), rfl⟩
    case round =>
      obtain ⟨k, d, hk, rfl, hn, hw⟩ := hrel
      have HNN := Lib.hid hn
      have HW := Lib.hid hw
      replace s1 : wr.cell? ⟨w.heap.size, 1, none⟩ = some (.slice A n.tasks.length c) := by rw [hw]; exact s1
      clear hn hw
      by_cases hlt : k < bs.length
      · have hlt1 : (k : Int) < (bs.length : Int) := by omega
        obtain ⟨rfl, _, _, y, hy, ⟨y0, y1, y2⟩, _⟩ := HV.out.item hlt
        replace y0 : wr.cell? ⟨bi, oi + k * 3, none⟩ = some (.int .i64 y.task) := by rw [HW.out]; exact y0
        replace y1 : wr.cell? ⟨bi, oi + k * 3 + 1, none⟩ = some (.int .i64 y.who) := by rw [HW.out]; exact y1
        replace y2 : wr.cell? ⟨bi, oi + k * 3 + 2, none⟩ = some (.int .i64 y.did) := by rw [HW.out]; exact y2
        have HY := Lib.hid hy
        have e1 : IntKind.i64.wrap ((n.tasks.length : Int) - 1) = (n.tasks.length : Int) - 1 := IntWalk.i64_in _ (by omega)
        clear hy
        by_cases ha : inB y.task 0 ((n.tasks.length : Int) - 1) = true
        · have HA := Lib.hid ha
          obtain ⟨ha1, ha2⟩ := inB_iff.1 ha
          obtain ⟨tn, htn⟩ := Int.eq_ofNat_of_zero_le ha1
          have HTN := Lib.hid htn
          have HQ1 := Lib.hid (show ∀ q, Calls Try.prog 55 #[.int .i64 (tn : Int), .int .i64 0, .int .i64 ((n.tasks.length : Int) - 1)] (wr.drewN q) fun e w'' => e = .returned (.bool true) ∧ ∃ m', w'' = wr.drewN m' from fun q => by rw [← ha, htn]; exact quiet_w (l1In_c _ _ _ _))
          rw [htn] at y0
          have htl : tn < n.tasks.length := by omega
          have htl1 : (tn : Int) < (n.tasks.length : Int) := by omega
          obtain ⟨rfl, _, h3, t, vi, vo, vc, hx, _, _, ⟨_, _, _, _, _, _, _, _, c8⟩, _⟩ := HT.out.task htl
          replace c8 : wr.cell? ⟨b, off + tn * 9 + 8, none⟩ = some (.int .i64 t.need) := by rw [HW.out]; exact c8
          have hnb := need_bound HOK.out (List.mem_of_getElem? hx)
          have e2 : IntKind.i64.wrap (t.need - 1) = t.need - 1 := IntWalk.i64_in _ (by omega)
          have HX := Lib.hid hx
          clear ha ha1 ha2 htn hx
          by_cases hwho : inB y.who 1 4 = true
          · have HWHO := Lib.hid hwho
            have HQ2 := Lib.hid (show ∀ q, Calls Try.prog 55 #[.int .i64 y.who, .int .i64 1, .int .i64 4] (wr.drewN q) fun e w'' => e = .returned (.bool true) ∧ ∃ m', w'' = wr.drewN m' from fun q => by rw [← hwho]; exact quiet_w (l1In_c _ _ _ _))
            clear hwho
            by_cases hdid : inB y.did 0 (t.need - 1) = true
            · have HDID := Lib.hid hdid
              have HQ3 := Lib.hid (show ∀ q, Calls Try.prog 55 #[.int .i64 y.did, .int .i64 0, .int .i64 (t.need - 1)] (wr.drewN q) fun e w'' => e = .returned (.bool true) ∧ ∃ m', w'' = wr.drewN m' from fun q => by rw [← hdid]; exact quiet_w (l1In_c _ _ _ _))
              clear hdid
              go_wp2
              go_quiet (first | (go_at_call 55; with_reducible exact HQ1.out _) | (go_at_call 55; with_reducible exact HQ2.out _) | (go_at_call 55; with_reducible exact HQ3.out _))
              go_wp2
              go_roundw
              case rel =>
                refine ⟨k + 1, _, by omega, by go_num, fun j z _ hj hz => ?_, by rw [HW.out, World.drewN_drewN]⟩
                by_cases hjk : j = k
                · rw [hjk] at hz
                  have e := HY.out.symm.trans hz
                  injection e with e
                  rw [← e, itemOk_at HTN.out HX.out, ← HTN.out, HA.out, HWHO.out, HDID.out]; rfl
                · exact HNN.out j z (by omega) (by omega) hz
              case measure => simp [intOf]; omega
            · have hdid' : inB y.did 0 (t.need - 1) = false := by simpa using hdid
              have HDID := Lib.hid hdid'
              have HQ3 := Lib.hid (show ∀ q, Calls Try.prog 55 #[.int .i64 y.did, .int .i64 0, .int .i64 (t.need - 1)] (wr.drewN q) fun e w'' => e = .returned (.bool false) ∧ ∃ m', w'' = wr.drewN m' from fun q => by rw [← hdid']; exact quiet_w (l1In_c _ _ _ _))
              clear hdid hdid'
              go_wp2
              go_quiet (first | (go_at_call 55; with_reducible exact HQ1.out _) | (go_at_call 55; with_reducible exact HQ2.out _) | (go_at_call 55; with_reducible exact HQ3.out _))
              go_wp2
              go_ret
              exact ⟨ret_bool (busy_no HY.out (by rw [itemOk_at HTN.out HX.out, HWHO.out, HDID.out]; simp)).symm, by rw [HW.out]; exact below_drewN (below_drewN HB.out _) _⟩
          · have hwho' : inB y.who 1 4 = false := by simpa using hwho
            have HWHO := Lib.hid hwho'
            have HQ2 := Lib.hid (show ∀ q, Calls Try.prog 55 #[.int .i64 y.who, .int .i64 1, .int .i64 4] (wr.drewN q) fun e w'' => e = .returned (.bool false) ∧ ∃ m', w'' = wr.drewN m' from fun q => by rw [← hwho']; exact quiet_w (l1In_c _ _ _ _))
            clear hwho hwho'
            go_wp2
            go_quiet (first | (go_at_call 55; with_reducible exact HQ1.out _) | (go_at_call 55; with_reducible exact HQ2.out _))
            go_wp2
            go_ret
            exact ⟨ret_bool (busy_no HY.out (by rw [itemOk_at HTN.out HX.out, HWHO.out]; simp)).symm, by rw [HW.out]; exact below_drewN (below_drewN HB.out _) _⟩
        · have ha' : inB y.task 0 ((n.tasks.length : Int) - 1) = false := by simpa using ha
          have HA := Lib.hid ha'
          have HQ1 := Lib.hid (show ∀ q, Calls Try.prog 55 #[.int .i64 y.task, .int .i64 0, .int .i64 ((n.tasks.length : Int) - 1)] (wr.drewN q) fun e w'' => e = .returned (.bool false) ∧ ∃ m', w'' = wr.drewN m' from fun q => by rw [← ha']; exact quiet_w (l1In_c _ _ _ _))
          clear ha ha'
          go_wp2
          go_quiet (first | (go_at_call 55; with_reducible exact HQ1.out _))
          go_wp2
          go_ret
          exact ⟨ret_bool (busy_no HY.out (itemOk_no HA.out)).symm, by rw [HW.out]; exact below_drewN (below_drewN HB.out _) _⟩
      · have hlt1 : ¬ ((k : Int) < (bs.length : Int)) := by omega
        go_wp2
        go_ret
        refine ⟨ret_bool ?_, by rw [HW.out]; exact below_drewN HB.out _⟩
        rw [busyB, decide_eq_true (by omega), all_of (p := itemOk n) (fun j y hj hy => HNN.out j y hj (by omega) hy)]; rfl
end Go.Proofs.Ytililbgpjbpnkaa
