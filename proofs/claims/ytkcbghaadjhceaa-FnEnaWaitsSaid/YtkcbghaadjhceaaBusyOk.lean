/- Whether tasks under way are ok: the reference. -/
import Derived.Test.YtkcbghaadjhceaaTakeL
import Derived.Test.YtkcbghaadjhceaaSpecNetOk
import Derived.Test.YtkcbghaadjhceaaEnaTake
import Derived.Test.YtkcbghaadjhceaaMore
import Derived.BigQuiet
import Derived.Deep.RegionHeld3
namespace Go.Proofs.Ytkcbghaadjhceaa
open Go.RowKit
set_option linter.unusedVariables false
set_option linter.unusedSimpArgs false

def itemOk (n : NNet) (b : NItem) : Bool := inB b.task 0 ((n.tasks.length : Int) - 1) && (inB b.who 1 4 && inB b.did 0 ((taskOf n b.task).need - 1))
def busyB (n : NNet) (bs : List NItem) : Bool := decide (bs.length ≤ 6) && bs.all (itemOk n)
theorem itemOk_at {n : NNet} {b : NItem} {k : Nat} {t : NTask} (hb : b.task = (k : Int)) (ht : n.tasks[k]? = some t) : itemOk n b = (inB (k : Int) 0 ((n.tasks.length : Int) - 1) && (inB b.who 1 4 && inB b.did 0 (t.need - 1))) := by
  rw [itemOk, hb, taskOf_at ht]
theorem itemOk_no {n : NNet} {b : NItem} (h : inB b.task 0 ((n.tasks.length : Int) - 1) = false) : itemOk n b = false := by rw [itemOk, h]; rfl
theorem need_bound {n : NNet} (h : netOk n = true) {t : NTask} (ht : t ∈ n.tasks) : 1 ≤ t.need ∧ t.need ≤ 3 := by
  obtain ⟨_, _, _, _, _, _, _, _, h9, h10⟩ := taskOk_parts ((netOk_parts h).2.2.2.2 t ht)
  rw [inB_iff] at h9 h10
  omega
theorem busy_no {n : NNet} {bs : List NItem} {k : Nat} {b : NItem} (hb : bs[k]? = some b) (h : itemOk n b = false) : busyB n bs = false := by
  rw [busyB, not_all_of (p := itemOk n) hb h]; simp
theorem busyB_parts {n : NNet} {bs : List NItem} (h : busyB n bs = true) : bs.length ≤ 6 ∧ ∀ b ∈ bs, itemOk n b = true := by
  rw [busyB, Bool.and_eq_true, decide_eq_true_eq, List.all_eq_true] at h
  exact h
theorem itemOk_task {n : NNet} {b : NItem} (h : itemOk n b = true) : 0 ≤ b.task ∧ b.task < (n.tasks.length : Int) := by
  rw [itemOk, Bool.and_eq_true, inB_iff] at h; omega

set_option maxRecDepth 10000 in
set_option maxHeartbeats 2000000 in
theorem l3Busy_c (n : NNet) (v : Value) (bs : List NItem) (lo0 hi0 lo hi : Nat) (Ai : Option Addr) (bi oi ci : Nat) (w : World) (hN : NetV w lo0 hi0 v n) (hhi0 : hi0 ≤ w.heap.size) (hok : netOk n = true) (hV : Row w lo hi Ai bi oi (itemCells bs)) (hhi : hi ≤ w.heap.size) (hm1 : bs.length ≤ maxLen) :
    Calls Try.prog 52 #[v, .slice Ai bs.length ci] w fun e w' => e = .returned (.bool (busyB n bs)) ∧ Below w.heap.size w w' := by
  unfold maxLen at hm1
  obtain ⟨p1, p2, p3, p4, p5⟩ := netOk_parts hok
  obtain ⟨A, b, off, c, ms, rfl, hm, hT⟩ := hN
  unfold maxLen at hm
  generalize hob : Obj.cells #[.int .i64 n.places, .slice A n.tasks.length c] 25 = ob
  have hR := (Row.newAt w #[.int .i64 n.places, .slice A n.tasks.length c] 25 _ rfl)
  rw [hob] at hR
  have s1 := (hR.cell (j := 1) rfl).1
  have HB := Lib.hid ((Below.refl w.heap.size w).alloc (Nat.le_refl _) ob)
  have HT := Lib.hid (hT.keep (w' := w.alloc ob) (fun g _ h => Below.heap_alloc w _ g (by omega)) (fun g _ h => Below.heap_alloc w _ g (by omega)))
  have HV := Lib.hid (hV.alloc hhi ob)
  have HO := Lib.hid hob
  have HOK := Lib.hid hok
  clear hR hT hV hob hok p5
  by_cases h6 : 6 < bs.length
  · have h6' : ((6 : Int) < (bs.length : Int)) := by omega
    have H6 := Lib.hid h6
    go_enter Try.func52, Try.ntmps52
    go_wp2
    go_ret
    exact ⟨ret_bool (by rw [busyB, decide_eq_false (by have := H6.out; omega)]; rfl), (Below.refl _ _).alloc (Nat.le_refl _) _⟩
  · have h6' : ¬ ((6 : Int) < (bs.length : Int)) := by omega
    go_enter Try.func52, Try.ntmps52
    go_wp2
    rw [HO.out]
    go_loopw [5] (fun i wr => ∃ k d : Nat, k ≤ bs.length ∧ i = .int .i64 k ∧ (∀ j y, j < bs.length → j < k → bs[j]? = some y → itemOk n y = true) ∧ wr = (w.alloc ob).drewN d) (fun i _ => bs.length - (intOf i).toNat)
    case atStart => exact ⟨0, 0, Nat.zero_le _, rfl, fun j y _ hj => absurd hj (Nat.not_lt_zero _), rfl⟩
    case round =>
      obtain ⟨k, d, hk, rfl, hn, hw⟩ := hrel
      have HNN := Lib.hid hn
      have HW := Lib.hid hw
      replace s1 : wr.cell? ⟨w.heap.size, 1, none⟩ = some (.slice A n.tasks.length c) := by rw [hw]; exact s1
      clear hn hw
      by_cases hlt : k < bs.length
      · have hlt1 : (k : Int) < (bs.length : Int) := by omega
        obtain ⟨rfl, _, _, y, hy, ⟨y0, y1, y2⟩, _⟩ := HV.out.item hlt
        replace y0 : wr.cell? ⟨bi, oi + k * 3, none⟩ = some (.int .i64 y.task) := by rw [HW.out]; exact y0
        replace y1 : wr.cell? ⟨bi, oi + k * 3 + 1, none⟩ = some (.int .i64 y.who) := by rw [HW.out]; exact y1
        replace y2 : wr.cell? ⟨bi, oi + k * 3 + 2, none⟩ = some (.int .i64 y.did) := by rw [HW.out]; exact y2
        have HY := Lib.hid hy
        have e1 : IntKind.i64.wrap ((n.tasks.length : Int) - 1) = (n.tasks.length : Int) - 1 := IntWalk.i64_in _ (by omega)
        clear hy
        by_cases ha : inB y.task 0 ((n.tasks.length : Int) - 1) = true
        · have HA := Lib.hid ha
          obtain ⟨ha1, ha2⟩ := inB_iff.1 ha
          obtain ⟨tn, htn⟩ := Int.eq_ofNat_of_zero_le ha1
          have HTN := Lib.hid htn
          have HQ1 := Lib.hid (show ∀ q, Calls Try.prog 37 #[.int .i64 (tn : Int), .int .i64 0, .int .i64 ((n.tasks.length : Int) - 1)] (wr.drewN q) fun e w'' => e = .returned (.bool true) ∧ ∃ m', w'' = wr.drewN m' from fun q => by rw [← ha, htn]; exact quiet_w (l1In_c _ _ _ _))
          rw [htn] at y0
          have htl : tn < n.tasks.length := by omega
          have htl1 : (tn : Int) < (n.tasks.length : Int) := by omega
          obtain ⟨rfl, _, h3, t, vi, vo, vc, hx, _, _, ⟨_, _, _, _, _, _, _, _, c8⟩, _⟩ := HT.out.task htl
          replace c8 : wr.cell? ⟨b, off + tn * 9 + 8, none⟩ = some (.int .i64 t.need) := by rw [HW.out]; exact c8
          have hnb := need_bound HOK.out (List.mem_of_getElem? hx)
          have e2 : IntKind.i64.wrap (t.need - 1) = t.need - 1 := IntWalk.i64_in _ (by omega)
          have HX := Lib.hid hx
          clear ha ha1 ha2 htn hx
          by_cases hwho : inB y.who 1 4 = true
          · have HWHO := Lib.hid hwho
            have HQ2 := Lib.hid (show ∀ q, Calls Try.prog 37 #[.int .i64 y.who, .int .i64 1, .int .i64 4] (wr.drewN q) fun e w'' => e = .returned (.bool true) ∧ ∃ m', w'' = wr.drewN m' from fun q => by rw [← hwho]; exact quiet_w (l1In_c _ _ _ _))
            clear hwho
            by_cases hdid : inB y.did 0 (t.need - 1) = true
            · have HDID := Lib.hid hdid
              have HQ3 := Lib.hid (show ∀ q, Calls Try.prog 37 #[.int .i64 y.did, .int .i64 0, .int .i64 (t.need - 1)] (wr.drewN q) fun e w'' => e = .returned (.bool true) ∧ ∃ m', w'' = wr.drewN m' from fun q => by rw [← hdid]; exact quiet_w (l1In_c _ _ _ _))
              clear hdid
              go_wp2
              go_quiet (first | (go_at_call 37; with_reducible exact HQ1.out _) | (go_at_call 37; with_reducible exact HQ2.out _) | (go_at_call 37; with_reducible exact HQ3.out _))
              go_wp2
              go_roundw
              case rel =>
                refine ⟨k + 1, _, by omega, by go_num, fun j z _ hj hz => ?_, by rw [HW.out, World.drewN_drewN]⟩
                by_cases hjk : j = k
                · rw [hjk] at hz
                  have e := HY.out.symm.trans hz
                  injection e with e
                  rw [← e, itemOk_at HTN.out HX.out, ← HTN.out, HA.out, HWHO.out, HDID.out]; rfl
                · exact HNN.out j z (by omega) (by omega) hz
              case measure => simp [intOf]; omega
            · have hdid' : inB y.did 0 (t.need - 1) = false := by simpa using hdid
              have HDID := Lib.hid hdid'
              have HQ3 := Lib.hid (show ∀ q, Calls Try.prog 37 #[.int .i64 y.did, .int .i64 0, .int .i64 (t.need - 1)] (wr.drewN q) fun e w'' => e = .returned (.bool false) ∧ ∃ m', w'' = wr.drewN m' from fun q => by rw [← hdid']; exact quiet_w (l1In_c _ _ _ _))
              clear hdid hdid'
              go_wp2
              go_quiet (first | (go_at_call 37; with_reducible exact HQ1.out _) | (go_at_call 37; with_reducible exact HQ2.out _) | (go_at_call 37; with_reducible exact HQ3.out _))
              go_wp2
              go_ret
              exact ⟨ret_bool (busy_no HY.out (by rw [itemOk_at HTN.out HX.out, HWHO.out, HDID.out]; simp)).symm, by rw [HW.out]; exact below_drewN (below_drewN HB.out _) _⟩
          · have hwho' : inB y.who 1 4 = false := by simpa using hwho
            have HWHO := Lib.hid hwho'
            have HQ2 := Lib.hid (show ∀ q, Calls Try.prog 37 #[.int .i64 y.who, .int .i64 1, .int .i64 4] (wr.drewN q) fun e w'' => e = .returned (.bool false) ∧ ∃ m', w'' = wr.drewN m' from fun q => by rw [← hwho']; exact quiet_w (l1In_c _ _ _ _))
            clear hwho hwho'
            go_wp2
            go_quiet (first | (go_at_call 37; with_reducible exact HQ1.out _) | (go_at_call 37; with_reducible exact HQ2.out _))
            go_wp2
            go_ret
            exact ⟨ret_bool (busy_no HY.out (by rw [itemOk_at HTN.out HX.out, HWHO.out]; simp)).symm, by rw [HW.out]; exact below_drewN (below_drewN HB.out _) _⟩
        · have ha' : inB y.task 0 ((n.tasks.length : Int) - 1) = false := by simpa using ha
          have HA := Lib.hid ha'
          have HQ1 := Lib.hid (show ∀ q, Calls Try.prog 37 #[.int .i64 y.task, .int .i64 0, .int .i64 ((n.tasks.length : Int) - 1)] (wr.drewN q) fun e w'' => e = .returned (.bool false) ∧ ∃ m', w'' = wr.drewN m' from fun q => by rw [← ha']; exact quiet_w (l1In_c _ _ _ _))
          clear ha ha'
          go_wp2
          go_quiet (first | (go_at_call 37; with_reducible exact HQ1.out _))
          go_wp2
          go_ret
          exact ⟨ret_bool (busy_no HY.out (itemOk_no HA.out)).symm, by rw [HW.out]; exact below_drewN (below_drewN HB.out _) _⟩
      · have hlt1 : ¬ ((k : Int) < (bs.length : Int)) := by omega
        go_wp2
        go_ret
        refine ⟨ret_bool ?_, by rw [HW.out]; exact below_drewN HB.out _⟩
        rw [busyB, decide_eq_true (by omega), all_of (p := itemOk n) (fun j y hj hy => HNN.out j y hj (by omega) hy)]; rfl
end Go.Proofs.Ytkcbghaadjhceaa

/- When a task can begin, in plain Lean: what the program reckons place by place is what the reference reckons at once. -/
namespace Go.Proofs.Ytkcbghaadjhceaa
open Go.RowKit
set_option linter.unusedVariables false
set_option linter.unusedSimpArgs false

def someB (ms ins : List Int) : Bool := ins.any fun p => decide (0 < ms.getD p.toNat 0)
def allB (ms ins : List Int) : Bool := ins.all fun p => decide (0 < ms.getD p.toNat 0)
def outsOf (n : NNet) (bs : List NItem) : List NFlow := bs.flatMap fun b => (taskOf n b.task).out
/-- A mark lies at a place that is none of the task's own. -/
def awayAt (ms ins : List Int) (p : Nat) : Bool := decide (0 < ms.getD p 0) && !decide ((p : Int) ∈ ins)
def startB (n : NNet) (ms : List Int) (bs : List NItem) (t : Int) : List Bool := light ((List.range n.places.toNat).map (awayAt ms (taskOf n t).ins)) (outsOf n bs)
def wantsB (ms : List Int) (s : List Bool) (q : Int) : Bool := decide (ms.getD q.toNat 0 = 0) && bit s q
def comingB (n : NNet) (ms : List Int) (bs : List NItem) (t : Int) : Bool := (taskOf n t).ins.any (wantsB ms (reachAll n t (startB n ms bs t)))
def fromL (n : NNet) (ms : List Int) (bs : List NItem) (t : Int) : List Int := atsN (awayAt ms (taskOf n t).ins) n.places.toNat ++ (outsOf n bs).map NFlow.to
def arrivesB (n : NNet) (ms : List Int) (bs : List NItem) (t : Int) : Bool := (fromL n ms bs t).any fun p => (taskOf n t).ins.any (wantsB ms (reachAll n t (single n.places.toNat p)))
def canB (n : NNet) (ms : List Int) (bs : List NItem) (t : Int) : Bool :=
  if (taskOf n t).join = 1 then allB ms (taskOf n t).ins
  else if (taskOf n t).join = 2 then someB ms (taskOf n t).ins
  else someB ms (taskOf n t).ins && (allB ms (taskOf n t).ins || !comingB n ms bs t)
def enaB (n : NNet) (ms : List Int) (bs : List NItem) (t : Int) : Bool := mrkOk n ms && (busyB n bs && (inB t 0 ((n.tasks.length : Int) - 1) && canB n ms bs t))

theorem mem_atsN {p : Nat → Bool} {x : Int} : ∀ {k : Nat}, x ∈ atsN p k ↔ ∃ j : Nat, j < k ∧ p j = true ∧ x = (j : Int)
  | 0 => by simp [atsN]
  | k + 1 => by
    rw [atsN, List.mem_append, mem_atsN]
    constructor
    · rintro (⟨j, h1, h2, h3⟩ | h)
      · exact ⟨j, by omega, h2, h3⟩
      · split at h
        · next hp => simp at h; exact ⟨k, by omega, hp, h⟩
        · simp at h
    · rintro ⟨j, h1, h2, h3⟩
      by_cases hj : j < k
      · exact .inl ⟨j, hj, h2, h3⟩
      · obtain rfl : j = k := by omega
        right; rw [if_pos h2]; simp [h3]
theorem light_iff : ∀ (outs : List NFlow) (s : List Bool) (j : Nat), (light s outs).getD j false = true ↔ s.getD j false = true ∨ ∃ f ∈ outs, f.to.toNat = j ∧ j < s.length
  | [], s, j => by simp [light]
  | f :: r, s, j => by
    show (light (s.set f.to.toNat true) r).getD j false = true ↔ _
    rw [light_iff r, getD_set]
    constructor
    · rintro (h | ⟨g, hg, h1, h2⟩)
      · split at h
        · next e => exact .inr ⟨f, List.mem_cons_self .., e.1, e.2⟩
        · exact .inl h
      · exact .inr ⟨g, List.mem_cons_of_mem _ hg, h1, by simpa using h2⟩
    · rintro (h | ⟨g, hg, h1, h2⟩)
      · left; split
        · rfl
        · exact h
      · rcases List.mem_cons.1 hg with rfl | hg
        · left; rw [if_pos ⟨h1, h2⟩]
        · exact .inr ⟨g, hg, h1, by simpa using h2⟩
theorem taskOf_mem {n : NNet} {t : Int} (h0 : 0 ≤ t) (h1 : t < (n.tasks.length : Int)) : taskOf n t ∈ n.tasks := by
  obtain ⟨k, rfl⟩ := Int.eq_ofNat_of_zero_le h0
  have hk : k < n.tasks.length := by omega
  rw [taskOf_at (List.getElem?_eq_getElem hk)]; exact List.getElem_mem hk
theorem outsOf_bound {n : NNet} (h : netOk n = true) {bs : List NItem} (hb : busyB n bs = true) {f : NFlow} (hf : f ∈ outsOf n bs) : 1 ≤ f.to ∧ f.to < n.places := by
  obtain ⟨b, hb1, hb2⟩ := List.mem_flatMap.1 hf
  have h3 := itemOk_task ((busyB_parts hb).2 b hb1)
  exact out_bound h (taskOf_mem h3.1 h3.2) hb2
theorem startB_length (n : NNet) (ms : List Int) (bs : List NItem) (t : Int) : (startB n ms bs t).length = n.places.toNat := by
  rw [startB, light_length]; simp
theorem startB_iff {n : NNet} (h : netOk n = true) {ms : List Int} {bs : List NItem} (hb : busyB n bs = true) {t : Int} {p : Nat} (hp : p < n.places.toNat) : (startB n ms bs t).getD p false = true ↔ (p : Int) ∈ fromL n ms bs t := by
  rw [startB, light_iff, fromL, List.mem_append, mem_atsN, List.mem_map]
  constructor
  · rintro (h1 | ⟨f, hf, h1, h2⟩)
    · left
      refine ⟨p, hp, ?_, rfl⟩
      rw [List.getD_eq_getElem?_getD, List.getElem?_map, List.getElem?_range hp] at h1
      exact h1
    · right
      have := outsOf_bound h hb hf
      exact ⟨f, hf, by omega⟩
  · rintro (⟨j, h1, h2, h3⟩ | ⟨f, hf, h1⟩)
    · left
      obtain rfl : p = j := by omega
      rw [List.getD_eq_getElem?_getD, List.getElem?_map, List.getElem?_range hp]; exact h2
    · right
      exact ⟨f, hf, by omega, by simpa using hp⟩
theorem fromL_bound {n : NNet} (h : netOk n = true) {ms : List Int} {bs : List NItem} (hb : busyB n bs = true) {t : Int} {x : Int} (hx : x ∈ fromL n ms bs t) : 0 ≤ x ∧ x < n.places := by
  have hp := netOk_parts h
  rw [fromL, List.mem_append, mem_atsN, List.mem_map] at hx
  rcases hx with ⟨j, h1, _, h3⟩ | ⟨f, hf, h1⟩
  · omega
  · have := outsOf_bound h hb hf; omega
/-- Something can come to a task: place by place, or all at once. -/
theorem arrives_coming {n : NNet} (h : netOk n = true) {ms : List Int} {bs : List NItem} (hb : busyB n bs = true) (t : Int) (ht0 : 0 ≤ t) (ht1 : t < (n.tasks.length : Int)) : arrivesB n ms bs t = comingB n ms bs t := by
  have hun := fun q => reach_union t n.tasks (startB n ms bs t) n.places.toNat (startB_length n ms bs t) q
  have hp := netOk_parts h
  refine Bool.eq_iff_iff.2 ⟨fun h1 => ?_, fun h1 => ?_⟩
  · obtain ⟨p, hpm, h2⟩ := List.any_eq_true.1 h1
    obtain ⟨q, hq, h3⟩ := List.any_eq_true.1 h2
    have hpb := fromL_bound h hb hpm
    obtain ⟨k, rfl⟩ := Int.eq_ofNat_of_zero_le hpb.1
    refine List.any_eq_true.2 ⟨q, hq, ?_⟩
    rw [wantsB, Bool.and_eq_true] at h3 ⊢
    refine ⟨h3.1, ?_⟩
    rw [bit, reachAll, hun]
    refine List.any_eq_true.2 ⟨k, List.mem_range.2 (by omega), ?_⟩
    rw [Bool.and_eq_true]
    exact ⟨(startB_iff h hb (by omega)).2 hpm, h3.2⟩
  · obtain ⟨q, hq, h3⟩ := List.any_eq_true.1 h1
    rw [wantsB, Bool.and_eq_true] at h3
    have h4 := h3.2
    rw [bit, reachAll, hun] at h4
    obtain ⟨k, hk, h5⟩ := List.any_eq_true.1 h4
    rw [Bool.and_eq_true] at h5
    refine List.any_eq_true.2 ⟨(k : Int), (startB_iff h hb (List.mem_range.1 hk)).1 h5.1, List.any_eq_true.2 ⟨q, hq, ?_⟩⟩
    rw [wantsB, Bool.and_eq_true]
    exact ⟨h3.1, h5.2⟩
end Go.Proofs.Ytkcbghaadjhceaa

/- Whether tasks under way are ok: the program. -/
namespace Go.Proofs.Ytkcbghaadjhceaa
open Go.RowKit
set_option linter.unusedVariables false
set_option linter.unusedSimpArgs false

theorem isPerson_c (x : Int) (w : World) :
    Calls Try.prog 68 #[.int .i64 x] w fun e w' => e = .returned (.bool (inB x 1 4)) ∧ w = w' := by
  go_enter Try.func68, Try.ntmps68
  go_wp2_with fail
  refine (implIn_c _ _ _ _).mono ?_
  rintro e w' ⟨rfl, rfl⟩
  go_wp2
  go_ret
  exact ⟨rfl, rfl⟩

set_option maxRecDepth 10000 in
set_option maxHeartbeats 2000000 in
theorem busyOk_c (n : NNet) (v : Value) (bs : List NItem) (lo0 hi0 lo hi : Nat) (Ai : Option Addr) (bi oi ci : Nat) (w : World) (hN : NetV w lo0 hi0 v n) (hhi0 : hi0 ≤ w.heap.size) (hok : netOk n = true) (hV : Row w lo hi Ai bi oi (itemCells bs)) (hhi : hi ≤ w.heap.size) (hm1 : bs.length ≤ maxLen) :
    Calls Try.prog 50 #[v, .slice Ai bs.length ci] w fun e w' => e = .returned (.bool (busyB n bs)) ∧ Below w.heap.size w w' := by
  unfold maxLen at hm1
  obtain ⟨p1, p2, p3, p4, p5⟩ := netOk_parts hok
  have HN := Lib.hid hN
  obtain ⟨A, b, off, c, ms, rfl, hm, hT⟩ := hN
  unfold maxLen at hm
  generalize hob : Obj.cells #[.int .i64 n.places, .slice A n.tasks.length c] 25 = ob
  have hR := (Row.newAt w #[.int .i64 n.places, .slice A n.tasks.length c] 25 _ rfl)
  rw [hob] at hR
  have HR := Lib.hid hR
  have HB := Lib.hid ((Below.refl w.heap.size w).alloc (Nat.le_refl _) ob)
  have HNA := Lib.hid (HN.out.keep (w' := w.alloc ob) fun g _ h => Below.heap_alloc w _ g (by omega))
  have HT := Lib.hid (hT.keep (w' := w.alloc ob) (fun g _ h => Below.heap_alloc w _ g (by omega)) (fun g _ h => Below.heap_alloc w _ g (by omega)))
  have HV := Lib.hid (hV.alloc hhi ob)
  have HO := Lib.hid hob
  have HOK := Lib.hid hok
  clear hR hT hV hob hok p5
  go_enter Try.func50, Try.ntmps50
  go_wp2
  rw [HO.out]
  go_loopw [9] (fun i wr => ∃ k : Nat, k ≤ bs.length ∧ i = .int .i64 k ∧ (∀ j y, j < bs.length → j < k → bs[j]? = some y → itemOk n y = true) ∧ Below (w.heap.size + 1) (w.alloc ob) wr) (fun i _ => bs.length - (intOf i).toNat)
  case atStart => exact ⟨0, Nat.zero_le _, rfl, fun j y _ hj => absurd hj (Nat.not_lt_zero _), Below.refl _ _⟩
  case round =>
    obtain ⟨k, hk, rfl, hn, hb⟩ := hrel
    obtain ⟨wo, rfl⟩ : ∃ wo, wo = wr := ⟨_, rfl⟩
    have hzo : w.heap.size + 1 ≤ wo.heap.size := by simpa using hb.size
    have HNN := Lib.hid hn
    have HBo := Lib.hid hb
    have hRo := HR.out.below hb (by simp)
    by_cases hlt : k < bs.length
    · obtain ⟨rfl, _, h3i, ⟨yt, yw, yd⟩, hy, ⟨y0, y1, y2⟩, _⟩ := HV.out.item hlt
      dsimp only at y0 y1 y2
      replace y0 := (hb.cell (p := ⟨bi, oi + k * 3, none⟩) (by show bi < _; omega)).trans y0
      replace y1 := (hb.cell (p := ⟨bi, oi + k * 3 + 1, none⟩) (by show bi < _; omega)).trans y1
      replace y2 := (hb.cell (p := ⟨bi, oi + k * 3 + 2, none⟩) (by show bi < _; omega)).trans y2
      have HY := Lib.hid hy
      generalize hoi : Obj.cells #[.int .i64 yt, .int .i64 yw, .int .i64 yd] 52 = obi
      have hRi := Row.newAt wo #[.int .i64 yt, .int .i64 yw, .int .i64 yd] 52 _ rfl
      rw [hoi] at hRi
      have hRn := hRo.alloc (by omega) obi
      have HOI := Lib.hid hoi
      have hbi := hb.alloc (by omega) obi
      have HBi := Lib.hid hbi
      have x0 : ((wo.alloc obi).drew).cell? ⟨w.heap.size, 0, none⟩ = some (.int .i64 n.places) := (hRn.cell (j := 0) rfl).1
      have x1 : ((wo.alloc obi).drew).cell? ⟨w.heap.size, 1, none⟩ = some (.slice A n.tasks.length c) := (hRn.cell (j := 1) rfl).1
      have x2 : ((wo.alloc obi).drew).cell? ⟨wo.heap.size, 0, none⟩ = some (.int .i64 yt) := (hRi.cell (j := 0) rfl).1
      have x3 : ((wo.alloc obi).drew).cell? ⟨wo.heap.size, 1, none⟩ = some (.int .i64 yw) := (hRi.cell (j := 1) rfl).1
      have x4 : ((wo.alloc obi).drew).cell? ⟨wo.heap.size, 2, none⟩ = some (.int .i64 yd) := (hRi.cell (j := 2) rfl).1
      have hzd : ((wo.alloc obi).drew).heap.size = wo.heap.size + 1 := by show (wo.alloc obi).heap.size = _; simp
      have hH := hasTask_c n (.agg #[.int .i64 n.places, .slice A n.tasks.length c]) yt lo0 hi0 ((wo.alloc obi).drew) ((HNA.out.below hbi (by omega)).keep fun _ _ _ => rfl)
      have e1 : IntKind.i64.wrap ((n.tasks.length : Int) - 1) = (n.tasks.length : Int) - 1 := IntWalk.i64_in _ (by omega)
      clear hy hoi hRi hRn hRo hn hb hbi
      by_cases ha : inB yt 0 ((n.tasks.length : Int) - 1) = true
      · have HA := Lib.hid ha
        rw [ha] at hH
        have HH := Lib.hid hH
        obtain ⟨ha1, ha2⟩ := inB_iff.1 ha
        obtain ⟨tn, rfl⟩ := Int.eq_ofNat_of_zero_le ha1
        have htl : tn < n.tasks.length := by omega
        have htl1 : (tn : Int) < (n.tasks.length : Int) := by omega
        obtain ⟨rfl, _, h3, t, vi, vo, vc, hx, _, _, ⟨_, _, _, _, _, _, _, _, c8⟩, _⟩ := HT.out.task htl
        have x5 : ((wo.alloc obi).drew).cell? ⟨b, off + tn * 9 + 8, none⟩ = some (.int .i64 t.need) := (HBi.out.cell (p := ⟨b, off + tn * 9 + 8, none⟩) (by show b < _; omega)).trans c8
        have hnb := need_bound HOK.out (List.mem_of_getElem? hx)
        have e2 : IntKind.i64.wrap (t.need - 1) = t.need - 1 := IntWalk.i64_in _ (by omega)
        have HX := Lib.hid hx
        have hq0 : w.heap.size < ((wo.alloc obi).drew).heap.size := by omega
        have hq1 : wo.heap.size < ((wo.alloc obi).drew).heap.size := by omega
        have hq2 : b < ((wo.alloc obi).drew).heap.size := by omega
        clear ha ha1 ha2 hx hH
        by_cases hwho : inB yw 1 4 = true
        · have HWHO := Lib.hid hwho
          have HQ2 := Lib.hid (show ∀ W, Calls Try.prog 68 #[.int .i64 yw] W fun e w'' => e = .returned (.bool true) ∧ W = w'' from fun q => by rw [← hwho]; exact isPerson_c _ _)
          clear hwho
          by_cases hdid : inB yd 0 (t.need - 1) = true
          · have HDID := Lib.hid hdid
            have HQ3 := Lib.hid (show ∀ W, Calls Try.prog 55 #[.int .i64 yd, .int .i64 0, .int .i64 (t.need - 1)] W fun e w'' => e = .returned (.bool true) ∧ W = w'' from fun q => by rw [← hdid]; exact implIn_c _ _ _ _)
            clear hdid
            go_wp2
            rw [HOI.out]
            refine wp_region_noPanic ?_
            refine wp_region_held_drew (S := fun w' => w'.cell? ⟨w.heap.size, 0, none⟩ = some (.int .i64 n.places) ∧ w'.cell? ⟨w.heap.size, 1, none⟩ = some (.slice (some ⟨b, off, none⟩) n.tasks.length c) ∧ w'.cell? ⟨wo.heap.size, 0, none⟩ = some (.int .i64 (tn : Int)) ∧ w'.cell? ⟨wo.heap.size, 1, none⟩ = some (.int .i64 yw) ∧ w'.cell? ⟨wo.heap.size, 2, none⟩ = some (.int .i64 yd) ∧ w'.cell? ⟨b, off + tn * 9 + 8, none⟩ = some (.int .i64 t.need)) (by kernel_rfl) ?_ (fun hHeld => ?_)
            · exact ⟨x0, x1, x2, x3, x4, x5⟩
            refine take_yes (i := 0) (v := ?_) rfl (by kernel_rfl) (by kernel_rfl) (by kernel_rfl) (fun _ _ _ h => h) (by kernel_rfl) ?_ (by assumption) ?_
            rotate_left
            · (intro w hSw; (try dsimp only at hSw); go_simp; try with_reducible rfl)
            try simp only [Act.put, List.setIfInBounds_toArray, List.set_cons_zero, List.set_cons_succ]
            refine take_yes (i := 1) (v := ?_) rfl (by kernel_rfl) (by kernel_rfl) (by kernel_rfl) (fun _ _ _ h => h) (by kernel_rfl) ?_ (by assumption) ?_
            rotate_left
            · (intro w hSw; (try dsimp only at hSw); go_simp; try with_reducible rfl)
            try simp only [Act.put, List.setIfInBounds_toArray, List.set_cons_zero, List.set_cons_succ]
            refine take_yes (i := 2) (v := ?_) rfl (by kernel_rfl) (by kernel_rfl) (by kernel_rfl) (fun _ _ _ h => h) (by kernel_rfl) ?_ (by assumption) ?_
            rotate_left
            · (intro w hSw; (try dsimp only at hSw); go_simp; try with_reducible rfl)
            try simp only [Act.put, List.setIfInBounds_toArray, List.set_cons_zero, List.set_cons_succ]
            refine wpAnyH_ready (rs := [3]) (by kernel_rfl) (by simp) ?_
            refine AllReadyH.cons (of_drop rfl) (fun K hK => ?_) AllReadyH.nil
            go_simp
            (go_at_call 35; refine HH.out.mono ?_; rintro e w8 ⟨rfl, hb8⟩; have z0 := (hb8.cell (p := ⟨w.heap.size, 0, none⟩) hq0).trans x0; have z1 := (hb8.cell (p := ⟨w.heap.size, 1, none⟩) hq0).trans x1; have z2 := (hb8.cell (p := ⟨wo.heap.size, 0, none⟩) hq1).trans x2; have z3 := (hb8.cell (p := ⟨wo.heap.size, 1, none⟩) hq1).trans x3; have z4 := (hb8.cell (p := ⟨wo.heap.size, 2, none⟩) hq1).trans x4; have z5 := (hb8.cell (p := ⟨b, off + tn * 9 + 8, none⟩) hq2).trans x5)
            go_wp2_with fail
            refine hK.out _ _ ?_ (fun hHeld2 => ?_)
            · exact ⟨z0, z1, z2, z3, z4, z5⟩
            clear hK K hHeld
            have hHeld := hHeld2
            clear hHeld2
            try simp only [Act.put, List.setIfInBounds_toArray, List.set_cons_zero, List.set_cons_succ]
            refine take_yes (i := 4) (v := ?_) rfl (by kernel_rfl) (by kernel_rfl) (by kernel_rfl) (fun _ _ _ h => h) (by kernel_rfl) ?_ (by assumption) ?_
            rotate_left
            · (intro w hSw; (try dsimp only at hSw); go_simp; try with_reducible rfl)
            try simp only [Act.put, List.setIfInBounds_toArray, List.set_cons_zero, List.set_cons_succ]
            refine take_yes (i := 5) (v := ?_) rfl (by kernel_rfl) (by kernel_rfl) (by kernel_rfl) (fun _ _ _ h => h) (by kernel_rfl) ?_ (by assumption) ?_
            rotate_left
            · (intro w hSw; (try dsimp only at hSw); go_simp; try with_reducible rfl)
            try simp only [Act.put, List.setIfInBounds_toArray, List.set_cons_zero, List.set_cons_succ]
            refine take_yes (i := 6) (v := ?_) rfl (by kernel_rfl) (by kernel_rfl) (by kernel_rfl) (fun _ _ _ h => h) (by kernel_rfl) ?_ (by assumption) ?_
            rotate_left
            · (intro w hSw; (try dsimp only at hSw); go_simp; try with_reducible rfl)
            try simp only [Act.put, List.setIfInBounds_toArray, List.set_cons_zero, List.set_cons_succ]
            refine take_yes (i := 7) (v := ?_) rfl (by kernel_rfl) (by kernel_rfl) (by kernel_rfl) (fun _ _ _ h => h) (by kernel_rfl) ?_ (by assumption) ?_
            rotate_left
            · (intro w hSw; (try dsimp only at hSw); go_simp; try with_reducible rfl)
            try simp only [Act.put, List.setIfInBounds_toArray, List.set_cons_zero, List.set_cons_succ]
            refine wpAnyH_ready (rs := [8]) (by kernel_rfl) (by simp) ?_
            refine AllReadyH.cons (of_drop rfl) (fun K hK => ?_) AllReadyH.nil
            go_simp
            (go_at_call 68; refine (HQ2.out _).mono ?_; rintro e w9 ⟨rfl, rfl⟩)
            go_wp2_with fail
            refine hK.out _ _ ?_ (fun hHeld2 => ?_)
            · exact ⟨z0, z1, z2, z3, z4, z5⟩
            clear hK K hHeld
            have hHeld := hHeld2
            clear hHeld2
            try simp only [Act.put, List.setIfInBounds_toArray, List.set_cons_zero, List.set_cons_succ]
            refine take_yes (i := 9) (v := ?_) rfl (by kernel_rfl) (by kernel_rfl) (by kernel_rfl) (fun _ _ _ h => h) (by kernel_rfl) ?_ (by assumption) ?_
            rotate_left
            · (intro w hSw; (try dsimp only at hSw); go_simp; try with_reducible rfl)
            try simp only [Act.put, List.setIfInBounds_toArray, List.set_cons_zero, List.set_cons_succ]
            refine take_yes (i := 10) (v := ?_) rfl (by kernel_rfl) (by kernel_rfl) (by kernel_rfl) (fun _ _ _ h => h) (by kernel_rfl) ?_ (by assumption) ?_
            rotate_left
            · (intro w hSw; (try dsimp only at hSw); go_simp; try with_reducible rfl)
            try simp only [Act.put, List.setIfInBounds_toArray, List.set_cons_zero, List.set_cons_succ]
            refine take_yes (i := 11) (v := ?_) rfl (by kernel_rfl) (by kernel_rfl) (by kernel_rfl) (fun _ _ _ h => h) (by kernel_rfl) ?_ (by assumption) ?_
            rotate_left
            · (intro w hSw; (try dsimp only at hSw); go_simp; try with_reducible rfl)
            try simp only [Act.put, List.setIfInBounds_toArray, List.set_cons_zero, List.set_cons_succ]
            refine take_yes (i := 12) (v := ?_) rfl (by kernel_rfl) (by kernel_rfl) (by kernel_rfl) (fun _ _ _ h => h) (by kernel_rfl) ?_ (by assumption) ?_
            rotate_left
            · (intro w hSw; (try dsimp only at hSw); go_simp; try with_reducible rfl)
            try simp only [Act.put, List.setIfInBounds_toArray, List.set_cons_zero, List.set_cons_succ]
            refine take_yes (i := 13) (v := ?_) rfl (by kernel_rfl) (by kernel_rfl) (by kernel_rfl) (fun _ _ _ h => h) (by kernel_rfl) ?_ (by assumption) ?_
            rotate_left
            · (intro w hSw; (try dsimp only at hSw); go_simp; try with_reducible rfl)
            try simp only [Act.put, List.setIfInBounds_toArray, List.set_cons_zero, List.set_cons_succ]
            refine take_yes (i := 14) (v := ?_) rfl (by kernel_rfl) (by kernel_rfl) (by kernel_rfl) (fun _ _ _ h => h) (by kernel_rfl) ?_ (by assumption) ?_
            rotate_left
            · (intro w hSw; (try dsimp only at hSw); go_simp; try with_reducible rfl)
            try simp only [Act.put, List.setIfInBounds_toArray, List.set_cons_zero, List.set_cons_succ]
            refine take_yes (i := 15) (v := ?_) rfl (by kernel_rfl) (by kernel_rfl) (by kernel_rfl) (fun _ _ _ h => h) (by kernel_rfl) ?_ (by assumption) ?_
            rotate_left
            · (intro w hSw; (try dsimp only at hSw); go_simp; try with_reducible rfl)
            try simp only [Act.put, List.setIfInBounds_toArray, List.set_cons_zero, List.set_cons_succ]
            refine take_yes (i := 16) (v := ?_) rfl (by kernel_rfl) (by kernel_rfl) (by kernel_rfl) (fun _ _ _ h => h) (by kernel_rfl) ?_ (by assumption) ?_
            rotate_left
            · (intro w hSw; (try dsimp only at hSw); go_simp; try with_reducible rfl)
            try simp only [Act.put, List.setIfInBounds_toArray, List.set_cons_zero, List.set_cons_succ]
            refine take_yes (i := 17) (v := ?_) rfl (by kernel_rfl) (by kernel_rfl) (by kernel_rfl) (fun _ _ _ h => h) (by kernel_rfl) ?_ (by assumption) ?_
            rotate_left
            · (intro w hSw; (try dsimp only at hSw); go_simp; try with_reducible rfl)
            try simp only [Act.put, List.setIfInBounds_toArray, List.set_cons_zero, List.set_cons_succ]
            refine take_yes (i := 18) (v := ?_) rfl (by kernel_rfl) (by kernel_rfl) (by kernel_rfl) (fun _ _ _ h => h) (by kernel_rfl) ?_ (by assumption) ?_
            rotate_left
            · (intro w hSw; (try dsimp only at hSw); go_simp; try with_reducible rfl)
            try simp only [Act.put, List.setIfInBounds_toArray, List.set_cons_zero, List.set_cons_succ]
            refine take_yes (i := 19) (v := ?_) rfl (by kernel_rfl) (by kernel_rfl) (by kernel_rfl) (fun _ _ _ h => h) (by kernel_rfl) ?_ (by assumption) ?_
            rotate_left
            · (intro w hSw; (try dsimp only at hSw); go_simp; try with_reducible rfl)
            try simp only [Act.put, List.setIfInBounds_toArray, List.set_cons_zero, List.set_cons_succ]
            refine take_yes (i := 20) (v := ?_) rfl (by kernel_rfl) (by kernel_rfl) (by kernel_rfl) (fun _ _ _ h => h) (by kernel_rfl) ?_ (by assumption) ?_
            rotate_left
            · (intro w hSw; (try dsimp only at hSw); go_simp; try with_reducible rfl)
            try simp only [Act.put, List.setIfInBounds_toArray, List.set_cons_zero, List.set_cons_succ]
            refine take_yes (i := 21) (v := ?_) rfl (by kernel_rfl) (by kernel_rfl) (by kernel_rfl) (fun _ _ _ h => h) (by kernel_rfl) ?_ (by assumption) ?_
            rotate_left
            · (intro w hSw; (try dsimp only at hSw); go_simp; try with_reducible rfl)
            try simp only [Act.put, List.setIfInBounds_toArray, List.set_cons_zero, List.set_cons_succ]
            refine wpAnyH_ready (rs := [22]) (by kernel_rfl) (by simp) ?_
            refine AllReadyH.cons (of_drop rfl) (fun K hK => ?_) AllReadyH.nil
            go_simp
            (go_at_call 55; refine (HQ3.out _).mono ?_; rintro e w9 ⟨rfl, rfl⟩)
            go_wp2_with fail
            refine hK.out _ _ ?_ (fun hHeld2 => ?_)
            · exact ⟨z0, z1, z2, z3, z4, z5⟩
            clear hK K hHeld
            have hHeld := hHeld2
            clear hHeld2
            try simp only [Act.put, List.setIfInBounds_toArray, List.set_cons_zero, List.set_cons_succ]
            refine take_yes (i := 23) (v := ?_) rfl (by kernel_rfl) (by kernel_rfl) (by kernel_rfl) (fun _ _ _ h => h) (by kernel_rfl) ?_ (by assumption) ?_
            rotate_left
            · (intro w hSw; (try dsimp only at hSw); go_simp; try with_reducible rfl)
            try simp only [Act.put, List.setIfInBounds_toArray, List.set_cons_zero, List.set_cons_succ]
            refine take_yes (i := 24) (v := ?_) rfl (by kernel_rfl) (by kernel_rfl) (by kernel_rfl) (fun _ _ _ h => h) (by kernel_rfl) ?_ (by assumption) ?_
            rotate_left
            · (intro w hSw; (try dsimp only at hSw); go_simp; try with_reducible rfl)
            try simp only [Act.put, List.setIfInBounds_toArray, List.set_cons_zero, List.set_cons_succ]
            refine wpAnyH_done (by kernel_rfl) ?_ _
            refine NoPanic.normal ?_
            have HB8 := Lib.hid (HBi.out.drew.trans (hb8.mono (show w.heap.size + 1 ≤ _ by omega)))
            have hz8 : ((wo.alloc obi).drew).heap.size ≤ w8.heap.size := hb8.size
            clear hb8 HH
            go_wp2
            go_roundw
            case rel =>
              refine ⟨k + 1, by omega, by go_num, fun j z _ hj hz => ?_, HB8.out⟩
              by_cases hjk : j = k
              · rw [hjk] at hz
                have e := HY.out.symm.trans hz
                injection e with e
                rw [← e, itemOk_at (k := tn) rfl HX.out, HA.out, HWHO.out, HDID.out]; rfl
              · exact HNN.out j z (by omega) (by omega) hz
            case measure => simp [intOf]; omega
          · have hdid' : inB yd 0 (t.need - 1) = false := by simpa using hdid
            have HDID := Lib.hid hdid'
            have HQ3 := Lib.hid (show ∀ W, Calls Try.prog 55 #[.int .i64 yd, .int .i64 0, .int .i64 (t.need - 1)] W fun e w'' => e = .returned (.bool false) ∧ W = w'' from fun q => by rw [← hdid']; exact implIn_c _ _ _ _)
            clear hdid hdid'
            go_wp2
            rw [HOI.out]
            refine wp_region_noPanic ?_
            refine wp_region_held_drew (S := fun w' => w'.cell? ⟨w.heap.size, 0, none⟩ = some (.int .i64 n.places) ∧ w'.cell? ⟨w.heap.size, 1, none⟩ = some (.slice (some ⟨b, off, none⟩) n.tasks.length c) ∧ w'.cell? ⟨wo.heap.size, 0, none⟩ = some (.int .i64 (tn : Int)) ∧ w'.cell? ⟨wo.heap.size, 1, none⟩ = some (.int .i64 yw) ∧ w'.cell? ⟨wo.heap.size, 2, none⟩ = some (.int .i64 yd) ∧ w'.cell? ⟨b, off + tn * 9 + 8, none⟩ = some (.int .i64 t.need)) (by kernel_rfl) ?_ (fun hHeld => ?_)
            · exact ⟨x0, x1, x2, x3, x4, x5⟩
            refine take_yes (i := 0) (v := ?_) rfl (by kernel_rfl) (by kernel_rfl) (by kernel_rfl) (fun _ _ _ h => h) (by kernel_rfl) ?_ (by assumption) ?_
            rotate_left
            · (intro w hSw; (try dsimp only at hSw); go_simp; try with_reducible rfl)
            try simp only [Act.put, List.setIfInBounds_toArray, List.set_cons_zero, List.set_cons_succ]
            refine take_yes (i := 1) (v := ?_) rfl (by kernel_rfl) (by kernel_rfl) (by kernel_rfl) (fun _ _ _ h => h) (by kernel_rfl) ?_ (by assumption) ?_
            rotate_left
            · (intro w hSw; (try dsimp only at hSw); go_simp; try with_reducible rfl)
            try simp only [Act.put, List.setIfInBounds_toArray, List.set_cons_zero, List.set_cons_succ]
            refine take_yes (i := 2) (v := ?_) rfl (by kernel_rfl) (by kernel_rfl) (by kernel_rfl) (fun _ _ _ h => h) (by kernel_rfl) ?_ (by assumption) ?_
            rotate_left
            · (intro w hSw; (try dsimp only at hSw); go_simp; try with_reducible rfl)
            try simp only [Act.put, List.setIfInBounds_toArray, List.set_cons_zero, List.set_cons_succ]
            refine wpAnyH_ready (rs := [3]) (by kernel_rfl) (by simp) ?_
            refine AllReadyH.cons (of_drop rfl) (fun K hK => ?_) AllReadyH.nil
            go_simp
            (go_at_call 35; refine HH.out.mono ?_; rintro e w8 ⟨rfl, hb8⟩; have z0 := (hb8.cell (p := ⟨w.heap.size, 0, none⟩) hq0).trans x0; have z1 := (hb8.cell (p := ⟨w.heap.size, 1, none⟩) hq0).trans x1; have z2 := (hb8.cell (p := ⟨wo.heap.size, 0, none⟩) hq1).trans x2; have z3 := (hb8.cell (p := ⟨wo.heap.size, 1, none⟩) hq1).trans x3; have z4 := (hb8.cell (p := ⟨wo.heap.size, 2, none⟩) hq1).trans x4; have z5 := (hb8.cell (p := ⟨b, off + tn * 9 + 8, none⟩) hq2).trans x5)
            go_wp2_with fail
            refine hK.out _ _ ?_ (fun hHeld2 => ?_)
            · exact ⟨z0, z1, z2, z3, z4, z5⟩
            clear hK K hHeld
            have hHeld := hHeld2
            clear hHeld2
            try simp only [Act.put, List.setIfInBounds_toArray, List.set_cons_zero, List.set_cons_succ]
            refine take_yes (i := 4) (v := ?_) rfl (by kernel_rfl) (by kernel_rfl) (by kernel_rfl) (fun _ _ _ h => h) (by kernel_rfl) ?_ (by assumption) ?_
            rotate_left
            · (intro w hSw; (try dsimp only at hSw); go_simp; try with_reducible rfl)
            try simp only [Act.put, List.setIfInBounds_toArray, List.set_cons_zero, List.set_cons_succ]
            refine take_yes (i := 5) (v := ?_) rfl (by kernel_rfl) (by kernel_rfl) (by kernel_rfl) (fun _ _ _ h => h) (by kernel_rfl) ?_ (by assumption) ?_
            rotate_left
            · (intro w hSw; (try dsimp only at hSw); go_simp; try with_reducible rfl)
            try simp only [Act.put, List.setIfInBounds_toArray, List.set_cons_zero, List.set_cons_succ]
            refine take_yes (i := 6) (v := ?_) rfl (by kernel_rfl) (by kernel_rfl) (by kernel_rfl) (fun _ _ _ h => h) (by kernel_rfl) ?_ (by assumption) ?_
            rotate_left
            · (intro w hSw; (try dsimp only at hSw); go_simp; try with_reducible rfl)
            try simp only [Act.put, List.setIfInBounds_toArray, List.set_cons_zero, List.set_cons_succ]
            refine take_yes (i := 7) (v := ?_) rfl (by kernel_rfl) (by kernel_rfl) (by kernel_rfl) (fun _ _ _ h => h) (by kernel_rfl) ?_ (by assumption) ?_
            rotate_left
            · (intro w hSw; (try dsimp only at hSw); go_simp; try with_reducible rfl)
            try simp only [Act.put, List.setIfInBounds_toArray, List.set_cons_zero, List.set_cons_succ]
            refine wpAnyH_ready (rs := [8]) (by kernel_rfl) (by simp) ?_
            refine AllReadyH.cons (of_drop rfl) (fun K hK => ?_) AllReadyH.nil
            go_simp
            (go_at_call 68; refine (HQ2.out _).mono ?_; rintro e w9 ⟨rfl, rfl⟩)
            go_wp2_with fail
            refine hK.out _ _ ?_ (fun hHeld2 => ?_)
            · exact ⟨z0, z1, z2, z3, z4, z5⟩
            clear hK K hHeld
            have hHeld := hHeld2
            clear hHeld2
            try simp only [Act.put, List.setIfInBounds_toArray, List.set_cons_zero, List.set_cons_succ]
            refine take_yes (i := 9) (v := ?_) rfl (by kernel_rfl) (by kernel_rfl) (by kernel_rfl) (fun _ _ _ h => h) (by kernel_rfl) ?_ (by assumption) ?_
            rotate_left
            · (intro w hSw; (try dsimp only at hSw); go_simp; try with_reducible rfl)
            try simp only [Act.put, List.setIfInBounds_toArray, List.set_cons_zero, List.set_cons_succ]
            refine take_yes (i := 10) (v := ?_) rfl (by kernel_rfl) (by kernel_rfl) (by kernel_rfl) (fun _ _ _ h => h) (by kernel_rfl) ?_ (by assumption) ?_
            rotate_left
            · (intro w hSw; (try dsimp only at hSw); go_simp; try with_reducible rfl)
            try simp only [Act.put, List.setIfInBounds_toArray, List.set_cons_zero, List.set_cons_succ]
            refine take_yes (i := 11) (v := ?_) rfl (by kernel_rfl) (by kernel_rfl) (by kernel_rfl) (fun _ _ _ h => h) (by kernel_rfl) ?_ (by assumption) ?_
            rotate_left
            · (intro w hSw; (try dsimp only at hSw); go_simp; try with_reducible rfl)
            try simp only [Act.put, List.setIfInBounds_toArray, List.set_cons_zero, List.set_cons_succ]
            refine take_yes (i := 12) (v := ?_) rfl (by kernel_rfl) (by kernel_rfl) (by kernel_rfl) (fun _ _ _ h => h) (by kernel_rfl) ?_ (by assumption) ?_
            rotate_left
            · (intro w hSw; (try dsimp only at hSw); go_simp; try with_reducible rfl)
            try simp only [Act.put, List.setIfInBounds_toArray, List.set_cons_zero, List.set_cons_succ]
            refine take_yes (i := 13) (v := ?_) rfl (by kernel_rfl) (by kernel_rfl) (by kernel_rfl) (fun _ _ _ h => h) (by kernel_rfl) ?_ (by assumption) ?_
            rotate_left
            · (intro w hSw; (try dsimp only at hSw); go_simp; try with_reducible rfl)
            try simp only [Act.put, List.setIfInBounds_toArray, List.set_cons_zero, List.set_cons_succ]
            refine take_yes (i := 14) (v := ?_) rfl (by kernel_rfl) (by kernel_rfl) (by kernel_rfl) (fun _ _ _ h => h) (by kernel_rfl) ?_ (by assumption) ?_
            rotate_left
            · (intro w hSw; (try dsimp only at hSw); go_simp; try with_reducible rfl)
            try simp only [Act.put, List.setIfInBounds_toArray, List.set_cons_zero, List.set_cons_succ]
            refine take_yes (i := 15) (v := ?_) rfl (by kernel_rfl) (by kernel_rfl) (by kernel_rfl) (fun _ _ _ h => h) (by kernel_rfl) ?_ (by assumption) ?_
            rotate_left
            · (intro w hSw; (try dsimp only at hSw); go_simp; try with_reducible rfl)
            try simp only [Act.put, List.setIfInBounds_toArray, List.set_cons_zero, List.set_cons_succ]
            refine take_yes (i := 16) (v := ?_) rfl (by kernel_rfl) (by kernel_rfl) (by kernel_rfl) (fun _ _ _ h => h) (by kernel_rfl) ?_ (by assumption) ?_
            rotate_left
            · (intro w hSw; (try dsimp only at hSw); go_simp; try with_reducible rfl)
            try simp only [Act.put, List.setIfInBounds_toArray, List.set_cons_zero, List.set_cons_succ]
            refine take_yes (i := 17) (v := ?_) rfl (by kernel_rfl) (by kernel_rfl) (by kernel_rfl) (fun _ _ _ h => h) (by kernel_rfl) ?_ (by assumption) ?_
            rotate_left
            · (intro w hSw; (try dsimp only at hSw); go_simp; try with_reducible rfl)
            try simp only [Act.put, List.setIfInBounds_toArray, List.set_cons_zero, List.set_cons_succ]
            refine take_yes (i := 18) (v := ?_) rfl (by kernel_rfl) (by kernel_rfl) (by kernel_rfl) (fun _ _ _ h => h) (by kernel_rfl) ?_ (by assumption) ?_
            rotate_left
            · (intro w hSw; (try dsimp only at hSw); go_simp; try with_reducible rfl)
            try simp only [Act.put, List.setIfInBounds_toArray, List.set_cons_zero, List.set_cons_succ]
            refine take_yes (i := 19) (v := ?_) rfl (by kernel_rfl) (by kernel_rfl) (by kernel_rfl) (fun _ _ _ h => h) (by kernel_rfl) ?_ (by assumption) ?_
            rotate_left
            · (intro w hSw; (try dsimp only at hSw); go_simp; try with_reducible rfl)
            try simp only [Act.put, List.setIfInBounds_toArray, List.set_cons_zero, List.set_cons_succ]
            refine take_yes (i := 20) (v := ?_) rfl (by kernel_rfl) (by kernel_rfl) (by kernel_rfl) (fun _ _ _ h => h) (by kernel_rfl) ?_ (by assumption) ?_
            rotate_left
            · (intro w hSw; (try dsimp only at hSw); go_simp; try with_reducible rfl)
            try simp only [Act.put, List.setIfInBounds_toArray, List.set_cons_zero, List.set_cons_succ]
            refine take_yes (i := 21) (v := ?_) rfl (by kernel_rfl) (by kernel_rfl) (by kernel_rfl) (fun _ _ _ h => h) (by kernel_rfl) ?_ (by assumption) ?_
            rotate_left
            · (intro w hSw; (try dsimp only at hSw); go_simp; try with_reducible rfl)
            try simp only [Act.put, List.setIfInBounds_toArray, List.set_cons_zero, List.set_cons_succ]
            refine wpAnyH_ready (rs := [22]) (by kernel_rfl) (by simp) ?_
            refine AllReadyH.cons (of_drop rfl) (fun K hK => ?_) AllReadyH.nil
            go_simp
            (go_at_call 55; refine (HQ3.out _).mono ?_; rintro e w9 ⟨rfl, rfl⟩)
            go_wp2_with fail
            refine hK.out _ _ ?_ (fun hHeld2 => ?_)
            · exact ⟨z0, z1, z2, z3, z4, z5⟩
            clear hK K hHeld
            have hHeld := hHeld2
            clear hHeld2
            try simp only [Act.put, List.setIfInBounds_toArray, List.set_cons_zero, List.set_cons_succ]
            refine take_yes (i := 23) (v := ?_) rfl (by kernel_rfl) (by kernel_rfl) (by kernel_rfl) (fun _ _ _ h => h) (by kernel_rfl) ?_ (by assumption) ?_
            rotate_left
            · (intro w hSw; (try dsimp only at hSw); go_simp; try with_reducible rfl)
            try simp only [Act.put, List.setIfInBounds_toArray, List.set_cons_zero, List.set_cons_succ]
            refine take_yes (i := 24) (v := ?_) rfl (by kernel_rfl) (by kernel_rfl) (by kernel_rfl) (fun _ _ _ h => h) (by kernel_rfl) ?_ (by assumption) ?_
            rotate_left
            · (intro w hSw; (try dsimp only at hSw); go_simp; try with_reducible rfl)
            try simp only [Act.put, List.setIfInBounds_toArray, List.set_cons_zero, List.set_cons_succ]
            refine wpAnyH_done (by kernel_rfl) ?_ _
            refine NoPanic.normal ?_
            have HB8 := Lib.hid (HBi.out.drew.trans (hb8.mono (show w.heap.size + 1 ≤ _ by omega)))
            have hz8 : ((wo.alloc obi).drew).heap.size ≤ w8.heap.size := hb8.size
            clear hb8 HH
            go_wp2
            go_ret
            exact ⟨ret_bool (busy_no HY.out (by rw [itemOk_at (k := tn) rfl HX.out, HWHO.out, HDID.out]; simp)).symm, HB.out.trans (HB8.out.mono (by omega))⟩
        · have hwho' : inB yw 1 4 = false := by simpa using hwho
          have HWHO := Lib.hid hwho'
          have HQ2 := Lib.hid (show ∀ W, Calls Try.prog 68 #[.int .i64 yw] W fun e w'' => e = .returned (.bool false) ∧ W = w'' from fun q => by rw [← hwho']; exact isPerson_c _ _)
          clear hwho hwho'
          go_wp2
          rw [HOI.out]
          refine wp_region_noPanic ?_
          refine wp_region_held_drew (S := fun w' => w'.cell? ⟨w.heap.size, 0, none⟩ = some (.int .i64 n.places) ∧ w'.cell? ⟨w.heap.size, 1, none⟩ = some (.slice (some ⟨b, off, none⟩) n.tasks.length c) ∧ w'.cell? ⟨wo.heap.size, 0, none⟩ = some (.int .i64 (tn : Int)) ∧ w'.cell? ⟨wo.heap.size, 1, none⟩ = some (.int .i64 yw) ∧ w'.cell? ⟨wo.heap.size, 2, none⟩ = some (.int .i64 yd) ∧ w'.cell? ⟨b, off + tn * 9 + 8, none⟩ = some (.int .i64 t.need)) (by kernel_rfl) ?_ (fun hHeld => ?_)
          · exact ⟨x0, x1, x2, x3, x4, x5⟩
          refine take_yes (i := 0) (v := ?_) rfl (by kernel_rfl) (by kernel_rfl) (by kernel_rfl) (fun _ _ _ h => h) (by kernel_rfl) ?_ (by assumption) ?_
          rotate_left
          · (intro w hSw; (try dsimp only at hSw); go_simp; try with_reducible rfl)
          try simp only [Act.put, List.setIfInBounds_toArray, List.set_cons_zero, List.set_cons_succ]
          refine take_yes (i := 1) (v := ?_) rfl (by kernel_rfl) (by kernel_rfl) (by kernel_rfl) (fun _ _ _ h => h) (by kernel_rfl) ?_ (by assumption) ?_
          rotate_left
          · (intro w hSw; (try dsimp only at hSw); go_simp; try with_reducible rfl)
          try simp only [Act.put, List.setIfInBounds_toArray, List.set_cons_zero, List.set_cons_succ]
          refine take_yes (i := 2) (v := ?_) rfl (by kernel_rfl) (by kernel_rfl) (by kernel_rfl) (fun _ _ _ h => h) (by kernel_rfl) ?_ (by assumption) ?_
          rotate_left
          · (intro w hSw; (try dsimp only at hSw); go_simp; try with_reducible rfl)
          try simp only [Act.put, List.setIfInBounds_toArray, List.set_cons_zero, List.set_cons_succ]
          refine wpAnyH_ready (rs := [3]) (by kernel_rfl) (by simp) ?_
          refine AllReadyH.cons (of_drop rfl) (fun K hK => ?_) AllReadyH.nil
          go_simp
          (go_at_call 35; refine HH.out.mono ?_; rintro e w8 ⟨rfl, hb8⟩; have z0 := (hb8.cell (p := ⟨w.heap.size, 0, none⟩) hq0).trans x0; have z1 := (hb8.cell (p := ⟨w.heap.size, 1, none⟩) hq0).trans x1; have z2 := (hb8.cell (p := ⟨wo.heap.size, 0, none⟩) hq1).trans x2; have z3 := (hb8.cell (p := ⟨wo.heap.size, 1, none⟩) hq1).trans x3; have z4 := (hb8.cell (p := ⟨wo.heap.size, 2, none⟩) hq1).trans x4; have z5 := (hb8.cell (p := ⟨b, off + tn * 9 + 8, none⟩) hq2).trans x5)
          go_wp2_with fail
          refine hK.out _ _ ?_ (fun hHeld2 => ?_)
          · exact ⟨z0, z1, z2, z3, z4, z5⟩
          clear hK K hHeld
          have hHeld := hHeld2
          clear hHeld2
          try simp only [Act.put, List.setIfInBounds_toArray, List.set_cons_zero, List.set_cons_succ]
          refine take_yes (i := 4) (v := ?_) rfl (by kernel_rfl) (by kernel_rfl) (by kernel_rfl) (fun _ _ _ h => h) (by kernel_rfl) ?_ (by assumption) ?_
          rotate_left
          · (intro w hSw; (try dsimp only at hSw); go_simp; try with_reducible rfl)
          try simp only [Act.put, List.setIfInBounds_toArray, List.set_cons_zero, List.set_cons_succ]
          refine take_yes (i := 5) (v := ?_) rfl (by kernel_rfl) (by kernel_rfl) (by kernel_rfl) (fun _ _ _ h => h) (by kernel_rfl) ?_ (by assumption) ?_
          rotate_left
          · (intro w hSw; (try dsimp only at hSw); go_simp; try with_reducible rfl)
          try simp only [Act.put, List.setIfInBounds_toArray, List.set_cons_zero, List.set_cons_succ]
          refine take_yes (i := 6) (v := ?_) rfl (by kernel_rfl) (by kernel_rfl) (by kernel_rfl) (fun _ _ _ h => h) (by kernel_rfl) ?_ (by assumption) ?_
          rotate_left
          · (intro w hSw; (try dsimp only at hSw); go_simp; try with_reducible rfl)
          try simp only [Act.put, List.setIfInBounds_toArray, List.set_cons_zero, List.set_cons_succ]
          refine take_yes (i := 7) (v := ?_) rfl (by kernel_rfl) (by kernel_rfl) (by kernel_rfl) (fun _ _ _ h => h) (by kernel_rfl) ?_ (by assumption) ?_
          rotate_left
          · (intro w hSw; (try dsimp only at hSw); go_simp; try with_reducible rfl)
          try simp only [Act.put, List.setIfInBounds_toArray, List.set_cons_zero, List.set_cons_succ]
          refine wpAnyH_ready (rs := [8]) (by kernel_rfl) (by simp) ?_
          refine AllReadyH.cons (of_drop rfl) (fun K hK => ?_) AllReadyH.nil
          go_simp
          (go_at_call 68; refine (HQ2.out _).mono ?_; rintro e w9 ⟨rfl, rfl⟩)
          go_wp2_with fail
          refine hK.out _ _ ?_ (fun hHeld2 => ?_)
          · exact ⟨z0, z1, z2, z3, z4, z5⟩
          clear hK K hHeld
          have hHeld := hHeld2
          clear hHeld2
          try simp only [Act.put, List.setIfInBounds_toArray, List.set_cons_zero, List.set_cons_succ]
          refine take_yes (i := 9) (v := ?_) rfl (by kernel_rfl) (by kernel_rfl) (by kernel_rfl) (fun _ _ _ h => h) (by kernel_rfl) ?_ (by assumption) ?_
          rotate_left
          · (intro w hSw; (try dsimp only at hSw); go_simp; try with_reducible rfl)
          try simp only [Act.put, List.setIfInBounds_toArray, List.set_cons_zero, List.set_cons_succ]
          refine take_yes (i := 10) (v := ?_) rfl (by kernel_rfl) (by kernel_rfl) (by kernel_rfl) (fun _ _ _ h => h) (by kernel_rfl) ?_ (by assumption) ?_
          rotate_left
          · (intro w hSw; (try dsimp only at hSw); go_simp; try with_reducible rfl)
          try simp only [Act.put, List.setIfInBounds_toArray, List.set_cons_zero, List.set_cons_succ]
          refine take_yes (i := 11) (v := ?_) rfl (by kernel_rfl) (by kernel_rfl) (by kernel_rfl) (fun _ _ _ h => h) (by kernel_rfl) ?_ (by assumption) ?_
          rotate_left
          · (intro w hSw; (try dsimp only at hSw); go_simp; try with_reducible rfl)
          try simp only [Act.put, List.setIfInBounds_toArray, List.set_cons_zero, List.set_cons_succ]
          refine take_no (i := 12) rfl (by kernel_rfl) (by kernel_rfl) (by kernel_rfl) (fun _ _ _ h => h) (by kernel_rfl) (by assumption) ?_
          try simp only [Act.put, List.setIfInBounds_toArray, List.set_cons_zero, List.set_cons_succ]
          refine take_no (i := 13) rfl (by kernel_rfl) (by kernel_rfl) (by kernel_rfl) (fun _ _ _ h => h) (by kernel_rfl) (by assumption) ?_
          try simp only [Act.put, List.setIfInBounds_toArray, List.set_cons_zero, List.set_cons_succ]
          refine take_no (i := 14) rfl (by kernel_rfl) (by kernel_rfl) (by kernel_rfl) (fun _ _ _ h => h) (by kernel_rfl) (by assumption) ?_
          try simp only [Act.put, List.setIfInBounds_toArray, List.set_cons_zero, List.set_cons_succ]
          refine take_no (i := 15) rfl (by kernel_rfl) (by kernel_rfl) (by kernel_rfl) (fun _ _ _ h => h) (by kernel_rfl) (by assumption) ?_
          try simp only [Act.put, List.setIfInBounds_toArray, List.set_cons_zero, List.set_cons_succ]
          refine take_no (i := 16) rfl (by kernel_rfl) (by kernel_rfl) (by kernel_rfl) (fun _ _ _ h => h) (by kernel_rfl) (by assumption) ?_
          try simp only [Act.put, List.setIfInBounds_toArray, List.set_cons_zero, List.set_cons_succ]
          refine take_no (i := 17) rfl (by kernel_rfl) (by kernel_rfl) (by kernel_rfl) (fun _ _ _ h => h) (by kernel_rfl) (by assumption) ?_
          try simp only [Act.put, List.setIfInBounds_toArray, List.set_cons_zero, List.set_cons_succ]
          refine take_no (i := 18) rfl (by kernel_rfl) (by kernel_rfl) (by kernel_rfl) (fun _ _ _ h => h) (by kernel_rfl) (by assumption) ?_
          try simp only [Act.put, List.setIfInBounds_toArray, List.set_cons_zero, List.set_cons_succ]
          refine take_no (i := 19) rfl (by kernel_rfl) (by kernel_rfl) (by kernel_rfl) (fun _ _ _ h => h) (by kernel_rfl) (by assumption) ?_
          try simp only [Act.put, List.setIfInBounds_toArray, List.set_cons_zero, List.set_cons_succ]
          refine take_no (i := 20) rfl (by kernel_rfl) (by kernel_rfl) (by kernel_rfl) (fun _ _ _ h => h) (by kernel_rfl) (by assumption) ?_
          try simp only [Act.put, List.setIfInBounds_toArray, List.set_cons_zero, List.set_cons_succ]
          refine take_no (i := 21) rfl (by kernel_rfl) (by kernel_rfl) (by kernel_rfl) (fun _ _ _ h => h) (by kernel_rfl) (by assumption) ?_
          try simp only [Act.put, List.setIfInBounds_toArray, List.set_cons_zero, List.set_cons_succ]
          refine take_no (i := 22) rfl (by kernel_rfl) (by kernel_rfl) (by kernel_rfl) (fun _ _ _ h => h) (by kernel_rfl) (by assumption) ?_
          try simp only [Act.put, List.setIfInBounds_toArray, List.set_cons_zero, List.set_cons_succ]
          refine take_no (i := 23) rfl (by kernel_rfl) (by kernel_rfl) (by kernel_rfl) (fun _ _ _ h => h) (by kernel_rfl) (by assumption) ?_
          try simp only [Act.put, List.setIfInBounds_toArray, List.set_cons_zero, List.set_cons_succ]
          refine take_yes (i := 24) (v := ?_) rfl (by kernel_rfl) (by kernel_rfl) (by kernel_rfl) (fun _ _ _ h => h) (by kernel_rfl) ?_ (by assumption) ?_
          rotate_left
          · (intro w hSw; (try dsimp only at hSw); go_simp; try with_reducible rfl)
          try simp only [Act.put, List.setIfInBounds_toArray, List.set_cons_zero, List.set_cons_succ]
          refine wpAnyH_done (by kernel_rfl) ?_ _
          refine NoPanic.normal ?_
          have HB8 := Lib.hid (HBi.out.drew.trans (hb8.mono (show w.heap.size + 1 ≤ _ by omega)))
          have hz8 : ((wo.alloc obi).drew).heap.size ≤ w8.heap.size := hb8.size
          clear hb8 HH
          go_wp2
          go_ret
          exact ⟨ret_bool (busy_no HY.out (by rw [itemOk_at (k := tn) rfl HX.out, HWHO.out]; simp)).symm, HB.out.trans (HB8.out.mono (by omega))⟩
      · have ha' : inB yt 0 ((n.tasks.length : Int) - 1) = false := by simpa using ha
        have HA := Lib.hid ha'
        rw [ha'] at hH
        have HH := Lib.hid hH
        have hq0 : w.heap.size < ((wo.alloc obi).drew).heap.size := by omega
        have hq1 : wo.heap.size < ((wo.alloc obi).drew).heap.size := by omega
        clear ha ha' hH
        go_wp2
        rw [HOI.out]
        refine wp_region_noPanic ?_
        refine wp_region_held_drew (S := fun w' => w'.cell? ⟨w.heap.size, 0, none⟩ = some (.int .i64 n.places) ∧ w'.cell? ⟨w.heap.size, 1, none⟩ = some (.slice A n.tasks.length c) ∧ w'.cell? ⟨wo.heap.size, 0, none⟩ = some (.int .i64 yt) ∧ w'.cell? ⟨wo.heap.size, 1, none⟩ = some (.int .i64 yw) ∧ w'.cell? ⟨wo.heap.size, 2, none⟩ = some (.int .i64 yd)) (by kernel_rfl) ?_ (fun hHeld => ?_)
        · exact ⟨x0, x1, x2, x3, x4⟩
        refine take_yes (i := 0) (v := ?_) rfl (by kernel_rfl) (by kernel_rfl) (by kernel_rfl) (fun _ _ _ h => h) (by kernel_rfl) ?_ (by assumption) ?_
        rotate_left
        · (intro w hSw; (try dsimp only at hSw); go_simp; try with_reducible rfl)
        try simp only [Act.put, List.setIfInBounds_toArray, List.set_cons_zero, List.set_cons_succ]
        refine take_yes (i := 1) (v := ?_) rfl (by kernel_rfl) (by kernel_rfl) (by kernel_rfl) (fun _ _ _ h => h) (by kernel_rfl) ?_ (by assumption) ?_
        rotate_left
        · (intro w hSw; (try dsimp only at hSw); go_simp; try with_reducible rfl)
        try simp only [Act.put, List.setIfInBounds_toArray, List.set_cons_zero, List.set_cons_succ]
        refine take_yes (i := 2) (v := ?_) rfl (by kernel_rfl) (by kernel_rfl) (by kernel_rfl) (fun _ _ _ h => h) (by kernel_rfl) ?_ (by assumption) ?_
        rotate_left
        · (intro w hSw; (try dsimp only at hSw); go_simp; try with_reducible rfl)
        try simp only [Act.put, List.setIfInBounds_toArray, List.set_cons_zero, List.set_cons_succ]
        refine wpAnyH_ready (rs := [3]) (by kernel_rfl) (by simp) ?_
        refine AllReadyH.cons (of_drop rfl) (fun K hK => ?_) AllReadyH.nil
        go_simp
        (go_at_call 35; refine HH.out.mono ?_; rintro e w8 ⟨rfl, hb8⟩; have z0 := (hb8.cell (p := ⟨w.heap.size, 0, none⟩) hq0).trans x0; have z1 := (hb8.cell (p := ⟨w.heap.size, 1, none⟩) hq0).trans x1; have z2 := (hb8.cell (p := ⟨wo.heap.size, 0, none⟩) hq1).trans x2; have z3 := (hb8.cell (p := ⟨wo.heap.size, 1, none⟩) hq1).trans x3; have z4 := (hb8.cell (p := ⟨wo.heap.size, 2, none⟩) hq1).trans x4)
        go_wp2_with fail
        refine hK.out _ _ ?_ (fun hHeld2 => ?_)
        · exact ⟨z0, z1, z2, z3, z4⟩
        clear hK K hHeld
        have hHeld := hHeld2
        clear hHeld2
        try simp only [Act.put, List.setIfInBounds_toArray, List.set_cons_zero, List.set_cons_succ]
        refine take_yes (i := 4) (v := ?_) rfl (by kernel_rfl) (by kernel_rfl) (by kernel_rfl) (fun _ _ _ h => h) (by kernel_rfl) ?_ (by assumption) ?_
        rotate_left
        · (intro w hSw; (try dsimp only at hSw); go_simp; try with_reducible rfl)
        try simp only [Act.put, List.setIfInBounds_toArray, List.set_cons_zero, List.set_cons_succ]
        refine take_yes (i := 5) (v := ?_) rfl (by kernel_rfl) (by kernel_rfl) (by kernel_rfl) (fun _ _ _ h => h) (by kernel_rfl) ?_ (by assumption) ?_
        rotate_left
        · (intro w hSw; (try dsimp only at hSw); go_simp; try with_reducible rfl)
        try simp only [Act.put, List.setIfInBounds_toArray, List.set_cons_zero, List.set_cons_succ]
        refine take_no (i := 6) rfl (by kernel_rfl) (by kernel_rfl) (by kernel_rfl) (fun _ _ _ h => h) (by kernel_rfl) (by assumption) ?_
        try simp only [Act.put, List.setIfInBounds_toArray, List.set_cons_zero, List.set_cons_succ]
        refine take_no (i := 7) rfl (by kernel_rfl) (by kernel_rfl) (by kernel_rfl) (fun _ _ _ h => h) (by kernel_rfl) (by assumption) ?_
        try simp only [Act.put, List.setIfInBounds_toArray, List.set_cons_zero, List.set_cons_succ]
        refine take_no (i := 8) rfl (by kernel_rfl) (by kernel_rfl) (by kernel_rfl) (fun _ _ _ h => h) (by kernel_rfl) (by assumption) ?_
        try simp only [Act.put, List.setIfInBounds_toArray, List.set_cons_zero, List.set_cons_succ]
        refine take_no (i := 9) rfl (by kernel_rfl) (by kernel_rfl) (by kernel_rfl) (fun _ _ _ h => h) (by kernel_rfl) (by assumption) ?_
        try simp only [Act.put, List.setIfInBounds_toArray, List.set_cons_zero, List.set_cons_succ]
        refine take_yes (i := 10) (v := ?_) rfl (by kernel_rfl) (by kernel_rfl) (by kernel_rfl) (fun _ _ _ h => h) (by kernel_rfl) ?_ (by assumption) ?_
        rotate_left
        · (intro w hSw; (try dsimp only at hSw); go_simp; try with_reducible rfl)
        try simp only [Act.put, List.setIfInBounds_toArray, List.set_cons_zero, List.set_cons_succ]
        refine take_yes (i := 11) (v := ?_) rfl (by kernel_rfl) (by kernel_rfl) (by kernel_rfl) (fun _ _ _ h => h) (by kernel_rfl) ?_ (by assumption) ?_
        rotate_left
        · (intro w hSw; (try dsimp only at hSw); go_simp; try with_reducible rfl)
        try simp only [Act.put, List.setIfInBounds_toArray, List.set_cons_zero, List.set_cons_succ]
        refine take_no (i := 12) rfl (by kernel_rfl) (by kernel_rfl) (by kernel_rfl) (fun _ _ _ h => h) (by kernel_rfl) (by assumption) ?_
        try simp only [Act.put, List.setIfInBounds_toArray, List.set_cons_zero, List.set_cons_succ]
        refine take_no (i := 13) rfl (by kernel_rfl) (by kernel_rfl) (by kernel_rfl) (fun _ _ _ h => h) (by kernel_rfl) (by assumption) ?_
        try simp only [Act.put, List.setIfInBounds_toArray, List.set_cons_zero, List.set_cons_succ]
        refine take_no (i := 14) rfl (by kernel_rfl) (by kernel_rfl) (by kernel_rfl) (fun _ _ _ h => h) (by kernel_rfl) (by assumption) ?_
        try simp only [Act.put, List.setIfInBounds_toArray, List.set_cons_zero, List.set_cons_succ]
        refine take_no (i := 15) rfl (by kernel_rfl) (by kernel_rfl) (by kernel_rfl) (fun _ _ _ h => h) (by kernel_rfl) (by assumption) ?_
        try simp only [Act.put, List.setIfInBounds_toArray, List.set_cons_zero, List.set_cons_succ]
        refine take_no (i := 16) rfl (by kernel_rfl) (by kernel_rfl) (by kernel_rfl) (fun _ _ _ h => h) (by kernel_rfl) (by assumption) ?_
        try simp only [Act.put, List.setIfInBounds_toArray, List.set_cons_zero, List.set_cons_succ]
        refine take_no (i := 17) rfl (by kernel_rfl) (by kernel_rfl) (by kernel_rfl) (fun _ _ _ h => h) (by kernel_rfl) (by assumption) ?_
        try simp only [Act.put, List.setIfInBounds_toArray, List.set_cons_zero, List.set_cons_succ]
        refine take_no (i := 18) rfl (by kernel_rfl) (by kernel_rfl) (by kernel_rfl) (fun _ _ _ h => h) (by kernel_rfl) (by assumption) ?_
        try simp only [Act.put, List.setIfInBounds_toArray, List.set_cons_zero, List.set_cons_succ]
        refine take_no (i := 19) rfl (by kernel_rfl) (by kernel_rfl) (by kernel_rfl) (fun _ _ _ h => h) (by kernel_rfl) (by assumption) ?_
        try simp only [Act.put, List.setIfInBounds_toArray, List.set_cons_zero, List.set_cons_succ]
        refine take_no (i := 20) rfl (by kernel_rfl) (by kernel_rfl) (by kernel_rfl) (fun _ _ _ h => h) (by kernel_rfl) (by assumption) ?_
        try simp only [Act.put, List.setIfInBounds_toArray, List.set_cons_zero, List.set_cons_succ]
        refine take_no (i := 21) rfl (by kernel_rfl) (by kernel_rfl) (by kernel_rfl) (fun _ _ _ h => h) (by kernel_rfl) (by assumption) ?_
        try simp only [Act.put, List.setIfInBounds_toArray, List.set_cons_zero, List.set_cons_succ]
        refine take_no (i := 22) rfl (by kernel_rfl) (by kernel_rfl) (by kernel_rfl) (fun _ _ _ h => h) (by kernel_rfl) (by assumption) ?_
        try simp only [Act.put, List.setIfInBounds_toArray, List.set_cons_zero, List.set_cons_succ]
        refine take_no (i := 23) rfl (by kernel_rfl) (by kernel_rfl) (by kernel_rfl) (fun _ _ _ h => h) (by kernel_rfl) (by assumption) ?_
        try simp only [Act.put, List.setIfInBounds_toArray, List.set_cons_zero, List.set_cons_succ]
        refine take_yes (i := 24) (v := ?_) rfl (by kernel_rfl) (by kernel_rfl) (by kernel_rfl) (fun _ _ _ h => h) (by kernel_rfl) ?_ (by assumption) ?_
        rotate_left
        · (intro w hSw; (try dsimp only at hSw); go_simp; try with_reducible rfl)
        try simp only [Act.put, List.setIfInBounds_toArray, List.set_cons_zero, List.set_cons_succ]
        refine wpAnyH_done (by kernel_rfl) ?_ _
        refine NoPanic.normal ?_
        have HB8 := Lib.hid (HBi.out.drew.trans (hb8.mono (show w.heap.size + 1 ≤ _ by omega)))
        have hz8 : ((wo.alloc obi).drew).heap.size ≤ w8.heap.size := hb8.size
        clear hb8 HH
        go_wp2
        go_ret
        exact ⟨ret_bool (busy_no HY.out (itemOk_no HA.out)).symm, HB.out.trans (HB8.out.mono (by omega))⟩
    · go_wp2
      go_ret
      refine ⟨ret_bool ?_, HB.out.trans (HBo.out.mono (by omega))⟩
      rw [busyB, all_of (p := itemOk n) (fun j y hj hy => HNN.out j y hj (by omega) hy)]
      by_cases h6 : bs.length ≤ 6
      · simp [h6]; omega
      · simp [h6]; omega
end Go.Proofs.Ytkcbghaadjhceaa
