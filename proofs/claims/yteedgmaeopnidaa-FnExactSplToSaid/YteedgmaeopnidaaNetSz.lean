/- A net's size as the laws reckon it, and the conversion of a whole net. -/
import Derived.Test.YteedgmaeopnidaaNetTo
namespace Go.Proofs.Yteedgmaeopnidaa
open Go.RowKit
set_option linter.unusedVariables false
set_option linter.unusedSimpArgs false

/-- What is left behind a size is taken off; -1, if that is too much. -/
def cutI (left s : Int) : Int := if s ≤ left then left - s else -1
theorem cutI_pos {l s : Int} (h : s ≤ l) : cutI l s = l - s := if_pos h
theorem cutI_neg {l s : Int} (h : ¬ s ≤ l) : cutI l s = -1 := if_neg h
def taskSize (t : NTask) : Int := (t.ins.length : Int) + ((t.out.length : Int) + (t.clear.length : Int))
def tasksSize (ts : List NTask) : Int := (ts.map taskSize).sum
theorem taskSize_pos (t : NTask) : 0 ≤ taskSize t := by unfold taskSize; omega
theorem tasksSize_pos : ∀ (ts : List NTask), 0 ≤ tasksSize ts
  | [] => by simp [tasksSize]
  | t :: r => by
    have := tasksSize_pos r
    have := taskSize_pos t
    simp only [tasksSize, List.map_cons, List.sum_cons] at *; omega
theorem tasksSize_append (a b : List NTask) : tasksSize (a ++ b) = tasksSize a + tasksSize b := by simp [tasksSize]
theorem tasksSize_mem {ts : List NTask} {t : NTask} (h : t ∈ ts) : taskSize t ≤ tasksSize ts := by
  obtain ⟨a, b, rfl⟩ := List.append_of_mem h
  rw [tasksSize_append, show (t :: b) = [t] ++ b from rfl, tasksSize_append]
  have := tasksSize_pos a; have := tasksSize_pos b
  simp [tasksSize] at *; omega
theorem tasksSize_take (ts : List NTask) (k : Nat) : tasksSize (ts.take k) ≤ tasksSize ts := by
  have h := tasksSize_append (ts.take k) (ts.drop k)
  rw [List.take_append_drop] at h
  have := tasksSize_pos (ts.drop k); omega
def netSize (n : NNet) : Int := (n.tasks.length : Int) + tasksSize n.tasks

theorem szIntS_c (n : Nat) (A : Option Addr) (c : Nat) (left : Int) (w : World) (hn : n ≤ maxLen) (h0 : 0 ≤ left) (h1 : left ≤ 1048576) :
    Calls Try.prog 43 #[.slice A n c, .int .i64 left] w fun e w' => e = .returned (.int .i64 (cutI left n)) ∧ w = w' := by
  unfold maxLen at hn
  go_enter Try.func43, Try.ntmps43
  go_wp2
  · go_ret; exact ⟨ret_int (by unfold cutI; rw [if_neg (by omega)]), rfl⟩
  · go_ret; exact ⟨ret_int (by unfold cutI; rw [if_pos (by omega)]), rfl⟩
theorem szNetFlowS_c (n : Nat) (A : Option Addr) (c : Nat) (left : Int) (w : World) (hn : n ≤ maxLen) (h0 : 0 ≤ left) (h1 : left ≤ 1048576) :
    Calls Try.prog 44 #[.slice A n c, .int .i64 left] w fun e w' => e = .returned (.int .i64 (cutI left n)) ∧ w = w' := by
  unfold maxLen at hn
  go_enter Try.func44, Try.ntmps44
  go_wp2
  · go_ret; exact ⟨ret_int (by unfold cutI; rw [if_neg (by omega)]), rfl⟩
  · go_ret; exact ⟨ret_int (by unfold cutI; rw [if_pos (by omega)]), rfl⟩

theorem szNetTask_c (t : NTask) (A1 A2 A3 : Option Addr) (c1 c2 c3 : Nat) (left : Int) (w : World) (m1 : t.ins.length ≤ maxLen) (m2 : t.out.length ≤ maxLen) (m3 : t.clear.length ≤ maxLen) (h0 : 0 ≤ left) (h1 : left ≤ 1048576) :
    Calls Try.prog 18 #[.agg #[.int .i64 t.join, .int .i64 t.split, .slice A1 t.ins.length c1, .slice A2 t.out.length c2, .slice A3 t.clear.length c3, .int .i64 t.role, .int .i64 t.apart, .int .i64 t.all, .int .i64 t.need], .int .i64 left] w
      fun e w' => e = .returned (.int .i64 (cutI left (taskSize t))) ∧ Below w.heap.size w w' := by
  generalize ha : t.ins.length = a at *
  generalize hb : t.out.length = b at *
  generalize hc : t.clear.length = c at *
  have hts : taskSize t = a + (b + c) := by unfold taskSize; rw [ha, hb, hc]
  rw [hts]
  clear ha hb hc hts
  go_enter Try.func18, Try.ntmps18
  go_wp2_with fail
  refine (szIntS_c a A1 c1 left _ m1 h0 h1).mono ?_
  rintro e w1 ⟨rfl, rfl⟩
  by_cases x1 : (a : Int) ≤ left
  · rw [cutI_pos x1]
    go_wp2_with fail
    refine (szNetFlowS_c b A2 c2 (left - a) _ m2 (by omega) (by omega)).mono ?_
    rintro e w1 ⟨rfl, rfl⟩
    by_cases x2 : (b : Int) ≤ left - a
    · rw [cutI_pos x2]
      go_wp2_with fail
      refine (szIntS_c c A3 c3 (left - a - b) _ m3 (by omega) (by omega)).mono ?_
      rintro e w1 ⟨rfl, rfl⟩
      by_cases x3 : (c : Int) ≤ left - a - b
      · rw [cutI_pos x3]
        go_wp2
        go_ret
        exact ⟨ret_int (by rw [cutI_pos (by omega)]; omega), (Below.refl _ _).alloc (Nat.le_refl _) _⟩
      · rw [cutI_neg x3]
        go_wp2
        go_ret
        exact ⟨ret_int (by rw [cutI_neg (by omega)]), (Below.refl _ _).alloc (Nat.le_refl _) _⟩
    · rw [cutI_neg x2]
      go_wp2
      go_ret
      exact ⟨ret_int (by rw [cutI_neg (by omega)]), (Below.refl _ _).alloc (Nat.le_refl _) _⟩
  · rw [cutI_neg x1]
    go_wp2
    go_ret
    exact ⟨ret_int (by rw [cutI_neg (by omega)]), (Below.refl _ _).alloc (Nat.le_refl _) _⟩

theorem TaskV.lens {w : World} {lo hi : Nat} {t : NTask} {vi vo vc : Value} (h : TaskV w lo hi t vi vo vc) : t.ins.length ≤ maxLen ∧ t.out.length ≤ maxLen ∧ t.clear.length ≤ maxLen := by
  obtain ⟨⟨_, _, _, _, _, h1, _⟩, ⟨_, _, _, _, _, h2, _⟩, ⟨_, _, _, _, _, h3, _⟩⟩ := h
  exact ⟨h1, h2, h3⟩

theorem szNetTaskS_c (ts : List NTask) (ms : List TaskM) (lo hi lo2 hi2 : Nat) (A : Option Addr) (b off c : Nat) (left : Int) (w : World) (hV : TasksV w lo hi lo2 hi2 A b off ts ms) (hhi : hi ≤ w.heap.size) (hm : ts.length ≤ maxLen) (h0 : 0 ≤ left) (h1 : left ≤ 1048576) :
    Calls Try.prog 48 #[.slice A ts.length c, .int .i64 left] w fun e w' => e = .returned (.int .i64 (cutI left (ts.length + tasksSize ts))) ∧ Below w.heap.size w w' := by
  unfold maxLen at hm
  have hp := tasksSize_pos ts
  go_enter Try.func48, Try.ntmps48
  by_cases hbig : (ts.length : Int) ≤ left
  · go_wp2
    go_loopw [1, 5] (fun l i wr => ∃ (k : Nat), k ≤ ts.length ∧ i = .int .i64 k ∧ l = .int .i64 (left - ts.length - tasksSize (ts.take k)) ∧ tasksSize (ts.take k) ≤ left - ts.length ∧ Below w.heap.size w wr) (fun _ i _ => ts.length - (intOf i).toNat)
    case atStart => exact ⟨0, Nat.zero_le _, rfl, by simp [tasksSize], by simp [tasksSize]; omega, Below.refl _ _⟩
    case round =>
      obtain ⟨k, hk, rfl, rfl, hle, hb⟩ := hrel
      by_cases hlt : k < ts.length
      · obtain ⟨rfl, _, h3, t, vi, vo, vc, hx, _, hT, ⟨c0, c1, c2, c3, c4, c5, c6, c7, c8⟩, _⟩ := hV.task hlt
        obtain ⟨A1, q1, A2, q2, A3, q3, rfl, rfl, rfl⟩ := hT.forms
        have d0 := (hb.cell (p := ⟨b, off + k * 9, none⟩) (by show b < _; omega)).trans c0
        have d1 := (hb.cell (p := ⟨b, off + k * 9 + 1, none⟩) (by show b < _; omega)).trans c1
        have d2 := (hb.cell (p := ⟨b, off + k * 9 + 2, none⟩) (by show b < _; omega)).trans c2
        have d3 := (hb.cell (p := ⟨b, off + k * 9 + 3, none⟩) (by show b < _; omega)).trans c3
        have d4 := (hb.cell (p := ⟨b, off + k * 9 + 4, none⟩) (by show b < _; omega)).trans c4
        have d5 := (hb.cell (p := ⟨b, off + k * 9 + 5, none⟩) (by show b < _; omega)).trans c5
        have d6 := (hb.cell (p := ⟨b, off + k * 9 + 6, none⟩) (by show b < _; omega)).trans c6
        have d7 := (hb.cell (p := ⟨b, off + k * 9 + 7, none⟩) (by show b < _; omega)).trans c7
        have d8 := (hb.cell (p := ⟨b, off + k * 9 + 8, none⟩) (by show b < _; omega)).trans c8
        clear c0 c1 c2 c3 c4 c5 c6 c7 c8
        have hl := hT.lens
        have HB := Lib.hid hb
        have hk0 := tasksSize_pos (ts.take k)
        have hstep : tasksSize (ts.take (k + 1)) = tasksSize (ts.take k) + taskSize t := by rw [take_succ_of hx, tasksSize_append]; simp [tasksSize]
        have htk := tasksSize_take ts (k + 1)
        have HST := Lib.hid hstep
        have HTK := Lib.hid htk
        have HLE := Lib.hid hle
        have HK0 := Lib.hid hk0
        generalize tasksSize (ts.take k) = s at *
        clear hb hT hx htk hV
        go_wp2_with fail
        refine (szNetTask_c t A1 A2 A3 q1 q2 q3 (left - ts.length - s) wr hl.1 hl.2.1 hl.2.2 (by omega) (by omega)).mono ?_
        rintro e w2 ⟨rfl, hb2⟩
        have HB2 := Lib.hid (HB.out.trans (hb2.mono HB.out.size))
        clear hb2
        by_cases x1 : taskSize t ≤ left - ts.length - s
        · rw [cutI_pos x1]
          have HX1 := Lib.hid x1
          generalize hq : taskSize t = q at x1
          have HQ := Lib.hid hq
          have hq0 := taskSize_pos t
          rw [hq] at hq0 
          clear hq hstep hk0
          go_wp2
          go_roundw
          case rel => exact ⟨k + 1, by omega, by go_num, by rw [HST.out, HQ.out]; go_num, by rw [HST.out, HQ.out]; omega, HB2.out⟩
          case measure => simp [intOf]; omega
        · rw [cutI_neg x1]
          have HX1 := Lib.hid x1
          clear x1 hstep
          go_wp2
          go_ret
          exact ⟨ret_int (by have := HTK.out; have := HST.out; have := HX1.out; rw [cutI_neg (by omega)]), HB2.out⟩
      · have hkn : k = ts.length := by omega
        subst hkn
        rw [List.take_length] at hle ⊢
        have HB := Lib.hid hb
        clear hb hV
        go_wp2
        go_ret
        exact ⟨ret_int (by rw [cutI_pos (by omega)]; omega), HB.out⟩
  · go_wp2
    go_ret
    exact ⟨ret_int (by rw [cutI_neg (by omega)]), Below.refl _ _⟩
end Go.Proofs.Yteedgmaeopnidaa
