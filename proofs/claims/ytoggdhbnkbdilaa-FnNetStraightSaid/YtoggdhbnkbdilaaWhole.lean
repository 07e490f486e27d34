/- Whether every place can be come to, and the end from every place: the program and the reference. -/
import Derived.Test.YtoggdhbnkbdilaaNetReach
import Derived.Test.YtoggdhbnkbdilaaAsc
namespace Go.Proofs.Ytoggdhbnkbdilaa
open Go.RowKit
set_option linter.unusedVariables false
set_option linter.unusedSimpArgs false

/-- What can be come to from place p. -/
def fromP (n : NNet) (p : Nat) : List Bool := reachAll n (-1) (single n.places.toNat (p : Int))
theorem fromP_length (n : NNet) (p : Nat) : (fromP n p).length = n.places.toNat := by rw [fromP, reachAll_length, single_length]
theorem fromP_reachN {n : NNet} (h : netOk n = true) {p : Nat} (hp : (p : Int) < n.places) : reachN n (p : Int) (-1) = fromP n p := reachN_yes h (by rw [inB_iff]; omega)
def wholeB (n : NNet) : Bool := netOk n && ((List.range n.places.toNat).all (fun p => (fromP n 0).getD p false) && (List.range n.places.toNat).all (fun p => (fromP n p).getD 1 false))
theorem whole_no {n : NNet} (h : netOk n = false) : wholeB n = false := by rw [wholeB, h]; rfl
theorem whole_yes {n : NNet} (h : netOk n = true) (h1 : ∀ p, p < n.places.toNat → (fromP n 0).getD p false = true) (h2 : ∀ p, p < n.places.toNat → (fromP n p).getD 1 false = true) : wholeB n = true := by
  rw [wholeB, h, all_range h1, all_range h2]; rfl
theorem whole_no1 {n : NNet} {p : Nat} (hp : p < n.places.toNat) (h : (fromP n 0).getD p false = false) : wholeB n = false := by
  rw [wholeB, not_all_range hp h]; simp
theorem whole_no2 {n : NNet} {p : Nat} (hp : p < n.places.toNat) (h : (fromP n p).getD 1 false = false) : wholeB n = false := by
  rw [wholeB, not_all_range (p := fun p => (fromP n p).getD 1 false) hp h]; simp

theorem indexBool_c (zs : List Bool) (lo hi : Nat) (A : Option Addr) (b off c : Nat) (z : Bool) (w : World) (hV : Row w lo hi A b off (bools zs)) (hm : zs.length ≤ maxLen) :
    Calls Try.prog 88 #[.slice A zs.length c, .bool z] w fun e w' => e = .returned (.int .i64 (idxFrom (fun x => z == x) 0 zs)) ∧ w = w' := by
  unfold maxLen at hm
  go_enter Try.func88, Try.ntmps88
  go_wp2
  go_loop [8] (fun i => ∃ k : Nat, k ≤ zs.length ∧ i = .int .i64 k ∧ (∀ j y, j < k → zs[j]? = some y → (z == y) = false)) (fun i => zs.length - (intOf i).toNat)
  case atStart => exact ⟨0, Nat.zero_le _, rfl, fun j y hj => absurd hj (Nat.not_lt_zero _)⟩
  case round =>
    obtain ⟨k, hk, rfl, hn⟩ := hrel
    have HN := Lib.hid hn
    clear hn
    by_cases hlt : k < zs.length
    · obtain ⟨rfl, _, _, x, hx, hc, _⟩ := hV.bool hlt
      have HX := Lib.hid hx
      clear hx
      by_cases hxz : (z == x) = true
      · have HZ := Lib.hid hxz
        go_wp2
        go_ret
        exact ⟨ret_int (by rw [idxFrom_at (fun x => z == x) zs 0 k x HX.out HZ.out (fun i y hi hy => HN.out i y hi hy)]; simp), rfl⟩
      · have hxz' : (z == x) = false := by simpa using hxz
        have HZ := Lib.hid hxz'
        clear hxz
        go_wp2
        go_round
        case rel =>
          refine ⟨k + 1, by omega, by go_num, fun j y hj hy => ?_⟩
          by_cases hjk : j = k
          · subst hjk
            have e := HX.out.symm.trans hy
            injection e with e; rw [← e]; exact HZ.out
          · exact HN.out j y (by omega) hy
        case measure => simp [intOf]; omega
    · go_wp2
      go_ret
      refine ⟨ret_int ?_, rfl⟩
      exact (idxFrom_none _ zs 0 (fun x hx => by
        obtain ⟨j, hj⟩ := List.getElem?_of_mem hx
        exact HN.out j x (by have := lt_of_some hj; omega) hj)).symm

theorem containsBool_c (zs : List Bool) (lo hi : Nat) (A : Option Addr) (b off c : Nat) (z : Bool) (w : World) (hV : Row w lo hi A b off (bools zs)) (hm : zs.length ≤ maxLen) :
    Calls Try.prog 65 #[.slice A zs.length c, .bool z] w fun e w' => e = .returned (.bool (zs.any fun x => z == x)) ∧ w = w' := by
  have h := idx_any (fun x => z == x) zs 0
  generalize zs.any (fun x => z == x) = r at h
  generalize hi0 : idxFrom (fun x => z == x) 0 zs = i at h
  have HI := Lib.hid hi0
  clear hi0
  go_enter Try.func65, Try.ntmps65
  go_wp2_with fail
  refine (indexBool_c zs lo hi A b off c z w hV hm).mono ?_
  rintro e w' ⟨rfl, rfl⟩
  rw [HI.out]
  go_wp2_with fail
  go_ret
  exact ⟨rfl, rfl⟩

set_option maxRecDepth 10000 in
set_option maxHeartbeats 1000000 in
theorem implNetWhole_c (n : NNet) (v : Value) (lo hi : Nat) (w : World) (hN : NetV w lo hi v n) (hhi : hi ≤ w.heap.size) (hlen : ∀ t ∈ n.tasks, t.out.length ≤ 1048576) :
    Calls Try.prog 32 #[v] w fun e w' => e = .returned (.bool (wholeB n)) ∧ Below w.heap.size w w' := by
  have HN := Lib.hid hN
  obtain ⟨A, b, off, c, ms, rfl, hm, hT⟩ := hN
  unfold maxLen at hm
  clear hT
  generalize hob : Obj.cells #[.int .i64 n.places, .slice A n.tasks.length c] 25 = ob
  have hR := (Row.newAt w #[.int .i64 n.places, .slice A n.tasks.length c] 25 _ rfl)
  rw [hob] at hR
  have HR := Lib.hid hR
  have HB := Lib.hid ((Below.refl w.heap.size w).alloc (Nat.le_refl _) ob)
  have HNA := Lib.hid (HN.out.keep (w' := w.alloc ob) fun g _ h => Below.heap_alloc w _ g (by omega))
  have HC := Lib.hid (implNetOk_c n _ lo hi (w.alloc ob) HNA.out (by simp; omega) hlen)
  have HO := Lib.hid hob
  clear hR hob hlen
  go_enter Try.func32, Try.ntmps32
  go_wp2_with fail
  rw [HO.out]
  refine HC.out.mono ?_
  rintro e w1 ⟨rfl, hb1⟩
  have hR1 := HR.out.below hb1 (by simp)
  have s0 := (hR1.cell (j := 0) rfl).1
  have s1 := (hR1.cell (j := 1) rfl).1
  have hz1' : w.heap.size + 1 ≤ w1.heap.size := by simpa using hb1.size
  have HB1 := Lib.hid (hb1.mono (by simp : w.heap.size + 1 ≤ _))
  clear hb1 hR1
  by_cases h1 : netOk n = true
  · have H1 := Lib.hid h1
    have hp := netOk_parts h1
    have HPM := Lib.hid (Int.toNat_of_nonneg (show 0 ≤ n.places by omega))
    rw [h1]
    clear h1
    go_wp2_with fail
    refine (implReach_c n _ lo hi 0 (-1) _ (HNA.out.below HB1.out (by omega)) (by omega) H1.out (by omega)).mono ?_
    rintro e w2 ⟨v', rfl, hM, hb2⟩
    have hz2' : w1.heap.size ≤ w2.heap.size := hb2.size
    obtain ⟨A2, b2, c2, rfl, hrow⟩ := hM.row
    have hb02 := HB1.out.trans (hb2.mono (by omega))
    have HB2 := Lib.hid hb02
    have hR2 := HR.out.below hb02 (by simp)
    clear s0 s1
    have s0 := (hR2.cell (j := 0) rfl).1
    have s1 := (hR2.cell (j := 1) rfl).1
    have HROW := Lib.hid hrow
    clear hM hb2 hb02 hR2 hrow
    go_wp2_with fail
    refine (containsBool_c (fromP n 0) _ _ A2 b2 0 c2 false w2 HROW.out (by rw [fromP_length]; unfold maxLen; omega)).mono ?_
    rintro e w' ⟨rfl, rfl⟩
    by_cases h2 : ((fromP n 0).any fun x => false == x) = true
    · have H2 := Lib.hid h2
      rw [h2]
      clear h2
      go_wp2
      go_ret
      refine ⟨ret_bool ?_, HB.out.trans (HB2.out.mono (by omega))⟩
      obtain ⟨x, hx, hx2⟩ := List.any_eq_true.1 H2.out
      obtain ⟨j, hj⟩ := List.getElem?_of_mem hx
      have hx3 : x = false := by simpa using hx2
      rw [hx3] at hj
      exact (whole_no1 (p := j) (by have := lt_of_some hj; rw [fromP_length] at this; exact this) (getD_of hj)).symm
    · have h2' : ((fromP n 0).any fun x => false == x) = false := by simpa using h2
      have H2 := Lib.hid h2'
      rw [h2']
      clear h2 h2'
      go_wp2
      go_loopw [14] (fun i wr => ∃ k : Nat, (k : Int) ≤ n.places ∧ i = .int .i64 k ∧ (∀ p, p < k → (fromP n p).getD 1 false = true) ∧ Below (w.heap.size + 1) (w.alloc ob) wr) (fun i _ => n.places.toNat - (intOf i).toNat)
      case atStart => exact ⟨0, by omega, rfl, fun p hp => absurd hp (Nat.not_lt_zero _), HB2.out⟩
      case round =>
        obtain ⟨k, hk, rfl, hn, hb⟩ := hrel
        have hzr : w.heap.size + 1 ≤ wr.heap.size := by simpa using hb.size
        have HNN := Lib.hid hn
        have HBr := Lib.hid hb
        have hRr := HR.out.below hb (by simp)
        clear s0 s1
        have s0 := (hRr.cell (j := 0) rfl).1
        have s1 := (hRr.cell (j := 1) rfl).1
        clear hn hb hRr
        by_cases hlt : (k : Int) < n.places
        · go_wp2_with fail
          refine (implReach_c n _ lo hi k (-1) _ (HNA.out.below HBr.out (by omega)) (by omega) H1.out hlt).mono ?_
          rintro e w4 ⟨v', rfl, hM, hb4⟩
          have hlen := fromP_length n k
          obtain ⟨g, c4, rfl, hg1, hg2⟩ := MadeB.len (zs := fromP n k) hM (by omega)
          obtain ⟨e1, _, _⟩ := MadeB.at_ (zs := fromP n k) hM rfl (k := 1) (by omega)
          have hl1 : (1 : Int) < ((fromP n k).length : Int) := by omega
          have HB4 := Lib.hid (HBr.out.trans (hb4.mono (by omega)))
          have HL := Lib.hid hlen
          clear hM hb4 hlen s0 s1
          generalize hm4 : (fromP n k).length = m4 at *
          by_cases hy : (fromP n k).getD 1 false = true
          · have HY := Lib.hid hy
            rw [hy] at e1
            clear hy
            go_wp2
            go_roundw
            case rel =>
              refine ⟨k + 1, by omega, by go_num, fun p hp => ?_, HB4.out⟩
              by_cases hpk : p = k
              · rw [hpk]; exact HY.out
              · exact HNN.out p (by omega)
            case measure => simp [intOf]; omega
          · have hy' : (fromP n k).getD 1 false = false := by simpa using hy
            have HY := Lib.hid hy'
            rw [hy'] at e1
            clear hy hy'
            go_wp2
            go_ret
            exact ⟨ret_bool (whole_no2 (p := k) (by omega) HY.out).symm, HB.out.trans (HB4.out.mono (by omega))⟩
        · go_wp2
          go_ret
          refine ⟨ret_bool (whole_yes H1.out (fun p hp => ?_) (fun p hp => HNN.out p (by omega))).symm, HB.out.trans (HBr.out.mono (by omega))⟩
          have h3 := H2.out
          rw [List.any_eq_false] at h3
          have hlt2 : p < (fromP n 0).length := by rw [fromP_length]; exact hp
          have := h3 _ (List.getElem_mem hlt2)
          rw [List.getD_eq_getElem?_getD, List.getElem?_eq_getElem hlt2]
          simpa using this
  · have h1' : netOk n = false := by simpa using h1
    have H1 := Lib.hid h1'
    rw [h1']
    clear h1 h1'
    go_wp2
    go_ret
    exact ⟨ret_bool (whole_no H1.out).symm, HB.out.trans (HB1.out.mono (by omega))⟩
end Go.Proofs.Ytoggdhbnkbdilaa
