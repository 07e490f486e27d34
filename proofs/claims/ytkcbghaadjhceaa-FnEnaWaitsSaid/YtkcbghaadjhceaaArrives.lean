/- Whether more may still come to a task: the program. -/
import Derived.Test.YtkcbghaadjhceaaBusyOk
import Derived.Test.YtkcbghaadjhceaaNetReach
import Derived.Test.YtkcbghaadjhceaaMrkOk
import Derived.Test.YtkcbghaadjhceaaComing
namespace Go.Proofs.Ytkcbghaadjhceaa
open Go.RowKit
set_option linter.unusedVariables false
set_option linter.unusedSimpArgs false

theorem one_newAt (w : World) (u : Value) (T : TypeId) (n : Nat) (hn : n = w.heap.size) : ∀ (j : Nat) (v : Value), [u][j]? = some v → (w.alloc (.cells #[u] T)).cell? ((⟨n, 0, none⟩ : Addr).add j) = some v := by
  subst hn; exact one_new w u T

theorem arrives1_c (zs : List Int) (lo hi : Nat) (A : Option Addr) (b off c : Nat) (x : Nat) (base bm bx g m c' : Nat) (al : List Bool) (w : World) (hV : Row w lo hi A b off (ints zs)) (hm0 : zs.length ≤ 1000) (hx0 : x < zs.length) (hcm : w.cell? ⟨bm, 0, none⟩ = some (.slice A zs.length c))
    (hc : w.cell? ⟨bx, 0, none⟩ = some (.slice (some ⟨g, 0, none⟩) m c')) (hM : MadeB w base 4 al (.slice (some ⟨g, 0, none⟩) m c')) (hm : al.length = m) (hx : x < m) (hm2 : m ≤ 1000) :
    Calls Try.prog 83 #[.int .i64 (x : Int), .pointer (some ⟨bm, 0, none⟩), .pointer (some ⟨bx, 0, none⟩)] w fun e w' => e = .returned (.bool (wantsB zs al (x : Int))) ∧ Below w.heap.size w w' := by
  obtain ⟨e1, _, _⟩ := hM.at_ hm (k := x) (by omega)
  have hx1 : (x : Int) < (m : Int) := by omega
  have hx2 : (x : Int) < (zs.length : Int) := by omega
  rw [← bit_nat] at e1
  obtain ⟨rfl, _, _, y, hy, hcy, _⟩ := hV.int hx0
  have HW := Lib.hid (show wantsB zs al (x : Int) = (decide (y = 0) && bit al (x : Int)) by rw [wantsB]; simp [hy])
  generalize bit al (x : Int) = z at *
  clear hM hy
  by_cases hy0 : y = 0
  · have hy1 : (y == 0) = true := by simpa using hy0
    have HY0 := Lib.hid hy0
    clear hy0
    go_enter Try.func83, Try.ntmps83
    go_wp2
    go_ret
    exact ⟨ret_bool (by rw [HW.out, HY0.out]; simp), Below.refl _ _⟩
  · have hy1 : (y == 0) = false := by simpa using hy0
    have HY0 := Lib.hid hy0
    clear hy0
    go_enter Try.func83, Try.ntmps83
    go_wp2
    go_ret
    exact ⟨ret_bool (by rw [HW.out, decide_eq_false HY0.out]; rfl), Below.refl _ _⟩

set_option maxRecDepth 10000 in
set_option maxHeartbeats 4000000 in
theorem arrives_c (n : NNet) (v : Value) (zs : List Int) (bs : List NItem) (lo0 hi0 lo hi lo2 hi2 : Nat) (A1 : Option Addr) (b1 off1 c1 : Nat) (Ai : Option Addr) (bi oi ci : Nat) (tn : Nat) (w : World) (hN : NetV w lo0 hi0 v n) (hhi0 : hi0 ≤ w.heap.size)
    (hV : Row w lo hi A1 b1 off1 (ints zs)) (hhi : hi ≤ w.heap.size) (hI : Row w lo2 hi2 Ai bi oi (itemCells bs)) (hhi2 : hi2 ≤ w.heap.size) (hok : mrkOk n zs = true) (hbok : busyB n bs = true) (htn : tn < n.tasks.length) :
    Calls Try.prog 69 #[v, .slice A1 zs.length c1, .slice Ai bs.length ci, .int .i64 (tn : Int)] w fun e w' => e = .returned (.bool (comingB n zs bs (tn : Int))) ∧ Below w.heap.size w w' := by
  obtain ⟨i0, hi0', hz0, hz1, hz2⟩ := info_parts Try.info3
  obtain ⟨hnok, hzl, hfew⟩ := mrkOk_parts hok
  obtain ⟨p1, p2, p3, p4, p5⟩ := netOk_parts hnok
  obtain ⟨hb6, hbi⟩ := busyB_parts hbok
  have HAC := Lib.hid (arrives_coming hnok hbok (ms := zs) (tn : Int) (by omega) (by omega))
  have HFB := Lib.hid (fun (x : Int) (hx : x ∈ fromL n zs bs (tn : Int)) => fromL_bound hnok hbok hx)
  have EG := Lib.hid (entersF Try.func83 (by kernel_rfl) rfl : EntersF Try.prog 83)
  have HLB := Lib.hid (fun (t : NTask) (ht : t ∈ n.tasks) => (taskOk_lens ((netOk_parts hnok).2.2.2.2 t ht)).2.2.2)
  have HBI := Lib.hid hbi
  have HBOK := Lib.hid hbok
  have HOK := Lib.hid hnok
  have htn1 : (tn : Int) < (n.tasks.length : Int) := by omega
  have HN := Lib.hid hN
  obtain ⟨A, b, off, c, ms, rfl, hm, hT⟩ := hN
  unfold maxLen at hm
  generalize hmm : n.places.toNat = m
  have HPM := Lib.hid (show (m : Int) = n.places by omega)
  have HMM := Lib.hid hmm
  have hm8 : m ≤ 8 := by omega
  have hzm : zs.length = m := by omega
  have hz8 : zs.length ≤ 8 := by omega
  have HZM := Lib.hid hzm
  generalize hw0 : ((w.alloc (.cells #[.int .i64 n.places, .slice A n.tasks.length c] 25)).alloc (.cells #[.slice A1 zs.length c1] 26)) = W0
  have hzW : W0.heap.size = w.heap.size + 2 := by rw [← hw0]; simp
  have hbW : Below w.heap.size w W0 := by rw [← hw0]; exact ((Below.refl _ _).alloc (Nat.le_refl _) _).alloc (by simp) _
  have hR : Row W0 w.heap.size (w.heap.size + 1) (some ⟨w.heap.size, 0, none⟩) w.heap.size 0 [.int .i64 n.places, .slice A n.tasks.length c] := by
    rw [← hw0]; exact (Row.newAt w #[.int .i64 n.places, .slice A n.tasks.length c] 25 _ rfl).alloc (by simp) _
  have hBM : W0.cell? ⟨w.heap.size + 1, 0, none⟩ = some (.slice A1 zs.length c1) := by
    rw [← hw0, World.cell?_alloc_at _ _ _ _ (by simp)]; rfl
  have HR := Lib.hid hR
  have HB := Lib.hid hbW
  have HNA := Lib.hid (HN.out.below hbW hhi0)
  have HT := Lib.hid (hT.keep (w' := W0) (fun g _ h => hbW.block g (by omega)) (fun g _ h => hbW.block g (by omega)))
  have HV := Lib.hid (hV.below hbW hhi)
  have HI := Lib.hid (hI.below hbW hhi2)
  have s0 := (hR.cell (j := 0) rfl).1
  have s1 := (hR.cell (j := 1) rfl).1
  obtain ⟨rfl, _, h3, t, vi, vo, vc, hx, _, hTV, ⟨_, _, c2, _⟩, _⟩ := HT.out.task htn
  obtain ⟨A2, q1, A3, q2, A4, q3, rfl, rfl, rfl⟩ := hTV.forms
  obtain ⟨_, b2, o2, _, e2, hmi, hRi⟩ := hTV.ins
  cases e2
  have HMI := Lib.hid hmi
  have HX := Lib.hid hx
  have HTO := Lib.hid (taskOf_at hx)
  have HIN := Lib.hid (fun (x : Int) (hx' : x ∈ t.ins) => ins_bound HOK.out (List.mem_of_getElem? hx) hx')
  have HRi := Lib.hid hRi
  have HW0 := Lib.hid hw0
  have HBM := Lib.hid hBM
  have HZW := Lib.hid hzW
  clear hR hT hV hI hw0 hnok hfew hok p5 hbi hbok hmm hTV hx hRi hzm hzl hbW
  go_enter Try.func69, Try.ntmps69
  go_upto_region 1 with fail
  rw [HW0.out]
  go_wp2
  go_loopw [10, 28] (fun v i wr => ∃ k : Nat, k ≤ zs.length ∧ i = .int .i64 k ∧ Made wr (w.heap.size + 2) 3 (atsN (awayAt zs t.ins) k) v ∧ Below (w.heap.size + 2) W0 wr) (fun _ i _ => zs.length - (intOf i).toNat)
  case atStart => exact ⟨0, Nat.zero_le _, rfl, Made.nil_ _ _ _, Below.refl _ _⟩
  case round =>
    obtain ⟨k, hk, rfl, hM, hb⟩ := hrel
    have hzr : w.heap.size + 2 ≤ wr.heap.size := by rw [← hzW]; exact hb.size
    have hlen := atsN_len (awayAt zs t.ins) k
    have HMr := Lib.hid hM
    have HBr := Lib.hid hb
    have hRr := HR.out.below hb (by omega)
    clear s0 s1 hBM c2 hM
    by_cases hkz : k < zs.length
    · obtain ⟨rfl, _, h3z, y, hy, hcy, _⟩ := HV.out.int hkz
      replace hcy := (hb.cell (p := ⟨b1, off1 + k, none⟩) (by show b1 < _; omega)).trans hcy
      have HRir := Lib.hid (HRi.out.below hb (by omega))
      have HY := Lib.hid hy
      clear hy hb hRr
      by_cases hp : 0 < y
      · have HP := Lib.hid hp
        go_wp2_with fail
        refine (containsInt_c t.ins lo0 hi0 A2 b2 o2 q1 (k : Int) _ HRir.out HMI.out).mono ?_
        rintro e w' ⟨rfl, rfl⟩
        by_cases hki : (k : Int) ∈ t.ins
        · have HA := Lib.hid (atsN_no (p := awayAt zs t.ins) (k := k) (by rw [awayAt, decide_eq_true hki]; simp))
          rw [decide_eq_true hki]
          clear hki
          go_wp2
          go_roundw
          case rel => exact ⟨k + 1, by omega, by go_num, by rw [HA.out]; exact HMr.out, HBr.out⟩
          case measure => simp [intOf]; omega
        · have HA := Lib.hid (atsN_yes (p := awayAt zs t.ins) (k := k) (by rw [awayAt, decide_eq_false hki, getD_of HY.out, decide_eq_true HP.out]; rfl))
          rw [decide_eq_false hki]
          clear hki
          go_wp2_with (at_builtin; refine wpList_append_own _ rfl _ _ 26 rfl (w.heap.size + 2) 3 i0 _ 1 8 Try.underlying26 hi0' hz0 hz1 hz2 rfl (by omega) _ (atsN (awayAt zs t.ins) k).length (ints (atsN (awayAt zs t.ins) k)) rfl (HMr.out.alloc _) ⟨wr.heap.size, 0, none⟩ 1 1 [.int .i64 k] rfl rfl (one_new _ _ _) (by intro u hu; simp at hu; subst hu; rfl) (by have := HZM.out; unfold maxLen; omega) (by have := HZM.out; omega) (by simp; omega) ?_; intro v' w3 hown3 hg3 _)
          have HB3 := Lib.hid ((HBr.out.alloc (by omega) _).grown hg3 (by simp; omega) (fun k hk => Made.own HMr.out hk))
          have HO3 := Lib.hid hown3
          clear hown3 hg3
          go_wp2
          go_roundw
          case rel => exact ⟨k + 1, by omega, by go_num, by have := HO3.out; rw [HA.out]; simpa [Made, ints] using this, HB3.out⟩
          case measure => simp [intOf]; omega
      · have HA := Lib.hid (atsN_no (p := awayAt zs t.ins) (k := k) (by rw [awayAt, getD_of HY.out, decide_eq_false hp]; rfl))
        go_wp2
        go_roundw
        case rel => exact ⟨k + 1, by omega, by go_num, by rw [HA.out]; exact HMr.out, HBr.out⟩
        case measure => simp [intOf]; omega
    · have hke : k = m := by have := HZM.out; omega
      have hM1 := HMr.out
      rw [hke] at hM1 hlen
      generalize hL1 : atsN (awayAt zs t.ins) m = L1 at hM1 hlen
      have HL1 := Lib.hid hL1
      have HM1 := Lib.hid hM1
      clear hke hM1 hb hRr hL1
      go_wp2
      go_loopw [10, 48] (fun v i wr => ∃ k : Nat, k ≤ bs.length ∧ i = .int .i64 k ∧ (outsOf n (bs.take k)).length ≤ 3 * k ∧ Made wr (w.heap.size + 2) 3 (L1 ++ (outsOf n (bs.take k)).map NFlow.to) v ∧ Below (w.heap.size + 2) W0 wr) (fun _ i _ => bs.length - (intOf i).toNat)
      case atStart => exact ⟨0, Nat.zero_le _, rfl, by simp [outsOf], by simpa [outsOf] using HM1.out, HBr.out⟩
      case round =>
        obtain ⟨k, hk, rfl, hol, hM, hb⟩ := hrel
        obtain ⟨wp, rfl⟩ : ∃ wp, wp = wr := ⟨_, rfl⟩
        have hzp : w.heap.size + 2 ≤ wp.heap.size := by rw [← hzW]; exact hb.size
        generalize hL2 : L1 ++ (outsOf n (bs.take k)).map NFlow.to = L2 at hM
        have hL2l : L2.length ≤ m + 3 * k := by rw [← hL2, List.length_append, List.length_map]; omega
        have HL2 := Lib.hid hL2
        have HL2L := Lib.hid hL2l
        have HOL := Lib.hid hol
        have HMp := Lib.hid hM
        have HBp := Lib.hid hb
        have hRp := HR.out.below hb (by omega)
        have s0 := (hRp.cell (j := 0) rfl).1
        have s1 := (hRp.cell (j := 1) rfl).1
        clear hM hb hRp hL2
        by_cases hkb : k < bs.length
        · obtain ⟨rfl, _, h3i, ⟨yt, yw, yd⟩, hy, ⟨y0, y1, y2⟩, _⟩ := HI.out.item hkb
          dsimp only at y0 y1 y2
          have hyt := itemOk_task (HBI.out _ (List.mem_of_getElem? hy))
          dsimp only at hyt
          obtain ⟨un, rfl⟩ := Int.eq_ofNat_of_zero_le hyt.1
          have hun : un < n.tasks.length := by omega
          have hun1 : (un : Int) < (n.tasks.length : Int) := by omega
          obtain ⟨_, _, h3', u, vi', vo', vc', hxu, _, hTVu, ⟨_, _, _, u3, _⟩, _⟩ := HT.out.task hun
          obtain ⟨A5, q5, A6, q6, A7, q7, rfl, rfl, rfl⟩ := hTVu.forms
          obtain ⟨_, b6, o6, _, e6, hmu, hRu⟩ := hTVu.out
          cases e6
          have hu3 := HLB.out u (List.mem_of_getElem? hxu)
          have HRu := Lib.hid hRu
          have HSN := Lib.hid (show outsOf n (bs.take (k + 1)) = outsOf n (bs.take k) ++ u.out by rw [outsOf_snoc hy]; dsimp only; rw [taskOf_at hxu])
          replace y0 := (HBp.out.cell (p := ⟨bi, oi + k * 3, none⟩) (by show bi < _; omega)).trans y0
          replace y1 := (HBp.out.cell (p := ⟨bi, oi + k * 3 + 1, none⟩) (by show bi < _; omega)).trans y1
          replace y2 := (HBp.out.cell (p := ⟨bi, oi + k * 3 + 2, none⟩) (by show bi < _; omega)).trans y2
          replace u3 := (HBp.out.cell (p := ⟨b, off + un * 9 + 3, none⟩) (by show b < _; omega)).trans u3
          have hne1 : w.heap.size ≠ wp.heap.size := by omega
          have hne2 : w.heap.size < wp.heap.size := by omega
          have hne3 : b ≠ wp.heap.size := by omega
          have hne4 : b < wp.heap.size := by omega
          clear hy hyt hxu hTVu hRu hmu
          go_wp2
          go_loopw [10, 60] (fun v i wr => ∃ r : Nat, r ≤ u.out.length ∧ i = .int .i64 r ∧ Made wr (w.heap.size + 2) 3 (L2 ++ (u.out.take r).map NFlow.to) v ∧ Below (w.heap.size + 2) W0 wr) (fun _ i _ => u.out.length - (intOf i).toNat)
          case atStart => exact ⟨0, Nat.zero_le _, rfl, by simpa using HMp.out.alloc _, HBp.out.alloc (by omega) _⟩
          case round =>
            obtain ⟨r, hr, rfl, hM, hb⟩ := hrel
            obtain ⟨wz, rfl⟩ : ∃ wz, wz = wr := ⟨_, rfl⟩
            have hzz : w.heap.size + 2 ≤ wz.heap.size := by rw [← hzW]; exact hb.size
            generalize hL3 : L2 ++ (u.out.take r).map NFlow.to = L3 at hM
            have hL3l : L3.length ≤ m + 3 * k + 3 := by rw [← hL3, List.length_append, List.length_map, List.length_take]; have := HL2L.out; omega
            have HL3 := Lib.hid hL3
            have HMz := Lib.hid hM
            have HBz := Lib.hid hb
            clear hM hb hL3 s0 s1 y0 y1 y2 u3
            by_cases hru : r < u.out.length
            · obtain ⟨rfl, _, h3f, f, hf, ⟨f0, f1, f2, f3⟩, _⟩ := HRu.out.flow hru
              replace f0 := (HBz.out.cell (p := ⟨b6, o6 + r * 4, none⟩) (by show b6 < _; omega)).trans f0
              replace f1 := (HBz.out.cell (p := ⟨b6, o6 + r * 4 + 1, none⟩) (by show b6 < _; omega)).trans f1
              replace f2 := (HBz.out.cell (p := ⟨b6, o6 + r * 4 + 2, none⟩) (by show b6 < _; omega)).trans f2
              replace f3 := (HBz.out.cell (p := ⟨b6, o6 + r * 4 + 3, none⟩) (by show b6 < _; omega)).trans f3
              have HLS := Lib.hid (show L2 ++ (u.out.take (r + 1)).map NFlow.to = L3 ++ [f.to] by rw [take_succ_of hf, List.map_append, ← HL3.out, List.append_assoc]; rfl)
              generalize hof : Obj.cells #[.int .i64 f.to, .int .i64 f.op, .int .i64 f.var, .int .i64 f.k] 56 = of'
              have HOF := Lib.hid hof
              have HMf := Lib.hid (HMz.out.alloc of')
              have hzf : (wz.alloc of').heap.size = wz.heap.size + 1 := by simp
              have HBf := Lib.hid (HBz.out.alloc (by omega) of')
              clear hf hof
              go_wp2_with (at_builtin; rw [HOF.out]; refine wpList_append_own _ rfl _ _ 26 rfl (w.heap.size + 2) 3 i0 _ 1 8 Try.underlying26 hi0' hz0 hz1 hz2 rfl (by omega) _ L3.length (ints L3) rfl (HMf.out.alloc _) ⟨wz.heap.size + 1, 0, none⟩ 1 1 [.int .i64 f.to] rfl rfl (one_newAt _ _ _ _ hzf.symm) (by intro u hu; simp at hu; subst hu; rfl) (by unfold maxLen; omega) (by omega) (by simp; omega) ?_; intro v' w3 hown3 hg3 _)
              have HB3 := Lib.hid ((HBf.out.alloc (by omega) _).grown hg3 (by simp; omega) (fun k hk => Made.own HMz.out hk))
              have HO3 := Lib.hid hown3
              clear hown3 hg3
              go_wp2
              go_roundw
              case rel => exact ⟨r + 1, by omega, by go_num, by have := HO3.out; rw [HLS.out]; simpa [Made, ints] using this, HB3.out⟩
              case measure => simp [intOf]; omega
            · have hrl : r = u.out.length := by omega
              have HRL := Lib.hid hrl
              clear hrl
              go_wp2
              go_roundw
              case rel =>
                refine ⟨k + 1, by omega, by go_num, ?_, ?_, HBz.out⟩
                · rw [HSN.out, List.length_append]; have := HOL.out; omega
                · rw [HSN.out, List.map_append, ← List.append_assoc, HL2.out]
                  have := HMz.out
                  rw [← HL3.out, HRL.out, List.take_length] at this
                  exact this
              case measure => simp [intOf]; omega
        · have hkl : k = bs.length := by omega
          have hfr : fromL n zs bs (tn : Int) = L2 := by rw [fromL, HTO.out, HMM.out, HL1.out, ← HL2.out, hkl, List.take_length]
          have HFR := Lib.hid hfr
          clear hkl hfr
          obtain ⟨A9, b9, c9, rfl, hrow⟩ := HMp.out.row
          have HROW := Lib.hid hrow
          have hl2 : L2.length ≤ 100 := by have := HL2L.out; omega
          clear hrow
          go_wp2
          go_loopw [73] (fun i wr => ∃ q : Nat, q ≤ L2.length ∧ i = .int .i64 q ∧ (∀ j x, j < L2.length → j < q → L2[j]? = some x → t.ins.any (wantsB zs (reachAll n (tn : Int) (single m x))) = false) ∧ Below wp.heap.size wp wr) (fun i _ => L2.length - (intOf i).toNat)
          case atStart => exact ⟨0, Nat.zero_le _, rfl, fun j x _ hj => absurd hj (Nat.not_lt_zero _), Below.refl _ _⟩
          case round =>
            obtain ⟨q, hq, rfl, hn, hb⟩ := hrel
            obtain ⟨wz, rfl⟩ : ∃ wz, wz = wr := ⟨_, rfl⟩
            have hzz : wp.heap.size ≤ wz.heap.size := hb.size
            have HNQ := Lib.hid hn
            have hbz := HBp.out.trans (hb.mono hzp)
            have HBz := Lib.hid hbz
            have HBw := Lib.hid hb
            have hRz := HR.out.below hbz (by omega)
            clear s0 s1
            have s0 := (hRz.cell (j := 0) rfl).1
            have s1 := (hRz.cell (j := 1) rfl).1
            by_cases hql : q < L2.length
            · obtain ⟨rfl, _, h39, x, hx, hcx, _⟩ := HROW.out.int hql
              replace hcx := (hb.cell (p := ⟨b9, 0 + q, none⟩) (by show b9 < _; omega)).trans hcx
              rw [Nat.zero_add] at hcx
              obtain ⟨hx0, hx1⟩ := HFB.out x (by rw [HFR.out]; exact List.mem_of_getElem? hx)
              obtain ⟨xn, rfl⟩ := Int.eq_ofNat_of_zero_le hx0
              have HXQ := Lib.hid hx
              have HAR := Lib.hid (fun (h : t.ins.any (wantsB zs (reachAll n (tn : Int) (single m (xn : Int)))) = true) => (show arrivesB n zs bs (tn : Int) = true by rw [arrivesB, HTO.out, HMM.out, HFR.out, List.any_eq_true]; exact ⟨_, List.mem_of_getElem? hx, h⟩))
              clear hn hb hbz hRz hx
              go_wp2_with fail
              have HQ := implReach_c n (.agg #[.int .i64 n.places, .slice (some ⟨b, off, none⟩) n.tasks.length c]) lo0 hi0 xn (tn : Int) wz (HNA.out.below HBz.out (by omega)) (by omega) HOK.out hx1
              rw [HMM.out] at HQ
              refine HQ.mono ?_
              rintro e w5 ⟨v', rfl, hM5, hb5⟩
              have hz5 : wz.heap.size ≤ w5.heap.size := hb5.size
              have hlen5 : (reachAll n (tn : Int) (single m (xn : Int))).length = m := by rw [reachAll_length, single_length]
              obtain ⟨g5, c5', rfl, hg3, hg4⟩ := MadeB.len (zs := reachAll n (tn : Int) (single m (xn : Int))) hM5 (by have := HPM.out; omega)
              generalize hal : reachAll n (tn : Int) (single m (xn : Int)) = al at *
              have HAL := Lib.hid hal
              have HM5 := Lib.hid (show MadeB w5 wz.heap.size 4 al _ from hM5)
              have HLF := Lib.hid hlen5
              have HB5 := Lib.hid (HBw.out.trans (hb5.mono hzz))
              have HB50 := Lib.hid (HBz.out.trans (hb5.mono (by omega)))
              clear hM5 hb5 s0 s1 hcx HQ hlen5 hal
              have hc6 : (w5.alloc (.cells #[.slice (some ⟨g5, 0, none⟩) al.length c5'] 49)).cell? ⟨w5.heap.size, 0, none⟩ = some (.slice (some ⟨g5, 0, none⟩) al.length c5') := by rw [World.cell?_alloc_new]; rfl
              have hc7 : (w5.alloc (.cells #[.slice (some ⟨g5, 0, none⟩) al.length c5'] 49)).cell? ⟨w.heap.size + 1, 0, none⟩ = some (.slice A1 zs.length c1) :=
                ((HB50.out.alloc (by omega) _).cell (p := ⟨w.heap.size + 1, 0, none⟩) (by dsimp only; omega)).trans HBM.out
              have hz6 : (w5.alloc (.cells #[.slice (some ⟨g5, 0, none⟩) al.length c5'] 49)).heap.size = w5.heap.size + 1 := by simp
              have HCC := Lib.hid (containsFuncIntOn_c t.ins lo0 hi0 A2 b2 o2 q1 83 #[.pointer (some ⟨w.heap.size + 1, 0, none⟩), .pointer (some ⟨w5.heap.size, 0, none⟩)] (wantsB zs al) (w5.alloc (.cells #[.slice (some ⟨g5, 0, none⟩) al.length c5'] 49))
                ((HRi.out.below HB50.out (by omega)).alloc (by omega) _) (by omega) HMI.out
                (fun x W hx hb => by
                  obtain ⟨hx0, hx1⟩ := HIN.out x hx
                  obtain ⟨xk, rfl⟩ := Int.eq_ofNat_of_zero_le hx0
                  exact arrives1_c zs lo hi A1 b1 off1 c1 xk _ (w.heap.size + 1) w5.heap.size g5 _ c5' al W ((HV.out.below (HB50.out.alloc (by omega) _) (by omega)).below hb (by omega)) (by have := HZM.out; omega) (by have := HZM.out; have := HPM.out; omega) ((hb.cell (p := ⟨w.heap.size + 1, 0, none⟩) (by dsimp only; omega)).trans hc7)
                    ((hb.cell (p := ⟨w5.heap.size, 0, none⟩) (by dsimp only; omega)).trans hc6) ((HM5.out.alloc _).below hb (Nat.le_refl _)) rfl (by have := HLF.out; have := HPM.out; omega) (by have := HLF.out; omega)) EG.out)
              clear hc6 hc7 hz6
              generalize hm5 : al.length = m5 at *
              clear hm5
              go_wp2_with fail
              refine HCC.out.mono ?_
              rintro e w7 ⟨rfl, hb7⟩
              have hz7 : w5.heap.size + 1 ≤ w7.heap.size := by simpa using hb7.size
              have HB7 := Lib.hid (HB5.out.trans ((((Below.refl w5.heap.size w5).alloc (Nat.le_refl _) _).trans (hb7.mono (by simp))).mono (by omega)))
              clear hb7 HCC
              by_cases hany : t.ins.any (wantsB zs al) = true
              · have HA := Lib.hid hany
                rw [hany]
                clear hany
                go_wp2
                go_ret
                exact ⟨ret_bool (by rw [← HAC.out]; exact (HAR.out HA.out).symm), HB.out.trans ((HBp.out.trans (HB7.out.mono hzp)).mono (by omega))⟩
              · have hany' : t.ins.any (wantsB zs al) = false := by simpa using hany
                have HA := Lib.hid hany'
                rw [hany']
                clear hany hany'
                go_wp2
                go_roundw
                case rel =>
                  refine ⟨q + 1, by omega, by go_num, fun j x' _ hj hx' => ?_, HB7.out⟩
                  by_cases hjq : j = q
                  · rw [hjq] at hx'
                    have e := HXQ.out.symm.trans hx'
                    injection e with e; rw [← e, HAL.out]; exact HA.out
                  · exact HNQ.out j x' (by omega) (by omega) hx'
                case measure => simp [intOf]; omega
            · clear hn hb hbz hRz
              go_wp2
              go_ret
              refine ⟨ret_bool ?_, HB.out.trans ((HBz.out).mono (by omega))⟩
              rw [← HAC.out, arrivesB, HTO.out, HMM.out, HFR.out, eq_comm, List.any_eq_false]
              intro x hx
              obtain ⟨j, hj⟩ := List.getElem?_of_mem hx
              rw [HNQ.out j x (lt_of_some hj) (by have := lt_of_some hj; omega) hj]; simp
end Go.Proofs.Ytkcbghaadjhceaa
