/- Whether some place of a task has a mark, and whether all have: the reference. -/
import Derived.Test.YtkcbghaadjhceaaBusyOk
import Derived.Test.YtkcbghaadjhceaaNetReach
import Derived.Test.YtkcbghaadjhceaaSpecNetOk
import Derived.BigQuiet
namespace Go.Proofs.Ytkcbghaadjhceaa
open Go.RowKit
set_option linter.unusedVariables false
set_option linter.unusedSimpArgs false

theorem all_snoc {α : Type} {l : List α} {k : Nat} {x : α} (p : α → Bool) (h : l[k]? = some x) : (l.take (k + 1)).all p = ((l.take k).all p && p x) := by
  rw [take_succ_of h]; simp

set_option maxRecDepth 10000 in
set_option maxHeartbeats 1000000 in
theorem l3Some_c (ms ins : List Int) (lo hi lo2 hi2 : Nat) (A : Option Addr) (b off c : Nat) (A2 : Option Addr) (b2 o2 c2 : Nat) (w : World) (hV : Row w lo hi A b off (ints ms)) (hU : Row w lo2 hi2 A2 b2 o2 (ints ins)) (hm : ms.length ≤ maxLen) (hm2 : ins.length ≤ maxLen) (hin : ∀ x ∈ ins, 0 ≤ x ∧ x < (ms.length : Int)) :
    Calls Try.prog 59 #[.slice A ms.length c, .slice A2 ins.length c2] w fun e w' => e = .returned (.tuple #[.bool (someB ms ins), .bool (allB ms ins)]) ∧ w = w' := by
  unfold maxLen at hm hm2
  have HIN := Lib.hid hin
  clear hin
  go_enter Try.func59, Try.ntmps59
  go_wp2
  go_loop [6, 7, 8] (fun s a i => ∃ k : Nat, k ≤ ins.length ∧ i = .int .i64 k ∧ s = .bool (someB ms (ins.take k)) ∧ a = .bool (allB ms (ins.take k))) (fun _ _ i => ins.length - (intOf i).toNat)
  case atStart => exact ⟨0, Nat.zero_le _, rfl, rfl, rfl⟩
  case round =>
    obtain ⟨k, hk, rfl, rfl, rfl⟩ := hrel
    generalize hs : someB ms (ins.take k) = s1
    generalize ha : allB ms (ins.take k) = a1
    have HS := Lib.hid hs
    have HA := Lib.hid ha
    clear hs ha
    by_cases hlt : k < ins.length
    · have hlt1 : (k : Int) < (ins.length : Int) := by omega
      obtain ⟨rfl, _, _, x, hx, hc, _⟩ := hU.int hlt
      obtain ⟨hx0, hx1⟩ := HIN.out x (List.mem_of_getElem? hx)
      obtain ⟨xn, rfl⟩ := Int.eq_ofNat_of_zero_le hx0
      obtain ⟨rfl, _, _, y, hy, hd, _⟩ := hV.int (k := xn) (by omega)
      have HS1 := Lib.hid (show someB ms (ins.take (k + 1)) = (s1 || decide (0 < y)) by rw [someB, any_snoc _ hx, ← HS.out, someB]; simp [hy])
      have HA1 := Lib.hid (show allB ms (ins.take (k + 1)) = (a1 && decide (0 < y)) by rw [allB, all_snoc _ hx, ← HA.out, allB]; simp [hy])
      clear hx hy
      by_cases hp : 0 < y
      · have HP := Lib.hid hp
        cases s1 with
        | true =>
          cases a1 with
          | true =>
            go_wp2
            go_round
            case rel => exact ⟨k + 1, by omega, by go_num, by rw [HS1.out]; simp, by rw [HA1.out]; simp [HP.out]⟩
            case measure => simp [intOf]; omega
          | false =>
            go_wp2
            go_round
            case rel => exact ⟨k + 1, by omega, by go_num, by rw [HS1.out]; simp, by rw [HA1.out]; simp⟩
            case measure => simp [intOf]; omega
        | false =>
          cases a1 with
          | true =>
            go_wp2
            go_round
            case rel => exact ⟨k + 1, by omega, by go_num, by rw [HS1.out]; simp [HP.out], by rw [HA1.out]; simp [HP.out]⟩
            case measure => simp [intOf]; omega
          | false =>
            go_wp2
            go_round
            case rel => exact ⟨k + 1, by omega, by go_num, by rw [HS1.out]; simp [HP.out], by rw [HA1.out]; simp⟩
            case measure => simp [intOf]; omega
      · have HP := Lib.hid hp
        cases s1 with
        | true =>
          cases a1 with
          | true =>
            go_wp2
            go_round
            case rel => exact ⟨k + 1, by omega, by go_num, by rw [HS1.out]; simp, by rw [HA1.out]; simp [HP.out]⟩
            case measure => simp [intOf]; omega
          | false =>
            go_wp2
            go_round
            case rel => exact ⟨k + 1, by omega, by go_num, by rw [HS1.out]; simp, by rw [HA1.out]; simp⟩
            case measure => simp [intOf]; omega
        | false =>
          cases a1 with
          | true =>
            go_wp2
            go_round
            case rel => exact ⟨k + 1, by omega, by go_num, by rw [HS1.out]; simp [HP.out], by rw [HA1.out]; simp [HP.out]⟩
            case measure => simp [intOf]; omega
          | false =>
            go_wp2
            go_round
            case rel => exact ⟨k + 1, by omega, by go_num, by rw [HS1.out]; simp [HP.out], by rw [HA1.out]; simp⟩
            case measure => simp [intOf]; omega
    · have hlt1 : ¬ ((k : Int) < (ins.length : Int)) := by omega
      have hkl : k = ins.length := by omega
      rw [hkl, List.take_length] at HS HA
      clear hkl
      go_wp2
      refine bodyPost_ret (v := .tuple #[.bool s1, .bool a1]) (by simp [results, Try.results59, go_sem]) rfl ⟨by rw [HS.out, HA.out], rfl⟩
end Go.Proofs.Ytkcbghaadjhceaa

/- Whether more may still come to a task: the reference. -/
namespace Go.Proofs.Ytkcbghaadjhceaa
open Go.RowKit
set_option linter.unusedVariables false
set_option linter.unusedSimpArgs false

theorem MadeB.put_ {w : World} {base g m c : Nat} {e : TypeId} {zs : List Bool} (h : MadeB w base e zs (.slice (some ⟨g, 0, none⟩) m c)) (hm : zs.length = m) {k : Nat} (hk : k < zs.length) (x : Bool) :
    MadeB (w.setCell ⟨g, k, none⟩ (.bool x)) base e (zs.set k x) (.slice (some ⟨g, 0, none⟩) m c) := by
  subst hm
  have h' := h
  unfold MadeB at h'
  have := (h'.stored k (.bool x)).1
  unfold MadeB
  rw [show bools (zs.set k x) = (bools zs).set k (.bool x) by simp [bools, List.map_set]]
  rw [show (zs.set k x).length = zs.length by simp]
  exact this
/-- The first k places of a set, and none behind. -/
def firstK (f : Nat → Bool) (m k : Nat) : List Bool := (List.range m).map fun j => decide (j < k) && f j
theorem firstK_length (f : Nat → Bool) (m k : Nat) : (firstK f m k).length = m := by simp [firstK]
theorem firstK_zero (f : Nat → Bool) (m : Nat) : firstK f m 0 = List.replicate m false := by
  refine List.ext_getElem (by simp [firstK]) fun i h1 h2 => ?_
  simp [firstK]
theorem firstK_all (f : Nat → Bool) (m : Nat) : firstK f m m = (List.range m).map f := by
  refine List.ext_getElem (by simp [firstK]) fun i h1 h2 => ?_
  simp [firstK] at h1 ⊢
  intro h; omega
theorem firstK_succ (f : Nat → Bool) (m k : Nat) : (firstK f m k).set k (f k) = firstK f m (k + 1) := by
  refine List.ext_getElem (by simp [firstK]) fun i h1 h2 => ?_
  simp only [firstK, List.getElem_set, List.getElem_map, List.getElem_range]
  by_cases h : k = i
  · subst h; simp
  · rw [if_neg h]
    by_cases h3 : i < k
    · simp [h3, show i < k + 1 by omega]
    · simp [h3, show ¬ i < k + 1 by omega]
theorem light_append (s : List Bool) (a b : List NFlow) : light s (a ++ b) = light (light s a) b := by simp [light, List.foldl_append]
theorem outsOf_snoc {n : NNet} {bs : List NItem} {k : Nat} {y : NItem} (h : bs[k]? = some y) : outsOf n (bs.take (k + 1)) = outsOf n (bs.take k) ++ (taskOf n y.task).out := by
  rw [take_succ_of h, outsOf, List.flatMap_append]; simp [outsOf]

set_option maxRecDepth 10000 in
set_option maxHeartbeats 4000000 in
theorem l3Coming_c (n : NNet) (v : Value) (zs : List Int) (bs : List NItem) (lo0 hi0 lo hi lo2 hi2 : Nat) (A1 : Option Addr) (b1 off1 c1 : Nat) (Ai : Option Addr) (bi oi ci : Nat) (tn : Nat) (w : World) (hN : NetV w lo0 hi0 v n) (hhi0 : hi0 ≤ w.heap.size)
    (hV : Row w lo hi A1 b1 off1 (ints zs)) (hhi : hi ≤ w.heap.size) (hI : Row w lo2 hi2 Ai bi oi (itemCells bs)) (hhi2 : hi2 ≤ w.heap.size) (hok : mrkOk n zs = true) (hbok : busyB n bs = true) (htn : tn < n.tasks.length) :
    Calls Try.prog 70 #[v, .slice A1 zs.length c1, .slice Ai bs.length ci, .int .i64 (tn : Int)] w fun e w' => e = .returned (.bool (comingB n zs bs (tn : Int))) ∧ Below w.heap.size w w' := by
  obtain ⟨i0, hi0', hz0, hz1, hz2⟩ := info_parts Try.infoB
  obtain ⟨hnok, hzl, hfew⟩ := mrkOk_parts hok
  obtain ⟨p1, p2, p3, p4, p5⟩ := netOk_parts hnok
  obtain ⟨hb6, hbi⟩ := busyB_parts hbok
  have HBI := Lib.hid hbi
  have HBOK := Lib.hid hbok
  have HOK := Lib.hid hnok
  have htn1 : (tn : Int) < (n.tasks.length : Int) := by omega
  have HN := Lib.hid hN
  obtain ⟨A, b, off, c, ms, rfl, hm, hT⟩ := hN
  unfold maxLen at hm
  generalize hmm : n.places.toNat = m
  have HPM := Lib.hid (show (m : Int) = n.places by omega)
  have HMM := Lib.hid hmm
  have hm8 : m ≤ 8 := by omega
  have hzm : zs.length = m := by omega
  have HZM := Lib.hid hzm
  generalize hob : Obj.cells #[.int .i64 n.places, .slice A n.tasks.length c] 25 = ob
  have hR := (Row.newAt w #[.int .i64 n.places, .slice A n.tasks.length c] 25 _ rfl)
  rw [hob] at hR
  have HR := Lib.hid hR
  have HB := Lib.hid ((Below.refl w.heap.size w).alloc (Nat.le_refl _) ob)
  have HNA := Lib.hid (HN.out.keep (w' := w.alloc ob) fun g _ h => Below.heap_alloc w _ g (by omega))
  have HT := Lib.hid (hT.keep (w' := w.alloc ob) (fun g _ h => Below.heap_alloc w _ g (by omega)) (fun g _ h => Below.heap_alloc w _ g (by omega)))
  have HV := Lib.hid (hV.alloc hhi ob)
  have HI := Lib.hid (hI.alloc hhi2 ob)
  obtain ⟨rfl, _, h3, t, vi, vo, vc, hx, _, hTV, ⟨_, _, c2, _⟩, _⟩ := HT.out.task htn
  obtain ⟨A2, q1, A3, q2, A4, q3, rfl, rfl, rfl⟩ := hTV.forms
  obtain ⟨_, b2, o2, _, e2, hmi, hRi⟩ := hTV.ins
  cases e2
  have HMI := Lib.hid hmi
  unfold maxLen at hmi
  have HX := Lib.hid hx
  have HTO := Lib.hid (taskOf_at hx)
  have HC2 := Lib.hid c2
  have HIN := Lib.hid (fun (x : Int) (hx' : x ∈ t.ins) => ins_bound HOK.out (List.mem_of_getElem? hx) hx')
  have HRi := Lib.hid hRi
  have HO := Lib.hid hob
  clear hR hT hV hI hob hnok hfew hok p5 hbi hbok hmm hTV hx c2 hRi hzm hzl
  go_enter Try.func70, Try.ntmps70
  go_wp2_with (at_make; rw [HO.out]; refine wpList_make_full _ rfl (.tmp 17) (.tmp 17) 49 rfl (w.heap.size + 1) 4 i0 _ 1 Try.underlying49 hi0' hz0 hz1 .i64 .i64 _ _ m rfl rfl HPM.out.symm HPM.out.symm (by rw [hz2]; omega) (by unfold maxLen; omega) (by simp) ?_; intro w1 hown1 hg1; simp only [World.size_alloc])
  have HB1 := Lib.hid ((Below.refl (w.heap.size + 1) (w.alloc ob)).grown hg1 (by simp) (fun k hk => by cases hk))
  have hM1 : MadeB w1 (w.heap.size + 1) 4 (firstK (awayAt zs t.ins) m 0) (.slice (some ⟨w.heap.size + 1, 0, none⟩) m m) := by
    rw [firstK_zero]; unfold MadeB; rw [List.length_replicate, ← made_false]; simpa using hown1
  have HM1 := Lib.hid hM1
  clear hown1 hg1 hM1
  go_loopw [10] (fun i wr => ∃ k : Nat, k ≤ m ∧ i = .int .i64 k ∧ MadeB wr (w.heap.size + 1) 4 (firstK (awayAt zs t.ins) m k) (.slice (some ⟨w.heap.size + 1, 0, none⟩) m m) ∧ Below (w.heap.size + 1) (w.alloc ob) wr) (fun i _ => m - (intOf i).toNat)
  case atStart => exact ⟨0, Nat.zero_le _, rfl, HM1.out, HB1.out⟩
  case round =>
    obtain ⟨k, hk, rfl, hM, hb⟩ := hrel
    have hzr : w.heap.size + 1 ≤ wr.heap.size := by simpa using hb.size
    have HMr := Lib.hid hM
    have HBr := Lib.hid hb
    have hRr := HR.out.below hb (by simp)
    have s0 := (hRr.cell (j := 0) rfl).1
    have s1 := (hRr.cell (j := 1) rfl).1
    have d2 := (hb.cell (p := ⟨b, off + tn * 9 + 2, none⟩) (by show b < _; omega)).trans HC2.out
    clear hM hb hRr
    by_cases hkm : k < m
    · have hkm1 : (k : Int) < n.places := by have := HPM.out; omega
      have hkz : (k : Int) < (zs.length : Int) := by have := HZM.out; omega
      have hkm2 : (k : Int) < (m : Int) := by omega
      obtain ⟨rfl, _, h3z, y, hy, hcy, _⟩ := HV.out.int (k := k) (by have := HZM.out; omega)
      replace hcy := (HBr.out.cell (p := ⟨b1, off1 + k, none⟩) (by show b1 < _; omega)).trans hcy
      obtain ⟨e1, e2', _⟩ := HMr.out.at_ (firstK_length _ _ _) (k := k) (by rw [firstK_length]; exact hkm)
      have HST := Lib.hid (fun x => HMr.out.put_ (firstK_length _ _ _) (k := k) (by rw [firstK_length]; exact hkm) x)
      have HY := Lib.hid hy
      clear hy
      by_cases hp : 0 < y
      · have HP := Lib.hid hp
        have hRir := HRi.out.below HBr.out (by omega)
        have HRir := Lib.hid hRir
        clear hRir
        go_wp2_with fail
        refine (l2Has_c t.ins lo0 hi0 A2 b2 o2 q1 (k : Int) _ HRir.out HMI.out).mono ?_
        rintro e w' ⟨rfl, rfl⟩
        by_cases hki : (k : Int) ∈ t.ins
        · have HKI := Lib.hid hki
          rw [decide_eq_true hki]
          clear hki
          go_wp2
          go_roundw
          case rel => exact ⟨k + 1, by omega, by go_num, by have := HST.out false; rw [← firstK_succ, show awayAt zs t.ins k = false by rw [awayAt, decide_eq_true HKI.out]; simp]; exact this, HBr.out.setCell (by show _ ≤ w.heap.size + 1; omega) _⟩
          case measure => simp [intOf]; omega
        · have HKI := Lib.hid hki
          rw [decide_eq_false hki]
          clear hki
          go_wp2
          go_roundw
          case rel => exact ⟨k + 1, by omega, by go_num, by have := HST.out true; rw [← firstK_succ, show awayAt zs t.ins k = true by rw [awayAt, decide_eq_false HKI.out, getD_of HY.out, decide_eq_true HP.out]; rfl]; exact this, HBr.out.setCell (by show _ ≤ w.heap.size + 1; omega) _⟩
          case measure => simp [intOf]; omega
      · have HP := Lib.hid hp
        go_wp2
        go_roundw
        case rel => exact ⟨k + 1, by omega, by go_num, by have := HST.out false; rw [← firstK_succ, show awayAt zs t.ins k = false by rw [awayAt, getD_of HY.out, decide_eq_false HP.out]; rfl]; exact this, HBr.out.setCell (by show _ ≤ w.heap.size + 1; omega) _⟩
        case measure => simp [intOf]; omega
    · have hkm1 : ¬ ((k : Int) < n.places) := by have := HPM.out; omega
      have hke : k = m := by omega
      have hM2 := HMr.out
      rw [hke, firstK_all] at hM2
      have HM2 := Lib.hid hM2
      clear hke hM2
      generalize hbase : (List.range m).map (awayAt zs t.ins) = base0 at HM2
      have HBASE := Lib.hid hbase
      have hbl : base0.length = m := by rw [← hbase]; simp
      have HBL := Lib.hid hbl
      clear hbase hbl
      go_wp2
      clear s0 s1 d2
      go_loopw [11] (fun i wr => ∃ k : Nat, k ≤ bs.length ∧ i = .int .i64 k ∧ MadeB wr (w.heap.size + 1) 4 (light base0 (outsOf n (bs.take k))) (.slice (some ⟨w.heap.size + 1, 0, none⟩) m m) ∧ Below (w.heap.size + 1) (w.alloc ob) wr) (fun i _ => bs.length - (intOf i).toNat)
      case atStart => exact ⟨0, Nat.zero_le _, rfl, HM2.out, HBr.out⟩
      case round =>
        obtain ⟨k, hk, rfl, hM, hb⟩ := hrel
        obtain ⟨wp, rfl⟩ : ∃ wp, wp = wr := ⟨_, rfl⟩
        have hzp : w.heap.size + 1 ≤ wp.heap.size := by simpa using hb.size
        have HBp := Lib.hid hb
        have hRp := HR.out.below hb (by simp)
        have s0 := (hRp.cell (j := 0) rfl).1
        have s1 := (hRp.cell (j := 1) rfl).1
        generalize hcv : light base0 (outsOf n (bs.take k)) = cv at hM
        have hcvl : cv.length = m := by rw [← hcv, light_length, HBL.out]
        have HCV := Lib.hid hcv
        have HCVL := Lib.hid hcvl
        have HMp := Lib.hid hM
        clear hM hb hRp hcv hcvl
        by_cases hkb : k < bs.length
        · have hkb1 : (k : Int) < (bs.length : Int) := by omega
          obtain ⟨rfl, _, h3i, ⟨yt, yw, yd⟩, hy, ⟨y0, _, _⟩, _⟩ := HI.out.item hkb
          dsimp only at y0
          have hyt := itemOk_task (HBI.out _ (List.mem_of_getElem? hy))
          dsimp only at hyt
          obtain ⟨un, rfl⟩ := Int.eq_ofNat_of_zero_le hyt.1
          have hun : un < n.tasks.length := by omega
          have hun1 : (un : Int) < (n.tasks.length : Int) := by omega
          obtain ⟨_, _, h3', u, vi', vo', vc', hxu, _, hTVu, ⟨_, _, _, u3, _⟩, _⟩ := HT.out.task hun
          obtain ⟨A5, q5, A6, q6, A7, q7, rfl, rfl, rfl⟩ := hTVu.forms
          obtain ⟨_, b6, o6, _, e6, hmu, hRu⟩ := hTVu.out
          cases e6
          unfold maxLen at hmu
          have HRu := Lib.hid hRu
          have HOUT := Lib.hid (fun (f : NFlow) (hf' : f ∈ u.out) => out_bound HOK.out (List.mem_of_getElem? hxu) hf')
          have HSN := Lib.hid (show outsOf n (bs.take (k + 1)) = outsOf n (bs.take k) ++ u.out by rw [outsOf_snoc hy]; dsimp only; rw [taskOf_at hxu])
          replace y0 := (HBp.out.cell (p := ⟨bi, oi + k * 3, none⟩) (by show bi < _; omega)).trans y0
          replace u3 := (HBp.out.cell (p := ⟨b, off + un * 9 + 3, none⟩) (by show b < _; omega)).trans u3
          clear hy hyt hxu hTVu hRu
          go_wp2
          go_quiet (fail)
          go_wp2
          go_loopw [13] (fun i wr => ∃ r : Nat, r ≤ u.out.length ∧ i = .int .i64 r ∧ MadeB wr (w.heap.size + 1) 4 (light cv (u.out.take r)) (.slice (some ⟨w.heap.size + 1, 0, none⟩) m m) ∧ Below (w.heap.size + 1) (w.alloc ob) wr) (fun i _ => u.out.length - (intOf i).toNat)
          case atStart => exact ⟨0, Nat.zero_le _, rfl, HMp.out.drewN _, below_drewN HBp.out _⟩
          case round =>
            obtain ⟨r, hr, rfl, hM, hb⟩ := hrel
            have HBz := Lib.hid hb
            generalize hcz : light cv (u.out.take r) = cz at hM
            have hczl : cz.length = m := by rw [← hcz, light_length, HCVL.out]
            have HCZ := Lib.hid hcz
            have HMz := Lib.hid hM
            clear hM hb hcz s0 s1 y0 u3
            by_cases hru : r < u.out.length
            · have hru1 : (r : Int) < (u.out.length : Int) := by omega
              obtain ⟨rfl, _, h3f, f, hf, ⟨f0, _⟩, _⟩ := HRu.out.flow hru
              obtain ⟨hf0, hf1⟩ := HOUT.out f (List.mem_of_getElem? hf)
              obtain ⟨fn, hfn⟩ := Int.eq_ofNat_of_zero_le (show 0 ≤ f.to by omega)
              have hfn0 : fn < m := by have := HPM.out; omega
              have hfn1 : (fn : Int) < (m : Int) := by omega
              obtain ⟨e1, e2, e3⟩ := HMz.out.at_ hczl (k := fn) (by omega)
              have f0' := (HBz.out.cell (p := ⟨b6, o6 + r * 4, none⟩) (by show b6 < _; omega)).trans f0
              rw [hfn] at f0'
              have HLS := Lib.hid (light_snoc cv hf)
              have HFN := Lib.hid hfn
              have HE3 := Lib.hid e3
              clear hf f0 hf0 hf1 hfn e3
              go_wp2
              go_roundw
              case rel => exact ⟨r + 1, by omega, by go_num, by rw [HLS.out, HCZ.out, HFN.out]; exact HE3.out, HBz.out.setCell (by show _ ≤ w.heap.size + 1; omega) _⟩
              case measure => simp [intOf]; omega
            · have hru1 : ¬ ((r : Int) < (u.out.length : Int)) := by omega
              have hrl : r = u.out.length := by omega
              have HRL := Lib.hid hrl
              clear hrl
              go_wp2
              go_roundw
              case rel => exact ⟨k + 1, by omega, by go_num, by rw [HSN.out, light_append, HCV.out]; have := HMz.out; rw [← HCZ.out, HRL.out, List.take_length] at this; exact this, HBz.out⟩
              case measure => simp [intOf]; omega
        · have hkb1 : ¬ ((k : Int) < (bs.length : Int)) := by omega
          have hkl : k = bs.length := by omega
          have hst : startB n zs bs (tn : Int) = cv := by rw [startB, HTO.out, HMM.out, HBASE.out, ← HCV.out, hkl, List.take_length]
          have HST := Lib.hid hst
          clear hkl hst
          obtain ⟨A9, b9, c9, e9, hrow⟩ := HMp.out.row
          rw [HCVL.out] at e9
          cases e9
          have HSP := l2Spread_c n (.agg #[.int .i64 n.places, .slice (some ⟨b, off, none⟩) n.tasks.length c]) lo0 hi0 cv _ _ _ _ _ m (tn : Int) wp (HNA.out.below HBp.out (by omega)) (by omega) HOK.out hrow (Nat.le_refl _) (by rw [HCVL.out]; exact HPM.out)
          rw [HCVL.out] at HSP
          have HSP := Lib.hid HSP
          clear hrow
          go_wp2_with fail
          refine HSP.out.mono ?_
          rintro e w5 ⟨v5, rfl, hM5, hb5⟩
          have hz5 : wp.heap.size ≤ w5.heap.size := hb5.size
          have hlen5 : (reachAll n (tn : Int) cv).length = m := by rw [reachAll_length, HCVL.out]
          obtain ⟨g5, c5, rfl, hg3, hg4⟩ := MadeB.len (zs := reachAll n (tn : Int) cv) hM5 (by omega)
          have HM5 := Lib.hid (show MadeB w5 wp.heap.size 4 (reachAll n (tn : Int) cv) _ from hM5)
          have hb50 := HBp.out.trans (hb5.mono (show w.heap.size + 1 ≤ wp.heap.size from hzp))
          have HB5 := Lib.hid hb50
          have hR5 := HR.out.below hb50 (by simp)
          clear s0 s1
          have s0 := (hR5.cell (j := 0) rfl).1
          have s1 := (hR5.cell (j := 1) rfl).1
          have d2 := (hb50.cell (p := ⟨b, off + tn * 9 + 2, none⟩) (by show b < _; omega)).trans HC2.out
          have HCG := Lib.hid (show comingB n zs bs (tn : Int) = t.ins.any (wantsB zs (reachAll n (tn : Int) cv)) by rw [comingB, HTO.out, HST.out])
          generalize reachAll n (tn : Int) cv = al at *
          generalize hm5 : al.length = m5 at *
          have HM5L := Lib.hid hm5
          have HL5 := Lib.hid hlen5
          clear hM5 hb5 hb50 hR5 hm5 hlen5 HSP
          go_wp2
          go_loopw [15] (fun i wr => ∃ q d : Nat, q ≤ t.ins.length ∧ i = .int .i64 q ∧ (∀ j y, j < q → t.ins[j]? = some y → wantsB zs al y = false) ∧ wr = w5.drewN d) (fun i _ => t.ins.length - (intOf i).toNat)
          case atStart => exact ⟨0, 0, Nat.zero_le _, rfl, fun j y hj => absurd hj (Nat.not_lt_zero _), rfl⟩
          case round =>
            obtain ⟨q, d, hq, rfl, hn, hw⟩ := hrel
            obtain ⟨wq, rfl⟩ : ∃ wq, wq = wr := ⟨_, rfl⟩
            have HNQ := Lib.hid hn
            have HW := Lib.hid hw
            replace s0 : wq.cell? ⟨w.heap.size, 0, none⟩ = some (.int .i64 n.places) := by rw [hw]; exact s0
            replace s1 : wq.cell? ⟨w.heap.size, 1, none⟩ = some (.slice (some ⟨b, off, none⟩) n.tasks.length c) := by rw [hw]; exact s1
            replace d2 : wq.cell? ⟨b, off + tn * 9 + 2, none⟩ = some (.slice A2 t.ins.length q1) := by rw [hw]; exact d2
            clear hn hw
            by_cases hqi : q < t.ins.length
            · have hqi1 : (q : Int) < (t.ins.length : Int) := by omega
              obtain ⟨rfl, _, _, x, hx, hcx, _⟩ := HRi.out.int hqi
              obtain ⟨hx0, hx1⟩ := HIN.out x (List.mem_of_getElem? hx)
              obtain ⟨xn, rfl⟩ := Int.eq_ofNat_of_zero_le hx0
              have hxz : xn < zs.length := by have := HZM.out; have := HPM.out; omega
              have hxz1 : (xn : Int) < (zs.length : Int) := by omega
              have hxn : xn < m5 := by have := HL5.out; have := HPM.out; omega
              have hxn1 : (xn : Int) < (m5 : Int) := by omega
              obtain ⟨rfl, _, h3z, y, hy, hcy, _⟩ := HV.out.int (k := xn) hxz
              replace hcy : wq.cell? ⟨b1, off1 + xn, none⟩ = some (.int .i64 y) := by rw [HW.out]; exact (HB5.out.cell (p := ⟨b1, off1 + xn, none⟩) (by show b1 < _; omega)).trans hcy
              obtain ⟨e1, _, _⟩ := MadeB.at_ (zs := al) HM5.out HM5L.out (k := xn) (by rw [HM5L.out]; exact hxn)
              replace e1 : wq.cell? ⟨g5, xn, none⟩ = some (.bool (bit al (xn : Int))) := by rw [HW.out]; exact e1
              have hcx1 : wq.cell? ⟨b2, o2 + q, none⟩ = some (.int .i64 (xn : Int)) := by rw [HW.out]; exact (HB5.out.cell (p := ⟨b2, o2 + q, none⟩) (by show b2 < _; omega)).trans hcx
              have HXX := Lib.hid hx
              have HWA := Lib.hid (show wantsB zs al (xn : Int) = (decide (y = 0) && bit al (xn : Int)) by rw [wantsB]; simp [hy])
              generalize bit al (xn : Int) = z at *
              clear hx hcx hy
              by_cases hy0 : y = 0
              · have hy1 : (y == 0) = true := by simpa using hy0
                have HY0 := Lib.hid hy0
                clear hy0
                cases z with
                | true =>
                  go_wp2
                  go_ret
                  refine ⟨ret_bool ?_, HB.out.trans ((by rw [HW.out]; exact below_drewN HB5.out d : Below (w.heap.size + 1) (w.alloc ob) _).mono (by omega))⟩
                  rw [HCG.out, eq_comm, List.any_eq_true]
                  exact ⟨_, List.mem_of_getElem? HXX.out, by rw [HWA.out, HY0.out]; rfl⟩
                | false =>
                  go_wp2
                  go_roundw
                  case rel =>
                    refine ⟨q + 1, d, by omega, by go_num, fun j z hj hz => ?_, HW.out⟩
                    by_cases hjq : j = q
                    · rw [hjq] at hz
                      have e := HXX.out.symm.trans hz
                      injection e with e; rw [← e, HWA.out]; simp
                    · exact HNQ.out j z (by omega) hz
                  case measure => simp [intOf]; omega
              · have hy1 : (y == 0) = false := by simpa using hy0
                have HY0 := Lib.hid hy0
                clear hy0
                go_wp2
                go_roundw
                case rel =>
                  refine ⟨q + 1, d, by omega, by go_num, fun j z' hj hz => ?_, HW.out⟩
                  by_cases hjq : j = q
                  · rw [hjq] at hz
                    have e := HXX.out.symm.trans hz
                    injection e with e; rw [← e, HWA.out, decide_eq_false HY0.out]; rfl
                  · exact HNQ.out j z' (by omega) hz
                case measure => simp [intOf]; omega
            · have hqi1 : ¬ ((q : Int) < (t.ins.length : Int)) := by omega
              go_wp2
              go_ret
              refine ⟨ret_bool ?_, HB.out.trans ((by rw [HW.out]; exact below_drewN HB5.out d : Below (w.heap.size + 1) (w.alloc ob) _).mono (by omega))⟩
              rw [HCG.out, eq_comm, List.any_eq_false]
              intro y hy
              obtain ⟨j, hj⟩ := List.getElem?_of_mem hy
              rw [HNQ.out j y (by have := lt_of_some hj; omega) hj]; simp
end Go.Proofs.Ytkcbghaadjhceaa
