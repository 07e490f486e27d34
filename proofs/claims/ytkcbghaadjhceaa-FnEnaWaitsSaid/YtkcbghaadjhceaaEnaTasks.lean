/- EnaTasks and EnaWaits: the program and the reference. -/
import Derived.Test.YtkcbghaadjhceaaEnaCan
namespace Go.Proofs.Ytkcbghaadjhceaa
open Go.RowKit
set_option linter.unusedVariables false
set_option linter.unusedSimpArgs false

def enaAt (n : NNet) (zs : List Int) (bs : List NItem) (k : Nat) : Bool := enaB n zs bs (k : Int)
def canAt (n : NNet) (zs : List Int) (bs : List NItem) (k : Nat) : Bool := canB n zs bs (k : Int)
def waitAt (n : NNet) (zs : List Int) (bs : List NItem) (k : Nat) : Bool := someB zs (taskOf n (k : Int)).ins && !canB n zs bs (k : Int)
def enaL (n : NNet) (zs : List Int) (bs : List NItem) : List Int := atsN (enaAt n zs bs) n.tasks.length
def waitL (n : NNet) (zs : List Int) (bs : List NItem) : List Int := if mrkOk n zs && busyB n bs then atsN (waitAt n zs bs) n.tasks.length else []
theorem atsN_none {p : Nat → Bool} : ∀ (k : Nat), (∀ j, j < k → p j = false) → atsN p k = []
  | 0, _ => rfl
  | k + 1, h => by rw [atsN_no (h k (by omega)), atsN_none k (fun j hj => h j (by omega))]
theorem enaAt_len {n : NNet} {zs : List Int} {bs : List NItem} {k : Nat} (hk : k ≤ n.tasks.length) : (atsN (enaAt n zs bs) k).length ≤ 6 := by
  by_cases h : mrkOk n zs = true
  · have := netOk_parts (mrkOk_parts h).1
    have := atsN_len (enaAt n zs bs) k
    omega
  · rw [atsN_none k (fun j _ => by rw [enaAt, enaB, show mrkOk n zs = false by simpa using h]; rfl)]; simp
theorem enaL_len (n : NNet) (zs : List Int) (bs : List NItem) : (enaL n zs bs).length ≤ 1048576 := Nat.le_trans (enaAt_len (Nat.le_refl _)) (by omega)
theorem enaL_no1 {n : NNet} {zs : List Int} {bs : List NItem} (h : mrkOk n zs = false) : enaL n zs bs = [] := atsN_none _ fun j _ => by rw [enaAt, enaB, h]; rfl
theorem enaL_no2 {n : NNet} {zs : List Int} {bs : List NItem} (h : busyB n bs = false) : enaL n zs bs = [] := atsN_none _ fun j _ => by rw [enaAt, enaB, h]; simp
theorem enaL_yes {n : NNet} {zs : List Int} {bs : List NItem} (h1 : mrkOk n zs = true) (h2 : busyB n bs = true) : enaL n zs bs = atsN (canAt n zs bs) n.tasks.length :=
  atsN_congr _ fun j hj => by rw [enaAt, enaB, h1, h2, show inB (j : Int) 0 ((n.tasks.length : Int) - 1) = true by rw [inB_iff]; omega]; rfl
theorem waitL_no1 {n : NNet} {zs : List Int} {bs : List NItem} (h : mrkOk n zs = false) : waitL n zs bs = [] := by rw [waitL, h]; rfl
theorem waitL_no2 {n : NNet} {zs : List Int} {bs : List NItem} (h : busyB n bs = false) : waitL n zs bs = [] := by rw [waitL, h, Bool.and_false]; rfl
theorem waitL_yes {n : NNet} {zs : List Int} {bs : List NItem} (h1 : mrkOk n zs = true) (h2 : busyB n bs = true) : waitL n zs bs = atsN (waitAt n zs bs) n.tasks.length := by rw [waitL, h1, h2]; rfl
theorem waitL_len (n : NNet) (zs : List Int) (bs : List NItem) : (waitL n zs bs).length ≤ 1048576 := by
  by_cases h : mrkOk n zs = true
  · have := netOk_parts (mrkOk_parts h).1
    have := atsN_len (waitAt n zs bs) n.tasks.length
    unfold waitL; split
    · omega
    · simp
  · rw [waitL_no1 (by simpa using h)]; simp

theorem waits1_c (zs : List Int) (lo hi : Nat) (A : Option Addr) (b off c : Nat) (x : Nat) (bm : Nat) (w : World) (hV : Row w lo hi A b off (ints zs)) (hm0 : zs.length ≤ 1000) (hx0 : x < zs.length) (hcm : w.cell? ⟨bm, 0, none⟩ = some (.slice A zs.length c)) :
    Calls Try.prog 58 #[.int .i64 (x : Int), .pointer (some ⟨bm, 0, none⟩)] w fun e w' => e = .returned (.bool (decide (0 < zs.getD (x : Int).toNat 0))) ∧ Below w.heap.size w w' := by
  have hx2 : (x : Int) < (zs.length : Int) := by omega
  obtain ⟨rfl, _, _, y, hy, hcy, _⟩ := hV.int hx0
  have HY := Lib.hid hy
  clear hy
  go_enter Try.func58, Try.ntmps58
  go_wp2
  go_ret
  exact ⟨ret_bool (by have := HY.out; simp [this]), Below.refl _ _⟩

set_option maxRecDepth 10000 in
set_option maxHeartbeats 2000000 in
theorem implEnaTasks_c (n : NNet) (v : Value) (zs : List Int) (bs : List NItem) (lo0 hi0 lo hi lo2 hi2 : Nat) (A1 : Option Addr) (b1 off1 c1 : Nat) (Ai : Option Addr) (bi oi ci : Nat) (w : World) (hN : NetV w lo0 hi0 v n) (hhi0 : hi0 ≤ w.heap.size) (hlen : ∀ t ∈ n.tasks, t.out.length ≤ 1048576)
    (hV : Row w lo hi A1 b1 off1 (ints zs)) (hhi : hi ≤ w.heap.size) (hI : Row w lo2 hi2 Ai bi oi (itemCells bs)) (hhi2 : hi2 ≤ w.heap.size) (hm1 : zs.length ≤ maxLen) (hm2 : bs.length ≤ maxLen) :
    Calls Try.prog 29 #[v, .slice A1 zs.length c1, .slice Ai bs.length ci] w fun e w' => ∃ v', e = .returned v' ∧ Made w' w.heap.size 3 (enaL n zs bs) v' ∧ Below w.heap.size w w' := by
  obtain ⟨i0, hi0', hz0, hz1, hz2⟩ := info_parts Try.info3
  have HN := Lib.hid hN
  obtain ⟨A, b, off, c, ms, rfl, hm, hT⟩ := hN
  unfold maxLen at hm
  generalize hw0 : w.alloc (.cells #[.int .i64 n.places, .slice A n.tasks.length c] 25) = W0
  have hzW : W0.heap.size = w.heap.size + 1 := by rw [← hw0]; simp
  have hbW : Below w.heap.size w W0 := by rw [← hw0]; exact (Below.refl _ _).alloc (Nat.le_refl _) _
  have hR : Row W0 w.heap.size (w.heap.size + 1) (some ⟨w.heap.size, 0, none⟩) w.heap.size 0 [.int .i64 n.places, .slice A n.tasks.length c] := by
    rw [← hw0]; exact Row.newAt w #[.int .i64 n.places, .slice A n.tasks.length c] 25 _ rfl
  have HR := Lib.hid hR
  have HB := Lib.hid hbW
  have HNA := Lib.hid (HN.out.below hbW hhi0)
  have HT := Lib.hid (hT.keep (w' := W0) (fun g _ h => hbW.block g (by omega)) (fun g _ h => hbW.block g (by omega)))
  have HV := Lib.hid (hV.below hbW hhi)
  have HI := Lib.hid (hI.below hbW hhi2)
  have HC := Lib.hid (implMrkOk_c n _ zs lo0 hi0 lo hi A1 b1 off1 c1 W0 HNA.out (by omega) hlen HV.out (by omega) hm1)
  have HM2 := Lib.hid hm2
  have HW0 := Lib.hid hw0
  have s0 := (hR.cell (j := 0) rfl).1
  have s1 := (hR.cell (j := 1) rfl).1
  clear hR hT hV hI hw0 hbW hlen hm1 hm2
  go_enter Try.func29, Try.ntmps29
  go_upto_region 1 with fail
  rw [HW0.out]
  go_wp2_with fail
  refine HC.out.mono ?_
  rintro e w1 ⟨rfl, hb1⟩
  have hz1' : W0.heap.size ≤ w1.heap.size := hb1.size
  have hR1 := HR.out.below hb1 (by omega)
  clear s0 s1
  have s0 := (hR1.cell (j := 0) rfl).1
  have s1 := (hR1.cell (j := 1) rfl).1
  have HB1 := Lib.hid hb1
  clear hb1 hR1
  by_cases h1 : mrkOk n zs = true
  · have H1 := Lib.hid h1
    obtain ⟨hnok, hzl, _⟩ := mrkOk_parts h1
    obtain ⟨p1, p2, p3, p4, p5⟩ := netOk_parts hnok
    have hz8 : zs.length ≤ 8 := by omega
    have HZL := Lib.hid hzl
    have HNOK := Lib.hid hnok
    rw [h1]
    clear h1 hnok hzl p5
    go_wp2_with fail
    refine (busyOk_c n _ bs lo0 hi0 lo2 hi2 Ai bi oi ci w1 (HNA.out.below HB1.out (by omega)) (by omega) HNOK.out (HI.out.below HB1.out (by omega)) (by omega) HM2.out).mono ?_
    rintro e w2 ⟨rfl, hb2⟩
    have hz2' : w1.heap.size ≤ w2.heap.size := hb2.size
    have hb02 := HB1.out.trans (hb2.mono (by omega))
    have hR2 := HR.out.below hb02 (by omega)
    clear s0 s1
    have s0 := (hR2.cell (j := 0) rfl).1
    have s1 := (hR2.cell (j := 1) rfl).1
    have HB2 := Lib.hid hb02
    clear hb2 hb02 hR2
    by_cases h2 : busyB n bs = true
    · have H2 := Lib.hid h2
      rw [h2]
      clear h2
      go_wp2
      go_loopw [7, 22] (fun v i wr => ∃ k : Nat, k ≤ n.tasks.length ∧ i = .int .i64 k ∧ Made wr (w.heap.size + 1) 3 (atsN (canAt n zs bs) k) v ∧ Below (w.heap.size + 1) W0 wr) (fun _ i _ => n.tasks.length - (intOf i).toNat)
      case atStart => exact ⟨0, Nat.zero_le _, rfl, Made.nil_ _ _ _, HB2.out.mono (by omega)⟩
      case round =>
        obtain ⟨k, hk, rfl, hM, hb⟩ := hrel
        have hzr : w.heap.size + 1 ≤ wr.heap.size := by rw [← hzW]; exact hb.size
        have hlenk := atsN_len (canAt n zs bs) k
        have HMr := Lib.hid hM
        have HBr := Lib.hid hb
        have hRr := HR.out.below hb (by omega)
        clear s0 s1
        have s0 := (hRr.cell (j := 0) rfl).1
        have s1 := (hRr.cell (j := 1) rfl).1
        clear hM hb hRr
        by_cases hkt : k < n.tasks.length
        · go_wp2_with fail
          refine (can_c n _ zs bs lo0 hi0 lo hi lo2 hi2 A1 b1 off1 c1 Ai bi oi ci k wr (HNA.out.below HBr.out (by omega)) (by omega) (HV.out.below HBr.out (by omega)) (by omega) (HI.out.below HBr.out (by omega)) (by omega) H1.out H2.out hkt).mono ?_
          rintro e w4 ⟨rfl, hb4⟩
          have hz4 : wr.heap.size ≤ w4.heap.size := hb4.size
          have HB4 := Lib.hid (HBr.out.trans (hb4.mono (by omega)))
          have HM4 := Lib.hid (HMr.out.below hb4 (Nat.le_refl _))
          clear hb4 s0 s1
          by_cases hc : canB n zs bs (k : Int) = true
          · have HA := Lib.hid (atsN_yes (p := canAt n zs bs) (k := k) hc)
            rw [hc]
            clear hc
            go_wp2_with (at_builtin; refine wpList_append_own _ rfl _ _ 26 rfl (w.heap.size + 1) 3 i0 _ 1 8 Try.underlying26 hi0' hz0 hz1 hz2 rfl (by omega) _ (atsN (canAt n zs bs) k).length (ints (atsN (canAt n zs bs) k)) rfl (HM4.out.alloc _) ⟨w4.heap.size, 0, none⟩ 1 1 [.int .i64 (k : Int)] rfl rfl (one_new _ _ _) (by intro u hu; simp at hu; subst hu; rfl) (by unfold maxLen; omega) (by omega) (by simp; omega) ?_; intro v' w6 hown6 hg6 _)
            have HB6 := Lib.hid ((HB4.out.alloc (by omega) _).grown hg6 (by simp; omega) (fun k hk => Made.own HM4.out hk))
            have HO6 := Lib.hid hown6
            clear hown6 hg6
            go_wp2
            go_roundw
            case rel => exact ⟨k + 1, by omega, by go_num, by have := HO6.out; rw [HA.out]; simpa [Made, ints] using this, HB6.out⟩
            case measure => simp [intOf]; omega
          · have hc' : canB n zs bs (k : Int) = false := by simpa using hc
            have HA := Lib.hid (atsN_no (p := canAt n zs bs) (k := k) hc')
            rw [hc']
            clear hc hc'
            go_wp2
            go_roundw
            case rel => exact ⟨k + 1, by omega, by go_num, by rw [HA.out]; exact HM4.out, HB4.out⟩
            case measure => simp [intOf]; omega
        · have hkl : k = n.tasks.length := by omega
          have HKL := Lib.hid hkl
          clear hkl
          go_wp2
          go_ret
          exact ⟨_, rfl, by rw [enaL_yes H1.out H2.out, ← HKL.out]; exact HMr.out.base (by omega), HB.out.trans (HBr.out.mono (by omega))⟩
    · have h2' : busyB n bs = false := by simpa using h2
      have H2 := Lib.hid h2'
      rw [h2']
      clear h2 h2'
      go_wp2
      go_ret
      exact ⟨_, rfl, by rw [enaL_no2 H2.out]; exact Made.nil_ _ _ _, HB.out.trans (HB2.out.mono (by omega))⟩
  · have h1' : mrkOk n zs = false := by simpa using h1
    have H1 := Lib.hid h1'
    rw [h1']
    clear h1 h1'
    go_wp2
    go_ret
    exact ⟨_, rfl, by rw [enaL_no1 H1.out]; exact Made.nil_ _ _ _, HB.out.trans (HB1.out.mono (by omega))⟩

set_option maxRecDepth 10000 in
set_option maxHeartbeats 2000000 in
theorem specEnaTasks_c (n : NNet) (v : Value) (zs : List Int) (bs : List NItem) (lo0 hi0 lo hi lo2 hi2 : Nat) (A1 : Option Addr) (b1 off1 c1 : Nat) (Ai : Option Addr) (bi oi ci : Nat) (w : World) (hN : NetV w lo0 hi0 v n) (hhi0 : hi0 ≤ w.heap.size)
    (hV : Row w lo hi A1 b1 off1 (ints zs)) (hhi : hi ≤ w.heap.size) (hI : Row w lo2 hi2 Ai bi oi (itemCells bs)) (hhi2 : hi2 ≤ w.heap.size) (hm1 : zs.length ≤ maxLen) (hm2 : bs.length ≤ maxLen) :
    Calls Try.prog 30 #[v, .slice A1 zs.length c1, .slice Ai bs.length ci] w fun e w' => ∃ v', e = .returned v' ∧ Made w' w.heap.size 3 (enaL n zs bs) v' ∧ Below w.heap.size w w' := by
  obtain ⟨i0, hi0', hz0, hz1, hz2⟩ := info_parts Try.info3
  have HN := Lib.hid hN
  obtain ⟨A, b, off, c, ms, rfl, hm, hT⟩ := hN
  unfold maxLen at hm
  clear hT
  generalize hob : Obj.cells #[.int .i64 n.places, .slice A n.tasks.length c] 25 = ob
  have hR := (Row.newAt w #[.int .i64 n.places, .slice A n.tasks.length c] 25 _ rfl)
  rw [hob] at hR
  have HR := Lib.hid hR
  have HB := Lib.hid ((Below.refl w.heap.size w).alloc (Nat.le_refl _) ob)
  have HNA := Lib.hid (HN.out.keep (w' := w.alloc ob) fun g _ h => Below.heap_alloc w _ g (by omega))
  have HV := Lib.hid (hV.alloc hhi ob)
  have HI := Lib.hid (hI.alloc hhi2 ob)
  have HM1 := Lib.hid hm1
  have HM2 := Lib.hid hm2
  have HO := Lib.hid hob
  clear hR hob hV hI hm1 hm2
  go_enter Try.func30, Try.ntmps30
  go_wp2
  rw [HO.out]
  go_loopw [7, 8] (fun v i wr => ∃ k : Nat, k ≤ n.tasks.length ∧ i = .int .i64 k ∧ Made wr (w.heap.size + 1) 3 (atsN (enaAt n zs bs) k) v ∧ Below (w.heap.size + 1) (w.alloc ob) wr) (fun _ i _ => n.tasks.length - (intOf i).toNat)
  case atStart => exact ⟨0, Nat.zero_le _, rfl, by have := own_lit0 (w.alloc ob) 3; simpa [Made, atsN] using this, (Below.refl _ _).alloc (by simp) _⟩
  case round =>
    obtain ⟨k, hk, rfl, hM, hb⟩ := hrel
    have hzr : w.heap.size + 1 ≤ wr.heap.size := by simpa using hb.size
    have hlenk := enaAt_len (zs := zs) (bs := bs) hk
    have HMr := Lib.hid hM
    have HBr := Lib.hid hb
    have hRr := HR.out.below hb (by simp)
    have s0 := (hRr.cell (j := 0) rfl).1
    have s1 := (hRr.cell (j := 1) rfl).1
    clear hM hb hRr
    by_cases hkt : k < n.tasks.length
    · have hkt1 : (k : Int) < (n.tasks.length : Int) := by omega
      go_wp2_with fail
      refine (specEnaCan_c n _ zs bs lo0 hi0 lo hi lo2 hi2 A1 b1 off1 c1 Ai bi oi ci (k : Int) wr (HNA.out.below HBr.out (by omega)) (by omega) (HV.out.below HBr.out (by omega)) (by omega) (HI.out.below HBr.out (by omega)) (by omega) HM1.out HM2.out).mono ?_
      rintro e w4 ⟨rfl, hb4⟩
      have hz4 : wr.heap.size ≤ w4.heap.size := hb4.size
      have HB4 := Lib.hid (HBr.out.trans (hb4.mono (by omega)))
      have HM4 := Lib.hid (HMr.out.below hb4 (Nat.le_refl _))
      clear hb4 s0 s1
      by_cases hc : enaB n zs bs (k : Int) = true
      · have HA := Lib.hid (atsN_yes (p := enaAt n zs bs) (k := k) hc)
        rw [hc]
        clear hc
        go_wp2_with (at_builtin; refine wpList_append_own _ rfl _ _ 26 rfl (w.heap.size + 1) 3 i0 _ 1 8 Try.underlying26 hi0' hz0 hz1 hz2 rfl (by omega) _ (atsN (enaAt n zs bs) k).length (ints (atsN (enaAt n zs bs) k)) rfl (HM4.out.alloc _) ⟨w4.heap.size, 0, none⟩ 1 1 [.int .i64 (k : Int)] rfl rfl (one_new _ _ _) (by intro u hu; simp at hu; subst hu; rfl) (by unfold maxLen; omega) (by omega) (by simp; omega) ?_; intro v' w6 hown6 hg6 _)
        have HB6 := Lib.hid ((HB4.out.alloc (by omega) _).grown hg6 (by simp; omega) (fun k hk => Made.own HM4.out hk))
        have HO6 := Lib.hid hown6
        clear hown6 hg6
        go_wp2
        go_roundw
        case rel => exact ⟨k + 1, by omega, by go_num, by have := HO6.out; rw [HA.out]; simpa [Made, ints] using this, HB6.out⟩
        case measure => simp [intOf]; omega
      · have hc' : enaB n zs bs (k : Int) = false := by simpa using hc
        have HA := Lib.hid (atsN_no (p := enaAt n zs bs) (k := k) hc')
        rw [hc']
        clear hc hc'
        go_wp2
        go_roundw
        case rel => exact ⟨k + 1, by omega, by go_num, by rw [HA.out]; exact HM4.out, HB4.out⟩
        case measure => simp [intOf]; omega
    · have hkl : k = n.tasks.length := by omega
      have hkt1 : ¬ ((k : Int) < (n.tasks.length : Int)) := by omega
      have HKL := Lib.hid hkl
      clear hkl
      go_wp2
      go_ret
      exact ⟨_, rfl, by rw [enaL, ← HKL.out]; exact HMr.out.base (by omega), HB.out.trans (HBr.out.mono (by omega))⟩

set_option maxRecDepth 10000 in
set_option maxHeartbeats 2000000 in
theorem implEnaWaits_c (n : NNet) (v : Value) (zs : List Int) (bs : List NItem) (lo0 hi0 lo hi lo2 hi2 : Nat) (A1 : Option Addr) (b1 off1 c1 : Nat) (Ai : Option Addr) (bi oi ci : Nat) (w : World) (hN : NetV w lo0 hi0 v n) (hhi0 : hi0 ≤ w.heap.size) (hlen : ∀ t ∈ n.tasks, t.out.length ≤ 1048576)
    (hV : Row w lo hi A1 b1 off1 (ints zs)) (hhi : hi ≤ w.heap.size) (hI : Row w lo2 hi2 Ai bi oi (itemCells bs)) (hhi2 : hi2 ≤ w.heap.size) (hm1 : zs.length ≤ maxLen) (hm2 : bs.length ≤ maxLen) :
    Calls Try.prog 32 #[v, .slice A1 zs.length c1, .slice Ai bs.length ci] w fun e w' => ∃ v', e = .returned v' ∧ Made w' w.heap.size 3 (waitL n zs bs) v' ∧ Below w.heap.size w w' := by
  obtain ⟨i0, hi0', hz0, hz1, hz2⟩ := info_parts Try.info3
  have EG := Lib.hid (entersF Try.func58 (by kernel_rfl) rfl : EntersF Try.prog 58)
  have HN := Lib.hid hN
  obtain ⟨A, b, off, c, ms, rfl, hm, hT⟩ := hN
  unfold maxLen at hm
  generalize hw0 : ((w.alloc (.cells #[.int .i64 n.places, .slice A n.tasks.length c] 25)).alloc (.cells #[.slice A1 zs.length c1] 26)) = W0
  have hzW : W0.heap.size = w.heap.size + 2 := by rw [← hw0]; simp
  have hbW : Below w.heap.size w W0 := by rw [← hw0]; exact ((Below.refl _ _).alloc (Nat.le_refl _) _).alloc (by simp) _
  have hR : Row W0 w.heap.size (w.heap.size + 1) (some ⟨w.heap.size, 0, none⟩) w.heap.size 0 [.int .i64 n.places, .slice A n.tasks.length c] := by
    rw [← hw0]; exact (Row.newAt w #[.int .i64 n.places, .slice A n.tasks.length c] 25 _ rfl).alloc (by simp) _
  have hBM : W0.cell? ⟨w.heap.size + 1, 0, none⟩ = some (.slice A1 zs.length c1) := by
    rw [← hw0, World.cell?_alloc_at _ _ _ _ (by simp)]; rfl
  have HBM := Lib.hid hBM
  have HR := Lib.hid hR
  have HB := Lib.hid hbW
  have HNA := Lib.hid (HN.out.below hbW hhi0)
  have HT := Lib.hid (hT.keep (w' := W0) (fun g _ h => hbW.block g (by omega)) (fun g _ h => hbW.block g (by omega)))
  have HV := Lib.hid (hV.below hbW hhi)
  have HI := Lib.hid (hI.below hbW hhi2)
  have HC := Lib.hid (implMrkOk_c n _ zs lo0 hi0 lo hi A1 b1 off1 c1 W0 HNA.out (by omega) hlen HV.out (by omega) hm1)
  have HM2 := Lib.hid hm2
  have HW0 := Lib.hid hw0
  have s0 := (hR.cell (j := 0) rfl).1
  have s1 := (hR.cell (j := 1) rfl).1
  clear hR hT hV hI hw0 hbW hlen hm1 hm2
  go_enter Try.func32, Try.ntmps32
  go_upto_region 1 with fail
  rw [HW0.out]
  go_wp2_with fail
  refine HC.out.mono ?_
  rintro e w1 ⟨rfl, hb1⟩
  have hz1' : W0.heap.size ≤ w1.heap.size := hb1.size
  have hR1 := HR.out.below hb1 (by omega)
  clear s0 s1
  have s0 := (hR1.cell (j := 0) rfl).1
  have s1 := (hR1.cell (j := 1) rfl).1
  replace hBM := (hb1.cell (p := ⟨w.heap.size + 1, 0, none⟩) (by dsimp only; omega)).trans HBM.out
  have HB1 := Lib.hid hb1
  clear hb1 hR1
  by_cases h1 : mrkOk n zs = true
  · have H1 := Lib.hid h1
    obtain ⟨hnok, hzl, _⟩ := mrkOk_parts h1
    obtain ⟨p1, p2, p3, p4, p5⟩ := netOk_parts hnok
    have hz8 : zs.length ≤ 8 := by omega
    have HZL := Lib.hid hzl
    have HNOK := Lib.hid hnok
    rw [h1]
    clear h1 hnok hzl p5
    go_wp2_with fail
    refine (busyOk_c n _ bs lo0 hi0 lo2 hi2 Ai bi oi ci w1 (HNA.out.below HB1.out (by omega)) (by omega) HNOK.out (HI.out.below HB1.out (by omega)) (by omega) HM2.out).mono ?_
    rintro e w2 ⟨rfl, hb2⟩
    have hz2' : w1.heap.size ≤ w2.heap.size := hb2.size
    have hb02 := HB1.out.trans (hb2.mono (by omega))
    have hR2 := HR.out.below hb02 (by omega)
    clear s0 s1
    have s0 := (hR2.cell (j := 0) rfl).1
    have s1 := (hR2.cell (j := 1) rfl).1
    replace hBM := (hb02.cell (p := ⟨w.heap.size + 1, 0, none⟩) (by dsimp only; omega)).trans HBM.out
    have HB2 := Lib.hid hb02
    clear hb2 hb02 hR2
    by_cases h2 : busyB n bs = true
    · have H2 := Lib.hid h2
      rw [h2]
      clear h2
      go_wp2
      go_loopw [7, 23] (fun v i wr => ∃ k : Nat, k ≤ n.tasks.length ∧ i = .int .i64 k ∧ Made wr (w.heap.size + 2) 3 (atsN (waitAt n zs bs) k) v ∧ Below (w.heap.size + 2) W0 wr) (fun _ i _ => n.tasks.length - (intOf i).toNat)
      case atStart => exact ⟨0, Nat.zero_le _, rfl, Made.nil_ _ _ _, HB2.out.mono (by omega)⟩
      case round =>
        obtain ⟨k, hk, rfl, hM, hb⟩ := hrel
        have hzr : w.heap.size + 2 ≤ wr.heap.size := by rw [← hzW]; exact hb.size
        have hlenk := atsN_len (waitAt n zs bs) k
        have HMr := Lib.hid hM
        have HBr := Lib.hid hb
        have hRr := HR.out.below hb (by omega)
        clear s0 s1
        have s0 := (hRr.cell (j := 0) rfl).1
        have s1 := (hRr.cell (j := 1) rfl).1
        replace hBM := (hb.cell (p := ⟨w.heap.size + 1, 0, none⟩) (by dsimp only; omega)).trans HBM.out
        by_cases hkt : k < n.tasks.length
        · obtain ⟨rfl, _, h3, t, vi, vo, vc, hx, _, hTV, ⟨c0, c1', c2, c3, c4, c5, c6, c7, c8⟩, _⟩ := HT.out.task hkt
          obtain ⟨A2, q1, A3, q2, A4, q3, rfl, rfl, rfl⟩ := hTV.forms
          obtain ⟨_, b2, o2, _, e2, hmi, hRi⟩ := hTV.ins
          cases e2
          replace c0 := (hb.cell (p := ⟨b, off + k * 9, none⟩) (by show b < _; omega)).trans c0
          replace c1' := (hb.cell (p := ⟨b, off + k * 9 + 1, none⟩) (by show b < _; omega)).trans c1'
          replace c2 := (hb.cell (p := ⟨b, off + k * 9 + 2, none⟩) (by show b < _; omega)).trans c2
          replace c3 := (hb.cell (p := ⟨b, off + k * 9 + 3, none⟩) (by show b < _; omega)).trans c3
          replace c4 := (hb.cell (p := ⟨b, off + k * 9 + 4, none⟩) (by show b < _; omega)).trans c4
          replace c5 := (hb.cell (p := ⟨b, off + k * 9 + 5, none⟩) (by show b < _; omega)).trans c5
          replace c6 := (hb.cell (p := ⟨b, off + k * 9 + 6, none⟩) (by show b < _; omega)).trans c6
          replace c7 := (hb.cell (p := ⟨b, off + k * 9 + 7, none⟩) (by show b < _; omega)).trans c7
          replace c8 := (hb.cell (p := ⟨b, off + k * 9 + 8, none⟩) (by show b < _; omega)).trans c8
          have HX := Lib.hid hx
          have HTO := Lib.hid (taskOf_at hx)
          have HIN := Lib.hid (fun (x : Int) (hx' : x ∈ t.ins) => ins_bound HNOK.out (List.mem_of_getElem? hx) hx')
          have HMI := Lib.hid hmi
          generalize hot : Obj.cells #[.int .i64 t.join, .int .i64 t.split, .slice A2 t.ins.length q1, .slice A3 t.out.length q2, .slice A4 t.clear.length q3, .int .i64 t.role, .int .i64 t.apart, .int .i64 t.all, .int .i64 t.need] 36 = ot
          have hR4 := Row.newAt wr #[.int .i64 t.join, .int .i64 t.split, .slice A2 t.ins.length q1, .slice A3 t.out.length q2, .slice A4 t.clear.length q3, .int .i64 t.role, .int .i64 t.apart, .int .i64 t.all, .int .i64 t.need] 36 _ rfl
          rw [hot] at hR4
          have HR4 := Lib.hid hR4
          have HOT := Lib.hid hot
          have hbt := hb.alloc (show w.heap.size + 2 ≤ wr.heap.size by omega) ot
          have HBt := Lib.hid hbt
          have HMt := Lib.hid (hM.alloc ot)
          have HRi := Lib.hid hRi
          have hne1 : w.heap.size ≠ wr.heap.size := by omega
          have hne2 : w.heap.size < wr.heap.size := by omega
          have hne3 : w.heap.size + 1 ≠ wr.heap.size := by omega
          have hne4 : w.heap.size + 1 < wr.heap.size := by omega
          have hzt : (wr.alloc ot).heap.size = wr.heap.size + 1 := by simp
          have HCAN := Lib.hid (can_c n (.agg #[.int .i64 n.places, .slice (some ⟨b, off, none⟩) n.tasks.length c]) zs bs lo0 hi0 lo hi lo2 hi2 A1 b1 off1 c1 Ai bi oi ci k (wr.alloc ot) (HNA.out.below hbt (by omega)) (by omega) (HV.out.below hbt (by omega)) (by omega) (HI.out.below hbt (by omega)) (by omega) H1.out H2.out hkt)
          clear hM hb hRr hTV hx hmi hR4 hot hbt hRi
          go_wp2_with fail
          rw [HOT.out]
          refine HCAN.out.mono ?_
          rintro e w4 ⟨rfl, hb4⟩
          have hz4 : wr.heap.size + 1 ≤ w4.heap.size := by rw [← hzt]; exact hb4.size
          have hb04 := HBt.out.trans (hb4.mono (by omega))
          have HB4 := Lib.hid hb04
          have HM4 := Lib.hid (HMt.out.below hb4 (Nat.le_refl _))
          have t2 := ((HR4.out.below hb4 (by omega)).cell (j := 2) rfl).1
          have hbm4 := (hb04.cell (p := ⟨w.heap.size + 1, 0, none⟩) (by dsimp only; omega)).trans HBM.out
          clear hb4 hb04 s0 s1 hBM c0 c1' c2 c3 c4 c5 c6 c7 c8
          by_cases hc : canB n zs bs (k : Int) = true
          · have HA := Lib.hid (atsN_no (p := waitAt n zs bs) (k := k) (by rw [waitAt, hc]; simp))
            rw [hc]
            clear hc
            go_wp2
            go_roundw
            case rel => exact ⟨k + 1, by omega, by go_num, by rw [HA.out]; exact HM4.out, HB4.out⟩
            case measure => simp [intOf]; omega
          · have hc' : canB n zs bs (k : Int) = false := by simpa using hc
            have HC' := Lib.hid hc'
            rw [hc']
            clear hc hc'
            have HCC := Lib.hid (containsFuncIntOn_c t.ins lo0 hi0 A2 b2 o2 q1 58 #[.pointer (some ⟨w.heap.size + 1, 0, none⟩)] (fun p => decide (0 < zs.getD p.toNat 0)) w4
              (HRi.out.below HB4.out (by omega)) (by omega) HMI.out
              (fun x W hx hb => by
                obtain ⟨hx0, hx1⟩ := HIN.out x hx
                obtain ⟨xk, rfl⟩ := Int.eq_ofNat_of_zero_le hx0
                exact waits1_c zs lo hi A1 b1 off1 c1 xk (w.heap.size + 1) W ((HV.out.below HB4.out (by omega)).below hb (by omega)) (by omega) (by have := HZL.out; omega) ((hb.cell (p := ⟨w.heap.size + 1, 0, none⟩) (by dsimp only; omega)).trans hbm4)) EG.out)
            clear hbm4
            go_wp2_with fail
            refine HCC.out.mono ?_
            rintro e w5 ⟨rfl, hb5⟩
            have hz5 : w4.heap.size ≤ w5.heap.size := hb5.size
            have HB5 := Lib.hid (HB4.out.trans (hb5.mono (by omega)))
            have HM5 := Lib.hid (HM4.out.below hb5 (Nat.le_refl _))
            clear hb5 HCC t2
            by_cases hs : someB zs t.ins = true
            · have HA := Lib.hid (atsN_yes (p := waitAt n zs bs) (k := k) (by rw [waitAt, HTO.out, hs, HC'.out]; rfl))
              rw [show (t.ins.any fun p => decide (0 < zs.getD p.toNat 0)) = true from hs]
              clear hs
              go_wp2_with (at_builtin; refine wpList_append_own _ rfl _ _ 26 rfl (w.heap.size + 2) 3 i0 _ 1 8 Try.underlying26 hi0' hz0 hz1 hz2 rfl (by omega) _ (atsN (waitAt n zs bs) k).length (ints (atsN (waitAt n zs bs) k)) rfl (HM5.out.alloc _) ⟨w5.heap.size, 0, none⟩ 1 1 [.int .i64 (k : Int)] rfl rfl (one_new _ _ _) (by intro u hu; simp at hu; subst hu; rfl) (by unfold maxLen; omega) (by omega) (by simp; omega) ?_; intro v' w6 hown6 hg6 _)
              have HB6 := Lib.hid ((HB5.out.alloc (by omega) _).grown hg6 (by simp; omega) (fun k hk => Made.own HM5.out hk))
              have HO6 := Lib.hid hown6
              clear hown6 hg6
              go_wp2
              go_roundw
              case rel => exact ⟨k + 1, by omega, by go_num, by have := HO6.out; rw [HA.out]; simpa [Made, ints] using this, HB6.out⟩
              case measure => simp [intOf]; omega
            · have hs' : someB zs t.ins = false := by simpa using hs
              have HA := Lib.hid (atsN_no (p := waitAt n zs bs) (k := k) (by rw [waitAt, HTO.out, hs']; rfl))
              rw [show (t.ins.any fun p => decide (0 < zs.getD p.toNat 0)) = false from hs']
              clear hs hs'
              go_wp2
              go_roundw
              case rel => exact ⟨k + 1, by omega, by go_num, by rw [HA.out]; exact HM5.out, HB5.out⟩
              case measure => simp [intOf]; omega
        · have hkl : k = n.tasks.length := by omega
          have HKL := Lib.hid hkl
          clear hkl hM hb hRr
          go_wp2
          go_ret
          exact ⟨_, rfl, by rw [waitL_yes H1.out H2.out, ← HKL.out]; exact HMr.out.base (by omega), HB.out.trans (HBr.out.mono (by omega))⟩
    · have h2' : busyB n bs = false := by simpa using h2
      have H2 := Lib.hid h2'
      rw [h2']
      clear h2 h2'
      go_wp2
      go_ret
      exact ⟨_, rfl, by rw [waitL_no2 H2.out]; exact Made.nil_ _ _ _, HB.out.trans (HB2.out.mono (by omega))⟩
  · have h1' : mrkOk n zs = false := by simpa using h1
    have H1 := Lib.hid h1'
    rw [h1']
    clear h1 h1'
    go_wp2
    go_ret
    exact ⟨_, rfl, by rw [waitL_no1 H1.out]; exact Made.nil_ _ _ _, HB.out.trans (HB1.out.mono (by omega))⟩

set_option maxRecDepth 10000 in
set_option maxHeartbeats 2000000 in
theorem specEnaWaits_c (n : NNet) (v : Value) (zs : List Int) (bs : List NItem) (lo0 hi0 lo hi lo2 hi2 : Nat) (A1 : Option Addr) (b1 off1 c1 : Nat) (Ai : Option Addr) (bi oi ci : Nat) (w : World) (hN : NetV w lo0 hi0 v n) (hhi0 : hi0 ≤ w.heap.size)
    (hV : Row w lo hi A1 b1 off1 (ints zs)) (hhi : hi ≤ w.heap.size) (hI : Row w lo2 hi2 Ai bi oi (itemCells bs)) (hhi2 : hi2 ≤ w.heap.size) (hm1 : zs.length ≤ maxLen) (hm2 : bs.length ≤ maxLen) :
    Calls Try.prog 33 #[v, .slice A1 zs.length c1, .slice Ai bs.length ci] w fun e w' => ∃ v', e = .returned v' ∧ Made w' w.heap.size 3 (waitL n zs bs) v' ∧ Below w.heap.size w w' := by
  obtain ⟨i0, hi0', hz0, hz1, hz2⟩ := info_parts Try.info3
  have HN := Lib.hid hN
  obtain ⟨A, b, off, c, ms, rfl, hm, hT⟩ := hN
  unfold maxLen at hm
  generalize hw0 : ((w.alloc (.cells #[.int .i64 n.places, .slice A n.tasks.length c] 25)).alloc (.cells #[] 3)) = W0
  have hzW : W0.heap.size = w.heap.size + 2 := by rw [← hw0]; simp
  have hbW : Below w.heap.size w W0 := by rw [← hw0]; exact ((Below.refl _ _).alloc (Nat.le_refl _) _).alloc (by simp) _
  have hR : Row W0 w.heap.size (w.heap.size + 1) (some ⟨w.heap.size, 0, none⟩) w.heap.size 0 [.int .i64 n.places, .slice A n.tasks.length c] := by
    rw [← hw0]; exact (Row.newAt w #[.int .i64 n.places, .slice A n.tasks.length c] 25 _ rfl).alloc (by simp) _
  have HL0 := Lib.hid (show Made W0 (w.heap.size + 1) 3 [] (.slice (some ⟨w.heap.size + 1, 0, none⟩) 0 0) from by
    rw [← hw0]; have := own_lit0 (w.alloc (.cells #[.int .i64 n.places, .slice A n.tasks.length c] 25)) 3; simpa [Made] using this)
  have HR := Lib.hid hR
  have HB := Lib.hid hbW
  have HNA := Lib.hid (HN.out.below hbW hhi0)
  have HT := Lib.hid (hT.keep (w' := W0) (fun g _ h => hbW.block g (by omega)) (fun g _ h => hbW.block g (by omega)))
  have HV := Lib.hid (hV.below hbW hhi)
  have HI := Lib.hid (hI.below hbW hhi2)
  have HC := Lib.hid (specMrkOk_c n _ zs lo0 hi0 lo hi A1 b1 off1 c1 W0 HNA.out (by omega) HV.out (by omega) hm1)
  have HM2 := Lib.hid hm2
  have HW0 := Lib.hid hw0
  have s0 := (hR.cell (j := 0) rfl).1
  have s1 := (hR.cell (j := 1) rfl).1
  clear hR hT hV hI hw0 hbW hm1 hm2
  go_enter Try.func33, Try.ntmps33
  go_upto_region 2 with fail
  rw [HW0.out]
  go_wp2_with fail
  refine HC.out.mono ?_
  rintro e w1 ⟨rfl, hb1⟩
  have hz1' : W0.heap.size ≤ w1.heap.size := hb1.size
  have hR1 := HR.out.below hb1 (by omega)
  clear s0 s1
  have s0 := (hR1.cell (j := 0) rfl).1
  have s1 := (hR1.cell (j := 1) rfl).1
  have HL1 := Lib.hid (HL0.out.below hb1 (Nat.le_refl _))
  have HB1 := Lib.hid hb1
  clear hb1 hR1
  by_cases h1 : mrkOk n zs = true
  · have H1 := Lib.hid h1
    obtain ⟨hnok, hzl, _⟩ := mrkOk_parts h1
    obtain ⟨p1, p2, p3, p4, p5⟩ := netOk_parts hnok
    have hz8 : zs.length ≤ 8 := by omega
    have HZL := Lib.hid hzl
    have HNOK := Lib.hid hnok
    rw [h1]
    clear h1 hnok hzl p5
    go_wp2_with fail
    refine (l3Busy_c n _ bs lo0 hi0 lo2 hi2 Ai bi oi ci w1 (HNA.out.below HB1.out (by omega)) (by omega) HNOK.out (HI.out.below HB1.out (by omega)) (by omega) HM2.out).mono ?_
    rintro e w2 ⟨rfl, hb2⟩
    have hz2' : w1.heap.size ≤ w2.heap.size := hb2.size
    have hb02 := HB1.out.trans (hb2.mono (by omega))
    have hR2 := HR.out.below hb02 (by omega)
    clear s0 s1
    have s0 := (hR2.cell (j := 0) rfl).1
    have s1 := (hR2.cell (j := 1) rfl).1
    have HL2 := Lib.hid (HL1.out.below hb2 (Nat.le_refl _))
    have HB2 := Lib.hid hb02
    clear hb2 hb02 hR2
    by_cases h2 : busyB n bs = true
    · have H2 := Lib.hid h2
      rw [h2]
      clear h2
      go_wp2
      go_loopw [7, 8] (fun v i wr => ∃ k : Nat, k ≤ n.tasks.length ∧ i = .int .i64 k ∧ Made wr (w.heap.size + 1) 3 (atsN (waitAt n zs bs) k) v ∧ Below (w.heap.size + 1) W0 wr) (fun _ i _ => n.tasks.length - (intOf i).toNat)
      case atStart => exact ⟨0, Nat.zero_le _, rfl, HL2.out, HB2.out.mono (by omega)⟩
      case round =>
        obtain ⟨k, hk, rfl, hM, hb⟩ := hrel
        have hzr : w.heap.size + 2 ≤ wr.heap.size := by rw [← hzW]; exact hb.size
        have hlenk := atsN_len (waitAt n zs bs) k
        have HMr := Lib.hid hM
        have HBr := Lib.hid hb
        have hRr := HR.out.below hb (by omega)
        clear s0 s1
        have s0 := (hRr.cell (j := 0) rfl).1
        have s1 := (hRr.cell (j := 1) rfl).1
        by_cases hkt : k < n.tasks.length
        · have hkt1 : (k : Int) < (n.tasks.length : Int) := by omega
          obtain ⟨rfl, _, h3, t, vi, vo, vc, hx, _, hTV, ⟨_, _, c2, _⟩, _⟩ := HT.out.task hkt
          obtain ⟨A2, q1, A3, q2, A4, q3, rfl, rfl, rfl⟩ := hTV.forms
          obtain ⟨_, b2, o2, _, e2, hmi, hRi⟩ := hTV.ins
          cases e2
          have d2 := (hb.cell (p := ⟨b, off + k * 9 + 2, none⟩) (by show b < _; omega)).trans c2
          have HTO := Lib.hid (taskOf_at hx)
          have HS := Lib.hid (l3Some_c zs t.ins lo hi lo0 hi0 A1 b1 off1 c1 A2 b2 o2 q1 wr (HV.out.below hb (by omega)) (hRi.below hb (by omega)) (by unfold maxLen; omega) hmi (fun x hx' => by have := ins_bound HNOK.out (List.mem_of_getElem? hx) hx'; have := HZL.out; omega))
          clear hM hb hRr hTV hx hmi hRi c2
          go_wp2_with fail
          refine HS.out.mono ?_
          rintro e w' ⟨rfl, rfl⟩
          generalize ha : allB zs t.ins = a1b
          clear ha
          by_cases hs : someB zs t.ins = true
          · have HSS := Lib.hid hs
            rw [hs]
            clear hs
            go_wp2_with fail
            refine (l3Can_c n _ zs bs lo0 hi0 lo hi lo2 hi2 A1 b1 off1 c1 Ai bi oi ci k wr (HNA.out.below HBr.out (by omega)) (by omega) (HV.out.below HBr.out (by omega)) (by omega) (HI.out.below HBr.out (by omega)) (by omega) H1.out H2.out hkt).mono ?_
            rintro e w4 ⟨rfl, hb4⟩
            have hz4 : wr.heap.size ≤ w4.heap.size := hb4.size
            have HB4 := Lib.hid (HBr.out.trans (hb4.mono (by omega)))
            have HM4 := Lib.hid (HMr.out.below hb4 (Nat.le_refl _))
            clear hb4 s0 s1 d2
            by_cases hc : canB n zs bs (k : Int) = true
            · have HA := Lib.hid (atsN_no (p := waitAt n zs bs) (k := k) (by rw [waitAt, hc]; simp))
              rw [hc]
              clear hc
              go_wp2
              go_roundw
              case rel => exact ⟨k + 1, by omega, by go_num, by rw [HA.out]; exact HM4.out, HB4.out⟩
              case measure => simp [intOf]; omega
            · have hc' : canB n zs bs (k : Int) = false := by simpa using hc
              have HA := Lib.hid (atsN_yes (p := waitAt n zs bs) (k := k) (by rw [waitAt, HTO.out, HSS.out, hc']; rfl))
              rw [hc']
              clear hc hc'
              go_wp2_with (at_builtin; refine wpList_append_own _ rfl _ _ 26 rfl (w.heap.size + 1) 3 i0 _ 1 8 Try.underlying26 hi0' hz0 hz1 hz2 rfl (by omega) _ (atsN (waitAt n zs bs) k).length (ints (atsN (waitAt n zs bs) k)) rfl (HM4.out.alloc _) ⟨w4.heap.size, 0, none⟩ 1 1 [.int .i64 (k : Int)] rfl rfl (one_new _ _ _) (by intro u hu; simp at hu; subst hu; rfl) (by unfold maxLen; omega) (by omega) (by simp; omega) ?_; intro v' w6 hown6 hg6 _)
              have HB6 := Lib.hid ((HB4.out.alloc (by omega) _).grown hg6 (by simp; omega) (fun k hk => Made.own HM4.out hk))
              have HO6 := Lib.hid hown6
              clear hown6 hg6
              go_wp2
              go_roundw
              case rel => exact ⟨k + 1, by omega, by go_num, by have := HO6.out; rw [HA.out]; simpa [Made, ints] using this, HB6.out⟩
              case measure => simp [intOf]; omega
          · have hs' : someB zs t.ins = false := by simpa using hs
            have HA := Lib.hid (atsN_no (p := waitAt n zs bs) (k := k) (by rw [waitAt, HTO.out, hs']; rfl))
            rw [hs']
            clear hs hs'
            go_wp2
            go_roundw
            case rel => exact ⟨k + 1, by omega, by go_num, by rw [HA.out]; exact HMr.out, HBr.out⟩
            case measure => simp [intOf]; omega
        · have hkl : k = n.tasks.length := by omega
          have hkt1 : ¬ ((k : Int) < (n.tasks.length : Int)) := by omega
          have HKL := Lib.hid hkl
          clear hkl hM hb hRr
          go_wp2
          go_ret
          exact ⟨_, rfl, by rw [waitL_yes H1.out H2.out, ← HKL.out]; exact HMr.out.base (by omega), HB.out.trans (HBr.out.mono (by omega))⟩
    · have h2' : busyB n bs = false := by simpa using h2
      have H2 := Lib.hid h2'
      rw [h2']
      clear h2 h2'
      go_wp2
      go_ret
      exact ⟨_, rfl, by rw [waitL_no2 H2.out]; exact HL2.out.base (by omega), HB.out.trans (HB2.out.mono (by omega))⟩
  · have h1' : mrkOk n zs = false := by simpa using h1
    have H1 := Lib.hid h1'
    rw [h1']
    clear h1 h1'
    go_wp2
    go_ret
    exact ⟨_, rfl, by rw [waitL_no1 H1.out]; exact HL1.out.base (by omega), HB.out.trans (HB1.out.mono (by omega))⟩
end Go.Proofs.Ytkcbghaadjhceaa
