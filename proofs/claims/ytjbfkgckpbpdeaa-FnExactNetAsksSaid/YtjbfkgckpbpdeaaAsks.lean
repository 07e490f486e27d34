/- NetAsks: the program, by the contracts of slices.Sort and slices.Compact, and the reference. -/
import Derived.Test.YtjbfkgckpbpdeaaShelf
import Derived.Test.YtjbfkgckpbpdeaaAsksP
import Derived.Test.YtjbfkgckpbpdeaaTakeL
import Derived.BigQuiet
namespace Go.Proofs.Ytjbfkgckpbpdeaa
open Go.RowKit
set_option linter.unusedVariables false
set_option linter.unusedSimpArgs false

/-- A row of numbers that reads so, in new memory. -/
def MadeR (w' : World) (base : Nat) (zs : List Int) (v : Value) : Prop := ∃ A b c, v = .slice A zs.length c ∧ Row w' base w'.heap.size A b 0 (ints zs)
theorem MadeR.row {w' : World} {base : Nat} {zs : List Int} {v : Value} (h : MadeR w' base zs v) : ∃ A b c, v = .slice A zs.length c ∧ Row w' base w'.heap.size A b 0 (ints zs) := h
theorem MadeR.of {w' : World} {base base' : Nat} {e : TypeId} {zs : List Int} {v : Value} (h : Made w' base' e zs v) (hb : base ≤ base') : MadeR w' base zs v := by
  obtain ⟨A, b, c, rfl, hr⟩ := h.row
  exact ⟨A, b, c, rfl, hr.more hb (Nat.le_refl _)⟩
theorem Made.room {w : World} {base g n c : Nat} {e : TypeId} {zs : List Int} (h : Made w base e zs (.slice (some ⟨g, 0, none⟩) n c)) : zs.length ≤ c := by
  rcases h.2 with ⟨hv, _⟩ | ⟨g', cap, cur, hv, _, _, hn, _⟩
  · cases hv
  · injection hv with _ _ hv; omega
theorem Made.holds {w : World} {base g c : Nat} {e : TypeId} {zs : List Int} (h : Made w base e zs (.slice (some ⟨g, 0, none⟩) zs.length c)) : Sort.Holds (Value.int .i64) w g 0 zs.toArray := by
  intro j hj
  have hj' : j < zs.length := by simpa using hj
  unfold Made at h
  have hc := h.cellAt j (by omega)
  rw [Nat.zero_add, hc, ints_at (List.getElem?_eq_getElem hj'), getElem!_pos zs.toArray j hj]
  exact ⟨by simp, h.frozenAt j⟩
theorem row_of_holds {w : World} {base g : Nat} {L rest : List Int} (hH : Sort.Holds (Value.int .i64) w g 0 (L ++ rest).toArray) (hb : base ≤ g) (hg : g < w.heap.size) : Row w base w.heap.size (some ⟨g, 0, none⟩) g 0 (ints L) := by
  refine ⟨fun _ => ⟨rfl, hb, hg⟩, fun j u hu => ?_⟩
  have hj := lt_of_some hu
  have hj' : j < L.length := by simpa using hj
  have hs : j < (L ++ rest).toArray.size := by simp; omega
  obtain ⟨h1, h2⟩ := hH j hs
  refine ⟨?_, h2⟩
  rw [h1, getElem!_pos _ j hs]
  rw [ints_at (List.getElem?_eq_getElem hj')] at hu
  injection hu with hu
  rw [← hu]
  simp [List.getElem_append_left hj']
theorem put_other {w : World} {g q : Nat} {d : Array Int} {k : Nat} (h : k ≠ g) : (Sort.putRow (Value.int .i64) (Sort.ahead w q) g 0 d).heap[k]? = w.heap[k]? := by
  simp [Sort.putRow, Sort.mapBlock, Array.getElem?_modify, Sort.ahead, Ne.symm h]
theorem below_putRow {B : Nat} {a w : World} (h : Below B a w) {g q : Nat} (hg : B ≤ g) (d : Array Int) : Below B a (Sort.putRow (Value.int .i64) (Sort.ahead w q) g 0 d) :=
  ⟨h.os, h.tape, h.output, by rw [Sort.size_putRow]; exact h.size, fun i hi => (put_other (by omega)).trans (h.block i hi)⟩
theorem below_growS {B : Nat} {a w : World} (h : Below B a w) (hB : B ≤ w.heap.size) (os : Array Obj) : Below B a (Sort.grow w os) :=
  ⟨h.os, h.tape, h.output, by rw [Sort.size_grow]; have := h.size; omega, fun i hi => (Sort.heap_grow_old w os (by omega)).trans (h.block i hi)⟩
theorem compact_le (zs : List Int) : (Lib.compact zs).length ≤ zs.length := by
  unfold Lib.compact Lib.compactUpTo
  rw [List.length_map]
  have := List.length_filter_le (Lib.keeps zs.toArray) (List.range zs.length)
  simpa using this
def rolesN (n : NNet) (k : Nat) : List Int := (n.tasks.take k).map NTask.role
theorem rolesN_succ {n : NNet} {k : Nat} {t : NTask} (h : n.tasks[k]? = some t) : rolesN n (k + 1) = rolesN n k ++ [t.role] := by
  unfold rolesN; rw [take_succ_of h, List.map_append]; rfl
theorem rolesN_len (n : NNet) (k : Nat) : (rolesN n k).length ≤ k := by unfold rolesN; rw [List.length_map, List.length_take]; omega

set_option maxRecDepth 10000 in
set_option maxHeartbeats 2000000 in
theorem implNetAsks_c (n : NNet) (v : Value) (lo hi : Nat) (w : World) (hN : NetV w lo hi v n) (hhi : hi ≤ w.heap.size) (hlen : ∀ t ∈ n.tasks, t.out.length ≤ 1048576) :
    Calls Try.prog 7 #[v] w fun e w' => ∃ v', e = .returned v' ∧ MadeR w' w.heap.size (asksL n) v' ∧ Below w.heap.size w w' := by
  obtain ⟨i0, hi0, hz0, hz1, hz2⟩ := info_parts Try.info3
  have hN' := hN
  obtain ⟨A, b, off, c, ms, rfl, hm, hT⟩ := hN
  have HC := Lib.hid (implNetOk_c n _ lo hi (w.alloc (.cells #[.int .i64 n.places, .slice A n.tasks.length c] 30)) (hN'.keep fun g _ h => Below.heap_alloc w _ g (by omega)) (by simp; omega) hlen)
  have HR := Lib.hid (Row.newAt w #[.int .i64 n.places, .slice A n.tasks.length c] 30 _ rfl)
  clear hN' hlen
  go_enter Try.func7, Try.ntmps7
  go_wp2_with fail
  refine HC.out.mono ?_
  rintro e w1 ⟨rfl, hb1⟩
  have hR1 := HR.out.below hb1 (by simp)
  have hB1 := ((Below.refl w.heap.size w).alloc (Nat.le_refl _) (.cells #[.int .i64 n.places, .slice A n.tasks.length c] 30)).trans (hb1.mono (by simp))
  have s0 := (hR1.cell (j := 0) rfl).1
  have s1 := (hR1.cell (j := 1) rfl).1
  have hz1' : w.heap.size ≤ w1.heap.size := hB1.size
  have HB1 := Lib.hid hB1
  clear hb1 hR1 hB1
  by_cases h1 : netOk n = true
  · have H1 := Lib.hid h1
    obtain ⟨p1, p2, p3, p4, p5⟩ := netOk_parts h1
    rw [h1]
    clear h1 p5
    go_wp2
    go_loopw [3, 12] (fun v i wr => ∃ k : Nat, k ≤ n.tasks.length ∧ i = .int .i64 k ∧ Made wr w1.heap.size 3 (rolesN n k) v ∧ Below w1.heap.size w1 wr) (fun _ i _ => n.tasks.length - (intOf i).toNat)
    case atStart => exact ⟨0, Nat.zero_le _, rfl, Made.nil_ _ _ _, Below.refl _ _⟩
    case round =>
      obtain ⟨k, hk, rfl, hM, hb⟩ := hrel
      have hzr : w1.heap.size ≤ wr.heap.size := hb.size
      have hrl := rolesN_len n k
      have HM := Lib.hid hM
      have HB := Lib.hid hb
      clear s0 s1
      by_cases hlt : k < n.tasks.length
      · clear hM
        obtain ⟨rfl, _, h3, t, vi, vo, vc, hx, _, hTV, ⟨c0, c1, c2, c3, c4, c5, c6, c7, c8⟩, _⟩ := hT.task hlt
        have hb0 := HB1.out.trans (hb.mono hz1')
        obtain ⟨A1, q1, A2, q2, A3, q3, rfl, rfl, rfl⟩ := hTV.forms
        replace c0 := (hb0.cell (p := ⟨b, off + k * 9, none⟩) (by show b < _; omega)).trans c0
        replace c1 := (hb0.cell (p := ⟨b, off + k * 9 + 1, none⟩) (by show b < _; omega)).trans c1
        replace c2 := (hb0.cell (p := ⟨b, off + k * 9 + 2, none⟩) (by show b < _; omega)).trans c2
        replace c3 := (hb0.cell (p := ⟨b, off + k * 9 + 3, none⟩) (by show b < _; omega)).trans c3
        replace c4 := (hb0.cell (p := ⟨b, off + k * 9 + 4, none⟩) (by show b < _; omega)).trans c4
        replace c5 := (hb0.cell (p := ⟨b, off + k * 9 + 5, none⟩) (by show b < _; omega)).trans c5
        replace c6 := (hb0.cell (p := ⟨b, off + k * 9 + 6, none⟩) (by show b < _; omega)).trans c6
        replace c7 := (hb0.cell (p := ⟨b, off + k * 9 + 7, none⟩) (by show b < _; omega)).trans c7
        replace c8 := (hb0.cell (p := ⟨b, off + k * 9 + 8, none⟩) (by show b < _; omega)).trans c8
        have HS := Lib.hid (rolesN_succ hx)
        have HM2 := Lib.hid (HM.out.alloc (.cells #[.int .i64 t.join, .int .i64 t.split, .slice A1 t.ins.length q1, .slice A2 t.out.length q2, .slice A3 t.clear.length q3, .int .i64 t.role, .int .i64 t.apart, .int .i64 t.all, .int .i64 t.need] 41))
        have HB2 := Lib.hid (HB.out.alloc hzr (.cells #[.int .i64 t.join, .int .i64 t.split, .slice A1 t.ins.length q1, .slice A2 t.out.length q2, .slice A3 t.clear.length q3, .int .i64 t.role, .int .i64 t.apart, .int .i64 t.all, .int .i64 t.need] 41))
        have hsz2 : (wr.alloc (.cells #[.int .i64 t.join, .int .i64 t.split, .slice A1 t.ins.length q1, .slice A2 t.out.length q2, .slice A3 t.clear.length q3, .int .i64 t.role, .int .i64 t.apart, .int .i64 t.all, .int .i64 t.need] 41)).heap.size = wr.heap.size + 1 := by simp
        have HSZ := Lib.hid hsz2
        clear hx hb hb0 hTV hsz2
        go_wp2_with (at_builtin; refine wpList_append_own _ rfl _ _ 26 rfl w1.heap.size 3 i0 _ 1 8 Try.underlying26 hi0 hz0 hz1 hz2 rfl (by omega) _ (rolesN n k).length (ints (rolesN n k)) rfl (HM2.out.alloc _) ⟨wr.heap.size + 1, 0, none⟩ 1 1 [.int .i64 t.role] rfl rfl (by have := one_new (wr.alloc (.cells #[.int .i64 t.join, .int .i64 t.split, .slice A1 t.ins.length q1, .slice A2 t.out.length q2, .slice A3 t.clear.length q3, .int .i64 t.role, .int .i64 t.apart, .int .i64 t.all, .int .i64 t.need] 41)) (.int .i64 t.role) 3; rw [HSZ.out] at this; exact this) (by intro u hu; simp at hu; subst hu; rfl) (by unfold maxLen; omega) (by omega) (by simp; omega) ?_; intro v' w3 hown3 hg3 _; have HB3 := Lib.hid ((HB2.out.alloc (by simp; omega) (.cells #[.int .i64 t.role] 3)).grown hg3 (by simp; omega) (fun k hk => Made.own HM2.out hk)); have HO3 := Lib.hid hown3; clear hown3 hg3)
        go_roundw
        case rel => exact ⟨k + 1, by omega, by go_num, by have := HO3.out; rw [HS.out]; simpa [Made, ints] using this, HB3.out⟩
        case measure => simp [intOf]; omega
      · have hkn : k = n.tasks.length := by omega
        have hro : rolesN n k = rolesL n := by unfold rolesN rolesL; rw [List.take_of_length_le (by omega)]
        rw [hro] at hM HM hrl
        have hr1 : 0 < (rolesL n).length := by unfold rolesL; rw [List.length_map]; omega
        obtain ⟨g, c', rfl, hg1, hg2⟩ := hM.len hr1
        have hcap := hM.room
        have HH := Lib.hid hM.holds
        have HL := Lib.hid (asks_law H1.out)
        have hsl : ((rolesL n).mergeSort fun x y => decide (x ≤ y)).length = (rolesL n).length := List.length_mergeSort _
        have HSL := Lib.hid hsl
        have HSort := Lib.hid (Try.slices_Sort_int g 0 c' (rolesL n) wr HH.out hg2 (by omega))
        clear hkn hro hM hb hsl
        go_wp2_with fail
        refine HSort.out.mono ?_
        rintro e w2 ⟨rfl, nq, os, hw2⟩
        have HH2 : Sort.Holds (Value.int .i64) w2 g 0 ((rolesL n).mergeSort fun x y => decide (x ≤ y)).toArray := by
          rw [hw2]
          exact Sort.holds_grow _ _ _ _ _ _ (by rw [Sort.size_putRow]; exact hg2) (Sort.holds_putRow _ _ _ _ (rolesL n).toArray _ (Sort.holds_ahead _ _ _ _ _ _ HH.out) (by simp [HSL.out]))
        have HB2 : Below w1.heap.size w1 w2 := by
          rw [hw2]
          exact below_growS (below_putRow HB.out hg1 _) (by rw [Sort.size_putRow]; exact hzr) _
        have hg3 : g < w2.heap.size := by rw [hw2, Sort.size_grow, Sort.size_putRow]; have : (Sort.ahead wr nq).heap.size = wr.heap.size := rfl; omega
        replace HH2 := Lib.hid HH2
        replace HB2 := Lib.hid HB2
        have hco := Try.slices_Compact_int g 0 c' ((rolesL n).mergeSort fun x y => decide (x ≤ y)) w2 HH2.out (by rw [HSL.out]; omega) (by rw [HSL.out]; exact hcap)
        rw [HSL.out, HL.out] at hco
        have HCO := Lib.hid hco
        clear hw2 hco
        go_wp2_with fail
        refine HCO.out.mono ?_
        rintro e w3 ⟨rfl, q, hw3⟩
        have hal : (asksL n).length ≤ (rolesL n).length := by rw [← HL.out]; have := compact_le ((rolesL n).mergeSort fun x y => decide (x ≤ y)); rw [HSL.out] at this; exact this
        have HR3 : Row w3 w.heap.size w3.heap.size (some ⟨g, 0, none⟩) g 0 (ints (asksL n)) := by
          rw [hw3]
          exact row_of_holds (Sort.holds_putRow _ _ _ _ ((rolesL n).mergeSort fun x y => decide (x ≤ y)).toArray _ (Sort.holds_ahead _ _ _ _ _ _ HH2.out) (by simp [HSL.out]; omega)) (by omega) (by rw [Sort.size_putRow]; exact hg3)
        have HB3 : Below w.heap.size w w3 := by
          rw [hw3]
          exact below_putRow (HB1.out.trans (HB2.out.mono hz1')) (by omega) _
        replace HR3 := Lib.hid HR3
        replace HB3 := Lib.hid HB3
        clear hw3 hal
        go_wp2
        go_ret
        exact ⟨_, rfl, ⟨_, g, _, rfl, HR3.out⟩, HB3.out⟩
  · have h1' : netOk n = false := by simpa using h1
    have H1 := Lib.hid h1'
    rw [h1']
    clear h1 h1'
    go_wp2
    go_ret
    exact ⟨_, rfl, by rw [asksL_no H1.out]; exact MadeR.of (Made.nil_ _ w.heap.size 3) (Nat.le_refl _), HB1.out⟩
/-- Of the roles so far those that are asked for. -/
def asksN (n : NNet) (r : Nat) : List Int := ((List.range r).map fun j : Nat => ((j : Int) + 1)).filter (askedB n)
theorem asksN_end (n : NNet) : asksN n 3 = ([1, 2, 3] : List Int).filter (askedB n) := rfl
theorem asksN_yes {n : NNet} {r : Nat} (h : askedB n ((r : Int) + 1) = true) : asksN n (r + 1) = asksN n r ++ [(r : Int) + 1] := by
  unfold asksN; rw [List.range_succ, List.map_append, List.filter_append]; simp [h]
theorem asksN_no {n : NNet} {r : Nat} (h : askedB n ((r : Int) + 1) = false) : asksN n (r + 1) = asksN n r := by
  unfold asksN; rw [List.range_succ, List.map_append, List.filter_append]; simp [h]
theorem asksN_len (n : NNet) (r : Nat) : (asksN n r).length ≤ r := by
  unfold asksN
  have := List.length_filter_le (askedB n) ((List.range r).map fun j : Nat => ((j : Int) + 1))
  simpa using this
def askedN (n : NNet) (r : Int) (k : Nat) : Bool := (n.tasks.take k).any fun t => t.role == r
theorem askedN_succ {n : NNet} {r : Int} {k : Nat} {t : NTask} (h : n.tasks[k]? = some t) : askedN n r (k + 1) = (askedN n r k || t.role == r) := any_snoc _ h
theorem askedN_end (n : NNet) (r : Int) : askedN n r n.tasks.length = askedB n r := by unfold askedN; rw [List.take_of_length_le (Nat.le_refl _)]; rfl

set_option maxRecDepth 10000 in
set_option maxHeartbeats 2000000 in
theorem specNetAsks_c (n : NNet) (v : Value) (lo hi : Nat) (w : World) (hN : NetV w lo hi v n) (hhi : hi ≤ w.heap.size) :
    Calls Try.prog 5 #[v] w fun e w' => ∃ v', e = .returned v' ∧ MadeR w' w.heap.size (asksL n) v' ∧ Below w.heap.size w w' := by
  obtain ⟨i0, hi0, hz0, hz1, hz2⟩ := info_parts Try.info3
  have hN' := hN
  obtain ⟨A, b, off, c, ms, rfl, hm, hT⟩ := hN
  unfold maxLen at hm
  have hR := (Row.newAt w #[.int .i64 n.places, .slice A n.tasks.length c] 30 _ rfl)
  have hB := (Below.refl w.heap.size w).alloc (Nat.le_refl _) (.cells #[.int .i64 n.places, .slice A n.tasks.length c] 30)
  have hB2 := hB.alloc (by simp) (.cells #[] 3)
  have HR0 := Lib.hid (hR.alloc (by simp) (.cells #[] 3))
  have HN := Lib.hid hN'
  have hM0 : Made ((w.alloc (.cells #[.int .i64 n.places, .slice A n.tasks.length c] 30)).alloc (.cells #[] 3)) (w.heap.size + 1) 3 [] (.slice (some ⟨w.heap.size + 1, 0, none⟩) 0 0) := by
    have hs : (w.alloc (.cells #[.int .i64 n.places, .slice A n.tasks.length c] 30)).heap.size = w.heap.size + 1 := by simp
    have h0 : Made ((w.alloc (.cells #[.int .i64 n.places, .slice A n.tasks.length c] 30)).alloc (.cells #[] 3)) (w.alloc (.cells #[.int .i64 n.places, .slice A n.tasks.length c] 30)).heap.size 3 [] (.slice (some ⟨(w.alloc (.cells #[.int .i64 n.places, .slice A n.tasks.length c] 30)).heap.size, 0, none⟩) 0 0) := own_lit0 _ _
    rwa [hs] at h0
  have HM0 := Lib.hid hM0
  have HB0 := Lib.hid hB2
  have HT := Lib.hid hT
  clear hN' hR hB hB2 hM0 hT
  go_enter Try.func5, Try.ntmps5
  go_wp2
  go_loopw [3, 4] (fun v i wr => ∃ r : Nat, r ≤ 3 ∧ i = .int .i64 ((r : Int) + 1) ∧ Made wr (w.heap.size + 1) 3 (asksN n r) v ∧ (0 < r → netOk n = true) ∧ Row wr w.heap.size (w.heap.size + 1) (some ⟨w.heap.size, 0, none⟩) w.heap.size 0 [.int .i64 n.places, .slice A n.tasks.length c] ∧ Below w.heap.size w wr ∧ w.heap.size + 2 ≤ wr.heap.size) (fun _ i _ => (4 - intOf i).toNat)
  case atStart => exact ⟨0, by omega, rfl, HM0.out, fun h => absurd h (Nat.lt_irrefl 0), HR0.out, HB0.out, by simp⟩
  case round =>
    clear HM0 HB0 HR0
    obtain ⟨r, hr, rfl, hM, hok, hR', hb, hsz⟩ := hrel
    have HM := Lib.hid hM
    have HR := Lib.hid hR'
    have HB := Lib.hid hb
    have HOK := Lib.hid hok
    have s0 := (hR'.cell (j := 0) rfl).1
    have s1 := (hR'.cell (j := 1) rfl).1
    have hal := asksN_len n r
    clear hM hR' hb hok
    by_cases hlt : r < 3
    · have hlt1 : (r : Int) + 1 ≤ 3 := by omega
      have hlt2 : decide ((r : Int) + 1 ≤ 3) = true := decide_eq_true hlt1
      go_wp2_with fail
      refine (specNetOk_c n _ lo hi _ (HN.out.below HB.out hhi) (Nat.le_trans hhi HB.out.size)).mono ?_
      rintro e w2 ⟨rfl, hb2⟩
      have hs2 : wr.heap.size ≤ w2.heap.size := hb2.size
      have HR2 := Lib.hid (HR.out.below hb2 (by omega))
      have HM2 := Lib.hid (HM.out.below hb2 (Nat.le_refl _))
      have HB2 := Lib.hid (HB.out.trans (hb2.mono HB.out.size))
      clear hb2 s0 s1
      have s0 := (HR2.out.cell (j := 0) rfl).1
      have s1 := (HR2.out.cell (j := 1) rfl).1
      by_cases h1 : netOk n = true
      · have H1 := Lib.hid h1
        obtain ⟨p1, p2, p3, p4, p5⟩ := netOk_parts h1
        rw [h1]
        clear h1 p5
        go_wp2
        go_loop [5, 6] (fun a i => ∃ k : Nat, k ≤ n.tasks.length ∧ i = .int .i64 k ∧ a = .bool (askedN n ((r : Int) + 1) k)) (fun _ i => n.tasks.length - (intOf i).toNat)
        case atStart => exact ⟨0, Nat.zero_le _, rfl, rfl⟩
        case round =>
          obtain ⟨k, hk, rfl, rfl⟩ := hrel
          by_cases hkt : k < n.tasks.length
          · have hkt1 : (k : Int) < (n.tasks.length : Int) := by omega
            obtain ⟨rfl, _, h3, t, _, _, _, hx, _, _, ⟨_, _, _, _, _, c5, _⟩, _⟩ := HT.out.task hkt
            replace c5 := (HB2.out.cell (p := ⟨b, off + k * 9 + 5, none⟩) (by show b < _; omega)).trans c5
            have HS := Lib.hid (askedN_succ (r := (r : Int) + 1) hx)
            clear hx
            generalize askedN n ((r : Int) + 1) k = ab at HS ⊢
            cases ab with
            | true =>
              go_wp2
              go_round
              case rel => exact ⟨k + 1, by omega, by go_num, by rw [HS.out]; rfl⟩
              case measure => simp [intOf]; omega
            | false =>
              cases hro : (t.role == (r : Int) + 1) with
              | true =>
                have HRO := Lib.hid hro
                go_wp2
                go_round
                case rel => exact ⟨k + 1, by omega, by go_num, by rw [HS.out, HRO.out]; rfl⟩
                case measure => simp [intOf]; omega
              | false =>
                have HRO := Lib.hid hro
                go_wp2
                go_round
                case rel => exact ⟨k + 1, by omega, by go_num, by rw [HS.out, HRO.out]; rfl⟩
                case measure => simp [intOf]; omega
          · have hkt1 : ¬ ((k : Int) < (n.tasks.length : Int)) := by omega
            obtain rfl : k = n.tasks.length := by omega
            rw [askedN_end]
            cases hab : askedB n ((r : Int) + 1) with
            | true =>
              have HY := Lib.hid (asksN_yes hab)
              clear hab
              go_wp2_with (at_builtin; refine wpList_append_own _ rfl _ _ 26 rfl (w.heap.size + 1) 3 i0 _ 1 8 Try.underlying26 hi0 hz0 hz1 hz2 rfl (by omega) _ (asksN n r).length (ints (asksN n r)) rfl (HM2.out.alloc _) ⟨w2.heap.size, 0, none⟩ 1 1 [.int .i64 ((r : Int) + 1)] rfl rfl (one_new _ _ _) (by intro u hu; simp at hu; subst hu; rfl) (by unfold maxLen; omega) (by omega) (by simp; omega) ?_; intro v' w3 hown3 hg3 _; have HB3 := Lib.hid ((HB2.out.alloc (by omega) (.cells #[.int .i64 ((r : Int) + 1)] 3)).grown hg3 (by simp; omega) (fun k hk => by have := Made.own HM2.out hk; omega)); have HO3 := Lib.hid hown3; have HR3 := Lib.hid ((HR2.out.alloc (by omega) (.cells #[.int .i64 ((r : Int) + 1)] 3)).keep (w' := w3) (fun g h1 h2 => hg3.block g (by simp; omega) (fun e => by have := Made.own HM2.out e.symm; omega))); have hs3 := hg3.size; clear hown3 hg3)
              go_roundw
              case rel => exact ⟨r + 1, by omega, by go_num, by have := HO3.out; rw [HY.out]; simpa [Made, ints] using this, fun _ => H1.out, HR3.out, HB3.out, by simp at hs3; omega⟩
              case measure => simp [intOf]; omega
            | false =>
              have HY := Lib.hid (asksN_no hab)
              clear hab
              go_wp2
              go_roundw
              case rel => exact ⟨r + 1, by omega, by go_num, by rw [HY.out]; exact HM2.out, fun _ => H1.out, HR2.out, HB2.out, by omega⟩
              case measure => simp [intOf]; omega
      · have h1' : netOk n = false := by simpa using h1
        have H1 := Lib.hid h1'
        have h0 : r = 0 := by
          rcases Nat.eq_zero_or_pos r with h | h
          · exact h
          · have := HOK.out h; rw [H1.out] at this; cases this
        subst h0
        rw [h1']
        clear h1 h1'
        go_wp2
        go_ret
        exact ⟨_, rfl, by rw [asksL_no H1.out]; exact MadeR.of (base' := w.heap.size + 1) HM2.out (by omega), HB2.out⟩
    · have hr3 : r = 3 := by omega
      subst hr3
      have hlt2 : decide (((3 : Nat) : Int) + 1 ≤ 3) = false := by decide
      have HLN := Lib.hid (show asksN n 3 = asksL n by rw [asksL_yes (HOK.out (by omega)), asksN_end])
      go_wp2
      go_ret
      exact ⟨_, rfl, by rw [← HLN.out]; exact MadeR.of HM.out (by omega), HB.out⟩
end Go.Proofs.Ytjbfkgckpbpdeaa
