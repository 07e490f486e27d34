/- Which places can be come to from one: the reference. -/
import Derived.Test.YtoggdhbnkbdilaaSpread
namespace Go.Proofs.Ytoggdhbnkbdilaa
open Go.RowKit
set_option linter.unusedVariables false
set_option linter.unusedSimpArgs false

/-- Of each place of a net that is ok, whether it can be come to from one, through tasks but one. -/
def reachN (n : NNet) (place but : Int) : List Bool := if netOk n && inB place 0 (n.places - 1) then reachAll n but (single n.places.toNat place) else []
theorem reachN_yes {n : NNet} {place but : Int} (h1 : netOk n = true) (h2 : inB place 0 (n.places - 1) = true) : reachN n place but = reachAll n but (single n.places.toNat place) := by rw [reachN, h1, h2]; rfl
theorem reachN_no1 {n : NNet} {place but : Int} (h1 : netOk n = false) : reachN n place but = [] := by rw [reachN, h1]; rfl
theorem reachN_no2 {n : NNet} {place but : Int} (h1 : netOk n = true) (h2 : inB place 0 (n.places - 1) = false) : reachN n place but = [] := by rw [reachN, h1, h2]; rfl
theorem reachN_len (n : NNet) (place but : Int) : (reachN n place but).length ≤ 8 := by
  unfold reachN
  split
  · next h =>
    rw [Bool.and_eq_true] at h
    have := netOk_parts h.1
    rw [reachAll_length, single_length]; omega
  · simp
theorem made_false (m : Nat) : (madeCells (Value.bool false).cells (m * 1)).toList = bools (List.replicate m false) := by
  refine List.ext_getElem (by simp [size_madeCells]) fun i h1 h2 => ?_
  have hc : (Value.bool false).cells = #[.bool false] := by rfl
  simp only [hc, Nat.mul_one]
  simp [madeCells, Nat.mod_one]
/-- The truth values that a call has just made, and the one that it stores. -/
theorem made_single {w : World} {base : Nat} {e : TypeId} {g m c : Nat} (h : w.ownsRow base e 1 (.slice (some ⟨g, 0, none⟩) m c) m (madeCells (Value.bool false).cells (m * 1)).toList) {p : Nat} (hp : p < m) :
    w.cell? ⟨g, p, none⟩ = some (.bool ((List.replicate m false).getD p false)) ∧ w.frozen? ⟨g, p, none⟩ = false ∧ MadeB (w.setCell ⟨g, p, none⟩ (.bool true)) base e (single m (p : Int)) (.slice (some ⟨g, 0, none⟩) m c) := by
  rw [made_false] at h
  have h2 : MadeB w base e (List.replicate m false) (.slice (some ⟨g, 0, none⟩) m c) := by unfold MadeB; rw [List.length_replicate]; exact h
  exact h2.at_ (by simp) (by simpa using hp)
theorem own_lit0B (w : World) (base : Nat) (e : TypeId) (hb : base ≤ w.heap.size) : MadeB (w.alloc (.cells #[] e)) base e [] (.slice (some ⟨w.heap.size, 0, none⟩) 0 0) :=
  MadeB.base (base := w.heap.size) (own_lit0 w e) hb

set_option maxRecDepth 10000 in
set_option maxHeartbeats 1000000 in
theorem specNetReach_c (n : NNet) (v : Value) (lo hi : Nat) (place but : Int) (w : World) (hN : NetV w lo hi v n) (hhi : hi ≤ w.heap.size) :
    Calls Try.prog 30 #[v, .int .i64 place, .int .i64 but] w fun e w' => ∃ v', e = .returned v' ∧ MadeB w' w.heap.size 4 (reachN n place but) v' ∧ Below w.heap.size w w' := by
  obtain ⟨i0, hi0, hz0, hz1, hz2⟩ := info_parts Try.infoB
  have HN := Lib.hid hN
  obtain ⟨A, b, off, c, ms, rfl, hm, hT⟩ := hN
  unfold maxLen at hm
  clear hT
  generalize hob : Obj.cells #[.int .i64 n.places, .slice A n.tasks.length c] 25 = ob
  have hR := (Row.newAt w #[.int .i64 n.places, .slice A n.tasks.length c] 25 _ rfl)
  rw [hob] at hR
  have HR := Lib.hid hR
  have HB := Lib.hid ((Below.refl w.heap.size w).alloc (Nat.le_refl _) ob)
  have HC := Lib.hid (specNetOk_c n _ lo hi (w.alloc ob) (HN.out.keep fun g _ h => Below.heap_alloc w _ g (by omega)) (by simp; omega))
  have HO := Lib.hid hob
  clear hR hob
  go_enter Try.func30, Try.ntmps30
  go_wp2_with fail
  rw [HO.out]
  refine HC.out.mono ?_
  rintro e w1 ⟨rfl, hb1⟩
  have hR1 := HR.out.below hb1 (by simp)
  have s0 := (hR1.cell (j := 0) rfl).1
  have s1 := (hR1.cell (j := 1) rfl).1
  have hz1' : w.heap.size + 1 ≤ w1.heap.size := by simpa using hb1.size
  have HB1 := Lib.hid (HB.out.trans (hb1.mono (by simp)))
  clear hb1
  by_cases h1 : netOk n = true
  · have H1 := Lib.hid h1
    have hp := netOk_parts h1
    rw [h1]
    clear h1
    go_wp2_with fail
    refine (l1In_c _ _ _ _).mono ?_
    rintro e w' ⟨rfl, rfl⟩
    by_cases h2 : inB place 0 (n.places - 1) = true
    · have H2 := Lib.hid h2
      rw [h2]
      have hpl := inB_iff.1 h2
      obtain ⟨pn, rfl⟩ := Int.eq_ofNat_of_zero_le hpl.1
      have HPM := Lib.hid (Int.toNat_of_nonneg (show 0 ≤ n.places by omega))
      clear h2
      have hplt : pn < n.places.toNat := by omega
      have HRB := Lib.hid hR1
      clear hR1 s0
      have s0 := (HRB.out.cell (j := 0) rfl).1
      have hne : w.heap.size ≠ w1.heap.size := by omega
      have hpi : (pn : Int) < (n.places.toNat : Int) := by omega
      go_wp2_with (at_make; refine wpList_make_full _ rfl (.tmp 21) (.tmp 21) 50 rfl w1.heap.size 4 i0 _ 1 Try.underlying50 hi0 hz0 hz1 .i64 .i64 _ _ n.places.toNat rfl rfl HPM.out.symm HPM.out.symm (by rw [hz2]; omega) (by unfold maxLen; omega) (Nat.le_refl _) ?_; intro w2 hown2 hg2; obtain ⟨e1, e2, e3⟩ := made_single hown2 hplt; have hb2 := (Below.refl w1.heap.size w1).grown hg2 (Nat.le_refl _) (fun k hk => by cases hk); replace s0 := (HRB.out.below hb2 (by omega)).cell (j := 0) rfl |>.1; replace s1 := (HRB.out.below hb2 (by omega)).cell (j := 1) rfl |>.1; have HE3 := Lib.hid e3; have HB2 := Lib.hid hb2; clear hown2 hg2 e3 hb2)
      obtain ⟨A', b', c', e3, hRow⟩ := HE3.out.row
      rw [single_length] at e3
      cases e3
      have hsz2 : w1.heap.size ≤ w2.heap.size := HB2.out.size
      have hsz3 : (w2.setCell ⟨w1.heap.size, pn, none⟩ (.bool true)).heap.size = w2.heap.size := by simp [World.setCell]
      have hb3 : Below w.heap.size w (w2.setCell ⟨w1.heap.size, pn, none⟩ (.bool true)) := HB1.out.trans ((HB2.out.mono (by omega)).setCell (by show _ ≤ w1.heap.size; omega) _)
      have HS := l2Spread_c n _ lo hi (single n.places.toNat (pn : Int)) _ _ _ _ _ n.places.toNat but _ (HN.out.below hb3 hhi) (by omega) H1.out hRow (Nat.le_refl _) (by rw [single_length]; exact HPM.out)
      rw [single_length] at HS
      have HB3 := Lib.hid hb3
      clear hRow hb3 e1 e2 s0 s1
      refine HS.mono ?_
      rintro e w4 ⟨v', rfl, hM, hb4⟩
      have HM := Lib.hid hM
      have HB4 := Lib.hid (HB3.out.trans (hb4.mono (by omega)))
      clear hM hb4 HS
      go_wp2
      go_ret
      exact ⟨v', rfl, by rw [reachN_yes H1.out H2.out]; exact HM.out.base (by omega), HB4.out⟩
    · have h2' : inB place 0 (n.places - 1) = false := by simpa using h2
      have H2 := Lib.hid h2'
      rw [h2']
      clear h2 h2'
      go_wp2
      go_ret
      exact ⟨_, rfl, by rw [reachN_no2 H1.out H2.out]; exact own_lit0B _ _ _ (by omega), HB1.out.alloc (by omega) _⟩
  · have h1' : netOk n = false := by simpa using h1
    have H1 := Lib.hid h1'
    rw [h1']
    clear h1 h1'
    go_wp2
    go_ret
    exact ⟨_, rfl, by rw [reachN_no1 H1.out]; exact own_lit0B _ _ _ (by omega), HB1.out.alloc (by omega) _⟩
end Go.Proofs.Ytoggdhbnkbdilaa
