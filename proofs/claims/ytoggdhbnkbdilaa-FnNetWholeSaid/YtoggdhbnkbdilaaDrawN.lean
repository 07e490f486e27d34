/- Draws of nets, and of places, marks and data beside them. -/
import Derived.Test.YtoggdhbnkbdilaaAny
import Derived.Test.YtoggdhbnkbdilaaDraw4
import Derived.Test.YtoggdhbnkbdilaaSteps
namespace Go.Proofs.Ytoggdhbnkbdilaa
open Go.RowKit
set_option linter.unusedVariables false
set_option linter.unusedSimpArgs false

/-- A net that is drawn: it reads well, all in new memory. -/
def NetG (w w' : World) (P : Int) (b1 k c1 : Nat) (n : NNet) : Prop := Small n ∧ n.places = P ∧ n.tasks.length = k ∧ NetV w' w.heap.size w'.heap.size (.agg #[.int .i64 P, .slice (some ⟨b1, 0, none⟩) k c1]) n
theorem NetG.of {w w1 w' : World} {P : Int} {b1 k c1 : Nat} {n : NNet} (hs : Small n) (h : FN w' w1.heap.size w'.heap.size (.agg #[.int .i64 P, .slice (some ⟨b1, 0, none⟩) k c1]) n) (hl : w.heap.size ≤ w1.heap.size) : NetG w w' P b1 k c1 n := by
  obtain ⟨h1, h2, _⟩ := h.parts
  exact ⟨hs, h1, h2, h.net.more hl (Nat.le_refl _)⟩
theorem NetG.keep {w w' w2 : World} {P : Int} {b1 k c1 : Nat} {n : NNet} (h : NetG w w' P b1 k c1 n) (hk : ∀ g, w.heap.size ≤ g → g < w'.heap.size → w2.heap[g]? = w'.heap[g]?) (hs : w'.heap.size ≤ w2.heap.size) : NetG w w2 P b1 k c1 n :=
  ⟨h.1, h.2.1, h.2.2.1, (h.2.2.2.keep hk).more (Nat.le_refl _) hs⟩
def NetRes (w : World) (e : Ending) (w' : World) : Prop := ∃ (P : Int) (b1 k c1 : Nat) (n : NNet), e = .returned (.agg #[.int .i64 P, .slice (some ⟨b1, 0, none⟩) k c1]) ∧ NetG w w' P b1 k c1 n ∧ Below w.heap.size w w'
theorem NetRes.of {w w' : World} {P : Int} {b1 k c1 : Nat} {n : NNet} (h1 : NetG w w' P b1 k c1 n) (h2 : Below w.heap.size w w') : NetRes w (.returned (.agg #[.int .i64 P, .slice (some ⟨b1, 0, none⟩) k c1])) w' := ⟨P, b1, k, c1, n, rfl, h1, h2⟩
def NetInts (w : World) (e : Ending) (w' : World) : Prop := ∃ (P : Int) (b1 k c1 : Nat) (n : NNet) (x : Int), e = .returned (.tuple #[.agg #[.int .i64 P, .slice (some ⟨b1, 0, none⟩) k c1], .int .i64 x]) ∧ -1 ≤ x ∧ x ≤ 10 ∧ NetG w w' P b1 k c1 n ∧ Below w.heap.size w w'
def NetInts2 (w : World) (e : Ending) (w' : World) : Prop := ∃ (P : Int) (b1 k c1 : Nat) (n : NNet) (x y : Int), e = .returned (.tuple #[.agg #[.int .i64 P, .slice (some ⟨b1, 0, none⟩) k c1], .int .i64 x, .int .i64 y]) ∧ -1 ≤ x ∧ x ≤ 10 ∧ -1 ≤ y ∧ y ≤ 10 ∧ NetG w w' P b1 k c1 n ∧ Below w.heap.size w w'
def NetMarks (w : World) (e : Ending) (w' : World) : Prop := ∃ (P : Int) (b1 k c1 : Nat) (n : NNet) (v : Value) (ys : List Int), e = .returned (.tuple #[.agg #[.int .i64 P, .slice (some ⟨b1, 0, none⟩) k c1], v]) ∧ ys.length ≤ 10 ∧ (∀ x ∈ ys, -1 ≤ x ∧ x ≤ 5) ∧ NumsV w' w.heap.size v ys ∧ NetG w w' P b1 k c1 n ∧ Below w.heap.size w w'
theorem below_two {B : Nat} {a w : World} (h : Below B a w) {b : Nat} (hb : B ≤ b) (u v : Value) : Below B a ((w.setCell ⟨b, 0, none⟩ u).setCell ⟨b, 1, none⟩ v) := (h.setCell (p := ⟨b, 0, none⟩) hb u).setCell (p := ⟨b, 1, none⟩) hb v
theorem two_block (w : World) {b g : Nat} (hg : g ≠ b) (u v : Value) : ((w.setCell ⟨b, 0, none⟩ u).setCell ⟨b, 1, none⟩ v).heap[g]? = w.heap[g]? := by
  rw [Below.heap_setCell _ _ _ _ hg, Below.heap_setCell _ _ _ _ hg]
theorem two_size (w : World) (b : Nat) (u v : Value) : ((w.setCell ⟨b, 0, none⟩ u).setCell ⟨b, 1, none⟩ v).heap.size = w.heap.size := by simp [World.setCell]
theorem NumsV.keep {w w' : World} {lo : Nat} {v : Value} {zs : List Int} (h : NumsV w lo v zs) (hk : ∀ g, lo ≤ g → g < w.heap.size → w'.heap[g]? = w.heap[g]?) (hs : w.heap.size ≤ w'.heap.size) : NumsV w' lo v zs := by
  obtain ⟨A, b, o, c, h1, h2, h3⟩ := h; exact ⟨A, b, o, c, h1, h2, (h3.keep hk).more (Nat.le_refl _) hs⟩
set_option maxRecDepth 20000 in
set_option maxHeartbeats 1000000 in
theorem drawNetFlows_c (zs : List Int) (A : Option Addr) (b off c : Nat) (w : World) (hV : Row w 0 w.heap.size A b off (bytesC zs)) (hz : ∀ x ∈ zs, 0 ≤ x ∧ x ≤ 255) (hm : zs.length ≤ maxLen) (hcap : zs.length ≤ c) :
    Calls Try.prog 16 #[.slice A zs.length c] w fun e w' => NetRes w e w' := by
  have hV1 := fun ob => hV.alloc (Nat.le_refl _) ob
  go_enter Try.func16, Try.ntmps16
  go_wp2_with fail
  refine (l20Open_c zs A b off c _ ((hV1 _).more (Nat.le_refl _) (by simp)) hz hm hcap).mono ?_
  rintro e w1 ⟨R, rfl, hR, hrd, hb⟩
  have hR' : w.heap.size + 1 ≤ R := by simpa using hR
  have HB := Lib.hid (((Below.refl w.heap.size w).alloc (Nat.le_refl _) _).trans (hb.mono (by simp)))
  have HBK := Lib.hid (Blk.below (Blk.new_ w 25 #[.int .i64 0, .slice none 0 0]) hb (by simp))
  have HRD := Lib.hid hrd
  have hRl := hrd.lt
  clear hR hb hrd hV1
  go_wp2_with fail
  refine (l20AnyNet_c R 0 9 w1 HRD.out (by omega) (by omega) (by omega)).mono ?_
  rintro e w2 ⟨P, b1, k, c1, n, p2, rfl, hsm, hp2, hfn, hrd2, hg2⟩
  have HG := Lib.hid (NetG.of (w := w) hsm hfn (by omega))
  have HB2 := Lib.hid (below_grown HB.out hg2 (by omega) (by omega))
  have HBK2 := Lib.hid (HBK.out.grown hg2 (by omega))
  have HRD2 := Lib.hid hrd2
  have hs2 : w.heap.size + 1 ≤ w2.heap.size := by have := hg2.size; omega
  have HF2 := Lib.hid hfn
  have hs12 : w1.heap.size ≤ w2.heap.size := hg2.size
  have hR2 : R < w1.heap.size := hRl
  have HSM := Lib.hid hsm
  clear hfn hrd2 hg2 hsm HRD HBK HB
  obtain ⟨hb0, hb1, hf0, hf1⟩ : w2.cell? ⟨w.heap.size, 0, none⟩ = some (.int .i64 0) ∧ w2.cell? ⟨w.heap.size, 1, none⟩ = some (.slice none 0 0) ∧ w2.frozen? ⟨w.heap.size, 0, none⟩ = false ∧ w2.frozen? ⟨w.heap.size, 1, none⟩ = false := ⟨HBK2.out.cell 0, HBK2.out.cell 1, HBK2.out.free 0, HBK2.out.free 1⟩
  go_wp2
  refine bodyPost_ret (v := .agg #[.int .i64 P, .slice (some ⟨b1, 0, none⟩) k c1]) (by simp [results, Try.results16, go_sem, hb0, hb1]) rfl ?_
  have hF1 := HF2.out.parts.2.2.2.1
  exact NetRes.of (NetG.of (w1 := w1) HSM.out ((HF2.out.keep fun g h1 h2 => two_block w2 (by omega) _ _).more (Nat.le_refl _) (by rw [two_size]; exact Nat.le_refl _)) (by omega)) (below_two HB2.out (Nat.le_refl _) _ _)
set_option maxRecDepth 20000 in
set_option maxHeartbeats 1000000 in
theorem drawNetWhole_c (zs : List Int) (A : Option Addr) (b off c : Nat) (w : World) (hV : Row w 0 w.heap.size A b off (bytesC zs)) (hz : ∀ x ∈ zs, 0 ≤ x ∧ x ≤ 255) (hm : zs.length ≤ maxLen) (hcap : zs.length ≤ c) :
    Calls Try.prog 31 #[.slice A zs.length c] w fun e w' => NetRes w e w' := by
  have hV1 := fun ob => hV.alloc (Nat.le_refl _) ob
  go_enter Try.func31, Try.ntmps31
  go_wp2_with fail
  refine (l20Open_c zs A b off c _ ((hV1 _).more (Nat.le_refl _) (by simp)) hz hm hcap).mono ?_
  rintro e w1 ⟨R, rfl, hR, hrd, hb⟩
  have hR' : w.heap.size + 1 ≤ R := by simpa using hR
  have HB := Lib.hid (((Below.refl w.heap.size w).alloc (Nat.le_refl _) _).trans (hb.mono (by simp)))
  have HBK := Lib.hid (Blk.below (Blk.new_ w 25 #[.int .i64 0, .slice none 0 0]) hb (by simp))
  have HRD := Lib.hid hrd
  have hRl := hrd.lt
  clear hR hb hrd hV1
  go_wp2_with fail
  refine (l20AnyNet_c R 0 9 w1 HRD.out (by omega) (by omega) (by omega)).mono ?_
  rintro e w2 ⟨P, b1, k, c1, n, p2, rfl, hsm, hp2, hfn, hrd2, hg2⟩
  have HG := Lib.hid (NetG.of (w := w) hsm hfn (by omega))
  have HB2 := Lib.hid (below_grown HB.out hg2 (by omega) (by omega))
  have HBK2 := Lib.hid (HBK.out.grown hg2 (by omega))
  have HRD2 := Lib.hid hrd2
  have hs2 : w.heap.size + 1 ≤ w2.heap.size := by have := hg2.size; omega
  have HF2 := Lib.hid hfn
  have hs12 : w1.heap.size ≤ w2.heap.size := hg2.size
  have hR2 : R < w1.heap.size := hRl
  have HSM := Lib.hid hsm
  clear hfn hrd2 hg2 hsm HRD HBK HB
  obtain ⟨hb0, hb1, hf0, hf1⟩ : w2.cell? ⟨w.heap.size, 0, none⟩ = some (.int .i64 0) ∧ w2.cell? ⟨w.heap.size, 1, none⟩ = some (.slice none 0 0) ∧ w2.frozen? ⟨w.heap.size, 0, none⟩ = false ∧ w2.frozen? ⟨w.heap.size, 1, none⟩ = false := ⟨HBK2.out.cell 0, HBK2.out.cell 1, HBK2.out.free 0, HBK2.out.free 1⟩
  go_wp2
  refine bodyPost_ret (v := .agg #[.int .i64 P, .slice (some ⟨b1, 0, none⟩) k c1]) (by simp [results, Try.results31, go_sem, hb0, hb1]) rfl ?_
  have hF1 := HF2.out.parts.2.2.2.1
  exact NetRes.of (NetG.of (w1 := w1) HSM.out ((HF2.out.keep fun g h1 h2 => two_block w2 (by omega) _ _).more (Nat.le_refl _) (by rw [two_size]; exact Nat.le_refl _)) (by omega)) (below_two HB2.out (Nat.le_refl _) _ _)
set_option maxRecDepth 20000 in
set_option maxHeartbeats 1000000 in
theorem drawNetStraight_c (zs : List Int) (A : Option Addr) (b off c : Nat) (w : World) (hV : Row w 0 w.heap.size A b off (bytesC zs)) (hz : ∀ x ∈ zs, 0 ≤ x ∧ x ≤ 255) (hm : zs.length ≤ maxLen) (hcap : zs.length ≤ c) :
    Calls Try.prog 39 #[.slice A zs.length c] w fun e w' => NetRes w e w' := by
  have hV1 := fun ob => hV.alloc (Nat.le_refl _) ob
  go_enter Try.func39, Try.ntmps39
  go_wp2_with fail
  refine (l20Open_c zs A b off c _ ((hV1 _).more (Nat.le_refl _) (by simp)) hz hm hcap).mono ?_
  rintro e w1 ⟨R, rfl, hR, hrd, hb⟩
  have hR' : w.heap.size + 1 ≤ R := by simpa using hR
  have HB := Lib.hid (((Below.refl w.heap.size w).alloc (Nat.le_refl _) _).trans (hb.mono (by simp)))
  have HBK := Lib.hid (Blk.below (Blk.new_ w 25 #[.int .i64 0, .slice none 0 0]) hb (by simp))
  have HRD := Lib.hid hrd
  have hRl := hrd.lt
  clear hR hb hrd hV1
  go_wp2_with fail
  refine (l20AnyNet_c R 0 12 w1 HRD.out (by omega) (by omega) (by omega)).mono ?_
  rintro e w2 ⟨P, b1, k, c1, n, p2, rfl, hsm, hp2, hfn, hrd2, hg2⟩
  have HG := Lib.hid (NetG.of (w := w) hsm hfn (by omega))
  have HB2 := Lib.hid (below_grown HB.out hg2 (by omega) (by omega))
  have HBK2 := Lib.hid (HBK.out.grown hg2 (by omega))
  have HRD2 := Lib.hid hrd2
  have hs2 : w.heap.size + 1 ≤ w2.heap.size := by have := hg2.size; omega
  have HF2 := Lib.hid hfn
  have hs12 : w1.heap.size ≤ w2.heap.size := hg2.size
  have hR2 : R < w1.heap.size := hRl
  have HSM := Lib.hid hsm
  clear hfn hrd2 hg2 hsm HRD HBK HB
  obtain ⟨hb0, hb1, hf0, hf1⟩ : w2.cell? ⟨w.heap.size, 0, none⟩ = some (.int .i64 0) ∧ w2.cell? ⟨w.heap.size, 1, none⟩ = some (.slice none 0 0) ∧ w2.frozen? ⟨w.heap.size, 0, none⟩ = false ∧ w2.frozen? ⟨w.heap.size, 1, none⟩ = false := ⟨HBK2.out.cell 0, HBK2.out.cell 1, HBK2.out.free 0, HBK2.out.free 1⟩
  go_wp2
  refine bodyPost_ret (v := .agg #[.int .i64 P, .slice (some ⟨b1, 0, none⟩) k c1]) (by simp [results, Try.results39, go_sem, hb0, hb1]) rfl ?_
  have hF1 := HF2.out.parts.2.2.2.1
  exact NetRes.of (NetG.of (w1 := w1) HSM.out ((HF2.out.keep fun g h1 h2 => two_block w2 (by omega) _ _).more (Nat.le_refl _) (by rw [two_size]; exact Nat.le_refl _)) (by omega)) (below_two HB2.out (Nat.le_refl _) _ _)
set_option maxRecDepth 20000 in
set_option maxHeartbeats 1000000 in
theorem drawNetFrom_c (zs : List Int) (A : Option Addr) (b off c : Nat) (w : World) (hV : Row w 0 w.heap.size A b off (bytesC zs)) (hz : ∀ x ∈ zs, 0 ≤ x ∧ x ≤ 255) (hm : zs.length ≤ maxLen) (hcap : zs.length ≤ c) :
    Calls Try.prog 34 #[.slice A zs.length c] w fun e w' => NetInts w e w' := by
  have hV1 := fun ob => hV.alloc (Nat.le_refl _) ob
  go_enter Try.func34, Try.ntmps34
  go_wp2_with fail
  refine (l20Open_c zs A b off c _ ((hV1 _).more (Nat.le_refl _) (by simp)) hz hm hcap).mono ?_
  rintro e w1 ⟨R, rfl, hR, hrd, hb⟩
  have hR' : w.heap.size + 1 ≤ R := by simpa using hR
  have HB := Lib.hid (((Below.refl w.heap.size w).alloc (Nat.le_refl _) _).trans (hb.mono (by simp)))
  have HBK := Lib.hid (Blk.below (Blk.new_ w 25 #[.int .i64 0, .slice none 0 0]) hb (by simp))
  have HRD := Lib.hid hrd
  have hRl := hrd.lt
  clear hR hb hrd hV1
  go_wp2_with fail
  refine (l20AnyNet_c R 0 9 w1 HRD.out (by omega) (by omega) (by omega)).mono ?_
  rintro e w2 ⟨P, b1, k, c1, n, p2, rfl, hsm, hp2, hfn, hrd2, hg2⟩
  have HG := Lib.hid (NetG.of (w := w) hsm hfn (by omega))
  have HB2 := Lib.hid (below_grown HB.out hg2 (by omega) (by omega))
  have HBK2 := Lib.hid (HBK.out.grown hg2 (by omega))
  have HRD2 := Lib.hid hrd2
  have hs2 : w.heap.size + 1 ≤ w2.heap.size := by have := hg2.size; omega
  have HF2 := Lib.hid hfn
  have hs12 : w1.heap.size ≤ w2.heap.size := hg2.size
  have hR2 : R < w1.heap.size := hRl
  have HSM := Lib.hid hsm
  clear hfn hrd2 hg2 hsm HRD HBK HB
  go_wp2_with fail
  refine (pick_c R p2 9 w2 HRD2.out (by omega) (by omega) (by omega)).mono ?_
  rintro e w3 ⟨r, rfl, hr, hrd3, hu3⟩
  have hr' : (r : Int) < 9 := pick_lt hr (by omega)
  have hB3 := Lib.hid (HBK2.out.upd hu3 (by omega))
  have HBL := Lib.hid (below_grown HB2.out (grown_upd hu3) (by omega) (by omega))
  have HF3 := Lib.hid ((HF2.out.grown (grown_upd hu3) hR2 (Nat.le_refl _)).more (Nat.le_refl _) (Nat.le_of_eq hu3.size.symm))
  have hs3 := hu3.size
  have HS3 := Lib.hid hs3
  clear hr hrd3 hu3 hs3 HBK2 HB2 HRD2 HF2
  obtain ⟨hb0, hb1, hf0, hf1⟩ : w3.cell? ⟨w.heap.size, 0, none⟩ = some (.int .i64 0) ∧ w3.cell? ⟨w.heap.size, 1, none⟩ = some (.slice none 0 0) ∧ w3.frozen? ⟨w.heap.size, 0, none⟩ = false ∧ w3.frozen? ⟨w.heap.size, 1, none⟩ = false := ⟨hB3.out.cell 0, hB3.out.cell 1, hB3.out.free 0, hB3.out.free 1⟩
  go_wp2
  refine bodyPost_ret (v := .tuple #[.agg #[.int .i64 P, .slice (some ⟨b1, 0, none⟩) k c1], .int .i64 ((r : Int) - 1)]) (by simp [results, Try.results34, go_sem, hb0, hb1]) rfl ?_
  exact ⟨P, b1, k, c1, n, (r : Int) - 1, rfl, by omega, by omega, NetG.of (w1 := w1) HSM.out ((HF3.out.keep fun g h1 h2 => two_block w3 (by omega) _ _).more (Nat.le_refl _) (by rw [two_size]; exact Nat.le_refl _)) (by omega), below_two HBL.out (Nat.le_refl _) _ _⟩
end Go.Proofs.Ytoggdhbnkbdilaa
