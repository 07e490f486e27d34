/- Draws of nets, and of places, marks and data beside them. -/
import Derived.Test.YtoggdhbnkbdilaaAny
import Derived.Test.YtoggdhbnkbdilaaDraw4
import Derived.Test.YtoggdhbnkbdilaaSteps
namespace Go.Proofs.Ytoggdhbnkbdilaa
open Go.RowKit
set_option linter.unusedVariables false
set_option linter.unusedSimpArgs false

/-- A net that is drawn: it reads well, all in new memory. -/
def NetG (w w' : World) (P : Int) (b1 k c1 : Nat) (n : NNet) : Prop := Small n ∧ n.places = P ∧ n.tasks.length = k ∧ NetV w' w.heap.size w'.heap.size (.agg #[.int .i64 P, .slice (some ⟨b1, 0, none⟩) k c1]) n
theorem NetG.of {w w1 w' : World} {P : Int} {b1 k c1 : Nat} {n : NNet} (hs : Small n) (h : FN w' w1.heap.size w'.heap.size (.agg #[.int .i64 P, .slice (some ⟨b1, 0, none⟩) k c1]) n) (hl : w.heap.size ≤ w1.heap.size) : NetG w w' P b1 k c1 n := by
  obtain ⟨h1, h2, _⟩ := h.parts
  exact ⟨hs, h1, h2, h.net.more hl (Nat.le_refl _)⟩
theorem NetG.keep {w w' w2 : World} {P : Int} {b1 k c1 : Nat} {n : NNet} (h : NetG w w' P b1 k c1 n) (hk : ∀ g, w.heap.size ≤ g → g < w'.heap.size → w2.heap[g]? = w'.heap[g]?) (hs : w'.heap.size ≤ w2.heap.size) : NetG w w2 P b1 k c1 n :=
  ⟨h.1, h.2.1, h.2.2.1, (h.2.2.2.keep hk).more (Nat.le_refl _) hs⟩
def NetRes (w : World) (e : Ending) (w' : World) : Prop := ∃ (P : Int) (b1 k c1 : Nat) (n : NNet), e = .returned (.agg #[.int .i64 P, .slice (some ⟨b1, 0, none⟩) k c1]) ∧ NetG w w' P b1 k c1 n ∧ Below w.heap.size w w'
theorem NetRes.of {w w' : World} {P : Int} {b1 k c1 : Nat} {n : NNet} (h1 : NetG w w' P b1 k c1 n) (h2 : Below w.heap.size w w') : NetRes w (.returned (.agg #[.int .i64 P, .slice (some ⟨b1, 0, none⟩) k c1])) w' := ⟨P, b1, k, c1, n, rfl, h1, h2⟩
def NetInts (w : World) (e : Ending) (w' : World) : Prop := ∃ (P : Int) (b1 k c1 : Nat) (n : NNet) (x : Int), e = .returned (.tuple #[.agg #[.int .i64 P, .slice (some ⟨b1, 0, none⟩) k c1], .int .i64 x]) ∧ -1 ≤ x ∧ x ≤ 10 ∧ NetG w w' P b1 k c1 n ∧ Below w.heap.size w w'
def NetInts2 (w : World) (e : Ending) (w' : World) : Prop := ∃ (P : Int) (b1 k c1 : Nat) (n : NNet) (x y : Int), e = .returned (.tuple #[.agg #[.int .i64 P, .slice (some ⟨b1, 0, none⟩) k c1], .int .i64 x, .int .i64 y]) ∧ -1 ≤ x ∧ x ≤ 10 ∧ -1 ≤ y ∧ y ≤ 10 ∧ NetG w w' P b1 k c1 n ∧ Below w.heap.size w w'
def NetMarks (w : World) (e : Ending) (w' : World) : Prop := ∃ (P : Int) (b1 k c1 : Nat) (n : NNet) (v : Value) (ys : List Int), e = .returned (.tuple #[.agg #[.int .i64 P, .slice (some ⟨b1, 0, none⟩) k c1], v]) ∧ ys.length ≤ 10 ∧ (∀ x ∈ ys, -1 ≤ x ∧ x ≤ 5) ∧ NumsV w' w.heap.size v ys ∧ NetG w w' P b1 k c1 n ∧ Below w.heap.size w w'
theorem grown_drew (w : World) (R : Nat) : w.grownBy w.drew (some R) := ⟨rfl, rfl, rfl, Nat.le_refl _, fun _ _ _ => rfl⟩
theorem below_two {B : Nat} {a w : World} (h : Below B a w) {b : Nat} (hb : B ≤ b) (u v : Value) : Below B a ((w.setCell ⟨b, 0, none⟩ u).setCell ⟨b, 1, none⟩ v) := (h.setCell (p := ⟨b, 0, none⟩) hb u).setCell (p := ⟨b, 1, none⟩) hb v
theorem two_block (w : World) {b g : Nat} (hg : g ≠ b) (u v : Value) : ((w.setCell ⟨b, 0, none⟩ u).setCell ⟨b, 1, none⟩ v).heap[g]? = w.heap[g]? := by
  rw [Below.heap_setCell _ _ _ _ hg, Below.heap_setCell _ _ _ _ hg]
theorem two_size (w : World) (b : Nat) (u v : Value) : ((w.setCell ⟨b, 0, none⟩ u).setCell ⟨b, 1, none⟩ v).heap.size = w.heap.size := by simp [World.setCell]
theorem NumsV.keep {w w' : World} {lo : Nat} {v : Value} {zs : List Int} (h : NumsV w lo v zs) (hk : ∀ g, lo ≤ g → g < w.heap.size → w'.heap[g]? = w.heap[g]?) (hs : w.heap.size ≤ w'.heap.size) : NumsV w' lo v zs := by
  obtain ⟨A, b, o, c, h1, h2, h3⟩ := h; exact ⟨A, b, o, c, h1, h2, (h3.keep hk).more (Nat.le_refl _) hs⟩
set_option maxRecDepth 20000 in
set_option maxHeartbeats 1000000 in
theorem drawNetFlows_c (zs : List Int) (A : Option Addr) (b off c : Nat) (w : World) (hV : Row w 0 w.heap.size A b off (bytesC zs)) (hz : ∀ x ∈ zs, 0 ≤ x ∧ x ≤ 255) (hm : zs.length ≤ maxLen) (hcap : zs.length ≤ c) :
    Calls Try.prog 16 #[.slice A zs.length c] w fun e w' => NetRes w e w' := by
  have hV1 := fun ob => hV.alloc (Nat.le_refl _) ob
  go_enter Try.func16, Try.ntmps16
  go_wp2_with fail
  refine (l20Open_c zs A b off c _ ((hV1 _).more (Nat.le_refl _) (by simp)) hz hm hcap).mono ?_
  rintro e w1 ⟨R, rfl, hR, hrd, hb⟩
  have hR' : w.heap.size + 1 ≤ R := by simpa using hR
  have HB := Lib.hid (((Below.refl w.heap.size w).alloc (Nat.le_refl _) _).trans (hb.mono (by simp)))
  have HBK := Lib.hid (Blk.below (Blk.new_ w 25 #[.int .i64 0, .slice none 0 0]) hb (by simp))
  have HRD := Lib.hid hrd
  have hRl := hrd.lt
  clear hR hb hrd hV1
  go_wp2_with fail
  refine (l20AnyNet_c R 0 9 w1 HRD.out (by omega) (by omega) (by omega)).mono ?_
  rintro e w2 ⟨P, b1, k, c1, n, p2, rfl, hsm, hp2, hfn, hrd2, hg2⟩
  have HG := Lib.hid (NetG.of (w := w) hsm hfn (by omega))
  have HB2 := Lib.hid (below_grown HB.out hg2 (by omega) (by omega))
  have HBK2 := Lib.hid (HBK.out.grown hg2 (by omega))
  have HRD2 := Lib.hid hrd2
  have hs2 : w.heap.size + 1 ≤ w2.heap.size := by have := hg2.size; omega
  have HF2 := Lib.hid hfn
  have hs12 : w1.heap.size ≤ w2.heap.size := hg2.size
  have hR2 : R < w1.heap.size := hRl
  have HSM := Lib.hid hsm
  clear hfn hrd2 hg2 hsm HRD HBK HB
  obtain ⟨hb0, hb1, hf0, hf1⟩ : w2.cell? ⟨w.heap.size, 0, none⟩ = some (.int .i64 0) ∧ w2.cell? ⟨w.heap.size, 1, none⟩ = some (.slice none 0 0) ∧ w2.frozen? ⟨w.heap.size, 0, none⟩ = false ∧ w2.frozen? ⟨w.heap.size, 1, none⟩ = false := ⟨HBK2.out.cell 0, HBK2.out.cell 1, HBK2.out.free 0, HBK2.out.free 1⟩
  go_wp2
  refine bodyPost_ret (v := .agg #[.int .i64 P, .slice (some ⟨b1, 0, none⟩) k c1]) (by simp [results, Try.results16, go_sem, hb0, hb1]) rfl ?_
  have hF1 := HF2.out.parts.2.2.2.1
  exact NetRes.of (NetG.of (w1 := w1) HSM.out ((HF2.out.keep fun g h1 h2 => two_block w2 (by omega) _ _).more (Nat.le_refl _) (by rw [two_size]; exact Nat.le_refl _)) (by omega)) (below_two HB2.out (Nat.le_refl _) _ _)
set_option maxRecDepth 20000 in
set_option maxHeartbeats 1000000 in
theorem drawNetWhole_c (zs : List Int) (A : Option Addr) (b off c : Nat) (w : World) (hV : Row w 0 w.heap.size A b off (bytesC zs)) (hz : ∀ x ∈ zs, 0 ≤ x ∧ x ≤ 255) (hm : zs.length ≤ maxLen) (hcap : zs.length ≤ c) :
    Calls Try.prog 31 #[.slice A zs.length c] w fun e w' => NetRes w e w' := by
  have hV1 := fun ob => hV.alloc (Nat.le_refl _) ob
  go_enter Try.func31, Try.ntmps31
  go_wp2_with fail
  refine (l20Open_c zs A b off c _ ((hV1 _).more (Nat.le_refl _) (by simp)) hz hm hcap).mono ?_
  rintro e w1 ⟨R, rfl, hR, hrd, hb⟩
  have hR' : w.heap.size + 1 ≤ R := by simpa using hR
  have HB := Lib.hid (((Below.refl w.heap.size w).alloc (Nat.le_refl _) _).trans (hb.mono (by simp)))
  have HBK := Lib.hid (Blk.below (Blk.new_ w 25 #[.int .i64 0, .slice none 0 0]) hb (by simp))
  have HRD := Lib.hid hrd
  have hRl := hrd.lt
  clear hR hb hrd hV1
  go_wp2_with fail
  refine (l20AnyNet_c R 0 9 w1 HRD.out (by omega) (by omega) (by omega)).mono ?_
  rintro e w2 ⟨P, b1, k, c1, n, p2, rfl, hsm, hp2, hfn, hrd2, hg2⟩
  have HG := Lib.hid (NetG.of (w := w) hsm hfn (by omega))
  have HB2 := Lib.hid (below_grown HB.out hg2 (by omega) (by omega))
  have HBK2 := Lib.hid (HBK.out.grown hg2 (by omega))
  have HRD2 := Lib.hid hrd2
  have hs2 : w.heap.size + 1 ≤ w2.heap.size := by have := hg2.size; omega
  have HF2 := Lib.hid hfn
  have hs12 : w1.heap.size ≤ w2.heap.size := hg2.size
  have hR2 : R < w1.heap.size := hRl
  have HSM := Lib.hid hsm
  clear hfn hrd2 hg2 hsm HRD HBK HB
  obtain ⟨hb0, hb1, hf0, hf1⟩ : w2.cell? ⟨w.heap.size, 0, none⟩ = some (.int .i64 0) ∧ w2.cell? ⟨w.heap.size, 1, none⟩ = some (.slice none 0 0) ∧ w2.frozen? ⟨w.heap.size, 0, none⟩ = false ∧ w2.frozen? ⟨w.heap.size, 1, none⟩ = false := ⟨HBK2.out.cell 0, HBK2.out.cell 1, HBK2.out.free 0, HBK2.out.free 1⟩
  go_wp2
  refine bodyPost_ret (v := .agg #[.int .i64 P, .slice (some ⟨b1, 0, none⟩) k c1]) (by simp [results, Try.results31, go_sem, hb0, hb1]) rfl ?_
  have hF1 := HF2.out.parts.2.2.2.1
  exact NetRes.of (NetG.of (w1 := w1) HSM.out ((HF2.out.keep fun g h1 h2 => two_block w2 (by omega) _ _).more (Nat.le_refl _) (by rw [two_size]; exact Nat.le_refl _)) (by omega)) (below_two HB2.out (Nat.le_refl _) _ _)
set_option maxRecDepth 20000 in
set_option maxHeartbeats 1000000 in
theorem drawNetStraight_c (zs : List Int) (A : Option Addr) (b off c : Nat) (w : World) (hV : Row w 0 w.heap.size A b off (bytesC zs)) (hz : ∀ x ∈ zs, 0 ≤ x ∧ x ≤ 255) (hm : zs.length ≤ maxLen) (hcap : zs.length ≤ c) :
    Calls Try.prog 39 #[.slice A zs.length c] w fun e w' => NetRes w e w' := by
  have hV1 := fun ob => hV.alloc (Nat.le_refl _) ob
  go_enter Try.func39, Try.ntmps39
  go_wp2_with fail
  refine (l20Open_c zs A b off c _ ((hV1 _).more (Nat.le_refl _) (by simp)) hz hm hcap).mono ?_
  rintro e w1 ⟨R, rfl, hR, hrd, hb⟩
  have hR' : w.heap.size + 1 ≤ R := by simpa using hR
  have HB := Lib.hid (((Below.refl w.heap.size w).alloc (Nat.le_refl _) _).trans (hb.mono (by simp)))
  have HBK := Lib.hid (Blk.below (Blk.new_ w 25 #[.int .i64 0, .slice none 0 0]) hb (by simp))
  have HRD := Lib.hid hrd
  have hRl := hrd.lt
  clear hR hb hrd hV1
  go_wp2_with fail
  refine (l20AnyNet_c R 0 12 w1 HRD.out (by omega) (by omega) (by omega)).mono ?_
  rintro e w2 ⟨P, b1, k, c1, n, p2, rfl, hsm, hp2, hfn, hrd2, hg2⟩
  have HG := Lib.hid (NetG.of (w := w) hsm hfn (by omega))
  have HB2 := Lib.hid (below_grown HB.out hg2 (by omega) (by omega))
  have HBK2 := Lib.hid (HBK.out.grown hg2 (by omega))
  have HRD2 := Lib.hid hrd2
  have hs2 : w.heap.size + 1 ≤ w2.heap.size := by have := hg2.size; omega
  have HF2 := Lib.hid hfn
  have hs12 : w1.heap.size ≤ w2.heap.size := hg2.size
  have hR2 : R < w1.heap.size := hRl
  have HSM := Lib.hid hsm
  clear hfn hrd2 hg2 hsm HRD HBK HB
  obtain ⟨hb0, hb1, hf0, hf1⟩ : w2.cell? ⟨w.heap.size, 0, none⟩ = some (.int .i64 0) ∧ w2.cell? ⟨w.heap.size, 1, none⟩ = some (.slice none 0 0) ∧ w2.frozen? ⟨w.heap.size, 0, none⟩ = false ∧ w2.frozen? ⟨w.heap.size, 1, none⟩ = false := ⟨HBK2.out.cell 0, HBK2.out.cell 1, HBK2.out.free 0, HBK2.out.free 1⟩
  go_wp2
  refine bodyPost_ret (v := .agg #[.int .i64 P, .slice (some ⟨b1, 0, none⟩) k c1]) (by simp [results, Try.results39, go_sem, hb0, hb1]) rfl ?_
  have hF1 := HF2.out.parts.2.2.2.1
  exact NetRes.of (NetG.of (w1 := w1) HSM.out ((HF2.out.keep fun g h1 h2 => two_block w2 (by omega) _ _).more (Nat.le_refl _) (by rw [two_size]; exact Nat.le_refl _)) (by omega)) (below_two HB2.out (Nat.le_refl _) _ _)
set_option maxRecDepth 20000 in
set_option maxHeartbeats 1000000 in
theorem drawNetFrom_c (zs : List Int) (A : Option Addr) (b off c : Nat) (w : World) (hV : Row w 0 w.heap.size A b off (bytesC zs)) (hz : ∀ x ∈ zs, 0 ≤ x ∧ x ≤ 255) (hm : zs.length ≤ maxLen) (hcap : zs.length ≤ c) :
    Calls Try.prog 34 #[.slice A zs.length c] w fun e w' => NetInts w e w' := by
  have hV1 := fun ob => hV.alloc (Nat.le_refl _) ob
  go_enter Try.func34, Try.ntmps34
  go_wp2_with fail
  refine (l20Open_c zs A b off c _ ((hV1 _).more (Nat.le_refl _) (by simp)) hz hm hcap).mono ?_
  rintro e w1 ⟨R, rfl, hR, hrd, hb⟩
  have hR' : w.heap.size + 1 ≤ R := by simpa using hR
  have HB := Lib.hid (((Below.refl w.heap.size w).alloc (Nat.le_refl _) _).trans (hb.mono (by simp)))
  have HBK := Lib.hid (Blk.below (Blk.new_ w 25 #[.int .i64 0, .slice none 0 0]) hb (by simp))
  have HRD := Lib.hid hrd
  have hRl := hrd.lt
  clear hR hb hrd hV1
  go_wp2_with fail
  refine (l20AnyNet_c R 0 9 w1 HRD.out (by omega) (by omega) (by omega)).mono ?_
  rintro e w2 ⟨P, b1, k, c1, n, p2, rfl, hsm, hp2, hfn, hrd2, hg2⟩
  have HG := Lib.hid (NetG.of (w := w) hsm hfn (by omega))
  have HB2 := Lib.hid (below_grown HB.out hg2 (by omega) (by omega))
  have HBK2 := Lib.hid (HBK.out.grown hg2 (by omega))
  have HRD2 := Lib.hid hrd2
  have hs2 : w.heap.size + 1 ≤ w2.heap.size := by have := hg2.size; omega
  have HF2 := Lib.hid hfn
  have hs12 : w1.heap.size ≤ w2.heap.size := hg2.size
  have hR2 : R < w1.heap.size := hRl
  have HSM := Lib.hid hsm
  clear hfn hrd2 hg2 hsm HRD HBK HB
  go_wp2_with fail
  refine (pick_c R p2 9 w2 HRD2.out (by omega) (by omega) (by omega)).mono ?_
  rintro e w3 ⟨r, rfl, hr, hrd3, hu3⟩
  have hr' : (r : Int) < 9 := pick_lt hr (by omega)
  have hB3 := Lib.hid (HBK2.out.upd hu3 (by omega))
  have HBL := Lib.hid (below_grown HB2.out (grown_upd hu3) (by omega) (by omega))
  have HF3 := Lib.hid ((HF2.out.grown (grown_upd hu3) hR2 (Nat.le_refl _)).more (Nat.le_refl _) (Nat.le_of_eq hu3.size.symm))
  have hs3 := hu3.size
  have HS3 := Lib.hid hs3
  clear hr hrd3 hu3 hs3 HBK2 HB2 HRD2 HF2
  obtain ⟨hb0, hb1, hf0, hf1⟩ : w3.cell? ⟨w.heap.size, 0, none⟩ = some (.int .i64 0) ∧ w3.cell? ⟨w.heap.size, 1, none⟩ = some (.slice none 0 0) ∧ w3.frozen? ⟨w.heap.size, 0, none⟩ = false ∧ w3.frozen? ⟨w.heap.size, 1, none⟩ = false := ⟨hB3.out.cell 0, hB3.out.cell 1, hB3.out.free 0, hB3.out.free 1⟩
  go_wp2
  refine bodyPost_ret (v := .tuple #[.agg #[.int .i64 P, .slice (some ⟨b1, 0, none⟩) k c1], .int .i64 ((r : Int) - 1)]) (by simp [results, Try.results34, go_sem, hb0, hb1]) rfl ?_
  exact ⟨P, b1, k, c1, n, (r : Int) - 1, rfl, by omega, by omega, NetG.of (w1 := w1) HSM.out ((HF3.out.keep fun g h1 h2 => two_block w3 (by omega) _ _).more (Nat.le_refl _) (by rw [two_size]; exact Nat.le_refl _)) (by omega), below_two HBL.out (Nat.le_refl _) _ _⟩
set_option maxRecDepth 20000 in
set_option maxHeartbeats 1000000 in
theorem drawNetInto_c (zs : List Int) (A : Option Addr) (b off c : Nat) (w : World) (hV : Row w 0 w.heap.size A b off (bytesC zs)) (hz : ∀ x ∈ zs, 0 ≤ x ∧ x ≤ 255) (hm : zs.length ≤ maxLen) (hcap : zs.length ≤ c) :
    Calls Try.prog 35 #[.slice A zs.length c] w fun e w' => NetInts w e w' := by
  have hV1 := fun ob => hV.alloc (Nat.le_refl _) ob
  go_enter Try.func35, Try.ntmps35
  go_wp2_with fail
  refine (drawNetFrom_c zs A b off c _ ((hV1 _).more (Nat.le_refl _) (by simp)) hz hm hcap).mono ?_
  rintro e w1 ⟨P, b1, k, c1, n, x, rfl, hx1, hx2, hg, hb⟩
  have hsz : (w.alloc (.cells #[.int .i64 0, .slice none 0 0] 25)).heap.size = w.heap.size + 1 := by simp
  have HB := Lib.hid (((Below.refl w.heap.size w).alloc (Nat.le_refl _) _).trans (hb.mono (by rw [hsz]; omega)))
  have hBK := Blk.below (Blk.new_ w 25 #[.int .i64 0, .slice none 0 0]) hb (by simp)
  have hNV := hg.2.2.2
  rw [hsz] at hNV
  have HNV := Lib.hid hNV
  have HG := Lib.hid (And.intro hg.1 (And.intro hg.2.1 hg.2.2.1))
  clear hb hg hV1 hNV hsz
  obtain ⟨hb0, hb1, hf0, hf1⟩ : w1.cell? ⟨w.heap.size, 0, none⟩ = some (.int .i64 0) ∧ w1.cell? ⟨w.heap.size, 1, none⟩ = some (.slice none 0 0) ∧ w1.frozen? ⟨w.heap.size, 0, none⟩ = false ∧ w1.frozen? ⟨w.heap.size, 1, none⟩ = false := ⟨hBK.cell 0, hBK.cell 1, hBK.free 0, hBK.free 1⟩
  clear hBK
  go_wp2
  refine bodyPost_ret (v := .tuple #[.agg #[.int .i64 P, .slice (some ⟨b1, 0, none⟩) k c1], .int .i64 x]) (by simp [results, Try.results35, go_sem, hb0, hb1]) rfl ?_
  exact ⟨P, b1, k, c1, n, x, rfl, hx1, hx2, ⟨HG.out.1, HG.out.2.1, HG.out.2.2, (HNV.out.keep fun g h1 h2 => two_block w1 (by omega) _ _).more (by omega) (by rw [two_size]; exact Nat.le_refl _)⟩, below_two HB.out (Nat.le_refl _) _ _⟩
set_option maxRecDepth 20000 in
set_option maxHeartbeats 1000000 in
theorem drawMrkOk_c (zs : List Int) (A : Option Addr) (b off c : Nat) (w : World) (hV : Row w 0 w.heap.size A b off (bytesC zs)) (hz : ∀ x ∈ zs, 0 ≤ x ∧ x ≤ 255) (hm : zs.length ≤ maxLen) (hcap : zs.length ≤ c) :
    Calls Try.prog 11 #[.slice A zs.length c] w fun e w' => NetMarks w e w' := by
  have hV1 := fun ob => hV.alloc (Nat.le_refl _) ob
  go_enter Try.func11, Try.ntmps11
  go_wp2_with fail
  refine (l20Open_c zs A b off c _ ((hV1 _).more (Nat.le_refl _) (by simp)) hz hm hcap).mono ?_
  rintro e w1 ⟨R, rfl, hR, hrd, hb⟩
  have hR' : w.heap.size + 1 ≤ R := by simpa using hR
  have HB := Lib.hid (((Below.refl w.heap.size w).alloc (Nat.le_refl _) _).trans (hb.mono (by simp)))
  have HBK := Lib.hid (Blk.below (Blk.new_ w 25 #[.int .i64 0, .slice none 0 0]) hb (by simp))
  have HRD := Lib.hid hrd
  have hRl := hrd.lt
  clear hR hb hrd hV1
  go_wp2_with fail
  refine (l20AnyNet_c R 0 9 w1 HRD.out (by omega) (by omega) (by omega)).mono ?_
  rintro e w2 ⟨P, b1, k, c1, n, p2, rfl, hsm, hp2, hfn, hrd2, hg2⟩
  have HG := Lib.hid (NetG.of (w := w) hsm hfn (by omega))
  have HB2 := Lib.hid (below_grown HB.out hg2 (by omega) (by omega))
  have HBK2 := Lib.hid (HBK.out.grown hg2 (by omega))
  have HRD2 := Lib.hid hrd2
  have hs2 : w.heap.size + 1 ≤ w2.heap.size := by have := hg2.size; omega
  have HF2 := Lib.hid hfn
  have hs12 : w1.heap.size ≤ w2.heap.size := hg2.size
  have hR2 : R < w1.heap.size := hRl
  have HSM := Lib.hid hsm
  clear hfn hrd2 hg2 hsm HRD HBK HB
  have hPb : 0 ≤ P ∧ P ≤ 9 := by obtain ⟨h1, h2, _⟩ := HSM.out; rw [HG.out.2.1] at h1 h2; exact ⟨h1, h2⟩
  obtain ⟨pn, rfl⟩ := Int.eq_ofNat_of_zero_le hPb.1
  have hpn : pn ≤ 9 := by omega
  have HNB := Lib.hid (Blk.new_ w2 25 #[.int .i64 (pn : Int), .slice (some ⟨b1, 0, none⟩) k c1])
  have HX := Lib.hid (show RdV (w2.alloc (.cells #[.int .i64 (pn : Int), .slice (some ⟨b1, 0, none⟩) k c1] 25)) R p2 from HRD2.out.alloc _)
  have HFX := Lib.hid (HF2.out.alloc (Nat.le_refl _) (.cells #[.int .i64 (pn : Int), .slice (some ⟨b1, 0, none⟩) k c1] 25))
  have HBX := Lib.hid (HBK2.out.alloc (.cells #[.int .i64 (pn : Int), .slice (some ⟨b1, 0, none⟩) k c1] 25))
  have HLX := Lib.hid (HB2.out.alloc (by omega) (.cells #[.int .i64 (pn : Int), .slice (some ⟨b1, 0, none⟩) k c1] 25))
  have hsX : w2.heap.size < (w2.alloc (.cells #[.int .i64 (pn : Int), .slice (some ⟨b1, 0, none⟩) k c1] 25)).heap.size := by simp
  clear HRD2 HF2 HBK2 HB2
  go_wp2
  generalize hX : w2.alloc (.cells #[.int .i64 (pn : Int), .slice (some ⟨b1, 0, none⟩) k c1] 25) = wx at HNB HX HFX HBX HLX hsX ⊢
  clear hX
  generalize hN5 : w2.heap.size = N5 at HNB HFX hsX hs2 hs12 ⊢
  have hc0 : wx.cell? ⟨N5, 0, none⟩ = some (.int .i64 (pn : Int)) := HNB.out.cell 0
  have hc1 : wx.cell? ⟨N5, 1, none⟩ = some (.slice (some ⟨b1, 0, none⟩) k c1) := HNB.out.cell 1
  have hRX : R < wx.heap.size := HX.out.lt
  have hlow : w.heap.size < wx.heap.size := by omega
  refine wp_region_noPanic ?_
  refine wp_region_held_drew (S := fun w' => (w'.cell? ⟨N5, 0, none⟩ = some (.int .i64 (pn : Int)) ∧ w'.cell? ⟨N5, 1, none⟩ = some (.slice (some ⟨b1, 0, none⟩) k c1))) (by kernel_rfl) ?_ (fun hHeld => ?_)
  · exact ⟨hc0, hc1⟩
  refine take_yes (i := 0) (v := ?_) rfl (by kernel_rfl) (by kernel_rfl) (by kernel_rfl) (fun _ _ _ h => h) (by kernel_rfl) ?_ (by assumption) ?_
  rotate_left
  · (intro w hSw; (try dsimp only at hSw); go_simp; try with_reducible rfl)
  try simp only [Act.put, List.setIfInBounds_toArray, List.set_cons_zero, List.set_cons_succ]
  refine take_yes (i := 1) (v := ?_) rfl (by kernel_rfl) (by kernel_rfl) (by kernel_rfl) (fun _ _ _ h => h) (by kernel_rfl) ?_ (by assumption) ?_
  rotate_left
  · (intro w hSw; (try dsimp only at hSw); go_simp; try with_reducible rfl)
  try simp only [Act.put, List.setIfInBounds_toArray, List.set_cons_zero, List.set_cons_succ]
  refine take_yes (i := 2) (v := ?_) rfl (by kernel_rfl) (by kernel_rfl) (by kernel_rfl) (fun _ _ _ h => h) (by kernel_rfl) ?_ (by assumption) ?_
  rotate_left
  · (intro w hSw; (try dsimp only at hSw); go_simp; try with_reducible rfl)
  try simp only [Act.put, List.setIfInBounds_toArray, List.set_cons_zero, List.set_cons_succ]
  refine take_yes (i := 3) (v := ?_) rfl (by kernel_rfl) (by kernel_rfl) (by kernel_rfl) (fun _ _ _ h => h) (by kernel_rfl) ?_ (by assumption) ?_
  rotate_left
  · (intro w hSw; (try dsimp only at hSw); go_simp; try with_reducible rfl)
  try simp only [Act.put, List.setIfInBounds_toArray, List.set_cons_zero, List.set_cons_succ]
  refine wpAnyH_ready (rs := [4]) (by kernel_rfl) (by simp) ?_
  refine AllReadyH.cons (of_drop rfl) (fun K hK => ?_) AllReadyH.nil
  go_simp
  (go_at_call 44; refine (l20Marks_c R p2 pn 3 wx.drew (show RdV wx.drew R p2 from HX.out) (by omega) (by omega) (by omega) (by omega)).mono ?_; rintro e w3 ⟨v, ys, p3, rfl, hys, hyb, hp3, hv3, hrd3, hg3⟩)
  have hg3' : wx.grownBy w3 (some R) := grown_tr (grown_drew wx R) hg3
  have hv3' : NumsV w3 wx.heap.size v ys := hv3
  have HB3 := Lib.hid (HBX.out.grown hg3' (by omega))
  have HL3 := Lib.hid (below_grown HLX.out hg3' (by omega) (by omega))
  have HF3 := Lib.hid ((HFX.out.grown hg3' hR2 (Nat.le_of_lt hsX)).more (Nat.le_refl _) (Nat.le_refl _))
  have HV3 := Lib.hid hv3'
  have HN3 := Lib.hid (HNB.out.grown hg3' (by omega))
  have hs3 := hg3'.size
  have HYB := Lib.hid hyb
  have hd0 : w3.cell? ⟨N5, 0, none⟩ = some (.int .i64 (pn : Int)) := HN3.out.cell 0
  have hd1 : w3.cell? ⟨N5, 1, none⟩ = some (.slice (some ⟨b1, 0, none⟩) k c1) := HN3.out.cell 1
  clear hrd3 hg3 hg3' hv3 hv3' hyb
  have hwl3 : w.heap.size < w3.heap.size := by omega
  obtain ⟨A9, b9, o9, c9, rfl, hc9, hrow9⟩ := HV3.out
  clear hrow9
  obtain ⟨hb0, hb1, hf0, hf1⟩ : w3.cell? ⟨w.heap.size, 0, none⟩ = some (.int .i64 0) ∧ w3.cell? ⟨w.heap.size, 1, none⟩ = some (.slice none 0 0) ∧ w3.frozen? ⟨w.heap.size, 0, none⟩ = false ∧ w3.frozen? ⟨w.heap.size, 1, none⟩ = false := ⟨HB3.out.cell 0, HB3.out.cell 1, HB3.out.free 0, HB3.out.free 1⟩
  go_wp2_with fail
  refine hK.out _ _ ?_ (fun hHeld2 => ?_)
  · exact ⟨hd0, hd1⟩
  clear hK K hHeld
  have hHeld := hHeld2
  clear hHeld2
  try simp only [Act.put, List.setIfInBounds_toArray, List.set_cons_zero, List.set_cons_succ]
  refine wpAnyH_ready (rs := [5]) (by kernel_rfl) (by simp) ?_
  refine AllReadyH.cons (of_drop rfl) (fun K hK => ?_) AllReadyH.nil
  go_simp
  skip
  go_wp2_with fail
  refine hK.out _ _ ?_ (fun hHeld2 => ?_)
  · exact ⟨(by rw [World.cell?_setCell_far _ _ _ _ (by dsimp only; omega), World.cell?_setCell_far _ _ _ _ (by dsimp only; omega)]; exact hd0), (by rw [World.cell?_setCell_far _ _ _ _ (by dsimp only; omega), World.cell?_setCell_far _ _ _ _ (by dsimp only; omega)]; exact hd1)⟩
  clear hK K hHeld
  have hHeld := hHeld2
  clear hHeld2
  try simp only [Act.put, List.setIfInBounds_toArray, List.set_cons_zero, List.set_cons_succ]
  refine take_yes (i := 6) (v := ?_) rfl (by kernel_rfl) (by kernel_rfl) (by kernel_rfl) (fun _ _ _ h => h) (by kernel_rfl) ?_ (by assumption) ?_
  rotate_left
  · (intro w hSw; (try dsimp only at hSw); go_simp; try with_reducible rfl)
  try simp only [Act.put, List.setIfInBounds_toArray, List.set_cons_zero, List.set_cons_succ]
  refine wpAnyH_done (by kernel_rfl) ?_ _
  refine NoPanic.normal ?_
  go_wp2
  refine bodyPost_ret (v := .tuple #[.agg #[.int .i64 (pn : Int), .slice (some ⟨b1, 0, none⟩) k c1], .slice A9 ys.length c9]) (by simp [results, Try.results11, go_sem, hb0, hb1]) rfl ?_
  exact ⟨(pn : Int), b1, k, c1, n, _, ys, rfl, by omega, HYB.out, (HV3.out.keep (fun g h1 h2 => two_block w3 (by omega) _ _) (by rw [two_size]; exact Nat.le_refl _)).lo (by omega), NetG.of (w1 := w1) HSM.out ((HF3.out.keep fun g h1 h2 => two_block w3 (by omega) _ _).more (Nat.le_refl _) (by rw [two_size]; omega)) (by omega), below_two HL3.out (Nat.le_refl _) _ _⟩
set_option maxRecDepth 20000 in
set_option maxHeartbeats 1000000 in
theorem drawNetReach_c (zs : List Int) (A : Option Addr) (b off c : Nat) (w : World) (hV : Row w 0 w.heap.size A b off (bytesC zs)) (hz : ∀ x ∈ zs, 0 ≤ x ∧ x ≤ 255) (hm : zs.length ≤ maxLen) (hcap : zs.length ≤ c) :
    Calls Try.prog 27 #[.slice A zs.length c] w fun e w' => NetInts2 w e w' := by
  have hV1 := fun ob => hV.alloc (Nat.le_refl _) ob
  go_enter Try.func27, Try.ntmps27
  go_wp2_with fail
  refine (l20Open_c zs A b off c _ ((hV1 _).more (Nat.le_refl _) (by simp)) hz hm hcap).mono ?_
  rintro e w1 ⟨R, rfl, hR, hrd, hb⟩
  have hR' : w.heap.size + 1 ≤ R := by simpa using hR
  have HB := Lib.hid (((Below.refl w.heap.size w).alloc (Nat.le_refl _) _).trans (hb.mono (by simp)))
  have HBK := Lib.hid (Blk.below (Blk.new_ w 25 #[.int .i64 0, .slice none 0 0]) hb (by simp))
  have HRD := Lib.hid hrd
  have hRl := hrd.lt
  clear hR hb hrd hV1
  go_wp2_with fail
  refine (l20AnyNet_c R 0 9 w1 HRD.out (by omega) (by omega) (by omega)).mono ?_
  rintro e w2 ⟨P, b1, k, c1, n, p2, rfl, hsm, hp2, hfn, hrd2, hg2⟩
  have HG := Lib.hid (NetG.of (w := w) hsm hfn (by omega))
  have HB2 := Lib.hid (below_grown HB.out hg2 (by omega) (by omega))
  have HBK2 := Lib.hid (HBK.out.grown hg2 (by omega))
  have HRD2 := Lib.hid hrd2
  have hs2 : w.heap.size + 1 ≤ w2.heap.size := by have := hg2.size; omega
  have HF2 := Lib.hid hfn
  have hs12 : w1.heap.size ≤ w2.heap.size := hg2.size
  have hR2 : R < w1.heap.size := hRl
  have HSM := Lib.hid hsm
  clear hfn hrd2 hg2 hsm HRD HBK HB
  have hkb : k ≤ 6 := by obtain ⟨_, _, _, h4, _⟩ := HSM.out; rw [HG.out.2.2.1] at h4; exact h4
  have hwk : IntKind.i64.wrap ((k : Int) + 1) = (k : Int) + 1 := IntWalk.i64_in _ (by omega)
  have HNB := Lib.hid (Blk.new_ w2 25 #[.int .i64 P, .slice (some ⟨b1, 0, none⟩) k c1])
  have HX := Lib.hid (show RdV (w2.alloc (.cells #[.int .i64 P, .slice (some ⟨b1, 0, none⟩) k c1] 25)) R p2 from HRD2.out.alloc _)
  have HFX := Lib.hid (HF2.out.alloc (Nat.le_refl _) (.cells #[.int .i64 P, .slice (some ⟨b1, 0, none⟩) k c1] 25))
  have HBX := Lib.hid (HBK2.out.alloc (.cells #[.int .i64 P, .slice (some ⟨b1, 0, none⟩) k c1] 25))
  have HLX := Lib.hid (HB2.out.alloc (by omega) (.cells #[.int .i64 P, .slice (some ⟨b1, 0, none⟩) k c1] 25))
  have hsX : w2.heap.size < (w2.alloc (.cells #[.int .i64 P, .slice (some ⟨b1, 0, none⟩) k c1] 25)).heap.size := by simp
  clear HRD2 HF2 HBK2 HB2
  go_wp2
  generalize hX : w2.alloc (.cells #[.int .i64 P, .slice (some ⟨b1, 0, none⟩) k c1] 25) = wx at HNB HX HFX HBX HLX hsX ⊢
  clear hX
  generalize hN5 : w2.heap.size = N5 at HNB HFX hsX hs2 hs12 ⊢
  have hc0 : wx.cell? ⟨N5, 0, none⟩ = some (.int .i64 P) := HNB.out.cell 0
  have hc1 : wx.cell? ⟨N5, 1, none⟩ = some (.slice (some ⟨b1, 0, none⟩) k c1) := HNB.out.cell 1
  have hRX : R < wx.heap.size := HX.out.lt
  have hlow : w.heap.size < wx.heap.size := by omega
  refine wp_region_noPanic ?_
  refine wp_region_held_drew (S := fun w' => (w'.cell? ⟨N5, 0, none⟩ = some (.int .i64 P) ∧ w'.cell? ⟨N5, 1, none⟩ = some (.slice (some ⟨b1, 0, none⟩) k c1))) (by kernel_rfl) ?_ (fun hHeld => ?_)
  · exact ⟨hc0, hc1⟩
  refine take_yes (i := 0) (v := ?_) rfl (by kernel_rfl) (by kernel_rfl) (by kernel_rfl) (fun _ _ _ h => h) (by kernel_rfl) ?_ (by assumption) ?_
  rotate_left
  · (intro w hSw; (try dsimp only at hSw); go_simp; try with_reducible rfl)
  try simp only [Act.put, List.setIfInBounds_toArray, List.set_cons_zero, List.set_cons_succ]
  refine take_yes (i := 1) (v := ?_) rfl (by kernel_rfl) (by kernel_rfl) (by kernel_rfl) (fun _ _ _ h => h) (by kernel_rfl) ?_ (by assumption) ?_
  rotate_left
  · (intro w hSw; (try dsimp only at hSw); go_simp; try with_reducible rfl)
  try simp only [Act.put, List.setIfInBounds_toArray, List.set_cons_zero, List.set_cons_succ]
  refine take_yes (i := 4) (v := ?_) rfl (by kernel_rfl) (by kernel_rfl) (by kernel_rfl) (fun _ _ _ h => h) (by kernel_rfl) ?_ (by assumption) ?_
  rotate_left
  · (intro w hSw; (try dsimp only at hSw); go_simp; try with_reducible rfl)
  try simp only [Act.put, List.setIfInBounds_toArray, List.set_cons_zero, List.set_cons_succ]
  refine take_yes (i := 5) (v := ?_) rfl (by kernel_rfl) (by kernel_rfl) (by kernel_rfl) (fun _ _ _ h => h) (by kernel_rfl) ?_ (by assumption) ?_
  rotate_left
  · (intro w hSw; (try dsimp only at hSw); go_simp; try with_reducible rfl)
  try simp only [Act.put, List.setIfInBounds_toArray, List.set_cons_zero, List.set_cons_succ]
  refine take_yes (i := 6) (v := ?_) rfl (by kernel_rfl) (by kernel_rfl) (by kernel_rfl) (fun _ _ _ h => h) (by kernel_rfl) ?_ (by assumption) ?_
  rotate_left
  · (intro w hSw; (try dsimp only at hSw); go_simp; try with_reducible rfl)
  try simp only [Act.put, List.setIfInBounds_toArray, List.set_cons_zero, List.set_cons_succ]
  refine take_yes (i := 7) (v := ?_) rfl (by kernel_rfl) (by kernel_rfl) (by kernel_rfl) (fun _ _ _ h => h) (by kernel_rfl) ?_ (by assumption) ?_
  rotate_left
  · (intro w hSw; (try dsimp only at hSw); go_simp; try with_reducible rfl)
  try simp only [Act.put, List.setIfInBounds_toArray, List.set_cons_zero, List.set_cons_succ]
  refine take_yes (i := 8) (v := ?_) rfl (by kernel_rfl) (by kernel_rfl) (by kernel_rfl) (fun _ _ _ h => h) (by kernel_rfl) ?_ (by assumption) ?_
  rotate_left
  · (intro w hSw; (try dsimp only at hSw); go_simp; try with_reducible rfl)
  try simp only [Act.put, List.setIfInBounds_toArray, List.set_cons_zero, List.set_cons_succ]
  refine wpAnyH_ready (rs := [2]) (by kernel_rfl) (by simp) ?_
  refine AllReadyH.cons (of_drop rfl) (fun K hK => ?_) AllReadyH.nil
  go_simp
  (go_at_call 58; refine (pick_c R p2 8 wx.drew (show RdV wx.drew R p2 from HX.out) (by omega) (by omega) (by omega)).mono ?_; rintro e w3 ⟨r3, rfl, hr3, hrd3, hu3⟩)
  have hr3' := pick_lt hr3 (by omega)
  have hwr3 : IntKind.i64.wrap ((r3 : Int) - 1) = (r3 : Int) - 1 := IntWalk.i64_in _ (by omega)
  have hg3 : wx.grownBy w3 (some R) := grown_tr (grown_drew wx R) (grown_upd hu3)
  have HB3 := Lib.hid (HBX.out.grown hg3 (by omega))
  have HL3 := Lib.hid (below_grown HLX.out hg3 (by omega) (by omega))
  have HF3 := Lib.hid (HFX.out.grown hg3 hR2 (Nat.le_of_lt hsX))
  have HN3 := Lib.hid (HNB.out.grown hg3 (by omega))
  have HX3 := Lib.hid hrd3
  have hs3 := hg3.size
  have hRX3 := hrd3.lt
  have hc3a : w3.cell? ⟨N5, 0, none⟩ = some (.int .i64 P) := HN3.out.cell 0
  have hc3b : w3.cell? ⟨N5, 1, none⟩ = some (.slice (some ⟨b1, 0, none⟩) k c1) := HN3.out.cell 1
  have hlow3 : w.heap.size < w3.heap.size := by omega
  clear hrd3 hu3 hg3 hr3
  go_wp2_with fail
  refine hK.out _ _ ?_ (fun hHeld2 => ?_)
  · exact ⟨hc3a, hc3b⟩
  clear hK K hHeld
  have hHeld := hHeld2
  clear hHeld2
  try simp only [Act.put, List.setIfInBounds_toArray, List.set_cons_zero, List.set_cons_succ]
  refine take_yes (i := 3) (v := ?_) rfl (by kernel_rfl) (by kernel_rfl) (by kernel_rfl) (fun _ _ _ h => h) (by kernel_rfl) ?_ (by assumption) ?_
  rotate_left
  · (intro w hSw; (try dsimp only at hSw); go_simp; try with_reducible rfl)
  try simp only [Act.put, List.setIfInBounds_toArray, List.set_cons_zero, List.set_cons_succ]
  refine wpAnyH_ready (rs := [9]) (by kernel_rfl) (by simp) ?_
  refine AllReadyH.cons (of_drop rfl) (fun K hK => ?_) AllReadyH.nil
  go_simp
  (go_at_call 58; refine (pick_c R (p2 + 1) ((k : Int) + 1) w3 HX3.out (by omega) (by omega) (by omega)).mono ?_; rintro e w4 ⟨r4, rfl, hr4, hrd4, hu4⟩)
  have hr4' := pick_lt hr4 (by omega)
  have hwr4 : IntKind.i64.wrap ((r4 : Int) - 1) = (r4 : Int) - 1 := IntWalk.i64_in _ (by omega)
  have hg4 : w3.grownBy w4 (some R) := grown_upd hu4
  have HB4 := Lib.hid (HB3.out.grown hg4 (by omega))
  have HL4 := Lib.hid (below_grown HL3.out hg4 (by omega) (by omega))
  have HF4 := Lib.hid (HF3.out.grown hg4 hR2 (by omega))
  have HN4 := Lib.hid (HN3.out.grown hg4 (by omega))
  have HX4 := Lib.hid hrd4
  have hs4 := hg4.size
  have hRX4 := hrd4.lt
  have hc4a : w4.cell? ⟨N5, 0, none⟩ = some (.int .i64 P) := HN4.out.cell 0
  have hc4b : w4.cell? ⟨N5, 1, none⟩ = some (.slice (some ⟨b1, 0, none⟩) k c1) := HN4.out.cell 1
  have hlow4 : w.heap.size < w4.heap.size := by omega
  clear hrd4 hu4 hg4 hr4
  obtain ⟨hb0, hb1, hf0, hf1⟩ : w4.cell? ⟨w.heap.size, 0, none⟩ = some (.int .i64 0) ∧ w4.cell? ⟨w.heap.size, 1, none⟩ = some (.slice none 0 0) ∧ w4.frozen? ⟨w.heap.size, 0, none⟩ = false ∧ w4.frozen? ⟨w.heap.size, 1, none⟩ = false := ⟨HB4.out.cell 0, HB4.out.cell 1, HB4.out.free 0, HB4.out.free 1⟩
  go_wp2_with fail
  refine hK.out _ _ ?_ (fun hHeld2 => ?_)
  · exact ⟨hc4a, hc4b⟩
  clear hK K hHeld
  have hHeld := hHeld2
  clear hHeld2
  try simp only [Act.put, List.setIfInBounds_toArray, List.set_cons_zero, List.set_cons_succ]
  refine take_yes (i := 10) (v := ?_) rfl (by kernel_rfl) (by kernel_rfl) (by kernel_rfl) (fun _ _ _ h => h) (by kernel_rfl) ?_ (by assumption) ?_
  rotate_left
  · (intro w hSw; (try dsimp only at hSw); go_simp; try with_reducible rfl)
  try simp only [Act.put, List.setIfInBounds_toArray, List.set_cons_zero, List.set_cons_succ]
  refine wpAnyH_ready (rs := [11]) (by kernel_rfl) (by simp) ?_
  refine AllReadyH.cons (of_drop rfl) (fun K hK => ?_) AllReadyH.nil
  go_simp
  skip
  go_wp2_with fail
  refine hK.out _ _ ?_ (fun hHeld2 => ?_)
  · exact ⟨(by rw [World.cell?_setCell_far _ _ _ _ (by dsimp only; omega), World.cell?_setCell_far _ _ _ _ (by dsimp only; omega)]; exact hc4a), (by rw [World.cell?_setCell_far _ _ _ _ (by dsimp only; omega), World.cell?_setCell_far _ _ _ _ (by dsimp only; omega)]; exact hc4b)⟩
  clear hK K hHeld
  have hHeld := hHeld2
  clear hHeld2
  try simp only [Act.put, List.setIfInBounds_toArray, List.set_cons_zero, List.set_cons_succ]
  refine take_yes (i := 12) (v := ?_) rfl (by kernel_rfl) (by kernel_rfl) (by kernel_rfl) (fun _ _ _ h => h) (by kernel_rfl) ?_ (by assumption) ?_
  rotate_left
  · (intro w hSw; (try dsimp only at hSw); go_simp; try with_reducible rfl)
  try simp only [Act.put, List.setIfInBounds_toArray, List.set_cons_zero, List.set_cons_succ]
  refine take_yes (i := 13) (v := ?_) rfl (by kernel_rfl) (by kernel_rfl) (by kernel_rfl) (fun _ _ _ h => h) (by kernel_rfl) ?_ (by assumption) ?_
  rotate_left
  · (intro w hSw; (try dsimp only at hSw); go_simp; try with_reducible rfl)
  try simp only [Act.put, List.setIfInBounds_toArray, List.set_cons_zero, List.set_cons_succ]
  refine wpAnyH_done (by kernel_rfl) ?_ _
  refine NoPanic.normal ?_
  go_wp2
  refine bodyPost_ret (v := .tuple #[.agg #[.int .i64 P, .slice (some ⟨b1, 0, none⟩) k c1], .int .i64 ((r3 : Int) - 1), .int .i64 ((r4 : Int) - 1)]) (by simp [results, Try.results27, go_sem, hb0, hb1]) rfl ?_
  exact ⟨P, b1, k, c1, n, (r3 : Int) - 1, (r4 : Int) - 1, rfl, by omega, by omega, by omega, by omega, NetG.of (w1 := w1) HSM.out ((HF4.out.keep fun g h1 h2 => two_block w4 (by omega) _ _).more (Nat.le_refl _) (by rw [two_size]; omega)) (by omega), below_two HL4.out (Nat.le_refl _) _ _⟩
end Go.Proofs.Ytoggdhbnkbdilaa
