/- What is drawn of a code: data, marks, questions. -/
import Derived.Test.YteedgmaeopnidaaDraw3
import Derived.Deep.RegionWith
namespace Go.Proofs.Yteedgmaeopnidaa
open Go.RowKit
set_option linter.unusedVariables false
set_option linter.unusedSimpArgs false

/-- A slice of numbers that a call has made, given by its value. -/
def NumsV (w : World) (lo : Nat) (v : Value) (zs : List Int) : Prop := ∃ A b o c, v = .slice A zs.length c ∧ zs.length ≤ c ∧ Row w lo w.heap.size A b o (ints zs)
theorem NumsV.below {w w' : World} {lo : Nat} {v : Value} {zs : List Int} (h : NumsV w lo v zs) (hb : Below w.heap.size w w') : NumsV w' lo v zs := by
  obtain ⟨A, b, o, c, h1, h2, h3⟩ := h
  exact ⟨A, b, o, c, h1, h2, (h3.below hb (Nat.le_refl _)).more (Nat.le_refl _) hb.size⟩
theorem NumsV.grown {w w' : World} {lo R : Nat} {v : Value} {zs : List Int} (h : NumsV w lo v zs) (hg : w.grownBy w' (some R)) (hR : R < lo) : NumsV w' lo v zs := by
  obtain ⟨A, b, o, c, h1, h2, h3⟩ := h
  exact ⟨A, b, o, c, h1, h2, (h3.grown hg (.inr hR) (Nat.le_refl _)).more (Nat.le_refl _) hg.size⟩
theorem NumsV.lo {w : World} {lo lo' : Nat} {v : Value} {zs : List Int} (h : NumsV w lo v zs) (hl : lo' ≤ lo) : NumsV w lo' v zs := by
  obtain ⟨A, b, o, c, h1, h2, h3⟩ := h
  exact ⟨A, b, o, c, h1, h2, h3.more hl (Nat.le_refl _)⟩

theorem row_lit (w : World) (zs : List Int) (T : TypeId) : Row (w.alloc (.cells (ints zs).toArray T)) w.heap.size (w.heap.size + 1) (some ⟨w.heap.size, 0, none⟩) w.heap.size 0 (ints zs) :=
  ⟨fun _ => ⟨rfl, Nat.le_refl _, Nat.lt_succ_self _⟩, fun j u hu => ⟨by rw [World.cell?_alloc_at _ _ _ _ rfl]; simpa using hu, World.frozen?_alloc_at _ _ _ _ rfl⟩⟩

set_option maxRecDepth 20000 in
theorem guOk_c (w : World) : Calls Try.prog 12 #[] w fun e w' => e = .returned (.bool true) ∧ Below w.heap.size w w' := by
  go_enter Try.func12, Try.ntmps12
  go_wp2_with fail
  refine (implDatOk_c [0, 0, 0] w.heap.size (w.heap.size + 1) _ w.heap.size 0 _ _ (row_lit w [0, 0, 0] 3) (by simp) (by unfold maxLen; simp)).mono ?_
  rintro e w1 ⟨rfl, hb⟩
  have hd : datOk [0, 0, 0] = true := by decide
  rw [hd]
  have HB := Lib.hid hb
  clear hb hd
  go_wp2
  go_ret
  exact ⟨rfl, ((Below.refl w.heap.size w).alloc (Nat.le_refl _) _).trans (HB.out.mono (by simp))⟩




set_option maxRecDepth 20000 in
theorem drawExpHolds_c (zs : List Int) (A : Option Addr) (b off c : Nat) (w : World) (hV : Row w 0 w.heap.size A b off (bytesC zs)) (hz : ∀ x ∈ zs, 0 ≤ x ∧ x ≤ 255) (hm : zs.length ≤ maxLen) (hcap : zs.length ≤ c) :
    Calls Try.prog 13 #[.slice A zs.length c] w fun e w' => ∃ (o v k : Int) (u : Value) (ys : List Int), e = .returned (.tuple #[.agg #[.int .i64 o, .int .i64 v, .int .i64 k], u]) ∧ ys.length ≤ 4 ∧ NumsV w' w.heap.size u ys ∧ Below w.heap.size w w' := by
  have hV1 := fun ob => hV.alloc (Nat.le_refl _) ob
  go_enter Try.func13, Try.ntmps13
  go_wp2_with fail
  refine (l20Open_c zs A b off c _ ((hV1 _).more (Nat.le_refl _) (by simp)) hz hm hcap).mono ?_
  rintro e w1 ⟨R, rfl, hR, hrd, hb⟩
  have hR' : w.heap.size + 1 ≤ R := by simpa using hR
  have HB := Lib.hid (((Below.refl w.heap.size w).alloc (Nat.le_refl _) _).trans (hb.mono (by simp)))
  have HBK := Lib.hid (Blk.below (Blk.new_ w 32 #[.int .i64 0, .int .i64 0, .int .i64 0]) hb (by simp))
  have HRD := Lib.hid hrd
  clear hR hb hrd hV1
  go_wp2_with fail
  refine (l20Ask_c R 0 12 w1 HRD.out (by omega) (by omega) (by omega)).mono ?_
  rintro e w2 ⟨o, v, k, p, rfl, hp, hrd, hg⟩
  have HG2 := Lib.hid hg
  have HR2 := Lib.hid hrd
  have HBK2 := Lib.hid (HBK.out.grown hg (by omega))
  clear hrd hg
  go_wp2_with fail
  refine (l20Data_c R p 12 w2 HR2.out (by omega) (by omega) (by omega)).mono ?_
  rintro e w3 ⟨u, ys, p3, rfl, hys, hp3, hv, hrd, hg⟩
  have HG3 := Lib.hid (grown_tr HG2.out hg)
  have HV := Lib.hid hv
  have hBK := HBK2.out.grown hg (by omega)
  have hs := HB.out.size
  have hs2 := HG2.out.size
  have hs3 := hg.size
  clear hrd hg hv
  have hb0 : w3.cell? ⟨w.heap.size, 0, none⟩ = some (.int .i64 0) := hBK.cell 0
  have hb1 : w3.cell? ⟨w.heap.size, 1, none⟩ = some (.int .i64 0) := hBK.cell 1
  have hb2 : w3.cell? ⟨w.heap.size, 2, none⟩ = some (.int .i64 0) := hBK.cell 2
  have hf0 := hBK.free 0
  have hf1 := hBK.free 1
  have hf2 := hBK.free 2
  have hlt := HBK2.out.lt
  clear hBK
  go_wp2
  refine bodyPost_ret (v := .tuple #[.agg #[.int .i64 o, .int .i64 v, .int .i64 k], u]) (by simp [results, Try.results13, go_sem, hb0, hb1, hb2]) rfl ⟨o, v, k, u, ys, rfl, hys, ?_, ?_⟩
  · obtain ⟨A1, b1, o1, c1, rfl, hc1, hrow⟩ := HV.out
    refine ⟨A1, b1, o1, c1, rfl, hc1, ?_⟩
    exact ((((hrow.setCell (p := ⟨w.heap.size, 0, none⟩) (.inl (by dsimp only; omega)) _).setCell (p := ⟨w.heap.size, 1, none⟩) (.inl (by dsimp only; omega)) _).setCell (p := ⟨w.heap.size, 2, none⟩) (.inl (by dsimp only; omega)) _)).more (by omega) (by simp [World.setCell])
  · exact (((below_grown HB.out HG3.out HB.out.size (by omega)).setCell (p := ⟨w.heap.size, 0, none⟩) (Nat.le_refl _) _).setCell (p := ⟨w.heap.size, 1, none⟩) (Nat.le_refl _) _).setCell (p := ⟨w.heap.size, 2, none⟩) (Nat.le_refl _) _
end Go.Proofs.Yteedgmaeopnidaa
