/- A drawn net, marks and tasks under way, and what calls make of them. -/
import Derived.Test.YtkcbghaadjhceaaNBT
import Derived.Test.YtkcbghaadjhceaaEnaTasks
namespace Go.Proofs.Ytkcbghaadjhceaa
open Go.RowKit
set_option linter.unusedVariables false
set_option linter.unusedSimpArgs false

structure EB (w0 : World) (B : Nat) (P : Int) (b1 k c1 : Nat) (n : NNet) (A9 : Option Addr) (b9 o9 : Nat) (ys : List Int) (Ai : Option Addr) (bi oi : Nat) (bs : List NItem) (w : World) : Prop where
  nb : NB w0 B P b1 k c1 n w
  ms : Row w w0.heap.size B A9 b9 o9 (ints ys)
  is : Row w w0.heap.size B Ai bi oi (itemCells bs)
section
variable {w0 w w' : World} {B b1 k c1 b9 o9 c9 bi oi ci : Nat} {P : Int} {n : NNet} {A9 Ai : Option Addr} {ys : List Int} {bs : List NItem}
theorem EB.lt (h : EB w0 B P b1 k c1 n A9 b9 o9 ys Ai bi oi bs w) : B < w.heap.size := h.nb.lt
theorem EB.below (h : EB w0 B P b1 k c1 n A9 b9 o9 ys Ai bi oi bs w) (hb : Below w.heap.size w w') : EB w0 B P b1 k c1 n A9 b9 o9 ys Ai bi oi bs w' := ⟨h.nb.below hb, h.ms.below hb (Nat.le_of_lt h.lt), h.is.below hb (Nat.le_of_lt h.lt)⟩
theorem EB.alloc (h : EB w0 B P b1 k c1 n A9 b9 o9 ys Ai bi oi bs w) (o : Obj) : EB w0 B P b1 k c1 n A9 b9 o9 ys Ai bi oi bs (w.alloc o) := h.below ((Below.refl _ _).alloc (Nat.le_refl _) o)
theorem EB.drewN (h : EB w0 B P b1 k c1 n A9 b9 o9 ys Ai bi oi bs w) (d : Nat) : EB w0 B P b1 k c1 n A9 b9 o9 ys Ai bi oi bs (w.drewN d) := h.below (below_draws _ _ _)
theorem EB.drew (h : EB w0 B P b1 k c1 n A9 b9 o9 ys Ai bi oi bs w) : EB w0 B P b1 k c1 n A9 b9 o9 ys Ai bi oi bs w.drew := h.below ⟨rfl, rfl, rfl, Nat.le_refl _, fun _ _ => rfl⟩
theorem EB.cell0 (h : EB w0 B P b1 k c1 n A9 b9 o9 ys Ai bi oi bs w) : w.cell? ⟨B, 0, none⟩ = some (.int .i64 P) := h.nb.cell0
theorem EB.cell1 (h : EB w0 B P b1 k c1 n A9 b9 o9 ys Ai bi oi bs w) : w.cell? ⟨B, 1, none⟩ = some (.slice (some ⟨b1, 0, none⟩) k c1) := h.nb.cell1
theorem EB.bl (h : EB w0 B P b1 k c1 n A9 b9 o9 ys Ai bi oi bs w) : Below w0.heap.size w0 w := h.nb.bl
theorem EB.start (hg : NetG w0 w P b1 k c1 n) (hb : Below w0.heap.size w0 w) (hy : Row w w0.heap.size w.heap.size A9 b9 o9 (ints ys)) (hi : Row w w0.heap.size w.heap.size Ai bi oi (itemCells bs)) :
    EB w0 w.heap.size P b1 k c1 n A9 b9 o9 ys Ai bi oi bs (w.alloc (.cells #[.int .i64 P, .slice (some ⟨b1, 0, none⟩) k c1] 25)) := ⟨NB.start hg hb, hy.alloc (Nat.le_refl _) _, hi.alloc (Nat.le_refl _) _⟩
theorem EB.implCan (h : EB w0 B P b1 k c1 n A9 b9 o9 ys Ai bi oi bs w) (hs : Small n) (hy : ys.length ≤ maxLen) (hi : bs.length ≤ maxLen) (x : Int) :
    Calls Try.prog 24 #[.agg #[.int .i64 P, .slice (some ⟨b1, 0, none⟩) k c1], .slice A9 ys.length c9, .slice Ai bs.length ci, .int .i64 x] w fun e w' => e = .returned (.bool (enaB n ys bs x)) ∧ Below w.heap.size w w' :=
  implEnaCan_c n _ ys bs _ _ _ _ _ _ A9 b9 o9 c9 Ai bi oi ci x w h.nb.nv (Nat.le_of_lt h.lt) (small_out hs) h.ms (Nat.le_of_lt h.lt) h.is (Nat.le_of_lt h.lt) hy hi
theorem EB.implTasks (h : EB w0 B P b1 k c1 n A9 b9 o9 ys Ai bi oi bs w) (hs : Small n) (hy : ys.length ≤ maxLen) (hi : bs.length ≤ maxLen) :
    Calls Try.prog 29 #[.agg #[.int .i64 P, .slice (some ⟨b1, 0, none⟩) k c1], .slice A9 ys.length c9, .slice Ai bs.length ci] w fun e w' => ∃ v', e = .returned v' ∧ Made w' w.heap.size 3 (enaL n ys bs) v' ∧ Below w.heap.size w w' :=
  implEnaTasks_c n _ ys bs _ _ _ _ _ _ A9 b9 o9 c9 Ai bi oi ci w h.nb.nv (Nat.le_of_lt h.lt) (small_out hs) h.ms (Nat.le_of_lt h.lt) h.is (Nat.le_of_lt h.lt) hy hi
theorem EB.implWaits (h : EB w0 B P b1 k c1 n A9 b9 o9 ys Ai bi oi bs w) (hs : Small n) (hy : ys.length ≤ maxLen) (hi : bs.length ≤ maxLen) :
    Calls Try.prog 32 #[.agg #[.int .i64 P, .slice (some ⟨b1, 0, none⟩) k c1], .slice A9 ys.length c9, .slice Ai bs.length ci] w fun e w' => ∃ v', e = .returned v' ∧ Made w' w.heap.size 3 (waitL n ys bs) v' ∧ Below w.heap.size w w' :=
  implEnaWaits_c n _ ys bs _ _ _ _ _ _ A9 b9 o9 c9 Ai bi oi ci w h.nb.nv (Nat.le_of_lt h.lt) (small_out hs) h.ms (Nat.le_of_lt h.lt) h.is (Nat.le_of_lt h.lt) hy hi
theorem EB.specCan (h : EB w0 B P b1 k c1 n A9 b9 o9 ys Ai bi oi bs w) (hs : Small n) (hy : ys.length ≤ maxLen) (hi : bs.length ≤ maxLen) (x : Int) :
    Calls Try.prog 25 #[.agg #[.int .i64 P, .slice (some ⟨b1, 0, none⟩) k c1], .slice A9 ys.length c9, .slice Ai bs.length ci, .int .i64 x] w fun e w' => e = .returned (.bool (enaB n ys bs x)) ∧ Below w.heap.size w w' :=
  specEnaCan_c n _ ys bs _ _ _ _ _ _ A9 b9 o9 c9 Ai bi oi ci x w h.nb.nv (Nat.le_of_lt h.lt) h.ms (Nat.le_of_lt h.lt) h.is (Nat.le_of_lt h.lt) hy hi
theorem EB.specTasks (h : EB w0 B P b1 k c1 n A9 b9 o9 ys Ai bi oi bs w) (hs : Small n) (hy : ys.length ≤ maxLen) (hi : bs.length ≤ maxLen) :
    Calls Try.prog 30 #[.agg #[.int .i64 P, .slice (some ⟨b1, 0, none⟩) k c1], .slice A9 ys.length c9, .slice Ai bs.length ci] w fun e w' => ∃ v', e = .returned v' ∧ Made w' w.heap.size 3 (enaL n ys bs) v' ∧ Below w.heap.size w w' :=
  specEnaTasks_c n _ ys bs _ _ _ _ _ _ A9 b9 o9 c9 Ai bi oi ci w h.nb.nv (Nat.le_of_lt h.lt) h.ms (Nat.le_of_lt h.lt) h.is (Nat.le_of_lt h.lt) hy hi
theorem EB.specWaits (h : EB w0 B P b1 k c1 n A9 b9 o9 ys Ai bi oi bs w) (hs : Small n) (hy : ys.length ≤ maxLen) (hi : bs.length ≤ maxLen) :
    Calls Try.prog 33 #[.agg #[.int .i64 P, .slice (some ⟨b1, 0, none⟩) k c1], .slice A9 ys.length c9, .slice Ai bs.length ci] w fun e w' => ∃ v', e = .returned v' ∧ Made w' w.heap.size 3 (waitL n ys bs) v' ∧ Below w.heap.size w w' :=
  specEnaWaits_c n _ ys bs _ _ _ _ _ _ A9 b9 o9 c9 Ai bi oi ci w h.nb.nv (Nat.le_of_lt h.lt) h.ms (Nat.le_of_lt h.lt) h.is (Nat.le_of_lt h.lt) hy hi
theorem EB.mrk (h : EB w0 B P b1 k c1 n A9 b9 o9 ys Ai bi oi bs w) (hy : ys.length ≤ maxLen) :
    Calls Try.prog 14 #[.agg #[.int .i64 P, .slice (some ⟨b1, 0, none⟩) k c1], .slice A9 ys.length c9] w fun e w' => e = .returned (.bool (mrkOk n ys)) ∧ Below w.heap.size w w' :=
  specMrkOk_c n _ ys _ _ _ _ A9 b9 o9 c9 w h.nb.nv (Nat.le_of_lt h.lt) h.ms (Nat.le_of_lt h.lt) hy
end
end Go.Proofs.Ytkcbghaadjhceaa
