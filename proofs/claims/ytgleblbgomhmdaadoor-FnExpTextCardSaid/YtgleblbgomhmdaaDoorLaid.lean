/- What the rows' listed variables give a walk: the table of powers; the two errors. And: the door's own heap meets the condition. -/
import Derived.Test.YtgleblbgomhmdaaDoorOpen
import Derived.Test.YtgleblbgomhmdaaDoorTxt2
import Derived.ProofKit
import Derived.LaidMore
import Derived.MakeChecks
import Derived.Stop.LaidErr
import Derived.Stop.Joined
import Derived.OpenShut
namespace Go.Proofs.YtgleblbgomhmdaaDoor
open Go.ChangeShapes Go.WideShapes Go.ChangeAt Go.WideMaps Go.WideElems Go.RowKit
set_option linter.unusedVariables false
set_option linter.unusedSimpArgs false

theorem laid_iface {P : Program} {n nm : String} {d : DataW Unit} {r : List (String × DataW Unit)} {W : World} {g : Nat} {ti : TypeId} {ms : Array (String × TypeId)}
    (h : laidMet P ((n, .iface nm d) :: r) W) (hg : P.globalNamed n = some g) (ht : (P.globals[g]?).map (·.type) = some ti) (hi : P.underlying ti = some (.interface ms)) :
    ∃ u v, W.var? P n = some #[.iface u v] := by
  obtain ⟨ps, ⟨g0, t0, cs0, f0, p0, q0, hg0, ht0, hv0, hd0, _, e0⟩, _, hrows⟩ := h
  obtain rfl := Option.some.inj (hg.symm.trans hg0)
  obtain rfl := Option.some.inj (ht.symm.trans ht0)
  obtain ⟨l0⟩ := cs0
  obtain ⟨f1, u, v, rfl, hn, h1⟩ := iface_of_trod hi hd0
  exact ⟨u, v, hv0⟩
theorem t_pow : (Tryd.prog.globals[2]?).map (·.type) = some 75 := by kernel_rfl
theorem n_syn : Tryd.prog.globalNamed "strconv.ErrSyntax" = some 0 := by kernel_rfl
theorem n_ran : Tryd.prog.globalNamed "strconv.ErrRange" = some 1 := by kernel_rfl
theorem t_syn : (Tryd.prog.globals[0]?).map (·.type) = some 43 := by kernel_rfl
theorem t_ran : (Tryd.prog.globals[1]?).map (·.type) = some 43 := by kernel_rfl
theorem pow_data : (Rows.laid_internal_strconv_uint64pow10 : DataW Unit) = Lib.tabData .u64 Lib.pow10Tab := by rfl

abbrev laid3 : List (String × DataW Unit) := [("math/bits.deBruijn32tab", Rows.laid_math_bits_deBruijn32tab), ("math/bits.deBruijn64tab", Rows.laid_math_bits_deBruijn64tab), ("internal/strconv.uint64pow10", Rows.laid_internal_strconv_uint64pow10)]
abbrev laid5 : List (String × DataW Unit) := [("math/bits.deBruijn32tab", Rows.laid_math_bits_deBruijn32tab), ("math/bits.deBruijn64tab", Rows.laid_math_bits_deBruijn64tab), ("internal/strconv.uint64pow10", Rows.laid_internal_strconv_uint64pow10), ("strconv.ErrRange", Rows.laid_strconv_ErrRange), ("strconv.ErrSyntax", Rows.laid_strconv_ErrSyntax)]

theorem pow_of {r : List (String × DataW Unit)} {W : World} (h : laidMet Tryd.prog (("internal/strconv.uint64pow10", Rows.laid_internal_strconv_uint64pow10) :: r) W) : PowTab W := by
  rw [pow_data] at h
  exact Lib.tabIs_of_head pow_named t_pow Tryd.underlying75 Tryd.underlying62 (by kernel_rfl) (by kernel_rfl) h
theorem of_laid3 {W : World} (h : laidMetH Tryd.prog laid3 W) : PowTab W := by
  rw [MakeChecks.laidMetH_plain _ _ _ (by kernel_rfl)] at h
  exact pow_of h.tail.tail
theorem of_laid5 {W : World} (h : laidMetH Tryd.prog laid5 W) : PowTab W ∧ (∃ u v, W.var? Tryd.prog "strconv.ErrRange" = some #[.iface u v]) ∧ (∃ u v, W.var? Tryd.prog "strconv.ErrSyntax" = some #[.iface u v]) := by
  rw [MakeChecks.laidMetH_plain _ _ _ (by kernel_rfl)] at h
  exact ⟨pow_of h.tail.tail, laid_iface h.tail.tail.tail n_ran t_ran Tryd.underlying43, laid_iface h.tail.tail.tail.tail n_syn t_syn Tryd.underlying43⟩

/-- The door's own heap meets the condition. -/
theorem door_met3 (os : Os) (args : Array Value) : laidMetH Tryd.prog laid3 ((World.doorLaid Tryd.prog 400 os).forCall (fun _ _ => 0) ⟨#[], args, []⟩).memory :=
  laidMetH_of_parts3 (fuel := 8) (laidMet_of_run' 8 (by kernel_rfl) (by kernel_rfl)) (by kernel_rfl) (by kernel_rfl)
theorem door_met5 (os : Os) (args : Array Value) : laidMetH Tryd.prog laid5 ((World.doorLaid Tryd.prog 400 os).forCall (fun _ _ => 0) ⟨#[], args, []⟩).memory :=
  laidMetH_of_parts3 (fuel := 8) (laidMet_of_run' 8 (by kernel_rfl) (by kernel_rfl)) (by kernel_rfl) (by kernel_rfl)
end Go.Proofs.YtgleblbgomhmdaaDoor
