/- The small functions on one datum and one question: each returns what a plain Lean function computes. -/
import Derived.Test.YtoggdhbnkbdilaaBase
namespace Go.Proofs.Ytoggdhbnkbdilaa
open Go.RowKit
set_option linter.unusedVariables false
set_option linter.unusedSimpArgs false

/-- A number lies within bounds. -/
def inB (n low high : Int) : Bool := decide (low ≤ n) && decide (n ≤ high)
theorem inB_iff {n low high : Int} : inB n low high = true ↔ low ≤ n ∧ n ≤ high := by simp [inB]
theorem inB_false {n low high : Int} : inB n low high = false ↔ ¬ (low ≤ n ∧ n ≤ high) := by rw [← inB_iff]; simp
def datumB (n : Int) : Bool := inB n (-99) 99

theorem implIn_c (n low high : Int) (w : World) :
    Calls Try.prog 62 #[.int .i64 n, .int .i64 low, .int .i64 high] w fun e w' => e = .returned (.bool (inB n low high)) ∧ w = w' := by
  go_enter Try.func62, Try.ntmps62
  go_wp2
  all_goals (go_ret; exact ⟨ret_bool (by unfold inB; simp; omega), rfl⟩)

theorem l1In_c (n low high : Int) (w : World) :
    Calls Try.prog 50 #[.int .i64 n, .int .i64 low, .int .i64 high] w fun e w' => e = .returned (.bool (inB n low high)) ∧ w = w' := by
  go_enter Try.func50, Try.ntmps50
  go_wp2
  all_goals (go_ret; exact ⟨ret_bool (by unfold inB; simp; omega), rfl⟩)

theorem isDatum_c (n : Int) (w : World) :
    Calls Try.prog 79 #[.int .i64 n] w fun e w' => e = .returned (.bool (datumB n)) ∧ w = w' := by
  go_enter Try.func79, Try.ntmps79
  go_wp2_with (go_at_call 62; refine (implIn_c _ _ _ _).mono ?_; rintro e w' ⟨rfl, rfl⟩)
  go_ret; exact ⟨rfl, rfl⟩

/-- A question. -/
structure Ask where
  op : Int
  var : Int
  k : Int
  deriving DecidableEq
abbrev Ask.val (e : Ask) : Value := .agg #[.int .i64 e.op, .int .i64 e.var, .int .i64 e.k]
def askOk (e : Ask) : Bool := if e.op = 0 then decide (e.var = 0) && decide (e.k = 0) else inB e.op 1 3 && inB e.var 0 2 && datumB e.k

theorem implExpOk_c (o v k : Int) (w : World) :
    Calls Try.prog 61 #[.agg #[.int .i64 o, .int .i64 v, .int .i64 k]] w fun e w' => e = .returned (.bool (askOk ⟨o, v, k⟩)) ∧ Below w.heap.size w w' := by
  go_enter Try.func61, Try.ntmps61
  go_wp2_with (first
    | (go_at_call 62; refine (implIn_c _ _ _ _).mono ?_; rintro e w' ⟨rfl, rfl⟩)
    | (go_at_call 79; refine (isDatum_c _ _).mono ?_; rintro e w' ⟨rfl, rfl⟩))
  all_goals (go_ret; exact ⟨ret_bool (by first | (simp_all [askOk]; done) | (simp_all [askOk]; rfl)), (Below.refl _ _).alloc (Nat.le_refl _) _⟩)

theorem specExpOk_c (o v k : Int) (w : World) :
    Calls Try.prog 85 #[.agg #[.int .i64 o, .int .i64 v, .int .i64 k]] w fun e w' => e = .returned (.bool (askOk ⟨o, v, k⟩)) ∧ Below w.heap.size w w' := by
  go_enter Try.func85, Try.ntmps85
  go_wp2_with (go_at_call 50; refine (l1In_c _ _ _ _).mono ?_; rintro e w' ⟨rfl, rfl⟩)
  all_goals (go_ret; exact ⟨ret_bool (by simp_all [askOk, datumB]), (Below.refl _ _).alloc (Nat.le_refl _) _⟩)

end Go.Proofs.Ytoggdhbnkbdilaa
