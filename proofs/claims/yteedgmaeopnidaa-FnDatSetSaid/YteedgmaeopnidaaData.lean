/- The small functions on one datum and one question: each returns what a plain Lean function computes. -/
import Derived.Test.YteedgmaeopnidaaBase
namespace Go.Proofs.Yteedgmaeopnidaa
open Go.RowKit
set_option linter.unusedVariables false
set_option linter.unusedSimpArgs false

/-- A number lies within bounds. -/
def inB (n low high : Int) : Bool := decide (low ≤ n) && decide (n ≤ high)
theorem inB_iff {n low high : Int} : inB n low high = true ↔ low ≤ n ∧ n ≤ high := by simp [inB]
theorem inB_false {n low high : Int} : inB n low high = false ↔ ¬ (low ≤ n ∧ n ≤ high) := by rw [← inB_iff]; simp
def datumB (n : Int) : Bool := inB n (-99) 99

theorem implIn_c (n low high : Int) (w : World) :
    Calls Try.prog 39 #[.int .i64 n, .int .i64 low, .int .i64 high] w fun e w' => e = .returned (.bool (inB n low high)) ∧ w = w' := by
  go_enter Try.func39, Try.ntmps39
  go_wp2
  all_goals (go_ret; exact ⟨ret_bool (by unfold inB; simp; omega), rfl⟩)

theorem l1In_c (n low high : Int) (w : World) :
    Calls Try.prog 41 #[.int .i64 n, .int .i64 low, .int .i64 high] w fun e w' => e = .returned (.bool (inB n low high)) ∧ w = w' := by
  go_enter Try.func41, Try.ntmps41
  go_wp2
  all_goals (go_ret; exact ⟨ret_bool (by unfold inB; simp; omega), rfl⟩)

theorem isDatum_c (n : Int) (w : World) :
    Calls Try.prog 40 #[.int .i64 n] w fun e w' => e = .returned (.bool (datumB n)) ∧ w = w' := by
  go_enter Try.func40, Try.ntmps40
  go_wp2_with (go_at_call 39; refine (implIn_c _ _ _ _).mono ?_; rintro e w' ⟨rfl, rfl⟩)
  go_ret; exact ⟨rfl, rfl⟩

/-- A question. -/
structure Ask where
  op : Int
  var : Int
  k : Int
  deriving DecidableEq
abbrev Ask.val (e : Ask) : Value := .agg #[.int .i64 e.op, .int .i64 e.var, .int .i64 e.k]
def askOk (e : Ask) : Bool := if e.op = 0 then decide (e.var = 0) && decide (e.k = 0) else inB e.op 1 3 && inB e.var 0 2 && datumB e.k

theorem implExpOk_c (o v k : Int) (w : World) :
    Calls Try.prog 16 #[.agg #[.int .i64 o, .int .i64 v, .int .i64 k]] w fun e w' => e = .returned (.bool (askOk ⟨o, v, k⟩)) ∧ Below w.heap.size w w' := by
  go_enter Try.func16, Try.ntmps16
  go_wp2_with (first
    | (go_at_call 39; refine (implIn_c _ _ _ _).mono ?_; rintro e w' ⟨rfl, rfl⟩)
    | (go_at_call 40; refine (isDatum_c _ _).mono ?_; rintro e w' ⟨rfl, rfl⟩))
  all_goals (go_ret; exact ⟨ret_bool (by first | (simp_all [askOk]; done) | (simp_all [askOk]; rfl)), (Below.refl _ _).alloc (Nat.le_refl _) _⟩)

theorem specExpOk_c (o v k : Int) (w : World) :
    Calls Try.prog 17 #[.agg #[.int .i64 o, .int .i64 v, .int .i64 k]] w fun e w' => e = .returned (.bool (askOk ⟨o, v, k⟩)) ∧ Below w.heap.size w w' := by
  go_enter Try.func17, Try.ntmps17
  go_wp2_with (go_at_call 41; refine (l1In_c _ _ _ _).mono ?_; rintro e w' ⟨rfl, rfl⟩)
  all_goals (go_ret; exact ⟨ret_bool (by simp_all [askOk, datumB]), (Below.refl _ _).alloc (Nat.le_refl _) _⟩)

theorem toExpAsk_c (o v k : Int) (w : World) :
    Calls Try.prog 68 #[.agg #[.int .i64 o, .int .i64 v, .int .i64 k]] w fun e w' => e = .returned (.agg #[.int .i64 o, .int .i64 v, .int .i64 k]) ∧ Below w.heap.size w w' := by
  go_enter Try.func68, Try.ntmps68
  go_wp2
  refine bodyPost_ret (v := .agg #[.int .i64 o, .int .i64 v, .int .i64 k]) (by simp [results, Try.results68, go_sem]) rfl ⟨rfl, ?_⟩
  (repeat (first | exact Below.refl _ _ | assumption | refine Below.alloc ?_ (by simp <;> omega) _ | refine below_drewN ?_ _ | refine Below.drew ?_ | refine Below.setCell ?_ (by simp <;> omega) _))
end Go.Proofs.Yteedgmaeopnidaa
