/- Where a task leads to with data, in plain Lean. -/
import Derived.Test.YtkcbghaadjhceaaHolds
import Derived.Test.YtkcbghaadjhceaaTakeL
namespace Go.Proofs.Ytkcbghaadjhceaa
open Go.RowKit
set_option linter.unusedVariables false
set_option linter.unusedSimpArgs false

/-- Whether flow k goes, behind those that went. -/
def goesTo (t : NTask) (zs : List Int) (k : Nat) (f : NFlow) (n : Nat) : Bool :=
  holdsB ⟨f.op, f.var, f.k⟩ zs && (!(decide (t.split = 2) && decide (0 < n)) && !(decide (t.split = 3) && (decide (k + 1 = t.out.length) && decide (0 < n))))
def splN (t : NTask) (zs : List Int) : Nat → List Int
  | 0 => []
  | k + 1 => match t.out[k]? with
    | some f => if goesTo t zs k f (splN t zs k).length then splN t zs k ++ [f.to] else splN t zs k
    | none => splN t zs k
def splL (t : NTask) (zs : List Int) : List Int := splN t zs t.out.length
theorem splN_yes {t : NTask} {zs : List Int} {k : Nat} {f : NFlow} (hf : t.out[k]? = some f) (h : goesTo t zs k f (splN t zs k).length = true) : splN t zs (k + 1) = splN t zs k ++ [f.to] := by
  show (match t.out[k]? with | some f => if goesTo t zs k f (splN t zs k).length then splN t zs k ++ [f.to] else splN t zs k | none => splN t zs k) = _
  rw [hf]; simp only; rw [if_pos h]
theorem splN_no {t : NTask} {zs : List Int} {k : Nat} {f : NFlow} (hf : t.out[k]? = some f) (h : goesTo t zs k f (splN t zs k).length = false) : splN t zs (k + 1) = splN t zs k := by
  show (match t.out[k]? with | some f => if goesTo t zs k f (splN t zs k).length then splN t zs k ++ [f.to] else splN t zs k | none => splN t zs k) = _
  rw [hf]; simp only; rw [h]; rfl
theorem splN_none {t : NTask} {zs : List Int} {k : Nat} (hf : t.out[k]? = none) : splN t zs (k + 1) = splN t zs k := by
  show (match t.out[k]? with | some f => if goesTo t zs k f (splN t zs k).length then splN t zs k ++ [f.to] else splN t zs k | none => splN t zs k) = _
  rw [hf]
theorem splN_len (t : NTask) (zs : List Int) : ∀ k, (splN t zs k).length ≤ k
  | 0 => Nat.le_refl _
  | k + 1 => by
    have := splN_len t zs k
    unfold splN
    split
    · split
      · simp; omega
      · omega
    · omega
theorem splL_len (t : NTask) (zs : List Int) (h : t.out.length ≤ 1048576) : (splL t zs).length ≤ 1048576 := Nat.le_trans (splN_len t zs _) h
/-- Where only one goes, none goes behind it. -/
theorem splN_stay {t : NTask} {zs : List Int} (h2 : t.split = 2) {k : Nat} (h : 0 < (splN t zs k).length) : ∀ d, splN t zs (k + d) = splN t zs k
  | 0 => rfl
  | d + 1 => by
    have ih := splN_stay (zs := zs) h2 h d
    show splN t zs ((k + d) + 1) = _
    by_cases hk : k + d < t.out.length
    · rw [splN_no (List.getElem?_eq_getElem hk) (by rw [goesTo, ih]; simp [h2, h]), ih]
    · rw [splN_none (List.getElem?_eq_none (by omega)), ih]
end Go.Proofs.Ytkcbghaadjhceaa
