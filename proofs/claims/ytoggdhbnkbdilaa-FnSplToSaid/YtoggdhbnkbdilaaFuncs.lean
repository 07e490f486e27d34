/- slices.IndexFunc and slices.ContainsFunc at numbers, for whatever function value answers by a plain predicate and makes no more than new memory. -/
import Derived.Test.YtoggdhbnkbdilaaBase
namespace Go.Proofs.Ytoggdhbnkbdilaa
open Go.RowKit
set_option linter.unusedVariables false
set_option linter.unusedSimpArgs false

/-- The first place at which p holds, from k on; -1 where there is none. -/
def idxFrom {α : Type} (p : α → Bool) : Nat → List α → Int
  | _, [] => -1
  | k, x :: r => if p x then (k : Int) else idxFrom p (k + 1) r
theorem idxFrom_none {α : Type} (p : α → Bool) : ∀ (l : List α) (k : Nat), (∀ x ∈ l, p x = false) → idxFrom p k l = -1
  | [], _, _ => rfl
  | x :: r, k, h => by simp [idxFrom, h x (List.mem_cons_self ..)]; exact idxFrom_none p r (k + 1) (fun y hy => h y (List.mem_cons_of_mem _ hy))
theorem idxFrom_at {α : Type} (p : α → Bool) : ∀ (l : List α) (k j : Nat) (x : α), l[j]? = some x → p x = true → (∀ i y, i < j → l[i]? = some y → p y = false) → idxFrom p k l = ((k + j : Nat) : Int)
  | [], _, _, _, h, _, _ => by simp at h
  | y :: r, k, 0, x, h, hp, _ => by simp at h; subst h; simp [idxFrom, hp]
  | y :: r, k, j + 1, x, h, hp, hn => by
    have hy := hn 0 y (by omega) rfl
    simp only [idxFrom, hy]
    have := idxFrom_at p r (k + 1) j x (by simpa using h) hp (fun i z hi hz => hn (i + 1) z (by omega) (by simpa using hz))
    simp only [Bool.false_eq_true, if_false, this]
    congr 1; omega
theorem idx_any {α : Type} (p : α → Bool) : ∀ (l : List α) (k : Nat), decide (0 ≤ idxFrom p k l) = l.any p
  | [], _ => by simp [idxFrom]
  | x :: r, k => by
    by_cases h : p x = true
    · simp [idxFrom, h]
    · simp [idxFrom, h]; simpa using idx_any p r (k + 1)

/-- A call of a function value of a function with a body enters it. -/
def EntersF (P : Program) (f : FuncId) : Prop := ∀ (args : Array Value) (w : World), (callFunc f args).run P w = .ok (.enter f args) w
theorem entersF {P : Program} {f : FuncId} {fn : Func} {c : Code} (hf : P.funcs[f]? = some fn) (hname : (fn.name == "runtime.NumGoroutine") = false) (hb : fn.body = some c) : EntersF P f := by
  intro args w
  have h1 : fn.name ≠ "runtime.NumGoroutine" := by simpa using hname
  simp [callFunc, hf, h1, hb, mark]

/-- A function value that answers p of each number, whatever new memory lies beside. -/
def PredInt (P : Program) (g : FuncId) (lb : Array Value) (p : Int → Bool) (w : World) : Prop :=
  ∀ (x : Int) (W : World), Below w.heap.size w W → Calls P g (#[.int .i64 x] ++ lb) W fun e W' => e = .returned (.bool (p x)) ∧ Below W.heap.size W W'

theorem indexFuncInt_c (zs : List Int) (lo hi : Nat) (A : Option Addr) (b off c : Nat) (g : FuncId) (lb : Array Value) (p : Int → Bool) (w : World) (hV : Row w lo hi A b off (ints zs)) (hhi : hi ≤ w.heap.size) (hm : zs.length ≤ maxLen) (hp : PredInt Try.prog g lb p w) (eg : EntersF Try.prog g) :
    Calls Try.prog 89 #[.slice A zs.length c, .func (.func g) #[] lb] w fun e w' => e = .returned (.int .i64 (idxFrom p 0 zs)) ∧ Below w.heap.size w w' := by
  unfold maxLen at hm
  have eg' : ∀ (args : Array Value) (w : World), Sem.run Try.prog (callFunc g args) w = .ok (.enter g args) w := eg
  go_enter Try.func89, Try.ntmps89
  go_wp2
  go_loopw [8] (fun i wr => ∃ k : Nat, k ≤ zs.length ∧ i = .int .i64 k ∧ (∀ j y, j < k → zs[j]? = some y → p y = false) ∧ Below w.heap.size w wr) (fun i _ => zs.length - (intOf i).toNat)
  case atStart => exact ⟨0, Nat.zero_le _, rfl, fun j y hj => absurd hj (Nat.not_lt_zero _), Below.refl _ _⟩
  case round =>
    obtain ⟨k, hk, rfl, hn, hb⟩ := hrel
    have HN := Lib.hid hn
    have HB := Lib.hid hb
    by_cases hlt : k < zs.length
    · obtain ⟨rfl, _, h3, x, hx, hc, _⟩ := hV.int hlt
      have hc1 := (hb.cell (p := ⟨b, off + k, none⟩) (by show b < _; omega)).trans hc
      have HX := Lib.hid hx
      have HP := Lib.hid (hp x wr hb)
      clear hx hc hn hb
      go_wp2_with fail
      refine HP.out.mono ?_
      rintro e w1 ⟨rfl, hb1⟩
      have HB1 := Lib.hid hb1
      have HBs := Lib.hid HB.out.size
      clear hb1
      go_wp2_with fail
      · have hpx : p x = true := by assumption
        go_ret
        exact ⟨ret_int (by rw [idxFrom_at p zs 0 k x HX.out hpx (fun i y hi hy => HN.out i y hi hy)]; simp), HB.out.trans (HB1.out.mono HBs.out)⟩
      · have hpx : p x = false := by assumption
        go_roundw
        case rel =>
          refine ⟨k + 1, by omega, by go_num, fun j y hj hy => ?_, HB.out.trans (HB1.out.mono HBs.out)⟩
          by_cases hjk : j = k
          · subst hjk
            have e := HX.out.symm.trans hy
            injection e with e; rw [← e]; exact hpx
          · exact HN.out j y (by omega) hy
        case measure => simp [intOf]; omega
    · go_wp2
      go_ret
      refine ⟨ret_int ?_, HB.out⟩
      exact (idxFrom_none p zs 0 (fun x hx => by
        obtain ⟨j, hj⟩ := List.getElem?_of_mem hx
        exact HN.out j x (by have := lt_of_some hj; omega) hj)).symm

theorem containsFuncInt_c (zs : List Int) (lo hi : Nat) (A : Option Addr) (b off c : Nat) (g : FuncId) (lb : Array Value) (p : Int → Bool) (w : World) (hV : Row w lo hi A b off (ints zs)) (hhi : hi ≤ w.heap.size) (hm : zs.length ≤ maxLen) (hp : PredInt Try.prog g lb p w) (eg : EntersF Try.prog g) :
    Calls Try.prog 68 #[.slice A zs.length c, .func (.func g) #[] lb] w fun e w' => e = .returned (.bool (zs.any p)) ∧ Below w.heap.size w w' := by
  have hidx := idx_any p zs 0
  generalize hr : zs.any p = r at hidx
  have HR := Lib.hid hr
  clear hr
  generalize hi : idxFrom p 0 zs = i at hidx
  have HI := Lib.hid hi
  clear hi
  go_enter Try.func68, Try.ntmps68
  go_wp2_with fail
  refine (indexFuncInt_c zs lo _ A b off c g lb p w hV hhi hm hp eg).mono ?_
  rintro e w1 ⟨rfl, hb1⟩
  rw [HI.out]
  have HB1 := Lib.hid hb1
  clear hb1
  go_wp2_with fail
  go_ret
  exact ⟨rfl, HB1.out⟩
end Go.Proofs.Ytoggdhbnkbdilaa
