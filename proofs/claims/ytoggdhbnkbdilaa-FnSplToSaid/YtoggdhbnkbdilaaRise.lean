/- Places that rise: the reference's and the program's test of a list of places. -/
import Derived.Test.YtoggdhbnkbdilaaNetEq
namespace Go.Proofs.Ytoggdhbnkbdilaa
open Go.RowKit
set_option linter.unusedVariables false
set_option linter.unusedSimpArgs false

theorem quiet_q {P : Program} {f : FuncId} {args : Array Value} {w : World} {n : Nat} {v : Value}
    (h : Calls P f args (w.drewN n) fun e w' => e = .returned v ∧ ∃ m, w' = (w.drewN n).drewN m) : Calls P f args (w.drewN n) fun e w'' => e = .returned v ∧ ∃ m, w'' = w.drewN m :=
  h.mono fun _ _ ⟨he, m, hm⟩ => ⟨he, n + m, by rw [hm, World.drewN_drewN]⟩
theorem quiet_w {P : Program} {f : FuncId} {args : Array Value} {w : World} {n : Nat} {v : Value}
    (h : Calls P f args (w.drewN n) fun e w' => e = .returned v ∧ w.drewN n = w') : Calls P f args (w.drewN n) fun e w'' => e = .returned v ∧ ∃ m, w'' = w.drewN m :=
  h.mono fun _ _ ⟨he, hm⟩ => ⟨he, n, hm.symm⟩
theorem all_range {n : Nat} {p : Nat → Bool} (h : ∀ j, j < n → p j = true) : (List.range n).all p = true := by
  rw [List.all_eq_true]; intro j hj; exact h j (List.mem_range.1 hj)
theorem not_all_range {n k : Nat} {p : Nat → Bool} (hk : k < n) (h : p k = false) : (List.range n).all p = false := by
  rw [List.all_eq_false]; exact ⟨k, List.mem_range.2 hk, by simp [h]⟩
theorem of_all_range {n : Nat} {p : Nat → Bool} (h : (List.range n).all p = true) {j : Nat} (hj : j < n) : p j = true := by
  rw [List.all_eq_true] at h; exact h j (List.mem_range.2 hj)
theorem getD_of {α : Type} {l : List α} {k : Nat} {x d : α} (h : l[k]? = some x) : l.getD k d = x := by simp [List.getD, h]

/-- Place j of a list lies within bounds, and above the place before it. -/
def stepOk (low high : Int) (zs : List Int) (j : Nat) : Bool := inB (zs.getD j 0) low high && (j == 0 || decide (zs.getD (j - 1) 0 < zs.getD j 0))
def risesB (zs : List Int) (least most low high : Int) : Bool := inB zs.length least most && (List.range zs.length).all (stepOk low high zs)

theorem l2Rises_c (zs : List Int) (lo hi : Nat) (A : Option Addr) (b off c : Nat) (least most low high : Int) (w : World) (hV : Row w lo hi A b off (ints zs)) (hm : zs.length ≤ maxLen) :
    Calls Try.prog 80 #[.slice A zs.length c, .int .i64 least, .int .i64 most, .int .i64 low, .int .i64 high] w fun e w' => e = .returned (.bool (risesB zs least most low high)) ∧ ∃ m, w' = w.drewN m := by
  unfold maxLen at hm
  go_enter Try.func80, Try.ntmps80
  go_wp2_with fail
  refine (l1In_c _ _ _ _).mono ?_
  rintro e w' ⟨rfl, rfl⟩
  by_cases hin : inB zs.length least most = true
  · have HIN := Lib.hid hin
    rw [hin]
    clear hin
    go_wp2
    go_loopw [11] (fun i wr => ∃ k m : Nat, k ≤ zs.length ∧ i = .int .i64 k ∧ (∀ j, j < k → stepOk low high zs j = true) ∧ wr = w.drewN m) (fun i _ => zs.length - (intOf i).toNat)
    case atStart => exact ⟨0, 0, Nat.zero_le _, rfl, fun j hj => absurd hj (Nat.not_lt_zero _), rfl⟩
    case round =>
      obtain ⟨k, m, hk, rfl, hn, hw⟩ := hrel
      have HN := Lib.hid hn
      have HW := Lib.hid hw
      have hV' : Row wr lo hi A b off (ints zs) := by rw [hw]; exact hV
      clear hn hw hV
      by_cases hlt : k < zs.length
      · obtain ⟨rfl, _, _, x, hx, hc, _⟩ := hV'.int hlt
        have HX := Lib.hid hx
        have hlt1 : (k : Int) < (zs.length : Int) := by omega
        by_cases hb : inB x low high = true
        · have HB := Lib.hid hb
          have HQ := Lib.hid (show ∀ n, Calls Try.prog 50 #[.int .i64 x, .int .i64 low, .int .i64 high] (wr.drewN n) fun e w'' => e = .returned (.bool true) ∧ ∃ m', w'' = wr.drewN m' from fun n => by rw [← hb]; exact quiet_w (l1In_c _ _ _ _))
          clear hb
          by_cases h0 : k = 0
          · have h0' : ¬ ((0 : Int) < (k : Int)) := by omega
            have h0n : ¬ (0 < k) := by omega
            have h0d : decide ((0 : Int) < (k : Int)) = false := by simpa using h0n
            have h0e : decide (0 < k) = false := by simpa using h0n
            have H0 := Lib.hid h0
            clear h0 hx
            go_wp2
            go_quiet (first | (go_at_call 50; exact HQ.out _))
            go_wp2
            go_roundw
            case rel =>
              have h0 := H0.out
              refine ⟨k + 1, _, by omega, by go_num, fun j hj => ?_, by rw [HW.out, World.drewN_drewN]⟩
              by_cases hjk : j < k
              · omega
              obtain rfl : j = k := by omega
              rw [stepOk, getD_of HX.out, HB.out]; simp [h0]
            case measure => simp [intOf]; omega
          · obtain ⟨k', rfl⟩ : ∃ k', k = k' + 1 := ⟨k - 1, by omega⟩
            obtain ⟨_, _, _, y, hy, hd, _⟩ := hV'.int (k := k') (by omega)
            have HY := Lib.hid hy
            have h1 : (0 : Int) < ((k' + 1 : Nat) : Int) := by omega
            have h2 : IntKind.i64.wrap (((k' + 1 : Nat) : Int) - 1) = (k' : Int) := by rw [IntWalk.i64_in _ (by omega)]; omega
            have h3 : ((k' : Nat) : Int) < (zs.length : Int) := by omega
            clear hx hy
            by_cases hyx : x ≤ y
            · have HYX := Lib.hid hyx
              go_wp2
              go_quiet (first | (go_at_call 50; exact HQ.out _))
              go_wp2
              go_ret
              refine ⟨ret_bool ?_, _, by rw [HW.out, World.drewN_drewN]⟩
              rw [risesB, not_all_range (k := k' + 1) hlt]
              · simp
              · rw [stepOk, getD_of HX.out, show k' + 1 - 1 = k' from rfl, getD_of HY.out]
                have := HYX.out
                simp; intro _; omega
            · have hxy : y < x := by omega
              have hyx' : decide (x ≤ y) = false := by simpa using hyx
              have HYX := Lib.hid hxy
              go_wp2
              go_quiet (first | (go_at_call 50; exact HQ.out _))
              go_wp2
              go_roundw
              case rel =>
                refine ⟨k' + 1 + 1, _, by omega, by go_num, fun j hj => ?_, by rw [HW.out, World.drewN_drewN]⟩
                by_cases hjk : j < k' + 1
                · exact HN.out j hjk
                · obtain rfl : j = k' + 1 := by omega
                  rw [stepOk, getD_of HX.out, HB.out, show k' + 1 - 1 = k' from rfl, getD_of HY.out]
                  have := HYX.out
                  simp; omega
              case measure => simp [intOf]; omega
        · have hb' : inB x low high = false := by simpa using hb
          have HB := Lib.hid hb'
          have HQ := Lib.hid (show ∀ n, Calls Try.prog 50 #[.int .i64 x, .int .i64 low, .int .i64 high] (wr.drewN n) fun e w'' => e = .returned (.bool false) ∧ ∃ m', w'' = wr.drewN m' from fun n => by rw [← hb']; exact quiet_w (l1In_c _ _ _ _))
          clear hb hb' hx
          go_wp2
          go_quiet (first | (go_at_call 50; exact HQ.out _))
          go_wp2
          go_ret
          exact ⟨ret_bool (by rw [risesB, not_all_range hlt (by rw [stepOk, getD_of HX.out, HB.out]; rfl)]; simp), _, by rw [HW.out, World.drewN_drewN]⟩
      · go_wp2
        go_ret
        exact ⟨ret_bool (by rw [risesB, all_range (fun j hj => HN.out j (by omega)), HIN.out]; rfl), _, HW.out⟩
  · have hin' : inB zs.length least most = false := by simpa using hin
    have HIN := Lib.hid hin'
    rw [hin']
    clear hin hin'
    go_wp2
    go_ret
    exact ⟨ret_bool (by simp [risesB, HIN.out]), 0, rfl⟩
end Go.Proofs.Ytoggdhbnkbdilaa
