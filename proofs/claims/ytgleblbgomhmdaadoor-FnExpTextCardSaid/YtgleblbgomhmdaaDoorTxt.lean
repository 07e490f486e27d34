/- The text of a question: what the reference and the program write. -/
import Derived.Test.YtgleblbgomhmdaaDoorShelfI
import Derived.Test.YtgleblbgomhmdaaDoorMore
import Derived.BigQuiet
namespace Go.Proofs.YtgleblbgomhmdaaDoor
open Go.RowKit
set_option linter.unusedVariables false
set_option linter.unusedSimpArgs false

theorem str1 (W : World) (b : Nat) (x : Int) (h0 : 0 ≤ x) (h1 : x ≤ 255) (hc : W.cell? ⟨b, 0, none⟩ = some (.int .u8 x)) :
    (convert 28 9 (.slice (some ⟨b, 0, none⟩) 1 1)).run Tryd.prog W = .ok (.string ⟨#[UInt8.ofNat x.toNat]⟩) W := by
  have := run_convert_bytes_back (P := Tryd.prog) W 28 9 5 ⟨b, 0, none⟩ 1 [UInt8.ofNat x.toNat] (by kernel_rfl) (by kernel_rfl) (by kernel_rfl) (fun j hj => by
    have : j = 0 := by simp at hj; omega
    subst this
    simp only [List.getElem_cons_zero]
    rw [show ((⟨b, 0, none⟩ : Addr).add 0) = ⟨b, 0, none⟩ from rfl, hc]
    have : ((UInt8.ofNat x.toNat).toNat : Int) = x := by rw [UInt8.toNat_ofNat']; omega
    rw [this])
  exact this

theorem str_app (a b : Array UInt8) : (⟨a⟩ ++ ⟨b⟩ : ByteArray) = ⟨a ++ b⟩ := by
  apply ByteArray.ext
  simp
theorem new_cell (w : World) (x : Int) : (w.alloc (.cells #[.int .u8 x] 5)).cell? ⟨w.heap.size, 0, none⟩ = some (.int .u8 x) := by
  have h := heap_alloc_new w (.cells #[.int .u8 x] 5)
  unfold World.cell?
  dsimp only
  rw [h]
  rfl
set_option maxHeartbeats 1000000 in
theorem l1Digits_1 (n : Int) (h0 : 0 ≤ n) (h9 : n ≤ 9) (w : World) :
    Calls Tryd.prog 16 #[.int .i64 n] w fun e w' => e = .returned (.string ⟨#[UInt8.ofNat (48 + n).toNat]⟩) ∧ Below w.heap.size w w' := by
  have h1 : ¬ n < 0 := by omega
  have h2 : ¬ 9 < n := by omega
  go_enter Tryd.func16, Tryd.ntmps16
  go_wp2
  go_loopw [0, 3] (fun a s wr => a = .int .i64 n ∧ s = .string ⟨#[]⟩ ∧ wr = w) (fun _ _ _ => 0)
  case atStart => exact ⟨rfl, rfl, rfl⟩
  case round =>
    obtain ⟨rfl, rfl, hw⟩ := hrel
    obtain rfl : w = wr := hw.symm
    go_wp2
    rw [str1 _ _ _ (by omega) (by omega) (new_cell _ _)]
    go_wp2
    go_ret
    refine ⟨rfl, ?_⟩
    (repeat (first | exact Below.refl _ _ | assumption | refine Below.alloc ?_ (by simp <;> omega) _ | refine below_drewN ?_ _ | refine Below.drew ?_ | refine Below.setCell ?_ (by simp <;> omega) _))
set_option maxHeartbeats 1000000 in
theorem l1Digits_2 (n : Int) (h0 : 9 < n) (h9 : n ≤ 99) (w : World) :
    Calls Tryd.prog 16 #[.int .i64 n] w fun e w' => e = .returned (.string ⟨#[UInt8.ofNat (48 + n / 10).toNat, UInt8.ofNat (48 + n % 10).toNat]⟩) ∧ Below w.heap.size w w' := by
  have h1 : ¬ n < 0 := by omega
  have h3 : 0 ≤ n := by omega
  go_enter Tryd.func16, Tryd.ntmps16
  go_wp2
  go_loopw [0, 3] (fun a s wr => (a = .int .i64 n ∧ s = .string ⟨#[]⟩ ∧ wr = w) ∨ (a = .int .i64 (n / 10) ∧ s = .string ⟨#[UInt8.ofNat (48 + n % 10).toNat]⟩ ∧ Below w.heap.size w wr)) (fun a _ _ => match a with | .int _ k => if k = n then 1 else 0 | _ => 0)
  case atStart => exact .inl ⟨rfl, rfl, rfl⟩
  case round =>
    rcases hrel with ⟨rfl, rfl, hw⟩ | ⟨rfl, rfl, hw⟩
    · obtain rfl : w = wr := hw.symm
      have hd := Int.emod_nonneg n (show (10 : Int) ≠ 0 by omega)
      have hd2 := Int.emod_lt_of_pos n (show (0 : Int) < 10 by omega)
      go_wp2
      rw [str1 _ _ _ (by omega) (by omega) (new_cell _ _)]
      go_wp2
      refine ⟨.inr ⟨rfl, by rw [str_app]; rfl, ?_⟩, ?_⟩
      · (repeat (first | exact Below.refl _ _ | assumption | refine Below.alloc ?_ (by simp <;> omega) _ | refine below_drewN ?_ _ | refine Below.drew ?_ | refine Below.setCell ?_ (by simp <;> omega) _))
      · have hne : ¬ n / 10 = n := by omega
        simp [hne]
    · have hd : 0 ≤ n / 10 := by omega
      have hd2 : n / 10 ≤ 9 := by omega
      have hd3 : ¬ 9 < n / 10 := by omega
      go_wp2
      rw [str1 _ _ _ (by omega) (by omega) (new_cell _ _)]
      go_wp2
      refine bodyPost_ret (v := .string ⟨#[UInt8.ofNat (48 + n / 10).toNat, UInt8.ofNat (48 + n % 10).toNat]⟩) (by simp [results, Tryd.results16, go_sem, str_app]) rfl ⟨rfl, ?_⟩
      refine Below.trans hw (Below.mono ?_ hw.size)
      (repeat (first | exact Below.refl _ _ | assumption | refine Below.alloc ?_ (by simp <;> omega) _ | refine below_drewN ?_ _ | refine Below.drew ?_ | refine Below.setCell ?_ (by simp <;> omega) _))
theorem l1Digits_p (n : Int) (h0 : 0 ≤ n) (h9 : n ≤ 99) (w : World) :
    Calls Tryd.prog 16 #[.int .i64 n] w fun e w' => e = .returned (.string ⟨(Lib.itoa n).toArray⟩) ∧ Below w.heap.size w w' := by
  obtain ⟨k, rfl⟩ : ∃ k : Nat, n = k := ⟨n.toNat, by omega⟩
  rw [Lib.itoa_nonneg]
  by_cases h : k < 10
  · rw [Lib.decDigits_one h]
    refine (l1Digits_1 k h0 (by omega) w).mono ?_
    rintro e w' ⟨rfl, hb⟩
    exact ⟨rfl, hb⟩
  · rw [Lib.decDigits_two h (by omega)]
    refine (l1Digits_2 k (by omega) h9 w).mono ?_
    rintro e w' ⟨rfl, hb⟩
    exact ⟨rfl, hb⟩
theorem itoa_pos_neg {n : Int} (h : n < 0) : Lib.itoa n = 45 :: Lib.itoa (-n) := by
  unfold Lib.itoa
  rw [if_pos h, if_neg (by omega)]
  congr 2
  omega
theorem dec_len {k : Nat} (h : k ≤ 99) : (Lib.decDigits k).length ≤ 2 := by
  by_cases h1 : k < 10
  · rw [Lib.decDigits_one h1]; simp
  · rw [Lib.decDigits_two h1 (by omega)]; simp
theorem itoa_len {n : Int} (h0 : -99 ≤ n) (h9 : n ≤ 99) : (Lib.itoa n).length ≤ 3 := by
  unfold Lib.itoa
  split
  · have := dec_len (k := n.natAbs) (by omega); simp; omega
  · have := dec_len (k := n.toNat) (by omega); omega
theorem l1Digits_c (n : Int) (h0 : -99 ≤ n) (h9 : n ≤ 99) (w : World) :
    Calls Tryd.prog 16 #[.int .i64 n] w fun e w' => e = .returned (.string ⟨(Lib.itoa n).toArray⟩) ∧ Below w.heap.size w w' := by
  by_cases h : 0 ≤ n
  · exact l1Digits_p n h h9 w
  · have hn : n < 0 := by omega
    rw [itoa_pos_neg hn]
    have hl := itoa_len (n := -n) (by omega) (by omega)
    have hl2 : ¬ 9223372036854775807 < 1 + (Lib.itoa (-n)).length := by omega
    have hl3 : 1 + (Lib.itoa (-n)).length ≤ 9223372036854775807 := by omega
    go_enter Tryd.func16, Tryd.ntmps16
    go_wp2_with (go_at_call 16; refine (l1Digits_p _ (by omega) (by omega) _).mono ?_; rintro e w1 ⟨rfl, hb1⟩)
    refine bodyPost_ret (v := .string ⟨(45 :: Lib.itoa (-n)).toArray⟩) (by simp [results, Tryd.results16, go_sem, str_app]) rfl ⟨rfl, ?_⟩
    (repeat (first | exact Below.refl _ _ | assumption | refine Below.alloc ?_ (by simp <;> omega) _ | refine below_drewN ?_ _ | refine Below.drew ?_ | refine Below.setCell ?_ (by simp <;> omega) _))

/-- The text of a question. -/
def askT (e : Ask) : List UInt8 :=
  if askOk e then (if e.op = 0 then [97, 108, 119, 97, 121, 115] else UInt8.ofNat (97 + e.var).toNat :: UInt8.ofNat (if e.op = 1 then 60 else if e.op = 2 then 61 else 62) :: Lib.itoa e.k) else []
def askV (e : Ask) : Value := .string ⟨(askT e).toArray⟩
end Go.Proofs.YtgleblbgomhmdaaDoor
