/- The number of a numeral. -/
import Derived.Test.YtgleblbgomhmdaaDoorTxt2
namespace Go.Proofs.YtgleblbgomhmdaaDoor
open Go.RowKit
set_option linter.unusedVariables false
set_option linter.unusedSimpArgs false

set_option maxHeartbeats 4000000 in
theorem l1Number_1 (c : UInt8) (a : Int) (ha : (c.toNat : Int) = 48 + a) (h0 : 0 ≤ a) (h9 : a ≤ 9) (w : World) :
    Calls Tryd.prog 22 #[.string ⟨#[c]⟩] w fun e w' => e = .returned (.int .i64 (a)) ∧ w = w' := by
  have e0 : ((⟨#[c]⟩ : ByteArray)[0]'(show (0 : Nat) < 1 by decide)).toNat = c.toNat := rfl
  have na1 : (48 + a == 45) = false := by simp; omega
  have na2 : ¬ 48 + a < 48 := by omega
  have na3 : ¬ 57 < 48 + a := by omega
  go_enter Tryd.func22, Tryd.ntmps22
  go_wp2
  go_loopw [4, 5] (fun n i wr => (n = .int .i64 (0 : Int) ∧ i = .int .i64 0 ∧ wr = w) ∨ (n = .int .i64 (a : Int) ∧ i = .int .i64 1 ∧ wr = w)) (fun _ i _ => match i with | .int _ k => 1 - k.toNat | _ => 0)
  case atStart => exact .inl ⟨rfl, rfl, rfl⟩
  case round =>
    rcases hrel with ⟨rfl, rfl, hw⟩ | ⟨rfl, rfl, hw⟩
    · obtain rfl : w = wr := hw.symm
      go_wp2
      refine ⟨.inr (⟨by congr 1 <;> omega, rfl, trivial⟩), ?_⟩
      · dsimp only; omega
    · obtain rfl : w = wr := hw.symm
      go_wp2
      go_ret
      exact ⟨rfl, rfl⟩
set_option maxHeartbeats 4000000 in
theorem l1Number_n1 (c : UInt8) (a : Int) (ha : (c.toNat : Int) = 48 + a) (h0 : 1 ≤ a) (h9 : a ≤ 9) (w : World) :
    Calls Tryd.prog 22 #[.string ⟨#[45, c]⟩] w fun e w' => e = .returned (.int .i64 (-a)) ∧ w = w' := by
  have ex : (⟨#[45, c]⟩ : ByteArray).extract 1 2 = ⟨#[c]⟩ := rfl
  have e0 : ((⟨#[45, c]⟩ : ByteArray)[0]'(show (0 : Nat) < 2 by decide)).toNat = 45 := rfl
  have g0 : ((⟨#[c]⟩ : ByteArray)[0]'(show (0 : Nat) < 1 by decide)).toNat = c.toNat := rfl
  have hne : (c == 48) = false := by simp; intro h; subst h; simp at ha; omega
  have na1 : (48 + a == 45) = false := by simp; omega
  have na2 : ¬ 48 + a < 48 := by omega
  have na3 : ¬ 57 < 48 + a := by omega
  go_enter Tryd.func22, Tryd.ntmps22
  go_wp2
  go_loopw [4, 5] (fun n i wr => (n = .int .i64 (0 : Int) ∧ i = .int .i64 0 ∧ wr = w) ∨ (n = .int .i64 (a : Int) ∧ i = .int .i64 1 ∧ wr = w)) (fun _ i _ => match i with | .int _ k => 1 - k.toNat | _ => 0)
  case atStart => exact .inl ⟨rfl, rfl, rfl⟩
  case round =>
    rcases hrel with ⟨rfl, rfl, hw⟩ | ⟨rfl, rfl, hw⟩
    · obtain rfl : w = wr := hw.symm
      go_wp2
      refine ⟨.inr (⟨by congr 1 <;> omega, rfl, trivial⟩), ?_⟩
      · dsimp only; omega
    · obtain rfl : w = wr := hw.symm
      go_wp2
      go_ret
      exact ⟨rfl, rfl⟩
set_option maxHeartbeats 4000000 in
theorem l1Number_2 (c d : UInt8) (a b : Int) (ha : (c.toNat : Int) = 48 + a) (h0 : 1 ≤ a) (h9 : a ≤ 9) (hb : (d.toNat : Int) = 48 + b) (k0 : 0 ≤ b) (k9 : b ≤ 9) (w : World) :
    Calls Tryd.prog 22 #[.string ⟨#[c, d]⟩] w fun e w' => e = .returned (.int .i64 (a * 10 + b)) ∧ w = w' := by
  have e0 : ((⟨#[c, d]⟩ : ByteArray)[0]'(show (0 : Nat) < 2 by decide)).toNat = c.toNat := rfl
  have e1 : ((⟨#[c, d]⟩ : ByteArray)[1]'(show (1 : Nat) < 2 by decide)).toNat = d.toNat := rfl
  have na48 : (48 + a == 48) = false := by simp; omega
  have na1 : (48 + a == 45) = false := by simp; omega
  have na2 : ¬ 48 + a < 48 := by omega
  have na3 : ¬ 57 < 48 + a := by omega
  have nb2 : ¬ 48 + b < 48 := by omega
  have nb3 : ¬ 57 < 48 + b := by omega
  go_enter Tryd.func22, Tryd.ntmps22
  go_wp2
  go_loopw [4, 5] (fun n i wr => (n = .int .i64 (0 : Int) ∧ i = .int .i64 0 ∧ wr = w) ∨ (n = .int .i64 (a : Int) ∧ i = .int .i64 1 ∧ wr = w) ∨ (n = .int .i64 ((a * 10 + b) : Int) ∧ i = .int .i64 2 ∧ wr = w)) (fun _ i _ => match i with | .int _ k => 2 - k.toNat | _ => 0)
  case atStart => exact .inl ⟨rfl, rfl, rfl⟩
  case round =>
    rcases hrel with ⟨rfl, rfl, hw⟩ | ⟨rfl, rfl, hw⟩ | ⟨rfl, rfl, hw⟩
    · obtain rfl : w = wr := hw.symm
      go_wp2
      refine ⟨.inr (.inl ⟨by congr 1 <;> omega, rfl, trivial⟩), ?_⟩
      · dsimp only; omega
    · obtain rfl : w = wr := hw.symm
      go_wp2
      refine ⟨.inr (.inr (⟨by congr 1 <;> omega, rfl, trivial⟩)), ?_⟩
      · dsimp only; omega
    · obtain rfl : w = wr := hw.symm
      go_wp2
      go_ret
      exact ⟨rfl, rfl⟩
set_option maxHeartbeats 4000000 in
theorem l1Number_n2 (c d : UInt8) (a b : Int) (ha : (c.toNat : Int) = 48 + a) (h0 : 1 ≤ a) (h9 : a ≤ 9) (hb : (d.toNat : Int) = 48 + b) (k0 : 0 ≤ b) (k9 : b ≤ 9) (w : World) :
    Calls Tryd.prog 22 #[.string ⟨#[45, c, d]⟩] w fun e w' => e = .returned (.int .i64 (-(a * 10 + b))) ∧ w = w' := by
  have ex : (⟨#[45, c, d]⟩ : ByteArray).extract 1 3 = ⟨#[c, d]⟩ := rfl
  have e0 : ((⟨#[45, c, d]⟩ : ByteArray)[0]'(show (0 : Nat) < 3 by decide)).toNat = 45 := rfl
  have g0 : ((⟨#[c, d]⟩ : ByteArray)[0]'(show (0 : Nat) < 2 by decide)).toNat = c.toNat := rfl
  have g1 : ((⟨#[c, d]⟩ : ByteArray)[1]'(show (1 : Nat) < 2 by decide)).toNat = d.toNat := rfl
  have hne : ((⟨#[c, d]⟩ : ByteArray).toList == [48]) = false := by rw [ByteArray.toList_eq]; simp
  have na48 : (48 + a == 48) = false := by simp; omega
  have na1 : (48 + a == 45) = false := by simp; omega
  have na2 : ¬ 48 + a < 48 := by omega
  have na3 : ¬ 57 < 48 + a := by omega
  have nb2 : ¬ 48 + b < 48 := by omega
  have nb3 : ¬ 57 < 48 + b := by omega
  go_enter Tryd.func22, Tryd.ntmps22
  go_wp2
  go_loopw [4, 5] (fun n i wr => (n = .int .i64 (0 : Int) ∧ i = .int .i64 0 ∧ wr = w) ∨ (n = .int .i64 (a : Int) ∧ i = .int .i64 1 ∧ wr = w) ∨ (n = .int .i64 ((a * 10 + b) : Int) ∧ i = .int .i64 2 ∧ wr = w)) (fun _ i _ => match i with | .int _ k => 2 - k.toNat | _ => 0)
  case atStart => exact .inl ⟨rfl, rfl, rfl⟩
  case round =>
    rcases hrel with ⟨rfl, rfl, hw⟩ | ⟨rfl, rfl, hw⟩ | ⟨rfl, rfl, hw⟩
    · obtain rfl : w = wr := hw.symm
      go_wp2
      refine ⟨.inr (.inl ⟨by congr 1 <;> omega, rfl, trivial⟩), ?_⟩
      · dsimp only; omega
    · obtain rfl : w = wr := hw.symm
      go_wp2
      refine ⟨.inr (.inr (⟨by congr 1 <;> omega, rfl, trivial⟩)), ?_⟩
      · dsimp only; omega
    · obtain rfl : w = wr := hw.symm
      go_wp2
      go_ret
      exact ⟨rfl, rfl⟩
end Go.Proofs.YtgleblbgomhmdaaDoor
