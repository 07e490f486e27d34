/- Whether some place of a task has a mark, and whether all have: the reference. -/
import Derived.Test.YtililbgpjbpnkaaCanP
namespace Go.Proofs.Ytililbgpjbpnkaa
open Go.RowKit
set_option linter.unusedVariables false
set_option linter.unusedSimpArgs false

theorem all_snoc {α : Type} {l : List α} {k : Nat} {x : α} (p : α → Bool) (h : l[k]? = some x) : (l.take (k + 1)).all p = ((l.take k).all p && p x) := by
  rw [take_succ_of h]; simp

set_option maxRecDepth 10000 in
set_option maxHeartbeats 1000000 in
theorem l3Some_c (ms ins : List Int) (lo hi lo2 hi2 : Nat) (A : Option Addr) (b off c : Nat) (A2 : Option Addr) (b2 o2 c2 : Nat) (w : World) (hV : Row w lo hi A b off (ints ms)) (hU : Row w lo2 hi2 A2 b2 o2 (ints ins)) (hm : ms.length ≤ maxLen) (hm2 : ins.length ≤ maxLen) (hin : ∀ x ∈ ins, 0 ≤ x ∧ x < (ms.length : Int)) :
    Calls Try.prog 86 #[.slice A ms.length c, .slice A2 ins.length c2] w fun e w' => e = .returned (.tuple #[.bool (someB ms ins), .bool (allB ms ins)]) ∧ w = w' := by
  unfold maxLen at hm hm2
  have HIN := Lib.hid hin
  clear hin
  go_enter Try.func86, Try.ntmps86
  go_wp2
  go_loop [6, 7, 8] (fun s a i => ∃ k : Nat, k ≤ ins.length ∧ i = .int .i64 k ∧ s = .bool (someB ms (ins.take k)) ∧ a = .bool (allB ms (ins.take k))) (fun _ _ i => ins.length - (intOf i).toNat)
  case atStart => exact ⟨0, Nat.zero_le _, rfl, rfl, rfl⟩
  case round =>
    obtain ⟨k, hk, rfl, rfl, rfl⟩ := hrel
    generalize hs : someB ms (ins.take k) = s1
    generalize ha : allB ms (ins.take k) = a1
    have HS := Lib.hid hs
    have HA := Lib.hid ha
    clear hs ha
    by_cases hlt : k < ins.length
    · have hlt1 : (k : Int) < (ins.length : Int) := by omega
      obtain ⟨rfl, _, _, x, hx, hc, _⟩ := hU.int hlt
      obtain ⟨hx0, hx1⟩ := HIN.out x (List.mem_of_getElem? hx)
      obtain ⟨xn, rfl⟩ := Int.eq_ofNat_of_zero_le hx0
      obtain ⟨rfl, _, _, y, hy, hd, _⟩ := hV.int (k := xn) (by omega)
      have HS1 := Lib.hid (show someB ms (ins.take (k + 1)) = (s1 || decide (0 < y)) by rw [someB, any_snoc _ hx, ← HS.out, someB]; simp [hy])
      have HA1 := Lib.hid (show allB ms (ins.take (k + 1)) = (a1 && decide (0 < y)) by rw [allB, all_snoc _ hx, ← HA.out, allB]; simp [hy])
      clear hx hy
      by_cases hp : 0 < y
      · have HP := Lib.hid hp
        cases s1 with
        | true =>
          cases a1 with
          | true =>
            go_wp2
            go_round
            case rel => exact ⟨k + 1, by omega, by go_num, by rw [HS1.out]; simp, by rw [HA1.out]; simp [HP.out]⟩
            case measure => simp [intOf]; omega
          | false =>
            go_wp2
            go_round
            case rel => exact ⟨k + 1, by omega, by go_num, by rw [HS1.out]; simp, by rw [HA1.out]; simp⟩
            case measure => simp [intOf]; omega
        | false =>
          cases a1 with
          | true =>
            go_wp2
            go_round
            case rel => exact ⟨k + 1, by omega, by go_num, by rw [HS1.out]; simp [HP.out], by rw [HA1.out]; simp [HP.out]⟩
            case measure => simp [intOf]; omega
          | false =>
            go_wp2
            go_round
            case rel => exact ⟨k + 1, by omega, by go_num, by rw [HS1.out]; simp [HP.out], by rw [HA1.out]; simp⟩
            case measure => simp [intOf]; omega
      · have HP := Lib.hid hp
        cases s1 with
        | true =>
          cases a1 with
          | true =>
            go_wp2
            go_round
            case rel => exact ⟨k + 1, by omega, by go_num, by rw [HS1.out]; simp, by rw [HA1.out]; simp [HP.out]⟩
            case measure => simp [intOf]; omega
          | false =>
            go_wp2
            go_round
            case rel => exact ⟨k + 1, by omega, by go_num, by rw [HS1.out]; simp, by rw [HA1.out]; simp⟩
            case measure => simp [intOf]; omega
        | false =>
          cases a1 with
          | true =>
            go_wp2
            go_round
            case rel => exact ⟨k + 1, by omega, by go_num, by rw [HS1.out]; simp [HP.out], by rw [HA1.out]; simp [HP.out]⟩
            case measure => simp [intOf]; omega
          | false =>
            go_wp2
            go_round
            case rel => exact ⟨k + 1, by omega, by go_num, by rw [HS1.out]; simp [HP.out], by rw [HA1.out]; simp⟩
            case measure => simp [intOf]; omega
    · have hlt1 : ¬ ((k : Int) < (ins.length : Int)) := by omega
      have hkl : k = ins.length := by omega
      rw [hkl, List.take_length] at HS HA
      clear hkl
      go_wp2
      refine bodyPost_ret (v := .tuple #[.bool s1, .bool a1]) (by simp [results, Try.results86, go_sem]) rfl ⟨by rw [HS.out, HA.out], rfl⟩
end Go.Proofs.Ytililbgpjbpnkaa
