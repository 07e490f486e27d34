/- Numerals and texts of questions, plainly; the number of a text, of whatever text. -/
import Derived.Test.YtgleblbgomhmdaaDoorRd0
import Derived.Test.YtgleblbgomhmdaaDoorRd1
import Derived.Lib.AtoiAll
namespace Go.Proofs.YtgleblbgomhmdaaDoor
open Go.RowKit
set_option linter.unusedVariables false
set_option linter.unusedSimpArgs false

theorem atoi_d1 : ∀ m : Fin 10, Lib.atoiAll [UInt8.ofNat (48 + m.val)] = .ok (m.val : Int) ∧ Lib.atoiAll [45, UInt8.ofNat (48 + m.val)] = .ok (-(m.val : Int)) := by decide
theorem atoi_d2 : ∀ m : Fin 100, 10 ≤ m.val → Lib.atoiAll [UInt8.ofNat (48 + m.val / 10), UInt8.ofNat (48 + m.val % 10)] = .ok (m.val : Int) ∧ Lib.atoiAll [45, UInt8.ofNat (48 + m.val / 10), UInt8.ofNat (48 + m.val % 10)] = .ok (-(m.val : Int)) := by decide +kernel
theorem itoa_cases {k : Int} (h0 : -99 ≤ k) (h9 : k ≤ 99) : (∃ m : Nat, m ≤ 9 ∧ k = m ∧ Lib.itoa k = [UInt8.ofNat (48 + m)]) ∨ (∃ m : Nat, 10 ≤ m ∧ m ≤ 99 ∧ k = m ∧ Lib.itoa k = [UInt8.ofNat (48 + m / 10), UInt8.ofNat (48 + m % 10)]) ∨
    (∃ m : Nat, 1 ≤ m ∧ m ≤ 9 ∧ k = -m ∧ Lib.itoa k = [45, UInt8.ofNat (48 + m)]) ∨ (∃ m : Nat, 10 ≤ m ∧ m ≤ 99 ∧ k = -m ∧ Lib.itoa k = [45, UInt8.ofNat (48 + m / 10), UInt8.ofNat (48 + m % 10)]) := by
  by_cases h : 0 ≤ k
  · obtain ⟨m, rfl⟩ : ∃ m : Nat, k = m := ⟨k.toNat, by omega⟩
    by_cases hm : m < 10
    · exact .inl ⟨m, by omega, rfl, by rw [Lib.itoa_nonneg, Lib.decDigits_one hm]⟩
    · exact .inr (.inl ⟨m, by omega, by omega, rfl, by rw [Lib.itoa_nonneg, Lib.decDigits_two hm (by omega)]⟩)
  · obtain ⟨m, hm⟩ : ∃ m : Nat, -k = m := ⟨(-k).toNat, by omega⟩
    have hk : k = -(m : Int) := by omega
    rw [itoa_pos_neg (by omega), hm, Lib.itoa_nonneg]
    by_cases hm' : m < 10
    · exact .inr (.inr (.inl ⟨m, by omega, by omega, hk, by rw [Lib.decDigits_one hm']⟩))
    · exact .inr (.inr (.inr ⟨m, by omega, by omega, hk, by rw [Lib.decDigits_two hm' (by omega)]⟩))
theorem atoi_itoa {k : Int} (h0 : -99 ≤ k) (h9 : k ≤ 99) : Lib.atoiAll (Lib.itoa k) = .ok k := by
  rcases itoa_cases h0 h9 with ⟨m, h1, rfl, e⟩ | ⟨m, h1, h2, rfl, e⟩ | ⟨m, h1, h2, rfl, e⟩ | ⟨m, h1, h2, rfl, e⟩ <;> rw [e]
  · exact (atoi_d1 ⟨m, by omega⟩).1
  · exact (atoi_d2 ⟨m, by omega⟩ h1).1
  · exact (atoi_d1 ⟨m, by omega⟩).2
  · exact (atoi_d2 ⟨m, by omega⟩ h1).2
theorem itoa_inj {k k' : Int} (h0 : -99 ≤ k) (h9 : k ≤ 99) (g0 : -99 ≤ k') (g9 : k' ≤ 99) (h : Lib.itoa k = Lib.itoa k') : k = k' := by
  have h1 := atoi_itoa h0 h9
  rw [h, atoi_itoa g0 g9] at h1
  injection h1 with h1
  exact h1.symm
theorem u8_nat {m : Nat} (h : m ≤ 255) : ((UInt8.ofNat m).toNat : Int) = m := by rw [UInt8.toNat_ofNat']; omega
theorem l1Number_itoa {k : Int} (h0 : -99 ≤ k) (h9 : k ≤ 99) (w : World) :
    Calls Tryd.prog 22 #[.string ⟨(Lib.itoa k).toArray⟩] w fun e w' => e = .returned (.int .i64 k) ∧ w = w' := by
  rcases itoa_cases h0 h9 with ⟨m, h1, hk, e⟩ | ⟨m, h1, h2, hk, e⟩ | ⟨m, h1, h2, hk, e⟩ | ⟨m, h1, h2, hk, e⟩ <;> rw [e]
  · rw [hk]
    exact l1Number_1 _ (m : Int) (by rw [u8_nat (by omega)]; omega) (by omega) (by omega) w
  · have : k = (m / 10 : Nat) * 10 + (m % 10 : Nat) := by omega
    rw [this]
    exact l1Number_2 _ _ ((m / 10 : Nat) : Int) ((m % 10 : Nat) : Int) (by rw [u8_nat (by omega)]; omega) (by omega) (by omega) (by rw [u8_nat (by omega)]; omega) (by omega) (by omega) w
  · rw [hk]
    exact l1Number_n1 _ (m : Int) (by rw [u8_nat (by omega)]; omega) (by omega) (by omega) w
  · have : k = -((m / 10 : Nat) * 10 + (m % 10 : Nat)) := by omega
    rw [this]
    exact l1Number_n2 _ _ ((m / 10 : Nat) : Int) ((m % 10 : Nat) : Int) (by rw [u8_nat (by omega)]; omega) (by omega) (by omega) (by rw [u8_nat (by omega)]; omega) (by omega) (by omega) w
/-- The number of a text: that of the numeral, where it is one. -/
theorem l1Number_c (l : List UInt8) (hl : l.length ≤ 1048576) (w : World) :
    Calls Tryd.prog 22 #[.string ⟨l.toArray⟩] w fun e w' => (∃ x : Int, e = .returned (.int .i64 x) ∧ ∀ k : Int, -99 ≤ k → k ≤ 99 → l = Lib.itoa k → x = k) ∧ w = w' := by
  by_cases h : ∃ k : Int, -99 ≤ k ∧ k ≤ 99 ∧ l = Lib.itoa k
  · obtain ⟨k, h0, h9, rfl⟩ := h
    refine (l1Number_itoa h0 h9 w).mono ?_
    rintro e w' ⟨rfl, hw⟩
    exact ⟨⟨k, rfl, fun k' g0 g9 he => itoa_inj h0 h9 g0 g9 he⟩, hw⟩
  · refine (l1Number_any l hl w).mono ?_
    rintro e w' ⟨⟨x, rfl⟩, hw⟩
    exact ⟨⟨x, rfl, fun k' g0 g9 he => absurd ⟨k', g0, g9, he⟩ h⟩, hw⟩

/-- The sign of a question. -/
def opB (o : Int) : UInt8 := UInt8.ofNat (if o = 1 then 60 else if o = 2 then 61 else 62)
theorem askT_text {o v k : Int} (h : askOk ⟨o, v, k⟩ = true) (h0 : ¬ o = 0) : askT ⟨o, v, k⟩ = UInt8.ofNat (97 + v).toNat :: opB o :: Lib.itoa k := by
  unfold askT; rw [if_pos h, if_neg h0]; rfl
theorem askT_no {o v k : Int} (h : askOk ⟨o, v, k⟩ = false) : askT ⟨o, v, k⟩ = [] := by unfold askT; rw [h]; rfl
theorem askT_always {v k : Int} (h : askOk ⟨0, v, k⟩ = true) : askT ⟨0, v, k⟩ = [97, 108, 119, 97, 121, 115] := by unfold askT; rw [h]; rfl
theorem askOk_zero {v k : Int} (h : askOk ⟨0, v, k⟩ = true) : v = 0 ∧ k = 0 := by
  unfold askOk at h
  simpa using h
theorem opB_nat {o : Int} (h1 : 1 ≤ o) (h3 : o ≤ 3) : ((opB o).toNat : Int) = 59 + o := by
  rcases (show o = 1 ∨ o = 2 ∨ o = 3 by omega) with rfl | rfl | rfl <;> rfl
theorem varB_nat {v : Int} (h1 : 0 ≤ v) (h3 : v ≤ 2) : ((UInt8.ofNat (97 + v).toNat).toNat : Int) = 97 + v := by
  rw [u8_nat (by omega)]; omega
theorem itoa_ne_nil (k : Int) (h0 : -99 ≤ k) (h9 : k ≤ 99) : Lib.itoa k ≠ [] := by
  rcases itoa_cases h0 h9 with ⟨m, _, _, e⟩ | ⟨m, _, _, _, e⟩ | ⟨m, _, _, _, e⟩ | ⟨m, _, _, _, e⟩ <;> rw [e] <;> simp
/-- A text that is no 'always' and is of a question spells the question. -/
theorem askT_spells {o v k : Int} {l : List UInt8} (h : askOk ⟨o, v, k⟩ = true) (he : askT ⟨o, v, k⟩ = l) (ha : l ≠ [97, 108, 119, 97, 121, 115]) :
    (1 ≤ o ∧ o ≤ 3) ∧ (0 ≤ v ∧ v ≤ 2) ∧ (-99 ≤ k ∧ k ≤ 99) ∧ ∃ (c0 c1 : UInt8) (r : List UInt8), l = c0 :: c1 :: r ∧ (c0.toNat : Int) = 97 + v ∧ (c1.toNat : Int) = 59 + o ∧ r = Lib.itoa k ∧ r ≠ [] := by
  by_cases h0 : o = 0
  · subst h0; rw [askT_always h] at he; exact absurd he.symm ha
  · obtain ⟨h1, h2, h3⟩ := askOk_in h h0
    rw [askT_text h h0] at he
    exact ⟨h1, h2, h3, _, _, _, he.symm, varB_nat h2.1 h2.2, opB_nat h1.1 h1.2, rfl, itoa_ne_nil k h3.1 h3.2⟩
/-- What was read of a text: the question whose text it is; nothing, where it is the text of none. -/
def ReadsAs (l : List UInt8) (o v k : Int) (b : Bool) : Prop := (b = true ∧ askOk ⟨o, v, k⟩ = true ∧ askT ⟨o, v, k⟩ = l) ∨ (b = false ∧ o = 0 ∧ v = 0 ∧ k = 0 ∧ ∀ o' v' k' : Int, askOk ⟨o', v', k'⟩ = true → askT ⟨o', v', k'⟩ ≠ l)
theorem askT_inj {o v k o' v' k' : Int} (h : askOk ⟨o, v, k⟩ = true) (h' : askOk ⟨o', v', k'⟩ = true) (he : askT ⟨o, v, k⟩ = askT ⟨o', v', k'⟩) : o = o' ∧ v = v' ∧ k = k' := by
  by_cases ha : askT ⟨o', v', k'⟩ = [97, 108, 119, 97, 121, 115]
  · have z : ∀ {o v k : Int}, askOk ⟨o, v, k⟩ = true → askT ⟨o, v, k⟩ = [97, 108, 119, 97, 121, 115] → o = 0 ∧ v = 0 ∧ k = 0 := by
      intro o v k h he
      by_cases h0 : o = 0
      · subst h0; exact ⟨rfl, askOk_zero h⟩
      · exfalso
        obtain ⟨h1, h2, h3⟩ := askOk_in h h0
        rw [askT_text h h0] at he
        injection he with _ he
        injection he with he _
        have := opB_nat h1.1 h1.2
        rw [he] at this
        have e : ((108 : UInt8).toNat : Int) = 108 := rfl
        omega
    obtain ⟨rfl, rfl, rfl⟩ := z h (he.trans ha)
    obtain ⟨rfl, rfl, rfl⟩ := z h' ha
    exact ⟨rfl, rfl, rfl⟩
  · obtain ⟨a1, a2, a3, c0, c1, r, e1, e2, e3, e4, _⟩ := askT_spells h he ha
    obtain ⟨b1, b2, b3, d0, d1, s, f1, f2, f3, f4, _⟩ := askT_spells h' rfl ha
    rw [e1] at f1
    injection f1 with f1 f1'
    injection f1' with f1' f1''
    subst f1 f1' f1''
    exact ⟨by omega, by omega, itoa_inj a3.1 a3.2 b3.1 b3.2 (e4.symm.trans f4)⟩
theorem ReadsAs.unique {l : List UInt8} {o v k o' v' k' : Int} {b b' : Bool} (h : ReadsAs l o v k b) (h' : ReadsAs l o' v' k' b') : o = o' ∧ v = v' ∧ k = k' ∧ b = b' := by
  rcases h with ⟨rfl, h1, h2⟩ | ⟨rfl, rfl, rfl, rfl, h2⟩
  · rcases h' with ⟨rfl, g1, g2⟩ | ⟨rfl, rfl, rfl, rfl, g2⟩
    · obtain ⟨rfl, rfl, rfl⟩ := askT_inj h1 g1 (h2.trans g2.symm)
      exact ⟨rfl, rfl, rfl, rfl⟩
    · exact absurd h2 (g2 _ _ _ h1)
  · rcases h' with ⟨rfl, g1, g2⟩ | ⟨rfl, rfl, rfl, rfl, g2⟩
    · exact absurd g2 (h2 _ _ _ g1)
    · exact ⟨rfl, rfl, rfl, rfl⟩
end Go.Proofs.YtgleblbgomhmdaaDoor
