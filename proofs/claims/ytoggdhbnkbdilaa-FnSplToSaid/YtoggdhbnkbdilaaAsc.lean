/- The program's tests of lists of places. -/
import Derived.Test.YtoggdhbnkbdilaaOutOkC
namespace Go.Proofs.Ytoggdhbnkbdilaa
open Go.RowKit
set_option linter.unusedVariables false
set_option linter.unusedSimpArgs false

theorem indexInt_c (zs : List Int) (lo hi : Nat) (A : Option Addr) (b off c : Nat) (z : Int) (w : World) (hV : Row w lo hi A b off (ints zs)) (hm : zs.length ≤ maxLen) :
    Calls Try.prog 82 #[.slice A zs.length c, .int .i64 z] w fun e w' => e = .returned (.int .i64 (idxFrom (fun x => z == x) 0 zs)) ∧ w = w' := by
  unfold maxLen at hm
  go_enter Try.func82, Try.ntmps82
  go_wp2
  go_loop [8] (fun i => ∃ k : Nat, k ≤ zs.length ∧ i = .int .i64 k ∧ (∀ j y, j < k → zs[j]? = some y → (z == y) = false)) (fun i => zs.length - (intOf i).toNat)
  case atStart => exact ⟨0, Nat.zero_le _, rfl, fun j y hj => absurd hj (Nat.not_lt_zero _)⟩
  case round =>
    obtain ⟨k, hk, rfl, hn⟩ := hrel
    have HN := Lib.hid hn
    clear hn
    by_cases hlt : k < zs.length
    · obtain ⟨rfl, _, _, x, hx, hc, _⟩ := hV.int hlt
      have HX := Lib.hid hx
      clear hx
      by_cases hxz : (z == x) = true
      · have HZ := Lib.hid hxz
        go_wp2
        go_ret
        exact ⟨ret_int (by rw [idxFrom_at (fun x => z == x) zs 0 k x HX.out HZ.out (fun i y hi hy => HN.out i y hi hy)]; simp), rfl⟩
      · have hxz' : (z == x) = false := by simpa using hxz
        have HZ := Lib.hid hxz'
        clear hxz
        go_wp2
        go_round
        case rel =>
          refine ⟨k + 1, by omega, by go_num, fun j y hj hy => ?_⟩
          by_cases hjk : j = k
          · subst hjk
            have e := HX.out.symm.trans hy
            injection e with e; rw [← e]; exact HZ.out
          · exact HN.out j y (by omega) hy
        case measure => simp [intOf]; omega
    · go_wp2
      go_ret
      refine ⟨ret_int ?_, rfl⟩
      exact (idxFrom_none (fun x => z == x) zs 0 (fun x hx => by
        obtain ⟨j, hj⟩ := List.getElem?_of_mem hx
        exact HN.out j x (by have := lt_of_some hj; omega) hj)).symm

theorem containsInt_c (zs : List Int) (lo hi : Nat) (A : Option Addr) (b off c : Nat) (z : Int) (w : World) (hV : Row w lo hi A b off (ints zs)) (hm : zs.length ≤ maxLen) :
    Calls Try.prog 55 #[.slice A zs.length c, .int .i64 z] w fun e w' => e = .returned (.bool (decide (z ∈ zs))) ∧ w = w' := by
  have h := idx_any (fun x => z == x) zs 0
  have h2 : (zs.any fun x => z == x) = decide (z ∈ zs) := by
    rw [Bool.eq_iff_iff, List.any_eq_true, decide_eq_true_eq]
    exact ⟨fun ⟨x, hx, e⟩ => by rw [eq_of_beq e]; exact hx, fun hz => ⟨z, hz, by simp⟩⟩
  rw [h2] at h
  generalize hi : idxFrom (fun x => z == x) 0 zs = i at h
  have HI := Lib.hid hi
  have H := Lib.hid h
  clear hi h h2
  go_enter Try.func55, Try.ntmps55
  go_wp2_with fail
  refine (indexInt_c zs _ _ A b off c z w hV hm).mono ?_
  rintro e w1 ⟨rfl, rfl⟩
  rw [HI.out]
  go_wp2
  go_ret
  exact ⟨ret_bool H.out, rfl⟩

/-- The place before place j; -1 before the first. -/
def prevOf (zs : List Int) (j : Nat) : Int := if j = 0 then -1 else zs.getD (j - 1) 0
def ascOk (places : Int) (ws zs : List Int) (j : Nat) : Bool := inB (zs.getD j 0) (prevOf zs j + 1) (places - 1) && !decide (zs.getD j 0 ∈ ws)
def ascB (places : Int) (ws zs : List Int) : Bool := (List.range zs.length).all (ascOk places ws zs)

theorem ascends_c (zs ws : List Int) (lo hi lo' hi' : Nat) (A B : Option Addr) (b off c b' off' c' : Nat) (places : Int) (w : World) (hV : Row w lo hi A b off (ints zs)) (hU : Row w lo' hi' B b' off' (ints ws)) (hm : zs.length ≤ maxLen) (hm' : ws.length ≤ maxLen) (hp1 : 0 ≤ places) (hp2 : places ≤ 1000) :
    Calls Try.prog 74 #[.slice A zs.length c, .int .i64 places, .slice B ws.length c'] w fun e w' => e = .returned (.bool (ascB places ws zs)) ∧ w = w' := by
  unfold maxLen at hm
  go_enter Try.func74, Try.ntmps74
  go_wp2
  go_loop [7, 12] (fun l i => ∃ k : Nat, k ≤ zs.length ∧ i = .int .i64 k ∧ l = .int .i64 (prevOf zs k) ∧ -1 ≤ prevOf zs k ∧ prevOf zs k ≤ 1000 ∧ (∀ j, j < k → ascOk places ws zs j = true)) (fun _ i => zs.length - (intOf i).toNat)
  case atStart => exact ⟨0, Nat.zero_le _, rfl, rfl, by simp [prevOf], by simp [prevOf], fun j hj => absurd hj (Nat.not_lt_zero _)⟩
  case round =>
    obtain ⟨k, hk, rfl, rfl, hl1, hl2, hn⟩ := hrel
    have HN := Lib.hid hn
    clear hn
    by_cases hlt : k < zs.length
    · obtain ⟨rfl, _, _, x, hx, hc, _⟩ := hV.int hlt
      have HX := Lib.hid hx
      have HNO : ascOk places ws zs k = false → ascB places ws zs = false := fun h => by rw [ascB, not_all_range hlt h]
      have HNO := Lib.hid HNO
      generalize hp : prevOf zs k = p at hl1 hl2 ⊢
      have HP := Lib.hid hp
      have HE : ∀ b1 b2, inB x (p + 1) (places - 1) = b1 → decide (x ∈ ws) = b2 → ascOk places ws zs k = (b1 && !b2) := by
        intro b1 b2 h1 h2; rw [ascOk, getD_of HX.out, HP.out, h1, h2]
      have HE := Lib.hid HE
      clear hx hp
      go_wp2_with fail
      refine (implIn_c _ _ _ _).mono ?_
      rintro e w' ⟨rfl, rfl⟩
      by_cases h1 : inB x (p + 1) (places - 1) = true
      · have H1 := Lib.hid h1
        have h1' := inB_iff.1 h1
        rw [h1]
        clear h1
        go_wp2_with fail
        refine (containsInt_c ws lo' hi' B b' off' c' x _ hU hm').mono ?_
        rintro e w' ⟨rfl, rfl⟩
        by_cases h2 : decide (x ∈ ws) = true
        · have H2 := Lib.hid h2
          rw [h2]
          clear h2
          go_wp2
          go_ret
          exact ⟨ret_bool (HNO.out (HE.out _ _ H1.out H2.out)).symm, rfl⟩
        · have h2' : decide (x ∈ ws) = false := by simpa using h2
          have H2 := Lib.hid h2'
          rw [h2']
          clear h2 h2'
          go_wp2
          go_round
          case rel =>
            have e : prevOf zs (k + 1) = x := by rw [prevOf, if_neg (by omega), show k + 1 - 1 = k from rfl, getD_of HX.out]
            refine ⟨k + 1, by omega, by go_num, by rw [e], by rw [e]; omega, by rw [e]; omega, fun j hj => ?_⟩
            by_cases hjk : j < k
            · exact HN.out j hjk
            · obtain rfl : j = k := by omega
              exact HE.out _ _ H1.out H2.out
          case measure => simp [intOf]; omega
      · have h1' : inB x (p + 1) (places - 1) = false := by simpa using h1
        have H1 := Lib.hid h1'
        rw [h1']
        clear h1 h1'
        go_wp2
        go_ret
        exact ⟨ret_bool (HNO.out (HE.out _ _ H1.out rfl)).symm, rfl⟩
    · go_wp2
      go_ret
      exact ⟨ret_bool (by rw [ascB, all_range (fun j hj => HN.out j (by omega))]), rfl⟩

/-- A list rises from place j on above the place before it, and stays below places. -/
theorem asc_at {places : Int} {ws zs : List Int} (h : ascB places ws zs = true) {j : Nat} (hj : j < zs.length) : prevOf zs j < zs.getD j 0 ∧ zs.getD j 0 ≤ places - 1 ∧ zs.getD j 0 ∉ ws := by
  have := of_all_range h hj
  rw [ascOk, Bool.and_eq_true, inB_iff] at this
  obtain ⟨⟨h1, h2⟩, h3⟩ := this
  exact ⟨by omega, h2, by simpa using h3⟩
theorem asc_low {places : Int} {ws zs : List Int} (h : ascB places ws zs = true) : ∀ {j : Nat}, j < zs.length → 0 ≤ zs.getD j 0
  | 0, hj => by have := (asc_at h hj).1; rw [prevOf, if_pos rfl] at this; omega
  | j + 1, hj => by
    have h1 := asc_low h (j := j) (by omega)
    have h2 := (asc_at h hj).1
    rw [prevOf, if_neg (by omega), show j + 1 - 1 = j from rfl] at h2; omega
theorem asc_mem {places : Int} {ws zs : List Int} (h : ascB places ws zs = true) {z : Int} (hz : z ∈ zs) : z ∉ ws := by
  obtain ⟨j, hj⟩ := List.getElem?_of_mem hz
  have := (asc_at h (lt_of_some hj)).2.2
  rwa [getD_of hj] at this
theorem rises_at {zs : List Int} {least most low high : Int} (h : risesB zs least most low high = true) {j : Nat} (hj : j < zs.length) : low ≤ zs.getD j 0 ∧ zs.getD j 0 ≤ high ∧ (j ≠ 0 → zs.getD (j - 1) 0 < zs.getD j 0) := by
  rw [risesB, Bool.and_eq_true] at h
  have := of_all_range h.2 hj
  rw [stepOk, Bool.and_eq_true, inB_iff, Bool.or_eq_true] at this
  obtain ⟨⟨h1, h2⟩, h3⟩ := this
  refine ⟨h1, h2, fun h0 => ?_⟩
  rcases h3 with h3 | h3
  · exact absurd (by simpa using h3) h0
  · simpa using h3
theorem asc_ins {places : Int} {zs : List Int} : (inB zs.length 1 3 && ascB places [1] zs) = (risesB zs 1 3 0 (places - 1) && !decide (1 ∈ zs)) := by
  rw [Bool.eq_iff_iff, Bool.and_eq_true, Bool.and_eq_true]
  constructor
  · rintro ⟨h1, h2⟩
    refine ⟨?_, by simpa using fun hz => asc_mem h2 hz (by simp)⟩
    rw [risesB, h1, Bool.true_and]
    refine all_range fun j hj => ?_
    obtain ⟨h3, h4, _⟩ := asc_at h2 hj
    have h5 := asc_low h2 hj
    rw [stepOk, Bool.and_eq_true, inB_iff, Bool.or_eq_true]
    refine ⟨⟨h5, h4⟩, ?_⟩
    by_cases h0 : j = 0
    · left; simp [h0]
    · right; rw [prevOf, if_neg h0] at h3; simpa using h3
  · rintro ⟨h1, h2⟩
    have h0 := h1
    rw [risesB, Bool.and_eq_true] at h0
    refine ⟨h0.1, all_range fun j hj => ?_⟩
    obtain ⟨h3, h4, h5⟩ := rises_at h1 hj
    rw [ascOk, Bool.and_eq_true, inB_iff]
    refine ⟨⟨?_, h4⟩, ?_⟩
    · rw [prevOf]
      by_cases hj0 : j = 0
      · rw [if_pos hj0]; omega
      · rw [if_neg hj0]; have := h5 hj0; omega
    · have h6 : zs.getD j 0 ∈ zs := by rw [getD_of (List.getElem?_eq_getElem hj)]; exact List.getElem_mem hj
      simp only [Bool.not_eq_true', decide_eq_false_iff_not, List.mem_singleton] at h2 ⊢
      intro e; rw [e] at h6; exact h2 h6
theorem asc_clear {places : Int} {zs : List Int} (hp : 0 ≤ places) : ascB places [0, 1] zs = risesB zs 0 places 2 (places - 1) := by
  rw [Bool.eq_iff_iff]
  constructor
  · intro h2
    have hlow : ∀ j, j < zs.length → 2 + (j : Int) ≤ zs.getD j 0 := by
      intro j
      induction j with
      | zero =>
        intro hj
        have h3 := (asc_at h2 hj).2.2
        have h4 := asc_low h2 hj
        simp only [List.mem_cons, List.not_mem_nil, or_false, not_or] at h3
        omega
      | succ j ih =>
        intro hj
        have h3 := (asc_at h2 hj).1
        rw [prevOf, if_neg (by omega), show j + 1 - 1 = j from rfl] at h3
        have := ih (by omega)
        omega
    rw [risesB, Bool.and_eq_true, inB_iff]
    refine ⟨⟨by omega, ?_⟩, all_range fun j hj => ?_⟩
    · by_cases h0 : zs.length = 0
      · omega
      · have h3 := hlow (zs.length - 1) (by omega)
        have h4 := (asc_at h2 (j := zs.length - 1) (by omega)).2.1
        omega
    · obtain ⟨h3, h4, _⟩ := asc_at h2 hj
      have h5 := hlow j hj
      rw [stepOk, Bool.and_eq_true, inB_iff, Bool.or_eq_true]
      refine ⟨⟨by omega, h4⟩, ?_⟩
      by_cases h0 : j = 0
      · left; simp [h0]
      · right; rw [prevOf, if_neg h0] at h3; simpa using h3
  · intro h1
    refine all_range fun j hj => ?_
    obtain ⟨h3, h4, h5⟩ := rises_at h1 hj
    rw [ascOk, Bool.and_eq_true, inB_iff]
    refine ⟨⟨?_, h4⟩, ?_⟩
    · rw [prevOf]
      by_cases hj0 : j = 0
      · rw [if_pos hj0]; omega
      · rw [if_neg hj0]; have := h5 hj0; omega
    · simp only [Bool.not_eq_true', decide_eq_false_iff_not, List.mem_cons, List.not_mem_nil, or_false, not_or]
      omega
end Go.Proofs.Ytoggdhbnkbdilaa
