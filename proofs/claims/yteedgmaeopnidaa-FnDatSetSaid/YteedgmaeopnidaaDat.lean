/- Data: whether they are ok, a number turned, whether a question holds of them. -/
import Derived.Test.YteedgmaeopnidaaData
import Derived.Test.YteedgmaeopnidaaFuncs
import Derived.Test.YteedgmaeopnidaaAppend
namespace Go.Proofs.Yteedgmaeopnidaa
open Go.RowKit
set_option linter.unusedVariables false
set_option linter.unusedSimpArgs false

theorem all_of {α : Type} {p : α → Bool} {l : List α} (h : ∀ j y, j < l.length → l[j]? = some y → p y = true) : l.all p = true := by
  rw [List.all_eq_true]
  intro x hx
  obtain ⟨j, hj⟩ := List.getElem?_of_mem hx
  exact h j x (lt_of_some hj) hj
theorem not_all_of {α : Type} {p : α → Bool} {l : List α} {k : Nat} {x : α} (h : l[k]? = some x) (hp : p x = false) : l.all p = false := by
  rw [List.all_eq_false]
  exact ⟨x, List.mem_of_getElem? h, by simp [hp]⟩

def datOk (zs : List Int) : Bool := decide (zs.length = 3) && zs.all datumB

theorem specDatOk_c (zs : List Int) (lo hi : Nat) (A : Option Addr) (b off c : Nat) (w : World) (hV : Row w lo hi A b off (ints zs)) (hm : zs.length ≤ maxLen) :
    Calls Try.prog 11 #[.slice A zs.length c] w fun e w' => e = .returned (.bool (datOk zs)) ∧ w = w' := by
  unfold maxLen at hm
  by_cases h3 : zs.length = 3
  · have hne : ((zs.length : Int) != 3) = false := by simp [h3]
    have H3 := Lib.hid h3
    clear h3
    go_enter Try.func11, Try.ntmps11
    go_wp2
    go_loop [3] (fun i => ∃ k : Nat, k ≤ zs.length ∧ i = .int .i64 k ∧ (∀ j y, j < k → zs[j]? = some y → datumB y = true)) (fun i => zs.length - (intOf i).toNat)
    case atStart => exact ⟨0, Nat.zero_le _, rfl, fun j y hj => absurd hj (Nat.not_lt_zero _)⟩
    case round =>
      obtain ⟨k, hk, rfl, hn⟩ := hrel
      have HN := Lib.hid hn
      clear hn
      by_cases hlt : k < zs.length
      · obtain ⟨rfl, _, _, x, hx, hc, _⟩ := hV.int hlt
        have HX := Lib.hid hx
        clear hx
        go_wp2_with fail
        refine (l1In_c _ _ _ _).mono ?_
        rintro e w' ⟨rfl, rfl⟩
        go_wp2_with fail
        · have hd : inB x (-99) 99 = false := by simpa using (by assumption : (!inB x (-99) 99) = true)
          go_ret
          exact ⟨ret_bool (by simp [datOk, not_all_of (p := datumB) HX.out hd]), rfl⟩
        · have hd : inB x (-99) 99 = true := by simpa using (by assumption : (!inB x (-99) 99) = false)
          go_round
          case rel =>
            refine ⟨k + 1, by omega, by go_num, fun j y hj hy => ?_⟩
            by_cases hjk : j = k
            · subst hjk
              have e := HX.out.symm.trans hy
              injection e with e; rw [← e]; exact hd
            · exact HN.out j y (by omega) hy
          case measure => simp [intOf]; omega
      · go_wp2
        go_ret
        exact ⟨ret_bool (by simp [datOk, H3.out, all_of (p := datumB) (fun j y hj => HN.out j y (by omega))]), rfl⟩
  · have hne : ((zs.length : Int) != 3) = true := by simp; omega
    have H3 := Lib.hid h3
    clear h3
    go_enter Try.func11, Try.ntmps11
    go_wp2
    go_ret
    exact ⟨ret_bool (by simp [datOk, H3.out]), rfl⟩

theorem datOk1_c (x : Int) (w : World) :
    Calls Try.prog 57 #[.int .i64 x] w fun e w' => e = .returned (.bool (!datumB x)) ∧ w = w' := by
  go_enter Try.func57, Try.ntmps57
  go_wp2_with (go_at_call 40; refine (isDatum_c _ _).mono ?_; rintro e w' ⟨rfl, rfl⟩)
  go_ret; exact ⟨rfl, rfl⟩

theorem implDatOk_c (zs : List Int) (lo hi : Nat) (A : Option Addr) (b off c : Nat) (w : World) (hV : Row w lo hi A b off (ints zs)) (hhi : hi ≤ w.heap.size) (hm : zs.length ≤ maxLen) :
    Calls Try.prog 38 #[.slice A zs.length c] w fun e w' => e = .returned (.bool (datOk zs)) ∧ Below w.heap.size w w' := by
  have hm0 := hm
  unfold maxLen at hm
  have eg : EntersF Try.prog 57 := entersF Try.func57 (by kernel_rfl) rfl
  have hp : PredInt Try.prog 57 #[] (fun x => !datumB x) w := fun x W _ => (datOk1_c x W).mono fun e w' ⟨h1, h2⟩ => ⟨h1, by subst h2; exact Below.refl _ _⟩
  have HC := Lib.hid (containsFuncInt_c zs lo hi A b off c _ #[] _ w hV hhi hm0 hp eg)
  clear hp eg
  by_cases h3 : zs.length = 3
  · have hne : ((zs.length : Int) == 3) = true := by simp [h3]
    have H3 := Lib.hid h3
    clear h3
    go_enter Try.func38, Try.ntmps38
    go_wp2_with fail
    refine HC.out.mono ?_
    rintro e w1 ⟨rfl, hb1⟩
    have HB1 := Lib.hid hb1
    clear hb1
    generalize hr : (zs.any fun x => !datumB x) = r
    have HR := Lib.hid hr
    clear hr
    go_wp2
    go_ret
    exact ⟨ret_bool (by rw [← HR.out]; simp [datOk, H3.out, List.any_eq_not_all_not]), HB1.out⟩
  · have hne : ((zs.length : Int) == 3) = false := by simp; omega
    have H3 := Lib.hid h3
    clear h3
    go_enter Try.func38, Try.ntmps38
    go_wp2
    go_ret
    exact ⟨ret_bool (by simp [datOk, H3.out]), Below.refl _ _⟩

/-- Data with one number turned. -/
def datSet (zs : List Int) (k n : Int) : List Int := if datOk zs && inB k 0 2 && datumB n then zs.set k.toNat n else zs

/-- What a call has made: a row of numbers of its own, known by its slice value. -/
def Made (w' : World) (base : Nat) (e : TypeId) (zs : List Int) (v : Value) : Prop := w'.ownsRow base e 1 v zs.length (ints zs)
theorem Made.row {w' : World} {base : Nat} {e : TypeId} {zs : List Int} {v : Value} (h : Made w' base e zs v) : ∃ A b c, v = .slice A zs.length c ∧ Row w' base w'.heap.size A b 0 (ints zs) := by
  have h' := h
  unfold Made at h'
  rcases h'.2 with ⟨rfl, hn⟩ | ⟨g, cap, cur, rfl, _⟩
  · have hz : zs = [] := List.eq_nil_of_length_eq_zero hn
    subst hz
    exact ⟨none, 0, 0, rfl, Row.nil_⟩
  · obtain ⟨b, hR⟩ := Row.of_own h'
    exact ⟨_, b, _, rfl, hR⟩

theorem cloneInts_c (zs : List Int) (lo hi : Nat) (A : Option Addr) (b off c : Nat) (w : World) (hV : Row w lo hi A b off (ints zs)) (hm : zs.length ≤ 1048576) :
    Calls Try.prog 37 #[.slice A zs.length c] w fun e w' => ∃ v, e = .returned v ∧ Made w' w.heap.size 3 zs v ∧ Below w.heap.size w w' := by
  obtain ⟨i0, hi0, hz0, hz1, hz2⟩ := info_parts Try.info3
  go_enter Try.func37, Try.ntmps37
  go_wp2_with (at_builtin; refine wpList_append_row rfl _ _ 23 rfl w.heap.size 3 i0 _ 1 8 Try.underlying23 hi0 hz0 hz1 hz2 rfl (by omega) (.slice none 0 0) 0 [] rfl (World.ownsRow_nil _ _ _ _) lo hi A b off zs.length c (ints zs) rfl (by simp) hV (ints_one zs) (by unfold maxLen; omega) (by omega) (Nat.le_refl _) ?_; intro v' w1 hown hg)
  have HO := Lib.hid hown
  have HB := Lib.hid ((Below.refl w.heap.size w).grown hg (Nat.le_refl _) (fun k hk => by simp [Value.ownBlock] at hk))
  clear hown hg
  go_wp2
  go_ret
  exact ⟨_, rfl, by have := HO.out; simpa [Made] using this, HB.out⟩

theorem Made.len {w' : World} {base : Nat} {e : TypeId} {zs : List Int} {v : Value} (h : Made w' base e zs v) (hz : 0 < zs.length) : ∃ g c, v = .slice (some ⟨g, 0, none⟩) zs.length c ∧ base ≤ g ∧ g < w'.heap.size := by
  unfold Made at h
  rcases h.2 with ⟨_, hn⟩ | ⟨g, cap, cur, rfl, hg, hh, _⟩
  · omega
  · exact ⟨g, cap, rfl, hg, (h.lt g rfl).2⟩
theorem Made.below {w w' : World} {base B : Nat} {e : TypeId} {zs : List Int} {v : Value} (h : Made w base e zs v) (hb : Below B w w') (hB : w.heap.size ≤ B) : Made w' base e zs v :=
  h.kept (row := none) ⟨hb.os, hb.tape, hb.output, hb.size, fun k hk _ => hb.block k (by omega)⟩ (by rcases v.ownBlock with _ | g <;> simp)

set_option maxRecDepth 10000 in
theorem implDatSet_c (zs : List Int) (lo hi : Nat) (A : Option Addr) (b off c : Nat) (k n : Int) (w : World) (hV : Row w lo hi A b off (ints zs)) (hhi : hi ≤ w.heap.size) (hm : zs.length ≤ 1048576) :
    Calls Try.prog 8 #[.slice A zs.length c, .int .i64 k, .int .i64 n] w fun e w' => ∃ v, e = .returned v ∧ Made w' w.heap.size 3 (datSet zs k n) v ∧ Below w.heap.size w w' := by
  have HC := Lib.hid (cloneInts_c zs lo hi A b off c w hV hm)
  go_enter Try.func8, Try.ntmps8
  go_wp2_with fail
  refine HC.out.mono ?_
  rintro e w1 ⟨v1, rfl, hM, hb1⟩
  have HM := Lib.hid hM
  have HB1 := Lib.hid hb1
  have HD := Lib.hid (implDatOk_c zs lo hi A b off c w1 (hV.below hb1 hhi) (Nat.le_trans hhi hb1.size) (by unfold maxLen; omega))
  clear hb1 hM
  go_wp2_with fail
  refine HD.out.mono ?_
  rintro e w2 ⟨rfl, hb2⟩
  have HB2 := Lib.hid (HB1.out.trans (hb2.mono HB1.out.size))
  have HM2 := Lib.hid (HM.out.below hb2 (Nat.le_refl _))
  clear hb2
  by_cases hd : datOk zs = true
  · have hz3 : zs.length = 3 := by simp [datOk] at hd; exact hd.1
    obtain ⟨g, c1, rfl, hg1, hg2⟩ := HM2.out.len (by omega)
    have HDD := Lib.hid hd
    rw [hd]
    clear hd
    by_cases hk : inB k 0 2 = true
    · have hk' := inB_iff.1 hk
      obtain ⟨j, rfl⟩ := Int.eq_ofNat_of_zero_le hk'.1
      have hj : j < zs.length := by omega
      have hj2 : (j : Int) < (zs.length : Int) := by omega
      have hc : w2.cell? ⟨g, j, none⟩ = some (.int .i64 zs[j]) := by
        rw [HM2.out.cellAt j (by omega)]
        exact ints_at (List.getElem?_eq_getElem hj)
      generalize zs[j] = x at hc
      have hf := HM2.out.frozenAt j
      have HR := Lib.hid (HM2.out.stored j (.int .i64 n)).1
      have HG := Lib.hid hg1
      have HK := Lib.hid hk
      clear hk' hz3
      by_cases hn : datumB n = true
      · have HN := Lib.hid hn
        go_wp2_with (first
          | (go_at_call 39; refine (implIn_c _ _ _ _).mono ?_; rintro e w' ⟨rfl, rfl⟩)
          | (go_at_call 40; refine (isDatum_c _ _).mono ?_; rintro e w' ⟨rfl, rfl⟩))
        go_ret
        refine ⟨_, rfl, ?_, HB2.out.setCell HG.out _⟩
        have e : datSet zs j n = zs.set j n := by simp [datSet, HDD.out, HK.out, HN.out]
        rw [e]
        have h := HR.out
        unfold Made
        simpa [ints, List.map_set] using h
      · have HN := Lib.hid hn
        have hn' : datumB n = false := by simpa using hn
        go_wp2_with (first
          | (go_at_call 39; refine (implIn_c _ _ _ _).mono ?_; rintro e w' ⟨rfl, rfl⟩)
          | (go_at_call 40; refine (isDatum_c _ _).mono ?_; rintro e w' ⟨rfl, rfl⟩))
        go_ret
        have e : datSet zs j n = zs := by simp [datSet, HN.out]
        exact ⟨_, rfl, by rw [e]; exact HM2.out, HB2.out⟩
    · have HK := Lib.hid hk
      have hk' : inB k 0 2 = false := by simpa using hk
      clear hz3
      go_wp2_with (first
          | (go_at_call 39; refine (implIn_c _ _ _ _).mono ?_; rintro e w' ⟨rfl, rfl⟩)
          | (go_at_call 40; refine (isDatum_c _ _).mono ?_; rintro e w' ⟨rfl, rfl⟩))
      go_ret
      have e : datSet zs k n = zs := by simp [datSet, HK.out]
      exact ⟨_, rfl, by rw [e]; exact HM2.out, HB2.out⟩
  · have HDD := Lib.hid hd
    have hd' : datOk zs = false := by simpa using hd
    rw [hd']
    clear hd'
    go_wp2_with (first
          | (go_at_call 39; refine (implIn_c _ _ _ _).mono ?_; rintro e w' ⟨rfl, rfl⟩)
          | (go_at_call 40; refine (isDatum_c _ _).mono ?_; rintro e w' ⟨rfl, rfl⟩))
    go_ret
    have e : datSet zs k n = zs := by simp [datSet, HDD.out]
    exact ⟨_, rfl, by rw [e]; exact HM2.out, HB2.out⟩

theorem own_lit0 (w : World) (e : TypeId) : (w.alloc (.cells #[] e)).ownsRow w.heap.size e 1 (.slice (some ⟨w.heap.size, 0, none⟩) 0 0) 0 [] :=
  World.ownsRow_made w #[] 0 (Nat.le_refl _) (Nat.zero_le _) rfl

set_option maxRecDepth 10000 in
theorem specDatSet_c (zs : List Int) (lo hi : Nat) (A : Option Addr) (b off c : Nat) (k n : Int) (w : World) (hV : Row w lo hi A b off (ints zs)) (hhi : hi ≤ w.heap.size) (hm : zs.length ≤ 1048576) :
    Calls Try.prog 10 #[.slice A zs.length c, .int .i64 k, .int .i64 n] w fun e w' => ∃ v, e = .returned v ∧ Made w' w.heap.size 3 (datSet zs k n) v ∧ Below w.heap.size w w' := by
  obtain ⟨i0, hi0, hz0, hz1, hz2⟩ := info_parts Try.info3
  have HD := Lib.hid (specDatOk_c zs lo hi A b off c w hV (by unfold maxLen; omega))
  go_enter Try.func10, Try.ntmps10
  go_wp2_with fail
  refine HD.out.mono ?_
  rintro e w2 ⟨rfl, rfl⟩
  by_cases hd : datOk zs = true
  · by_cases hk : inB k 0 2 = true
    · by_cases hn : datumB n = true
      · have hn' : inB n (-99) 99 = true := hn
        have hz3 : zs.length = 3 := by simp [datOk] at hd; exact hd.1
        have HE := Lib.hid (show datSet zs k n = zs.set k.toNat n by simp [datSet, hd, hk, hn])
        have hk' := inB_iff.1 hk
        obtain ⟨j, rfl⟩ := Int.eq_ofNat_of_zero_le hk'.1
        have hj : j < zs.length := by omega
        have hj2 : (j : Int) < (zs.length : Int) := by omega
        rw [hd]
        clear hd hn hk' hz3
        go_wp2_with (first
          | (go_at_call 41; refine (l1In_c _ _ _ _).mono ?_; rintro e w' ⟨rfl, rfl⟩)
          | (at_builtin; refine wpList_append_row rfl _ _ 23 rfl w.heap.size 3 i0 _ 1 8 Try.underlying23 hi0 hz0 hz1 hz2 rfl (by omega) (.slice (some ⟨w.heap.size, 0, none⟩) 0 0) 0 [] rfl (own_lit0 w 3) lo hi A b off zs.length c (ints zs) rfl (by simp) (hV.alloc hhi _) (ints_one zs) (by unfold maxLen; omega) (by omega) (by simp) ?_; intro v' w1 hown hg))
        have hM : Made w1 w.heap.size 3 zs v' := by simpa [Made] using hown
        have HB := Lib.hid ((((Below.refl w.heap.size w).alloc (Nat.le_refl _) _)).grown hg (by simp) (fun k hk => by simp [Value.ownBlock] at hk; omega))
        obtain ⟨g, c1, rfl, hg1, hg2⟩ := hM.len (by omega)
        have hc : w1.cell? ⟨g, j, none⟩ = some (.int .i64 zs[j]) := by
          rw [hM.cellAt j (by omega)]
          exact ints_at (List.getElem?_eq_getElem hj)
        generalize zs[j] = x at hc
        have hf := hM.frozenAt j
        have HR := Lib.hid (hM.stored j (.int .i64 n)).1
        have HG := Lib.hid hg1
        clear hown hg hM
        go_simp
        go_wp2
        go_ret
        refine ⟨_, rfl, ?_, HB.out.setCell HG.out _⟩
        rw [HE.out]
        have h := HR.out
        unfold Made
        simpa [ints, List.map_set] using h
      · have hn' : inB n (-99) 99 = false := by simpa [datumB] using hn
        have e : datSet zs k n = zs := by simp [datSet, hn]
        rw [hd]
        clear hd hn
        have HE := Lib.hid e
        clear e
        go_wp2_with (first
          | (go_at_call 41; refine (l1In_c _ _ _ _).mono ?_; rintro e w' ⟨rfl, rfl⟩)
          | (at_builtin; refine wpList_append_row rfl _ _ 23 rfl w.heap.size 3 i0 _ 1 8 Try.underlying23 hi0 hz0 hz1 hz2 rfl (by omega) (.slice (some ⟨w.heap.size, 0, none⟩) 0 0) 0 [] rfl (own_lit0 w 3) lo hi A b off zs.length c (ints zs) rfl (by simp) (hV.alloc hhi _) (ints_one zs) (by unfold maxLen; omega) (by omega) (by simp) ?_; intro v' w1 hown hg))
        have HO := Lib.hid hown
        have HB := Lib.hid ((((Below.refl w.heap.size w).alloc (Nat.le_refl _) _)).grown hg (by simp) (fun k hk => by simp [Value.ownBlock] at hk; omega))
        clear hown hg
        go_wp2
        go_ret
        exact ⟨_, rfl, by rw [HE.out]; have := HO.out; simpa [Made] using this, HB.out⟩
    · have hk' : inB k 0 2 = false := by simpa using hk
      have e : datSet zs k n = zs := by simp [datSet, hk']
      rw [hd]
      clear hd hk
      have HE := Lib.hid e
      clear e
      go_wp2_with (first
        | (go_at_call 41; refine (l1In_c _ _ _ _).mono ?_; rintro e w' ⟨rfl, rfl⟩)
        | (at_builtin; refine wpList_append_row rfl _ _ 23 rfl w.heap.size 3 i0 _ 1 8 Try.underlying23 hi0 hz0 hz1 hz2 rfl (by omega) (.slice (some ⟨w.heap.size, 0, none⟩) 0 0) 0 [] rfl (own_lit0 w 3) lo hi A b off zs.length c (ints zs) rfl (by simp) (hV.alloc hhi _) (ints_one zs) (by unfold maxLen; omega) (by omega) (by simp) ?_; intro v' w1 hown hg))
      have HO := Lib.hid hown
      have HB := Lib.hid ((((Below.refl w.heap.size w).alloc (Nat.le_refl _) _)).grown hg (by simp) (fun k hk => by simp [Value.ownBlock] at hk; omega))
      clear hown hg
      go_wp2
      go_ret
      exact ⟨_, rfl, by rw [HE.out]; have := HO.out; simpa [Made] using this, HB.out⟩
  · have hd' : datOk zs = false := by simpa using hd
    have e : datSet zs k n = zs := by simp [datSet, hd']
    rw [hd']
    clear hd hd'
    have HE := Lib.hid e
    clear e
    go_wp2_with (first
      | (go_at_call 41; refine (l1In_c _ _ _ _).mono ?_; rintro e w' ⟨rfl, rfl⟩)
      | (at_builtin; refine wpList_append_row rfl _ _ 23 rfl w.heap.size 3 i0 _ 1 8 Try.underlying23 hi0 hz0 hz1 hz2 rfl (by omega) (.slice (some ⟨w.heap.size, 0, none⟩) 0 0) 0 [] rfl (own_lit0 w 3) lo hi A b off zs.length c (ints zs) rfl (by simp) (hV.alloc hhi _) (ints_one zs) (by unfold maxLen; omega) (by omega) (by simp) ?_; intro v' w1 hown hg))
    have HO := Lib.hid hown
    have HB := Lib.hid ((((Below.refl w.heap.size w).alloc (Nat.le_refl _) _)).grown hg (by simp) (fun k hk => by simp [Value.ownBlock] at hk; omega))
    clear hown hg
    go_wp2
    go_ret
    exact ⟨_, rfl, by rw [HE.out]; have := HO.out; simpa [Made] using this, HB.out⟩
end Go.Proofs.Yteedgmaeopnidaa
