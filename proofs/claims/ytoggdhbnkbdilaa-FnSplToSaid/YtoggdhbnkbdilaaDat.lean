/- Data: whether they are ok, a number turned, whether a question holds of them. -/
import Derived.Test.YtoggdhbnkbdilaaData
import Derived.Test.YtoggdhbnkbdilaaFuncs
import Derived.Test.YtoggdhbnkbdilaaAppend
namespace Go.Proofs.Ytoggdhbnkbdilaa
open Go.RowKit
set_option linter.unusedVariables false
set_option linter.unusedSimpArgs false

theorem all_of {α : Type} {p : α → Bool} {l : List α} (h : ∀ j y, j < l.length → l[j]? = some y → p y = true) : l.all p = true := by
  rw [List.all_eq_true]
  intro x hx
  obtain ⟨j, hj⟩ := List.getElem?_of_mem hx
  exact h j x (lt_of_some hj) hj
theorem not_all_of {α : Type} {p : α → Bool} {l : List α} {k : Nat} {x : α} (h : l[k]? = some x) (hp : p x = false) : l.all p = false := by
  rw [List.all_eq_false]
  exact ⟨x, List.mem_of_getElem? h, by simp [hp]⟩

def datOk (zs : List Int) : Bool := decide (zs.length = 3) && zs.all datumB

theorem specDatOk_c (zs : List Int) (lo hi : Nat) (A : Option Addr) (b off c : Nat) (w : World) (hV : Row w lo hi A b off (ints zs)) (hm : zs.length ≤ maxLen) :
    Calls Try.prog 86 #[.slice A zs.length c] w fun e w' => e = .returned (.bool (datOk zs)) ∧ w = w' := by
  unfold maxLen at hm
  by_cases h3 : zs.length = 3
  · have hne : ((zs.length : Int) != 3) = false := by simp [h3]
    have H3 := Lib.hid h3
    clear h3
    go_enter Try.func86, Try.ntmps86
    go_wp2
    go_loop [3] (fun i => ∃ k : Nat, k ≤ zs.length ∧ i = .int .i64 k ∧ (∀ j y, j < k → zs[j]? = some y → datumB y = true)) (fun i => zs.length - (intOf i).toNat)
    case atStart => exact ⟨0, Nat.zero_le _, rfl, fun j y hj => absurd hj (Nat.not_lt_zero _)⟩
    case round =>
      obtain ⟨k, hk, rfl, hn⟩ := hrel
      have HN := Lib.hid hn
      clear hn
      by_cases hlt : k < zs.length
      · obtain ⟨rfl, _, _, x, hx, hc, _⟩ := hV.int hlt
        have HX := Lib.hid hx
        clear hx
        go_wp2_with fail
        refine (l1In_c _ _ _ _).mono ?_
        rintro e w' ⟨rfl, rfl⟩
        go_wp2_with fail
        · have hd : inB x (-99) 99 = false := by simpa using (by assumption : (!inB x (-99) 99) = true)
          go_ret
          exact ⟨ret_bool (by simp [datOk, not_all_of (p := datumB) HX.out hd]), rfl⟩
        · have hd : inB x (-99) 99 = true := by simpa using (by assumption : (!inB x (-99) 99) = false)
          go_round
          case rel =>
            refine ⟨k + 1, by omega, by go_num, fun j y hj hy => ?_⟩
            by_cases hjk : j = k
            · subst hjk
              have e := HX.out.symm.trans hy
              injection e with e; rw [← e]; exact hd
            · exact HN.out j y (by omega) hy
          case measure => simp [intOf]; omega
      · go_wp2
        go_ret
        exact ⟨ret_bool (by simp [datOk, H3.out, all_of (p := datumB) (fun j y hj => HN.out j y (by omega))]), rfl⟩
  · have hne : ((zs.length : Int) != 3) = true := by simp; omega
    have H3 := Lib.hid h3
    clear h3
    go_enter Try.func86, Try.ntmps86
    go_wp2
    go_ret
    exact ⟨ret_bool (by simp [datOk, H3.out]), rfl⟩

theorem datOk1_c (x : Int) (w : World) :
    Calls Try.prog 78 #[.int .i64 x] w fun e w' => e = .returned (.bool (!datumB x)) ∧ w = w' := by
  go_enter Try.func78, Try.ntmps78
  go_wp2_with (go_at_call 79; refine (isDatum_c _ _).mono ?_; rintro e w' ⟨rfl, rfl⟩)
  go_ret; exact ⟨rfl, rfl⟩

theorem implDatOk_c (zs : List Int) (lo hi : Nat) (A : Option Addr) (b off c : Nat) (w : World) (hV : Row w lo hi A b off (ints zs)) (hhi : hi ≤ w.heap.size) (hm : zs.length ≤ maxLen) :
    Calls Try.prog 51 #[.slice A zs.length c] w fun e w' => e = .returned (.bool (datOk zs)) ∧ Below w.heap.size w w' := by
  have hm0 := hm
  unfold maxLen at hm
  have eg : EntersF Try.prog 78 := entersF Try.func78 (by kernel_rfl) rfl
  have hp : PredInt Try.prog 78 #[] (fun x => !datumB x) w := fun x W _ => (datOk1_c x W).mono fun e w' ⟨h1, h2⟩ => ⟨h1, by subst h2; exact Below.refl _ _⟩
  have HC := Lib.hid (containsFuncInt_c zs lo hi A b off c _ #[] _ w hV hhi hm0 hp eg)
  clear hp eg
  by_cases h3 : zs.length = 3
  · have hne : ((zs.length : Int) == 3) = true := by simp [h3]
    have H3 := Lib.hid h3
    clear h3
    go_enter Try.func51, Try.ntmps51
    go_wp2_with fail
    refine HC.out.mono ?_
    rintro e w1 ⟨rfl, hb1⟩
    have HB1 := Lib.hid hb1
    clear hb1
    generalize hr : (zs.any fun x => !datumB x) = r
    have HR := Lib.hid hr
    clear hr
    go_wp2
    go_ret
    exact ⟨ret_bool (by rw [← HR.out]; simp [datOk, H3.out, List.any_eq_not_all_not]), HB1.out⟩
  · have hne : ((zs.length : Int) == 3) = false := by simp; omega
    have H3 := Lib.hid h3
    clear h3
    go_enter Try.func51, Try.ntmps51
    go_wp2
    go_ret
    exact ⟨ret_bool (by simp [datOk, H3.out]), Below.refl _ _⟩

/-- Data with one number turned. -/
def datSet (zs : List Int) (k n : Int) : List Int := if datOk zs && inB k 0 2 && datumB n then zs.set k.toNat n else zs

/-- What a call has made: a row of numbers of its own, known by its slice value. -/
def Made (w' : World) (base : Nat) (e : TypeId) (zs : List Int) (v : Value) : Prop := w'.ownsRow base e 1 v zs.length (ints zs)
theorem Made.row {w' : World} {base : Nat} {e : TypeId} {zs : List Int} {v : Value} (h : Made w' base e zs v) : ∃ A b c, v = .slice A zs.length c ∧ Row w' base w'.heap.size A b 0 (ints zs) := by
  have h' := h
  unfold Made at h'
  rcases h'.2 with ⟨rfl, hn⟩ | ⟨g, cap, cur, rfl, _⟩
  · have hz : zs = [] := List.eq_nil_of_length_eq_zero hn
    subst hz
    exact ⟨none, 0, 0, rfl, Row.nil_⟩
  · obtain ⟨b, hR⟩ := Row.of_own h'
    exact ⟨_, b, _, rfl, hR⟩


theorem Made.len {w' : World} {base : Nat} {e : TypeId} {zs : List Int} {v : Value} (h : Made w' base e zs v) (hz : 0 < zs.length) : ∃ g c, v = .slice (some ⟨g, 0, none⟩) zs.length c ∧ base ≤ g ∧ g < w'.heap.size := by
  unfold Made at h
  rcases h.2 with ⟨_, hn⟩ | ⟨g, cap, cur, rfl, hg, hh, _⟩
  · omega
  · exact ⟨g, cap, rfl, hg, (h.lt g rfl).2⟩
theorem Made.below {w w' : World} {base B : Nat} {e : TypeId} {zs : List Int} {v : Value} (h : Made w base e zs v) (hb : Below B w w') (hB : w.heap.size ≤ B) : Made w' base e zs v :=
  h.kept (row := none) ⟨hb.os, hb.tape, hb.output, hb.size, fun k hk _ => hb.block k (by omega)⟩ (by rcases v.ownBlock with _ | g <;> simp)


theorem own_lit0 (w : World) (e : TypeId) : (w.alloc (.cells #[] e)).ownsRow w.heap.size e 1 (.slice (some ⟨w.heap.size, 0, none⟩) 0 0) 0 [] :=
  World.ownsRow_made w #[] 0 (Nat.le_refl _) (Nat.zero_le _) rfl

end Go.Proofs.Ytoggdhbnkbdilaa
