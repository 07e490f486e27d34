/- Which places can be come to from one: the program. -/
import Derived.Test.YtoggdhbnkbdilaaSpecReach
import Derived.Test.YtoggdhbnkbdilaaNetMark2
namespace Go.Proofs.Ytoggdhbnkbdilaa
open Go.RowKit
set_option linter.unusedVariables false
set_option linter.unusedSimpArgs false

theorem Chg.refl (lo hi : Nat) (w : World) : Chg lo hi w w := ⟨rfl, rfl, rfl, Nat.le_refl _, fun _ _ _ => rfl⟩
theorem Chg.trans {lo hi : Nat} {a b c : World} (h : Chg lo hi a b) (k : Chg lo hi b c) : Chg lo hi a c :=
  ⟨k.os.trans h.os, k.tape.trans h.tape, k.output.trans h.output, Nat.le_trans h.size k.size, fun g hg hn => (k.block g (Nat.lt_of_lt_of_le hg h.size) hn).trans (h.block g hg hn)⟩
theorem Chg.of_below {lo hi : Nat} {w w' : World} (h : Below w.heap.size w w') : Chg lo hi w w' := ⟨h.os, h.tape, h.output, h.size, fun g hg _ => h.block g hg⟩
theorem Chg.alloc {lo hi : Nat} {a w : World} (h : Chg lo hi a w) (o : Obj) : Chg lo hi a (w.alloc o) := h.trans (Chg.of_below ((Below.refl _ _).alloc (Nat.le_refl _) o))
theorem Chg.setCell {lo hi : Nat} {a w : World} (h : Chg lo hi a w) {p : Addr} (h1 : lo ≤ p.block) (h2 : p.block < hi) (u : Value) : Chg lo hi a (w.setCell p u) :=
  h.trans (Chg.of_upd ((Upd.refl lo hi w).setCell h1 h2 u))
theorem Chg.drewN {lo hi : Nat} {a w : World} (h : Chg lo hi a w) (n : Nat) : Chg lo hi a (w.drewN n) := ⟨h.os, h.tape, h.output, h.size, h.block⟩

/-- How many places of a row are not true. -/
def unlitW (w : World) (g m : Nat) : Nat := (List.range m).countP fun j => match w.cell? ⟨g, j, none⟩ with | some (.bool true) => false | _ => true
def flagOf (v : Value) : Nat := match v with | .bool true => 1 | _ => 0
theorem unlitW_eq {w : World} {base g m c : Nat} {e : TypeId} {zs : List Bool} (h : MadeB w base e zs (.slice (some ⟨g, 0, none⟩) m c)) (hm : zs.length = m) : unlitW w g m = unlit zs := by
  have e1 : zs = (List.range m).map fun j => zs.getD j false := by
    refine List.ext_getElem (by simp [hm]) fun i h1 h2 => ?_
    simp [h1]
  conv => rhs; rw [e1]
  rw [unlit, List.countP_map, unlitW]
  refine List.countP_congr fun j hj => ?_
  rw [(h.at_ hm (k := j) (by rw [hm]; exact List.mem_range.1 hj)).1]
  simp only [Function.comp]
  cases zs.getD j false <;> simp

/-- What the program's flag says of how far the places have come since the round began. -/
def Flag (cur : List Bool) (ch : Bool) (cv : List Bool) : Prop := (ch = false ∧ cv = cur) ∨ (ch = true ∧ unlit cv < unlit cur)
theorem flag_step {cur cv : List Bool} {ch : Bool} (h : Flag cur ch cv) {k : Nat} (hk : k < cv.length) : Flag cur (ch || !(cv.getD k false)) (cv.set k true) := by
  rcases h with ⟨rfl, rfl⟩ | ⟨rfl, h⟩
  · cases hb : cv.getD k false with
    | true => exact .inl ⟨rfl, set_same (by rw [List.getD_eq_getElem?_getD, List.getElem?_eq_getElem hk] at hb; rw [List.getElem?_eq_getElem hk]; simp at hb; simp [hb])⟩
    | false => exact .inr ⟨rfl, by have := unlit_set cv k (by rw [List.getD_eq_getElem?_getD, List.getElem?_eq_getElem hk] at hb; rw [List.getElem?_eq_getElem hk]; simp at hb; simp [hb]); omega⟩
  · exact .inr ⟨rfl, Nat.lt_of_le_of_lt (up_set cv k).le h⟩

/-- A function value that answers p of each of some numbers, whatever new memory lies beside. -/
def PredIntOn (P : Program) (g : FuncId) (lb : Array Value) (zs : List Int) (p : Int → Bool) (w : World) : Prop :=
  ∀ (x : Int) (W : World), x ∈ zs → Below w.heap.size w W → Calls P g (#[.int .i64 x] ++ lb) W fun e W' => e = .returned (.bool (p x)) ∧ Below W.heap.size W W'

theorem indexFuncIntOn_c (zs : List Int) (lo hi : Nat) (A : Option Addr) (b off c : Nat) (g : FuncId) (lb : Array Value) (p : Int → Bool) (w : World) (hV : Row w lo hi A b off (ints zs)) (hhi : hi ≤ w.heap.size) (hm : zs.length ≤ maxLen) (hp : PredIntOn Try.prog g lb zs p w) (eg : EntersF Try.prog g) :
    Calls Try.prog 89 #[.slice A zs.length c, .func (.func g) #[] lb] w fun e w' => e = .returned (.int .i64 (idxFrom p 0 zs)) ∧ Below w.heap.size w w' := by
  unfold maxLen at hm
  have eg' : ∀ (args : Array Value) (w : World), Sem.run Try.prog (callFunc g args) w = .ok (.enter g args) w := eg
  go_enter Try.func89, Try.ntmps89
  go_wp2
  go_loopw [8] (fun i wr => ∃ k : Nat, k ≤ zs.length ∧ i = .int .i64 k ∧ (∀ j y, j < k → zs[j]? = some y → p y = false) ∧ Below w.heap.size w wr) (fun i _ => zs.length - (intOf i).toNat)
  case atStart => exact ⟨0, Nat.zero_le _, rfl, fun j y hj => absurd hj (Nat.not_lt_zero _), Below.refl _ _⟩
  case round =>
    obtain ⟨k, hk, rfl, hn, hb⟩ := hrel
    have HN := Lib.hid hn
    have HB := Lib.hid hb
    by_cases hlt : k < zs.length
    · obtain ⟨rfl, _, h3, x, hx, hc, _⟩ := hV.int hlt
      have hc1 := (hb.cell (p := ⟨b, off + k, none⟩) (by show b < _; omega)).trans hc
      have HX := Lib.hid hx
      have HP := Lib.hid (hp x wr (List.mem_of_getElem? hx) hb)
      clear hx hc hn hb hp
      go_wp2_with fail
      refine HP.out.mono ?_
      rintro e w1 ⟨rfl, hb1⟩
      have HB1 := Lib.hid hb1
      have HBs := Lib.hid HB.out.size
      clear hb1
      by_cases hpx : p x = true
      · have HPX := Lib.hid hpx
        rw [hpx]
        clear hpx
        go_wp2_with fail
        go_ret
        exact ⟨ret_int (by rw [idxFrom_at p zs 0 k x HX.out HPX.out (fun i y hi hy => HN.out i y hi hy)]; simp), HB.out.trans (HB1.out.mono HBs.out)⟩
      · have hpx' : p x = false := by simpa using hpx
        have HPX := Lib.hid hpx'
        rw [hpx']
        clear hpx hpx'
        go_wp2_with fail
        go_roundw
        case rel =>
          refine ⟨k + 1, by omega, by go_num, fun j y hj hy => ?_, HB.out.trans (HB1.out.mono HBs.out)⟩
          by_cases hjk : j = k
          · subst hjk
            have e := HX.out.symm.trans hy
            injection e with e; rw [← e]; exact HPX.out
          · exact HN.out j y (by omega) hy
        case measure => simp [intOf]; omega
    · go_wp2
      go_ret
      refine ⟨ret_int ?_, HB.out⟩
      exact (idxFrom_none p zs 0 (fun x hx => by
        obtain ⟨j, hj⟩ := List.getElem?_of_mem hx
        exact HN.out j x (by have := lt_of_some hj; omega) hj)).symm

theorem containsFuncIntOn_c (zs : List Int) (lo hi : Nat) (A : Option Addr) (b off c : Nat) (g : FuncId) (lb : Array Value) (p : Int → Bool) (w : World) (hV : Row w lo hi A b off (ints zs)) (hhi : hi ≤ w.heap.size) (hm : zs.length ≤ maxLen) (hp : PredIntOn Try.prog g lb zs p w) (eg : EntersF Try.prog g) :
    Calls Try.prog 68 #[.slice A zs.length c, .func (.func g) #[] lb] w fun e w' => e = .returned (.bool (zs.any p)) ∧ Below w.heap.size w w' := by
  have hidx := idx_any p zs 0
  generalize hr : zs.any p = r at hidx
  have HR := Lib.hid hr
  clear hr
  generalize hi : idxFrom p 0 zs = i at hidx
  have HI := Lib.hid hi
  clear hi
  go_enter Try.func68, Try.ntmps68
  go_wp2_with fail
  refine (indexFuncIntOn_c zs lo _ A b off c g lb p w hV hhi hm hp eg).mono ?_
  rintro e w1 ⟨rfl, hb1⟩
  rw [HI.out]
  have HB1 := Lib.hid hb1
  clear hb1
  go_wp2_with fail
  go_ret
  exact ⟨rfl, HB1.out⟩

theorem reach1_c (x : Nat) (base bx g m c : Nat) (cu : List Bool) (w : World) (hc : w.cell? ⟨bx, 0, none⟩ = some (.slice (some ⟨g, 0, none⟩) m c)) (hM : MadeB w base 4 cu (.slice (some ⟨g, 0, none⟩) m c)) (hm : cu.length = m) (hx : x < m) (hm2 : m ≤ 1000) :
    Calls Try.prog 87 #[.int .i64 (x : Int), .pointer (some ⟨bx, 0, none⟩)] w fun e w' => e = .returned (.bool (bit cu (x : Int))) ∧ Below w.heap.size w w' := by
  obtain ⟨e1, _, _⟩ := hM.at_ hm (k := x) (by omega)
  have hx1 : (x : Int) < (m : Int) := by omega
  rw [← bit_nat] at e1
  generalize bit cu (x : Int) = y at *
  clear hM
  go_enter Try.func87, Try.ntmps87
  go_wp2
  go_ret
  exact ⟨rfl, Below.refl _ _⟩
end Go.Proofs.Ytoggdhbnkbdilaa
