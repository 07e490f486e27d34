/- The reader of a code: it hands out numbers within bounds, one behind the other; it writes its own place alone. -/
import Derived.Test.YtgleblbgomhmdaaDoorMore
import Derived.Laws.BitsAllLaws
import Derived.Laws.BitsLemmas
namespace Go.Proofs.YtgleblbgomhmdaaDoor
open Go.RowKit
set_option linter.unusedVariables false
set_option linter.unusedSimpArgs false

/-- Bytes as cells. -/
abbrev bytesC (zs : List Int) : List Value := zs.map (Value.int .u8)

theorem grown_tr {a b c : World} {R : Option Nat} (h : a.grownBy b R) (k : b.grownBy c R) : a.grownBy c R :=
  ⟨k.os.trans h.os, k.tape.trans h.tape, k.output.trans h.output, Nat.le_trans h.size k.size, fun i hi hne => (k.block i (Nat.lt_of_lt_of_le hi h.size) hne).trans (h.block i hi hne)⟩
theorem grown_alloc {a b : World} {R : Option Nat} (h : a.grownBy b R) (o : Obj) : a.grownBy (b.alloc o) R := grown_tr h (World.grownBy_alloc b o R)
theorem grown_drewN {a b : World} {R : Option Nat} (h : a.grownBy b R) (n : Nat) : a.grownBy (b.drewN n) R := ⟨h.os, h.tape, h.output, h.size, h.block⟩
theorem grown_below {a b : World} (R : Option Nat) (h : Below a.heap.size a b) : a.grownBy b R := ⟨h.os, h.tape, h.output, h.size, fun i hi _ => h.block i hi⟩
theorem grown_upd {a b : World} {R : Nat} (h : Upd R (R + 1) a b) : a.grownBy b (some R) := ⟨h.os, h.tape, h.output, by rw [h.size]; exact Nat.le_refl _, fun i _ hne => h.block i (fun hh => hne (by congr 1; omega))⟩
theorem below_grown {B : Nat} {w a b : World} {R : Nat} (h : Below B w a) (hg : a.grownBy b (some R)) (hB : B ≤ a.heap.size) (hR : B ≤ R) : Below B w b := h.grown hg hB (fun k hk => by injection hk with hk; omega)
theorem Row.grown {w w' : World} {lo hi b off R : Nat} {A : Option Addr} {xs : List Value} (h : Row w lo hi A b off xs) (hg : w.grownBy w' (some R)) (hd : hi ≤ R ∨ R < lo) (hs : hi ≤ w.heap.size) : Row w' lo hi A b off xs :=
  h.keep fun g h1 h2 => hg.block g (by omega) (fun e => by injection e with e; omega)

/-- A reader in block R: some bytes, all ahead of R, and its place p. -/
def RdV (w : World) (R p : Nat) : Prop := ∃ (A : Option Addr) (b off c : Nat) (bs : List Int), bs.length ≤ 2000 ∧ (∀ x ∈ bs, 0 ≤ x ∧ x ≤ 255) ∧ w.cell? ⟨R, 0, none⟩ = some (.slice A bs.length c) ∧
  w.cell? ⟨R, 1, none⟩ = some (.int .i64 p) ∧ w.frozen? ⟨R, 1, none⟩ = false ∧ Row w 0 R A b off (bytesC bs) ∧ R < w.heap.size
theorem RdV.lt {w : World} {R p : Nat} (h : RdV w R p) : R < w.heap.size := by obtain ⟨_, _, _, _, _, _, _, _, _, _, _, h⟩ := h; exact h
theorem RdV.below {w w' : World} {R p : Nat} (h : RdV w R p) (hb : Below w.heap.size w w') : RdV w' R p := by
  obtain ⟨A, b, off, c, bs, h1, h2, h3, h4, h5, h6, h7⟩ := h
  exact ⟨A, b, off, c, bs, h1, h2, (hb.cell (p := ⟨R, 0, none⟩) h7).trans h3, (hb.cell (p := ⟨R, 1, none⟩) h7).trans h4, (hb.frozen (p := ⟨R, 1, none⟩) h7).trans h5, h6.below hb (Nat.le_of_lt h7), Nat.lt_of_lt_of_le h7 hb.size⟩
theorem RdV.alloc {w : World} {R p : Nat} (h : RdV w R p) (o : Obj) : RdV (w.alloc o) R p := h.below ((Below.refl _ _).alloc (Nat.le_refl _) o)

theorem RdV.drewN {w : World} {R p : Nat} (h : RdV w R p) (n : Nat) : RdV (w.drewN n) R p := h

theorem xor_nat (a b : Nat) (ha : a < 4294967296) (hb : b < 4294967296) : bits .xor .i64 (a : Int) (b : Int) = ((a ^^^ b : Nat) : Int) ∧ a ^^^ b < 4294967296 := by
  have hx : a ^^^ b < 2 ^ 32 := Nat.xor_lt_two_pow (by omega) (by omega)
  have e (n : Nat) (hn : n < 4294967296) : (BitVec.ofInt 64 (n : Int)).toNat = n := by
    rw [BitVec.ofInt_natCast, BitVec.toNat_ofNat]; exact Nat.mod_eq_of_lt (by omega)
  refine ⟨?_, by omega⟩
  show IntKind.i64.wrap ((BitVec.ofInt 64 (a : Int) ^^^ BitVec.ofInt 64 (b : Int)).toNat : Int) = _
  rw [BitVec.toNat_xor, e a ha, e b hb, IntKind.wrap_i64]
  omega

theorem wrapN (e : Int) (n : Nat) (h : e = (n : Int)) (hn : n < 4611686018427387904) : IntKind.i64.wrap e = (n : Int) := by
  rw [IntKind.wrap_i64]; omega

theorem pick_nums (p len x y : Nat) (hp : p ≤ 1000000) (hl : 0 < len) (hx : (x : Int) ≤ 255) (hy : (y : Int) ≤ 255) : ∃ i1 i2 q a1 a2 a3 a4 a5 a6 a7 a8 a9 v : Nat,
    p % len = i1 ∧ (p * 7 + 3) % len = i2 ∧ q ≤ 1000000 ∧
    (p : Int).tmod (len : Int) = (i1 : Int) ∧ (a3 : Int).tmod (len : Int) = (i2 : Int) ∧ IntKind.i64.wrap ((p : Int).tdiv (len : Int)) = (q : Int) ∧ wrap64 ((p : Int) / (len : Int)) = (q : Int) ∧
    IntKind.i64.wrap ((x : Int) * 131) = (a1 : Int) ∧ IntKind.i64.wrap ((p : Int) * 7) = (a2 : Int) ∧ IntKind.i64.wrap ((a2 : Int) + 3) = (a3 : Int) ∧ IntKind.i64.wrap ((y : Int) * 1117) = (a4 : Int) ∧
    IntKind.i64.wrap ((a1 : Int) + (a4 : Int)) = (a5 : Int) ∧ IntKind.i64.wrap ((p : Int) * 29) = (a6 : Int) ∧ IntKind.i64.wrap ((a5 : Int) + (a6 : Int)) = (a7 : Int) ∧
    IntKind.i64.wrap ((q : Int) * 53) = (a8 : Int) ∧ IntKind.i64.wrap ((a7 : Int) + (a8 : Int)) = (a9 : Int) ∧ a9 < 4294967296 ∧ bits .xor .i64 (a9 : Int) ((a9 : Int) / 64) = (v : Int) := by
  have hq : p / len ≤ 1000000 := Nat.le_trans (Nat.div_le_self _ _) hp
  have h9 : x * 131 + y * 1117 + p * 29 + p / len * 53 < 4294967296 := by omega
  refine ⟨p % len, (p * 7 + 3) % len, p / len, x * 131, p * 7, p * 7 + 3, y * 1117, x * 131 + y * 1117, p * 29, x * 131 + y * 1117 + p * 29, p / len * 53, x * 131 + y * 1117 + p * 29 + p / len * 53, (x * 131 + y * 1117 + p * 29 + p / len * 53) ^^^ ((x * 131 + y * 1117 + p * 29 + p / len * 53) / 64),
    rfl, rfl, hq, (Int.ofNat_tmod p len).symm, (Int.ofNat_tmod _ len).symm, wrapN _ _ (Int.ofNat_tdiv p len).symm (by omega), ?_,
    wrapN _ _ (by omega) (by omega), wrapN _ _ (by omega) (by omega), wrapN _ _ (by omega) (by omega), wrapN _ _ (by omega) (by omega), wrapN _ _ (by omega) (by omega), wrapN _ _ (by omega) (by omega),
    wrapN _ _ (by omega) (by omega), wrapN _ _ (by omega) (by omega), wrapN _ _ (by omega) (by omega), h9, ?_⟩
  · have e : ((p / len : Nat) : Int) = (p : Int) / (len : Int) := Int.natCast_ediv p len
    rw [← e]
    exact IntWalk.wrap64_in _ (by omega)
  · generalize x * 131 + y * 1117 + p * 29 + p / len * 53 = a at h9
    have := (xor_nat a (a / 64) h9 (by omega)).1
    rw [← this]
    congr 1

set_option maxRecDepth 20000 in
theorem pick_c (R p : Nat) (m : Int) (w : World) (hR : RdV w R p) (hp : p ≤ 1000000) (hm : m ≤ 1000000) (hm0 : -1000000 ≤ m) :
    Calls Tryd.prog 27 #[.pointer (some ⟨R, 0, none⟩), .int .i64 m] w fun e w' => ∃ r : Nat, e = .returned (.int .i64 (r : Int)) ∧ ((r : Int) < m ∨ r = 0) ∧ RdV w' R (p + 1) ∧ Upd R (R + 1) w w' := by
  obtain ⟨A, b, off, c, bs, h1, h2, h3, h4, h5, h6, h7⟩ := hR
  have H2 := Lib.hid h2
  clear h2
  have hR' : Row (w.setCell ⟨R, 1, none⟩ (.int .i64 ((p : Int) + 1))) 0 R A b off (bytesC bs) := h6.setCell (p := ⟨R, 1, none⟩) (.inr (Nat.le_refl _)) _
  have hU : Upd R (R + 1) w (w.setCell ⟨R, 1, none⟩ (.int .i64 ((p : Int) + 1))) := (Upd.refl R (R + 1) w).setCell (p := ⟨R, 1, none⟩) (Nat.le_refl R) (Nat.lt_succ_self R) _
  have hV : RdV (w.setCell ⟨R, 1, none⟩ (.int .i64 ((p : Int) + 1))) R (p + 1) :=
    ⟨A, b, off, c, bs, h1, H2.out, (World.cell?_setCell_other _ _ _ _ (by simp)).trans h3, by rw [cell_setCell_same h4]; simp, (World.frozen?_setCell _ _ _ _).trans h5, hR', by rw [hU.size]; exact h7⟩
  by_cases hm1 : m < 1
  · go_enter Tryd.func27, Tryd.ntmps27
    go_wp2
    go_ret
    exact ⟨0, rfl, .inr rfl, hV, hU⟩
  · have hm1' : 1 ≤ m := by omega
    have hw0 : w.heap.size = w.heap.size := rfl
    clear hw0
    by_cases hb0 : bs.length = 0
    · have hb0' : ((bs.length : Int) == 0) = true := by simp [hb0]
      go_enter Tryd.func27, Tryd.ntmps27
      go_wp2
      go_ret
      exact ⟨0, rfl, .inr rfl, hV, hU⟩
    · have hb0' : ((bs.length : Int) == 0) = false := by simpa using hb0
      by_cases hlt : p < bs.length
      · obtain ⟨x, hx⟩ : ∃ x, bs[p]? = some x := ⟨_, List.getElem?_eq_getElem hlt⟩
        obtain ⟨rfl, _, hbR⟩ := h6.ref (k := p) (by simpa using hlt)
        have hcx : w.cell? ⟨b, off + p, none⟩ = some (.int .u8 x) := (h6.2 p _ (by simp [hx])).1
        have hxb := H2.out x (List.mem_of_getElem? hx)
        obtain ⟨x, rfl⟩ := Int.eq_ofNat_of_zero_le hxb.1
        have hx2 : (x : Int) ≤ 255 := hxb.2
        obtain ⟨m, rfl⟩ := Int.eq_ofNat_of_zero_le (show 0 ≤ m by omega)
        clear hxb hx
        go_enter Tryd.func27, Tryd.ntmps27
        go_wp2
        go_ret
        exact ⟨x % m, ret_int (by simp), .inl (Nat.mod_lt _ (by omega)), hV, hU⟩
      · have hbp : 0 < bs.length := by omega
        have hi1 : p % bs.length < bs.length := Nat.mod_lt _ hbp
        have hi2 : (p * 7 + 3) % bs.length < bs.length := Nat.mod_lt _ hbp
        obtain ⟨x, hx⟩ : ∃ x, bs[p % bs.length]? = some x := ⟨_, List.getElem?_eq_getElem hi1⟩
        obtain ⟨y, hy⟩ : ∃ y, bs[(p * 7 + 3) % bs.length]? = some y := ⟨_, List.getElem?_eq_getElem hi2⟩
        obtain ⟨rfl, _, hbR⟩ := h6.ref (k := 0) (by simpa using hbp)
        have hcx : w.cell? ⟨b, off + p % bs.length, none⟩ = some (.int .u8 x) := (h6.2 _ _ (by simp [hx])).1
        have hcy : w.cell? ⟨b, off + (p * 7 + 3) % bs.length, none⟩ = some (.int .u8 y) := (h6.2 _ _ (by simp [hy])).1
        have hxb := H2.out x (List.mem_of_getElem? hx)
        have hyb := H2.out y (List.mem_of_getElem? hy)
        obtain ⟨x, rfl⟩ := Int.eq_ofNat_of_zero_le hxb.1
        obtain ⟨y, rfl⟩ := Int.eq_ofNat_of_zero_le hyb.1
        have hx2 : (x : Int) ≤ 255 := hxb.2
        have hy2 : (y : Int) ≤ 255 := hyb.2
        obtain ⟨m, rfl⟩ := Int.eq_ofNat_of_zero_le (show 0 ≤ m by omega)
        clear hxb hx hyb hy
        have hlt' : ¬ ((p : Int) < (bs.length : Int)) := by omega
        have hq : p / bs.length ≤ 1000000 := Nat.le_trans (Nat.div_le_self _ _) hp
        obtain ⟨i1, i2, q, a1, a2, a3, a4, a5, a6, a7, a8, a9, v, e1, e2, hq, g1, g2, g3, g3', f1, f2, f3, f4, f5, f6, f7, f8, f9, h9, f10⟩ := pick_nums p bs.length x y hp hbp hx2 hy2
        rw [e1] at hcx hi1
        rw [e2] at hcy hi2
        have hi1' : (i1 : Int) < (bs.length : Int) := by omega
        have hi2' : (i2 : Int) < (bs.length : Int) := by omega
        clear e1 e2
        go_enter Tryd.func27, Tryd.ntmps27
        go_wp2
        go_quiet (fail)
        go_wp2
        go_ret
        exact ⟨v % m, ret_int (by simp), .inl (by simpa using Int.emod_lt_of_pos (v : Int) (by omega)), hV.drewN _, hU.drewN _⟩

set_option maxRecDepth 20000 in
/-- The reader is made: in a new block. -/
theorem l20Open_c (zs : List Int) (A : Option Addr) (b off c : Nat) (w : World) (hV : Row w 0 w.heap.size A b off (bytesC zs)) (hz : ∀ x ∈ zs, 0 ≤ x ∧ x ≤ 255) (hm : zs.length ≤ maxLen) (hcap : zs.length ≤ c) :
    Calls Tryd.prog 19 #[.slice A zs.length c] w fun e w' => ∃ R, e = .returned (.pointer (some ⟨R, 0, none⟩)) ∧ w.heap.size ≤ R ∧ RdV w' R 0 ∧ Below w.heap.size w w' := by
  unfold maxLen at hm
  have hV1 := fun ob => hV.alloc (Nat.le_refl _) ob
  by_cases hbig : 2000 < zs.length
  · go_enter Tryd.func19, Tryd.ntmps19
    obtain ⟨rfl, _, hb⟩ := hV.ref (k := 0) (by simp; omega)
    have hc2 : (2000 : Int) ≤ (c : Int) := by omega
    go_wp2
    go_ret
    refine ⟨_, rfl, Nat.le_refl _, ⟨some ⟨b, off, none⟩, b, off, c, zs.take 2000, by rw [List.length_take]; omega, fun x hx => hz x (List.mem_of_mem_take hx), ?_, ?_, ?_, ?_, by simp⟩, ?_⟩
    · rw [World.cell?_alloc_at _ _ _ _ rfl, List.length_take, Nat.min_eq_left (by omega)]; rfl
    · rw [World.cell?_alloc_at _ _ _ _ rfl]; rfl
    · exact World.frozen?_alloc_at _ _ _ _ rfl
    · have h := hV.alloc (Nat.le_refl _) (.cells #[.slice (some ⟨b, off, none⟩) 2000 c, .int .i64 0] 52)
      exact ⟨fun _ => ⟨rfl, Nat.zero_le _, hb⟩, fun j u hu => by
        have hj : j < 2000 := by have := lt_of_some hu; simp only [List.length_map, List.length_take] at this; omega
        refine h.2 j u ?_
        rw [← hu, List.getElem?_map, List.getElem?_map, List.getElem?_take, if_pos hj]⟩
    · (repeat (first | exact Below.refl _ _ | assumption | refine Below.alloc ?_ (by simp <;> omega) _ | refine below_drewN ?_ _ | refine Below.drew ?_ | refine Below.setCell ?_ (by simp <;> omega) _))
  · go_enter Tryd.func19, Tryd.ntmps19
    go_wp2
    go_ret
    refine ⟨_, rfl, Nat.le_refl _, ⟨A, b, off, c, zs, by omega, hz, ?_, ?_, ?_, hV.alloc (Nat.le_refl _) _, by simp⟩, ?_⟩
    · rw [World.cell?_alloc_at _ _ _ _ rfl]; rfl
    · rw [World.cell?_alloc_at _ _ _ _ rfl]; rfl
    · exact World.frozen?_alloc_at _ _ _ _ rfl
    · (repeat (first | exact Below.refl _ _ | assumption | refine Below.alloc ?_ (by simp <;> omega) _ | refine below_drewN ?_ _ | refine Below.drew ?_ | refine Below.setCell ?_ (by simp <;> omega) _))
end Go.Proofs.YtgleblbgomhmdaaDoor
