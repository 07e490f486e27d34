/- What the program reads of a text. -/
import Derived.Test.YtgleblbgomhmdaaDoorRd4
import Derived.Test.YtgleblbgomhmdaaDoorShelfA
import Derived.Stop.LaidErr
namespace Go.Proofs.YtgleblbgomhmdaaDoor
open Go.RowKit
set_option linter.unusedVariables false
set_option linter.unusedSimpArgs false

/-- What the two errors hold. -/
def ErrVars (w : World) : Prop := (∃ u v, w.var? Tryd.prog "strconv.ErrRange" = some #[.iface u v]) ∧ (∃ u v, w.var? Tryd.prog "strconv.ErrSyntax" = some #[.iface u v])
theorem var_below {w w' : World} {n : String} {cs : Array Value} (h : w.var? Tryd.prog n = some cs) (hb : Below w.heap.size w w') : w'.var? Tryd.prog n = some cs := by
  unfold World.var? at h ⊢
  cases hg : Tryd.prog.globalNamed n with
  | none => simp [hg] at h
  | some g =>
    simp only [hg, Option.bind_some] at h ⊢
    have hlt : g < w.heap.size := by
      rcases Nat.lt_or_ge g w.heap.size with h' | h'
      · exact h'
      · simp [Array.getElem?_eq_none h'] at h
    rw [hb.block g hlt]
    exact h
theorem ErrVars.below {w w' : World} (h : ErrVars w) (hb : Below w.heap.size w w') : ErrVars w' := by
  obtain ⟨⟨u, v, h1⟩, ⟨u', v', h2⟩⟩ := h
  exact ⟨⟨u, v, var_below h1 hb⟩, ⟨u', v', var_below h2 hb⟩⟩
theorem atoi_ok {l : List UInt8} (hl : l.length ≤ 1048576) (w : World) (h : ErrVars w) :
    Calls Tryd.prog 21 #[.string ⟨l.toArray⟩] w fun e w' => Below w.heap.size w w' ∧ ((∃ v, Lib.atoiAll l = .ok v ∧ e = .returned (.tuple #[.int .i64 v, .nilIface])) ∨ (∃ (k : Int) (x : Value), (∀ v, Lib.atoiAll l ≠ .ok v) ∧ e = .returned (.tuple #[.int .i64 k, .iface 58 x]))) := by
  obtain ⟨⟨t2, p2, h2⟩, ⟨t1, p1, h1⟩⟩ := h
  exact Tryd.strconv_Atoi_any ⟨l.toArray⟩ (by show l.length ≤ _; omega) w t1 t2 p1 p2 h1 h2

/-- The result's cells, ahead of all that the reading makes. -/
structure ResB (w W : World) : Prop where
  res : Blk W w.heap.size 25 (askC 0 0 0)
  bel : Below w.heap.size w W
theorem ResB.lt {w W : World} (h : ResB w W) : w.heap.size < W.heap.size := h.res.lt
theorem ResB.below {w W W' : World} (h : ResB w W) (hb : Below W.heap.size W W') : ResB w W' :=
  ⟨h.res.below hb h.lt, Below.trans h.bel (hb.mono (Nat.le_of_lt h.lt))⟩
theorem ResB.alloc {w W : World} (h : ResB w W) (ob : Obj) : ResB w (W.alloc ob) := h.below (Below.alloc (Below.refl _ _) (Nat.le_refl _) ob)
theorem ResB.new (w : World) : ResB w (w.alloc (.cells (askC 0 0 0) 25)) := ⟨Blk.new_ w _ _, (Below.refl _ w).alloc (Nat.le_refl _) _⟩
theorem ResB.cells {w W : World} (h : ResB w W) : (W.cell? ⟨w.heap.size, 0, none⟩ = some (.int .i64 0) ∧ W.cell? ⟨w.heap.size, 1, none⟩ = some (.int .i64 0) ∧ W.cell? ⟨w.heap.size, 2, none⟩ = some (.int .i64 0)) ∧
    (W.frozen? ⟨w.heap.size, 0, none⟩ = false ∧ W.frozen? ⟨w.heap.size, 1, none⟩ = false ∧ W.frozen? ⟨w.heap.size, 2, none⟩ = false) :=
  ⟨⟨h.res.cell 0, h.res.cell 1, h.res.cell 2⟩, ⟨h.res.free 0, h.res.free 1, h.res.free 2⟩⟩
theorem ResB.out {w W : World} (h : ResB w W) (a b c : Int) :
    let W3 := ((W.setCell ⟨w.heap.size, 0, none⟩ (.int .i64 a)).setCell ⟨w.heap.size, 1, none⟩ (.int .i64 b)).setCell ⟨w.heap.size, 2, none⟩ (.int .i64 c)
    (W3.cell? ⟨w.heap.size, 0, none⟩ = some (.int .i64 a) ∧ W3.cell? ⟨w.heap.size, 1, none⟩ = some (.int .i64 b) ∧ W3.cell? ⟨w.heap.size, 2, none⟩ = some (.int .i64 c)) ∧ Below w.heap.size w W3 := by
  have hb := ((h.res.set_ 0 (.int .i64 a)).set_ 1 (.int .i64 b)).set_ 2 (.int .i64 c)
  exact ⟨⟨hb.cell 0, hb.cell 1, hb.cell 2⟩, ((h.bel.setCell (Nat.le_refl _) _).setCell (Nat.le_refl _) _).setCell (Nat.le_refl _) _⟩

def RdOut (l : List UInt8) (w : World) (e : Ending) (w' : World) : Prop := (∃ (o v k : Int) (b : Bool), e = .returned (.tuple #[.agg #[.int .i64 o, .int .i64 v, .int .i64 k], .bool b]) ∧ ReadsAs l o v k b) ∧ Below w.heap.size w w'

set_option maxRecDepth 100000 in
set_option maxHeartbeats 4000000 in
theorem implExpRead_a (l : List UInt8) (hl : l.length ≤ 1048576) (hc : l.length ≤ 2 ∨ l = [97, 108, 119, 97, 121, 115]) (w : World) :
    Calls Tryd.prog 11 #[.string ⟨l.toArray⟩] w fun e w' => RdOut l w e w' := by
  have hR := ResB.new w
  obtain ⟨⟨x0, x1, x2⟩, ⟨f0, f1, f2⟩⟩ := hR.cells
  by_cases ha : l = [97, 108, 119, 97, 121, 115]
  · subst ha
    go_enter Tryd.func11, Tryd.ntmps11
    go_wp2_with fail
    refine bodyPost_ret (v := .tuple #[.agg #[.int .i64 0, .int .i64 0, .int .i64 0], .bool true]) (by simp [results, Tryd.results11, go_sem, x0, x1, x2]) rfl ⟨⟨0, 0, 0, true, rfl, .inl ⟨rfl, ok000, askT_always ok000⟩⟩, hR.bel⟩
  · have hc2 : l.length ≤ 2 := by rcases hc with h | h; exact h; exact absurd h ha
    have hc3 : (l.length : Int) < 3 := by omega
    have hno := noText_short ha hc2
    have hnb : (l == ([97, 108, 119, 97, 121, 115] : List UInt8)) = false := by simpa using ha
    go_enter Tryd.func11, Tryd.ntmps11
    go_wp2_with fail
    refine bodyPost_ret (v := .tuple #[.agg #[.int .i64 0, .int .i64 0, .int .i64 0], .bool false]) (by simp [results, Tryd.results11, go_sem, x0, x1, x2]) rfl ⟨⟨0, 0, 0, false, rfl, .inr ⟨rfl, rfl, rfl, rfl, hno⟩⟩, hR.bel⟩

/-- A text of three letters and more is a question's only where a numeral stands behind the two. -/
theorem noText_atoi {c0 c1 : UInt8} {r : List UInt8} (ha : c0 :: c1 :: r ≠ [97, 108, 119, 97, 121, 115]) (h : ∀ v, Lib.atoiAll r ≠ .ok v) : ∀ o' v' k' : Int, askOk ⟨o', v', k'⟩ = true → askT ⟨o', v', k'⟩ ≠ c0 :: c1 :: r := by
  intro o v k hok he
  obtain ⟨_, _, ⟨b1, b2⟩, d0, d1, s, e1, _, _, e4, _⟩ := askT_spells hok he ha
  injection e1 with _ e1
  injection e1 with _ e1
  exact h k (by rw [e1, e4]; exact atoi_itoa b1 b2)
theorem noText_all {c0 c1 : UInt8} {r : List UInt8} {k : Int} (ha : c0 :: c1 :: r ≠ [97, 108, 119, 97, 121, 115]) (h : Lib.atoiAll r = .ok k) (hn : ∀ o' v' : Int, 1 ≤ o' → o' < 4 → 0 ≤ v' → v' < 3 → askT ⟨o', v', k⟩ ≠ c0 :: c1 :: r) :
    ∀ o' v' k' : Int, askOk ⟨o', v', k'⟩ = true → askT ⟨o', v', k'⟩ ≠ c0 :: c1 :: r := by
  intro o v k' hok he
  obtain ⟨⟨a1, a2⟩, ⟨c1, c2⟩, ⟨b1, b2⟩, d0, d1, s, e1, _, _, e4, _⟩ := askT_spells hok he ha
  injection e1 with _ e1
  injection e1 with _ e1
  rw [e1, e4, atoi_itoa b1 b2] at h
  injection h with h
  subst h
  exact hn o v a1 (by omega) c1 (by omega) he

set_option maxRecDepth 100000 in
set_option maxHeartbeats 8000000 in
theorem implExpRead_b (l : List UInt8) (hl : l.length ≤ 1048576) (c0 c1 : UInt8) (r : List UInt8) (hr : r ≠ []) (he : l = c0 :: c1 :: r) (ha : l ≠ [97, 108, 119, 97, 121, 115]) (w : World) (hT : PowTab w) (hV : ErrVars w) :
    Calls Tryd.prog 11 #[.string ⟨l.toArray⟩] w fun e w' => RdOut l w e w' := by
  have hR := ResB.new w
  obtain ⟨⟨x0, x1, x2⟩, ⟨f0, f1, f2⟩⟩ := hR.cells
  have hlen : 2 < l.length := by rw [he]; cases r with
    | nil => exact absurd rfl hr
    | cons x r => simp
  have hlenI : ¬ (l.length : Int) < 3 := by omega
  have ex : (⟨l.toArray⟩ : ByteArray).extract 2 l.length = ⟨r.toArray⟩ := by
    subst he
    apply ByteArray.ext
    simp
  have hbb : (l == [97, 108, 119, 97, 121, 115]) = false := by simpa using ha
  have hlr : r.length ≤ 1048576 := by have := congrArg List.length he; simp at this; omega
  have HE := Lib.hid he
  clear he
  have HT := Lib.hid hT
  have HV := Lib.hid hV
  clear hT hV
  go_enter Tryd.func11, Tryd.ntmps11
  go_wp2_with fail
  refine (atoi_ok hlr _ (HV.out.below hR.bel)).mono ?_
  rintro e w1 ⟨hb1, ⟨k, hk, rfl⟩ | ⟨k, x, hk, rfl⟩⟩
  · replace hR := hR.below hb1
    clear x0 x1 x2 f0 f1 f2
    obtain ⟨⟨x0, x1, x2⟩, ⟨f0, f1, f2⟩⟩ := hR.cells
    go_wp2_with fail
    go_loopw [6] (fun op wr => ∃ j : Nat, op = .int .i64 (j : Int) ∧ (1 ≤ j ∧ j ≤ 4) ∧ ResB w wr ∧ (∀ o' v' : Int, 1 ≤ o' → o' < j → 0 ≤ v' → v' < 3 → askT ⟨o', v', k⟩ ≠ l)) (fun op _ => match op with | .int _ k => 4 - k.toNat | _ => 0)
    case atStart => exact ⟨1, rfl, by omega, hR, fun o' v' h1 h2 => by omega⟩
    case round =>
      clear hR hb1 x0 x1 x2 f0 f1 f2
      obtain ⟨j, rfl, ⟨hj1, hj4⟩, hB, hn⟩ := hrel
      obtain ⟨⟨x0, x1, x2⟩, ⟨f0, f1, f2⟩⟩ := hB.cells
      by_cases hj : j = 4
      · subst hj
        have hno : ∀ o' v' k' : Int, askOk ⟨o', v', k'⟩ = true → askT ⟨o', v', k'⟩ ≠ l := by
          have hl := HE.out
          subst hl
          exact noText_all ha hk hn
        go_wp2_with fail
        obtain ⟨⟨z0, z1, z2⟩, hbl⟩ := hB.out 0 0 0
        refine bodyPost_ret (v := .tuple #[.agg #[.int .i64 0, .int .i64 0, .int .i64 0], .bool false]) (by simp [results, Tryd.results11, go_sem, z0, z1, z2]) rfl ⟨⟨0, 0, 0, false, rfl, .inr ⟨rfl, rfl, rfl, rfl, hno⟩⟩, hbl⟩
      · have hj3 : (j : Int) ≤ 3 := by omega
        go_wp2_with fail
        go_loopw [29] (fun i wr => ∃ n : Nat, i = .int .i64 (n : Int) ∧ n ≤ 3 ∧ ResB w wr ∧ (∀ v' : Int, 0 ≤ v' → v' < n → askT ⟨(j : Int), v', k⟩ ≠ l)) (fun i _ => match i with | .int _ k => 3 - k.toNat | _ => 0)
        case atStart => exact ⟨0, rfl, by omega, hB, fun v' h1 h2 => by omega⟩
        case round =>
          clear hB x0 x1 x2 f0 f1 f2
          obtain ⟨n, rfl, hn3, hB, hm⟩ := hrel
          by_cases hn4 : n = 3
          · subst hn4
            go_wp2_with fail
            exact ⟨⟨j + 1, rfl, by omega, hB, fun o' v' h1 h2 h3 h4 => if h : o' < j then hn o' v' h1 h h3 h4 else (show o' = j by omega) ▸ hm v' h3 h4⟩, by dsimp only; omega⟩
          · have hn5 : (n : Int) < 3 := by omega
            go_wp2_with fail
            have hX : TxB wr (j : Int) (n : Int) k (wr.alloc (.cells (askC j n k) 25)) := ⟨new_cells wr _ _ 0, new_cells wr _ _ 1, new_cells wr _ _ 2, by simp, Below.alloc (Below.refl _ wr) (Nat.le_refl _) _⟩
            have hA := hB.alloc (.cells (askC j n k) 25)
            refine (implExpText_c (j : Int) (n : Int) k _ (Go.Joins.tab_stays pow_named HT.out hA.bel (Nat.le_refl _))).mono ?_
            rintro e w2 ⟨rfl, hb2⟩
            replace hX := hX.below hb2
            replace hA := hA.below hb2
            unfold askV
            obtain ⟨y0, y1, y2, _, _⟩ := id hX
            obtain ⟨⟨x0, x1, x2⟩, ⟨f0, f1, f2⟩⟩ := hA.cells
            by_cases ht : askT ⟨(j : Int), (n : Int), k⟩ = l
            · have htb : (askT ⟨(j : Int), (n : Int), k⟩ == l) = true := by simpa using ht
              have hok : askOk ⟨(j : Int), (n : Int), k⟩ = true := by
                by_cases h : askOk ⟨(j : Int), (n : Int), k⟩ = true
                · exact h
                · rw [Bool.not_eq_true] at h
                  rw [askT_no h] at ht
                  rw [← ht] at hlen
                  simp at hlen
              go_wp2_with fail
              obtain ⟨⟨z0, z1, z2⟩, hbl⟩ := hA.out (j : Int) (n : Int) k
              refine bodyPost_ret (v := .tuple #[.agg #[.int .i64 (j : Int), .int .i64 (n : Int), .int .i64 k], .bool true]) (by simp [results, Tryd.results11, go_sem, z0, z1, z2]) rfl ⟨⟨(j : Int), (n : Int), k, true, rfl, .inl ⟨rfl, hok, ht⟩⟩, hbl⟩
            · have htb : (askT ⟨(j : Int), (n : Int), k⟩ == l) = false := by simpa using ht
              go_wp2_with fail
              exact ⟨⟨n + 1, rfl, by omega, hA, fun v' h1 h2 => if h : v' < n then hm v' h1 h else (show v' = n by omega) ▸ ht⟩, by dsimp only; omega⟩
  · replace hR := hR.below hb1
    clear x0 x1 x2 f0 f1 f2
    obtain ⟨⟨x0, x1, x2⟩, ⟨f0, f1, f2⟩⟩ := hR.cells
    go_wp2_with fail
    have hno : ∀ o' v' k' : Int, askOk ⟨o', v', k'⟩ = true → askT ⟨o', v', k'⟩ ≠ l := by
      have hl := HE.out
      subst hl
      exact noText_atoi ha hk
    obtain ⟨⟨z0, z1, z2⟩, hbl⟩ := hR.out 0 0 0
    refine bodyPost_ret (v := .tuple #[.agg #[.int .i64 0, .int .i64 0, .int .i64 0], .bool false]) (by simp [results, Tryd.results11, go_sem, z0, z1, z2]) rfl ⟨⟨0, 0, 0, false, rfl, .inr ⟨rfl, rfl, rfl, rfl, hno⟩⟩, hbl⟩
end Go.Proofs.YtgleblbgomhmdaaDoor
