/- What the reference reads of a text of three letters and more. -/
import Derived.Test.YtgleblbgomhmdaaDoorRd3
import Derived.BigQuiet
namespace Go.Proofs.YtgleblbgomhmdaaDoor
open Go.RowKit
set_option linter.unusedVariables false
set_option linter.unusedSimpArgs false

theorem RdB.set0 {w W : World} {o v k : Int} (h : RdB w W o v k) (a : Int) : RdB w (W.setCell ⟨w.heap.size + 1, 0, none⟩ (.int .i64 a)) a v k :=
  ⟨h.res.far (by dsimp only; omega) _, h.ask.set_ 0 _, h.bel.setCell (by dsimp only; omega) _, by simpa [World.setCell] using h.sz⟩
theorem RdB.set1 {w W : World} {o v k : Int} (h : RdB w W o v k) (a : Int) : RdB w (W.setCell ⟨w.heap.size + 1, 1, none⟩ (.int .i64 a)) o a k :=
  ⟨h.res.far (by dsimp only; omega) _, h.ask.set_ 1 _, h.bel.setCell (by dsimp only; omega) _, by simpa [World.setCell] using h.sz⟩
theorem RdB.set2 {w W : World} {o v k : Int} (h : RdB w W o v k) (a : Int) : RdB w (W.setCell ⟨w.heap.size + 1, 2, none⟩ (.int .i64 a)) o v a :=
  ⟨h.res.far (by dsimp only; omega) _, h.ask.set_ 2 _, h.bel.setCell (by dsimp only; omega) _, by simpa [World.setCell] using h.sz⟩

set_option maxRecDepth 100000 in
set_option maxHeartbeats 4000000 in
theorem specExpRead_b (l : List UInt8) (hl : l.length ≤ 1048576) (c0 c1 : UInt8) (r : List UInt8) (hr : r ≠ []) (he : l = c0 :: c1 :: r) (ha : l ≠ [97, 108, 119, 97, 121, 115]) (w : World) :
    Calls Tryd.prog 12 #[.string ⟨l.toArray⟩] w fun e w' => (∃ (o v k : Int) (b : Bool), e = .returned (.tuple #[.agg #[.int .i64 o, .int .i64 v, .int .i64 k], .bool b]) ∧ ReadsAs l o v k b) ∧ Below w.heap.size w w' := by
  have hlen : 2 < l.length := by rw [he]; cases r with
    | nil => exact absurd rfl hr
    | cons x r => simp
  have hlenI : (2 : Int) < l.length := by omega
  have e0 : ((⟨l.toArray⟩ : ByteArray)[0]'(show 0 < l.length by omega)).toNat = c0.toNat := by subst he; rfl
  have e1 : ((⟨l.toArray⟩ : ByteArray)[1]'(show 1 < l.length by omega)).toNat = c1.toNat := by subst he; rfl
  have ex : (⟨l.toArray⟩ : ByteArray).extract 2 l.length = ⟨r.toArray⟩ := by
    subst he
    apply ByteArray.ext
    simp
  have hbb : (l == [97, 108, 119, 97, 121, 115]) = false := by simpa using ha
  have hb0 : (c0.toNat : Int) ≤ 255 := by have := c0.toNat_lt; omega
  have hb1 : (0 : Int) ≤ c0.toNat := by omega
  have k1 : ((⟨#[63, 60, 61, 62]⟩ : ByteArray)[1]'(show 1 < 4 by decide)).toNat = 60 := rfl
  have k2 : ((⟨#[63, 60, 61, 62]⟩ : ByteArray)[2]'(show 2 < 4 by decide)).toNat = 61 := rfl
  have k3 : ((⟨#[63, 60, 61, 62]⟩ : ByteArray)[3]'(show 3 < 4 by decide)).toNat = 62 := rfl
  have HE := Lib.hid he
  clear he
  go_enter Tryd.func12, Tryd.ntmps12
  go_wp2_with fail
  have hR1 := RdB.new w 0 ((c0.toNat : Int) - 97) 0
  go_loopw [5] (fun op wr => ∃ (j : Nat) (o : Int), op = .int .i64 (j : Int) ∧ (1 ≤ j ∧ j ≤ 4) ∧ RdB w wr o ((c0.toNat : Int) - 97) 0 ∧ (∀ o' : Int, 1 ≤ o' → o' < j → (c1.toNat : Int) = 59 + o' → o = o')) (fun op _ => match op with | .int _ k => 4 - k.toNat | _ => 0)
  case atStart => exact ⟨1, 0, rfl, by omega, hR1, fun o' h1 h2 => by omega⟩
  case round =>
    obtain ⟨j, o, rfl, ⟨hj1, hj4⟩, hB, hop⟩ := hrel
    obtain ⟨⟨x0, x1, x2⟩, ⟨y0, y1, y2⟩, ⟨f0, f1, f2⟩, ⟨g0, g1, g2⟩⟩ := hB.cells
    rcases (show j = 1 ∨ j = 2 ∨ j = 3 ∨ j = 4 by omega) with rfl | rfl | rfl | rfl
    · go_wp2_with fail
      go_quiet (fail)
      have hB2 := hB.below (below_drewN (Below.refl _ wr) nq)
      generalize wr.drewN nq = wq at hB2 ⊢
      clear x0 x1 x2 y0 y1 y2 f0 f1 f2 g0 g1 g2 hB
      obtain ⟨⟨x0, x1, x2⟩, ⟨y0, y1, y2⟩, ⟨f0, f1, f2⟩, ⟨g0, g1, g2⟩⟩ := hB2.cells
      by_cases hc : (c1.toNat : Int) = 60
      · have hcb : ((c1.toNat : Int) == 60) = true := by simpa using hc
        have hB3 := hB2.set0 1
        go_wp2_with fail
        exact ⟨⟨2, 1, rfl, by omega, hB3, fun o' h1 h2 h3 => by omega⟩, by dsimp only; omega⟩
      · have hcb : ((c1.toNat : Int) == 60) = false := by simpa using hc
        go_wp2_with fail
        exact ⟨⟨2, o, rfl, by omega, hB2, fun o' h1 h2 h3 => if h : o' < 1 then hop o' h1 h h3 else by omega⟩, by dsimp only; omega⟩
    · go_wp2_with fail
      go_quiet (fail)
      have hB2 := hB.below (below_drewN (Below.refl _ wr) nq)
      generalize wr.drewN nq = wq at hB2 ⊢
      clear x0 x1 x2 y0 y1 y2 f0 f1 f2 g0 g1 g2 hB
      obtain ⟨⟨x0, x1, x2⟩, ⟨y0, y1, y2⟩, ⟨f0, f1, f2⟩, ⟨g0, g1, g2⟩⟩ := hB2.cells
      by_cases hc : (c1.toNat : Int) = 61
      · have hcb : ((c1.toNat : Int) == 61) = true := by simpa using hc
        have hB3 := hB2.set0 2
        go_wp2_with fail
        exact ⟨⟨3, 2, rfl, by omega, hB3, fun o' h1 h2 h3 => by omega⟩, by dsimp only; omega⟩
      · have hcb : ((c1.toNat : Int) == 61) = false := by simpa using hc
        go_wp2_with fail
        exact ⟨⟨3, o, rfl, by omega, hB2, fun o' h1 h2 h3 => if h : o' < 2 then hop o' h1 h h3 else by omega⟩, by dsimp only; omega⟩
    · go_wp2_with fail
      go_quiet (fail)
      have hB2 := hB.below (below_drewN (Below.refl _ wr) nq)
      generalize wr.drewN nq = wq at hB2 ⊢
      clear x0 x1 x2 y0 y1 y2 f0 f1 f2 g0 g1 g2 hB
      obtain ⟨⟨x0, x1, x2⟩, ⟨y0, y1, y2⟩, ⟨f0, f1, f2⟩, ⟨g0, g1, g2⟩⟩ := hB2.cells
      by_cases hc : (c1.toNat : Int) = 62
      · have hcb : ((c1.toNat : Int) == 62) = true := by simpa using hc
        have hB3 := hB2.set0 3
        go_wp2_with fail
        exact ⟨⟨4, 3, rfl, by omega, hB3, fun o' h1 h2 h3 => by omega⟩, by dsimp only; omega⟩
      · have hcb : ((c1.toNat : Int) == 62) = false := by simpa using hc
        go_wp2_with fail
        exact ⟨⟨4, o, rfl, by omega, hB2, fun o' h1 h2 h3 => if h : o' < 3 then hop o' h1 h h3 else by omega⟩, by dsimp only; omega⟩
    · go_wp2_with fail
      have hlr : r.length ≤ 1048576 := by have := congrArg List.length HE.out; simp at this; omega
      refine (l1Number_c r hlr _).mono ?_
      rintro e w2 ⟨⟨x, rfl, hx⟩, rfl⟩
      have hB3 := hB.set2 x
      clear hB
      go_wp2_with fail
      refine (specExpText_c o ((c0.toNat : Int) - 97) x _).mono ?_
      rintro e w3 ⟨rfl, hb⟩
      replace hB3 := hB3.below hb
      unfold askV
      clear x0 x1 x2 y0 y1 y2 f0 f1 f2 g0 g1 g2
      obtain ⟨⟨x0, x1, x2⟩, ⟨y0, y1, y2⟩, ⟨f0, f1, f2⟩, ⟨g0, g1, g2⟩⟩ := hB3.cells
      have hle : (l == []) = false := by rw [HE.out]; rfl
      have hle2 : ¬ l = [] := by rw [HE.out]; simp
      by_cases ht : askT ⟨o, (c0.toNat : Int) - 97, x⟩ = l
      · have htb : (askT ⟨o, (c0.toNat : Int) - 97, x⟩ == l) = true := by simpa using ht
        go_wp2_with fail
        have hok : askOk ⟨o, (c0.toNat : Int) - 97, x⟩ = true := by
          by_cases h : askOk ⟨o, (c0.toNat : Int) - 97, x⟩ = true
          · exact h
          · rw [Bool.not_eq_true] at h
            rw [askT_no h] at ht
            exact absurd ht.symm hle2
        obtain ⟨⟨z0, z1, z2⟩, hbl⟩ := hB3.out o ((c0.toNat : Int) - 97) x
        refine bodyPost_ret (v := .tuple #[.agg #[.int .i64 o, .int .i64 ((c0.toNat : Int) - 97), .int .i64 x], .bool true]) (by simp [results, Tryd.results12, go_sem, z0, z1, z2]) rfl ⟨⟨o, ((c0.toNat : Int) - 97), x, true, rfl, .inl ⟨rfl, hok, ht⟩⟩, hbl⟩
      · have htb : (askT ⟨o, (c0.toNat : Int) - 97, x⟩ == l) = false := by simpa using ht
        go_wp2_with fail
        have hno : ∀ o' v' k' : Int, askOk ⟨o', v', k'⟩ = true → askT ⟨o', v', k'⟩ ≠ l := by
          intro o' v' k' hok he'
          obtain ⟨⟨a1, a2⟩, _, ⟨b1, b2⟩, d0, d1, s, f1, f2, f3, f4, _⟩ := askT_spells hok he' ha
          have h1 := HE.out.symm.trans f1
          injection h1 with h1 h2
          injection h2 with h2 h3
          subst h1 h2 h3
          have ev : v' = (c0.toNat : Int) - 97 := by omega
          have eo := hop o' a1 (by omega) f3
          have ek := hx k' b1 b2 f4
          subst ev eo ek
          exact ht he'
        obtain ⟨⟨z0, z1, z2⟩, hbl⟩ := hB3.out 0 0 0
        refine bodyPost_ret (v := .tuple #[.agg #[.int .i64 0, .int .i64 0, .int .i64 0], .bool false]) (by simp [results, Tryd.results12, go_sem, z0, z1, z2]) rfl ⟨⟨0, 0, 0, false, rfl, .inr ⟨rfl, rfl, rfl, rfl, hno⟩⟩, hbl⟩
end Go.Proofs.YtgleblbgomhmdaaDoor
