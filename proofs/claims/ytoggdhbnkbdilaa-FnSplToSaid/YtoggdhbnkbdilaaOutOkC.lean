/- The program's test of what leads out of a task. -/
import Derived.Test.YtoggdhbnkbdilaaOutOk
namespace Go.Proofs.Ytoggdhbnkbdilaa
open Go.RowKit Go.Maps
set_option linter.unusedVariables false
set_option linter.unusedSimpArgs false

theorem flowOk_low {places split : Int} {l : List NFlow} {j : Nat} {x : NFlow} (h : l[j]? = some x) (hb : inB x.to 0 (places - 1) = false) : flowOk places split l j = false := by
  rw [flowOk, getD_of h]
  have : inB x.to 1 (places - 1) = false := by rw [inB_false] at *; omega
  rw [this]; rfl
theorem flowOk_seen {places split : Int} {l : List NFlow} {j : Nat} {x : NFlow} (h : l[j]? = some x) (hb : seenB l j x.to = true) : flowOk places split l j = false := by
  rw [flowOk, getD_of h]
  unfold seenB at hb
  rw [Bool.or_eq_true, decide_eq_true_eq, List.any_eq_true] at hb
  rcases hb with h0 | ⟨i, hi, he⟩
  · have : inB x.to 1 (places - 1) = false := by rw [inB_false]; omega
    rw [this]; rfl
  · rw [not_all_range (List.mem_range.1 hi) (by simpa using he)]; simp
theorem flowOk_true {places split : Int} {l : List NFlow} {j : Nat} {x : NFlow} (h : l[j]? = some x) (hb : inB x.to 0 (places - 1) = true) (hs : seenB l j x.to = false) (ha : askOk ⟨x.op, x.var, x.k⟩ = true) {L : Bool} (hL : (decide (j + 1 = l.length) || decide (split = 1)) = L) (hl : (L == decide (x.op = 0)) = true) : flowOk places split l j = true := by
  rw [flowOk, getD_of h, hL, ha, hl]
  unfold seenB at hs
  rw [Bool.or_eq_false_iff, decide_eq_false_iff_not, List.any_eq_false] at hs
  have : inB x.to 1 (places - 1) = true := by rw [inB_iff] at *; omega
  rw [this, all_range (fun i hi => by simpa using hs.2 i (List.mem_range.2 hi))]; rfl
theorem flowOk_ask {places split : Int} {l : List NFlow} {j : Nat} {x : NFlow} (h : l[j]? = some x) (ha : askOk ⟨x.op, x.var, x.k⟩ = false) : flowOk places split l j = false := by
  rw [flowOk, getD_of h, ha]; simp
theorem flowOk_last {places split : Int} {l : List NFlow} {j : Nat} {x : NFlow} (h : l[j]? = some x) {L : Bool} (hL : (decide (j + 1 = l.length) || decide (split = 1)) = L) (hl : (L == decide (x.op = 0)) = false) : flowOk places split l j = false := by
  rw [flowOk, getD_of h, hL, hl]; simp

theorem Try.zero_bool (w : World) : Sem.run Try.prog (zeroValue 4) w = .ok (.bool false) w := by kernel_rfl

set_option maxRecDepth 10000 in
set_option maxHeartbeats 2000000 in
theorem outOk_c (t : NTask) (vi vo vc : Value) (lo hi : Nat) (places : Int) (w : World) (hV : TaskV w lo hi t vi vo vc) (hhi : hi ≤ w.heap.size) (hlen : t.out.length ≤ 1048576) (hp1 : 0 ≤ places) (hp2 : places ≤ 1000) :
    Calls Try.prog 75 #[.agg #[.int .i64 t.join, .int .i64 t.split, vi, vo, vc, .int .i64 t.role, .int .i64 t.apart, .int .i64 t.all, .int .i64 t.need], .int .i64 places] w
      fun e w' => e = .returned (.bool (outB places t.split t.out)) ∧ Below w.heap.size w w' := by
  obtain ⟨Ao, bo, oo, co, rfl, hmo, hRo⟩ := hV.out
  clear hmo
  have hmm := @run_makeMap Try.prog
  obtain ⟨w1, hrun, hS1, hg1⟩ := SeenV.start (w.alloc (.cells #[.int .i64 t.join, .int .i64 t.split, vi, .slice Ao t.out.length co, vc, .int .i64 t.role, .int .i64 t.apart, .int .i64 t.all, .int .i64 t.need] 38)) t.out
  have hB0 := (Below.refl w.heap.size w).alloc (Nat.le_refl _) (.cells #[.int .i64 t.join, .int .i64 t.split, vi, .slice Ao t.out.length co, vc, .int .i64 t.role, .int .i64 t.apart, .int .i64 t.all, .int .i64 t.need] 38)
  have R0 := (Row.newAt w #[.int .i64 t.join, .int .i64 t.split, vi, .slice Ao t.out.length co, vc, .int .i64 t.role, .int .i64 t.apart, .int .i64 t.all, .int .i64 t.need] 38 _ rfl)
  have hB1 : Below w.heap.size w w1 := (hB0.alloc (by simp) (.map #[] 0)).grown hg1 (by simp; omega) (fun k hk => by injection hk with hk; subst hk; simp)
  have R1 := (R0.alloc (by simp) (.map #[] 0)).keep (w' := w1) (fun g h1 h2 => hg1.block g (by simp; omega) (by simp; omega))
  have hz1 : w.heap.size + 1 + 1 ≤ w1.heap.size := by have := hg1.size; simpa using this
  simp only [World.size_alloc] at hrun hS1
  have HS1 := Lib.hid hS1
  have HB1 := Lib.hid hB1
  have HR1 := Lib.hid R1
  obtain ⟨⟨s0, s1, s2, s3, s4, s5, s6, s7, s8⟩, _⟩ := R1.nine
  clear hS1 hg1 hB0 R0 hB1 R1
  go_enter Try.func75, Try.ntmps75
  go_wp2
  go_loopw [14] (fun i wr => ∃ k : Nat, k ≤ t.out.length ∧ i = .int .i64 k ∧ (∀ j, j < k → flowOk places t.split t.out j = true) ∧ Row wr w.heap.size (w.heap.size + 1) (some ⟨w.heap.size, 0, none⟩) w.heap.size 0 [.int .i64 t.join, .int .i64 t.split, vi, .slice Ao t.out.length co, vc, .int .i64 t.role, .int .i64 t.apart, .int .i64 t.all, .int .i64 t.need] ∧ SeenV wr (w.heap.size + 1) k t.out ∧ Below w.heap.size w wr ∧ w.heap.size + 1 + 1 ≤ wr.heap.size) (fun i _ => t.out.length - (intOf i).toNat)
  case atStart => exact ⟨0, Nat.zero_le _, rfl, fun j hj => absurd hj (Nat.not_lt_zero _), HR1.out, HS1.out, HB1.out, hz1⟩
  case round =>
    obtain ⟨k, hk, rfl, hn, hR, hSV, hb, hsz⟩ := hrel
    obtain ⟨wo, rfl⟩ : ∃ wo, wo = wr := ⟨_, rfl⟩
    clear s0 s1 s2 s3 s4 s5 s6 s7 s8 hrun
    obtain ⟨⟨s0, s1, s2, s3, s4, s5, s6, s7, s8⟩, _⟩ := hR.nine
    have HN := Lib.hid hn
    have HR := Lib.hid hR
    have HB := Lib.hid hb
    have HS := Lib.hid hsz
    have HSV := Lib.hid hSV
    clear hn hR s0 s2 s4 s5 s6 s7 s8 hSV
    by_cases hlt : k < t.out.length
    · obtain ⟨rfl, _, h3, x, hx, ⟨c0, c1, c2, c3⟩, _⟩ := hRo.flow hlt
      have d0 := (hb.cell (p := ⟨bo, oo + k * 4, none⟩) (by show bo < _; omega)).trans c0
      have d1 := (hb.cell (p := ⟨bo, oo + k * 4 + 1, none⟩) (by show bo < _; omega)).trans c1
      have d2 := (hb.cell (p := ⟨bo, oo + k * 4 + 2, none⟩) (by show bo < _; omega)).trans c2
      have d3 := (hb.cell (p := ⟨bo, oo + k * 4 + 3, none⟩) (by show bo < _; omega)).trans c3
      have HX := Lib.hid hx
      have HRo := Lib.hid hRo
      clear hb c0 c1 c2 c3 hx hRo
      have z1 : w.heap.size < wo.heap.size := by omega
      have z2 : bo < wo.heap.size := by omega
      have z3 : w.heap.size ≠ wo.heap.size := by omega
      have z4 : bo ≠ wo.heap.size := by omega
      have e1 : IntKind.i64.wrap ((t.out.length : Int) - 1) = (t.out.length : Int) - 1 := IntWalk.i64_in _ (by omega)
      go_upto_region 5 with fail
      go_cut [8] (fun s8 wc => s8 = .bool (decide (k + 1 = t.out.length) || decide (t.split = 1)) ∧ wc = wo.alloc (.cells #[.int .i64 x.to, .int .i64 x.op, .int .i64 x.var, .int .i64 x.k] 47))
      case first =>
        by_cases hs : t.split = 1
        · have e : (t.split == 1) = true := by simpa using hs
          have H := Lib.hid hs
          clear hs
          go_wp2
          go_meet
          exact ⟨by simp [H.out], rfl⟩
        · have e0 : (t.split == 1) = false := by simpa using hs
          have H0 := Lib.hid hs
          clear hs
          by_cases h : k + 1 = t.out.length
          · have e : ((k : Int) == (t.out.length : Int) - 1) = true := by simp; omega
            have H := Lib.hid h
            clear h
            go_wp2
            go_meet
            exact ⟨by simp [H.out], rfl⟩
          · have e : ((k : Int) == (t.out.length : Int) - 1) = false := by simp; omega
            have H := Lib.hid h
            clear h
            go_wp2
            go_meet
            exact ⟨by simp [H.out, H0.out], rfl⟩
      case rest =>
        obtain ⟨rfl, rfl⟩ := hcut
        generalize hL : (decide (k + 1 = t.out.length) || decide (t.split = 1)) = L
        have HL := Lib.hid hL
        clear hL s1 s3 d0 d1 d2 d3
        have hgen : ∀ W : World, W = wo.alloc (.cells #[.int .i64 x.to, .int .i64 x.op, .int .i64 x.var, .int .i64 x.k] 47) → Row W w.heap.size (w.heap.size + 1) (some ⟨w.heap.size, 0, none⟩) w.heap.size 0 [.int .i64 t.join, .int .i64 t.split, vi, .slice (some ⟨bo, oo, none⟩) t.out.length co, vc, .int .i64 t.role, .int .i64 t.apart, .int .i64 t.all, .int .i64 t.need] ∧ Row W wo.heap.size (wo.heap.size + 1) (some ⟨wo.heap.size, 0, none⟩) wo.heap.size 0 x.cells ∧ SeenV W (w.heap.size + 1) k t.out ∧ Below w.heap.size w W ∧ wo.heap.size + 1 ≤ W.heap.size := by
          rintro W rfl
          exact ⟨HR.out.alloc (by omega) _, Row.new wo _ _, HSV.out.alloc _, HB.out.alloc (by omega) _, by simp⟩
        generalize hW : wo.alloc (.cells #[.int .i64 x.to, .int .i64 x.op, .int .i64 x.var, .int .i64 x.k] 47) = W at hgen ⊢
        obtain ⟨hR2, hF2, hSV2, hB2, hz2⟩ := hgen W rfl
        clear hgen hW
        have f0 := (hF2.cell (j := 0) rfl).1
        have f1 := (hF2.cell (j := 1) rfl).1
        have f2 := (hF2.cell (j := 2) rfl).1
        have f3 := (hF2.cell (j := 3) rfl).1
        have HR2 := Lib.hid hR2
        have HF2 := Lib.hid hF2
        have HSV2 := Lib.hid hSV2
        have HB2 := Lib.hid hB2
        clear hR2 hF2 hSV2 hB2 HR HSV HB
        have HNO : flowOk places t.split t.out k = false → outB places t.split t.out = false := by
          intro h; rw [outB, not_all_range hlt h]; simp
        have HNO := Lib.hid HNO
        go_wp2_with fail
        refine (implIn_c _ _ _ _).mono ?_
        rintro e w' ⟨rfl, rfl⟩
        by_cases h1 : inB x.to 0 (places - 1) = true
        · have H1 := Lib.hid h1
          have h1' := inB_iff.1 h1
          rw [h1]
          clear h1
          have hlk := HSV2.out.lookup (x := x.to) (by omega) (by omega) (Try.zero_bool W)
          by_cases h2 : seenB t.out k x.to = true
          · rw [h2] at hlk
            have H2 := Lib.hid h2
            clear h2
            go_wp2
            go_ret
            exact ⟨ret_bool (HNO.out (flowOk_seen HX.out H2.out)).symm, HB2.out⟩
          · have h2' : seenB t.out k x.to = false := by simpa using h2
            rw [h2'] at hlk
            have H2 := Lib.hid h2'
            clear h2 h2'
            go_wp2_with fail
            refine (implExpOk_c _ _ _ _).mono ?_
            rintro e w3 ⟨rfl, hb3⟩
            have hR3 := HR2.out.below hb3 (by omega)
            have hF3 := HF2.out.below hb3 hz2
            have hB3 := HB2.out.trans (hb3.mono HB2.out.size)
            have hSV3 := HSV2.out.keep hb3 (by omega) (Nat.le_refl _)
            have hz3 := Nat.le_trans hz2 hb3.size
            clear f0 f1 f2 f3 hlk hb3
            have f0 := (hF3.cell (j := 0) rfl).1
            have f1 := (hF3.cell (j := 1) rfl).1
            have HR3 := Lib.hid hR3
            have HSV3 := Lib.hid hSV3
            have HB3 := Lib.hid hB3
            clear hR3 hF3 hSV3 hB3 HR2 HF2 HSV2 HB2
            by_cases h4 : askOk ⟨x.op, x.var, x.k⟩ = true
            · have H4 := Lib.hid h4
              rw [h4]
              clear h4
              by_cases h5 : (L == decide (x.op = 0)) = true
              · have H5 := Lib.hid h5
                have h5' : ((x.op == 0) == L) = true := by
                  have : (x.op == 0) = decide (x.op = 0) := rfl
                  rw [this]; revert h5; cases L <;> cases decide (x.op = 0) <;> simp
                clear h5
                obtain ⟨w4, hrun4, hSV4, hg4⟩ := HSV3.out.update (by omega) HX.out (by omega) (by omega)
                have HSV4 := Lib.hid hSV4
                have HB4 := Lib.hid (HB3.out.grown hg4 HB3.out.size (fun k hk => by injection hk with hk; subst hk; omega))
                have HR4 := Lib.hid (HR3.out.keep (w' := w4) (fun g h1 h2 => hg4.block g (by omega) (by simp; omega)))
                have HZ4 := Lib.hid (Nat.le_trans hz3 hg4.size)
                clear hSV4 hg4
                go_wp2
                go_roundw
                case rel =>
                  refine ⟨k + 1, by omega, by go_num, fun j hj => ?_, HR4.out, HSV4.out, HB4.out, by have := HZ4.out; omega⟩
                  by_cases hjk : j < k
                  · exact HN.out j hjk
                  · obtain rfl : j = k := by omega
                    exact flowOk_true HX.out H1.out H2.out H4.out HL.out H5.out
                case measure => simp [intOf]; omega
              · have h5n : (L == decide (x.op = 0)) = false := by simpa using h5
                have H5 := Lib.hid h5n
                have h5' : ((x.op == 0) == L) = false := by
                  have : (x.op == 0) = decide (x.op = 0) := rfl
                  rw [this]; revert h5n; cases L <;> cases decide (x.op = 0) <;> simp
                clear h5 h5n
                go_wp2
                go_ret
                exact ⟨ret_bool (HNO.out (flowOk_last HX.out HL.out H5.out)).symm, HB3.out⟩
            · have h4' : askOk ⟨x.op, x.var, x.k⟩ = false := by simpa using h4
              have H4 := Lib.hid h4'
              rw [h4']
              clear h4 h4'
              go_wp2
              go_ret
              exact ⟨ret_bool (HNO.out (flowOk_ask HX.out H4.out)).symm, HB3.out⟩
        · have h1' : inB x.to 0 (places - 1) = false := by simpa using h1
          have H1 := Lib.hid h1'
          rw [h1']
          clear h1 h1'
          go_wp2
          go_ret
          exact ⟨ret_bool (HNO.out (flowOk_low HX.out H1.out)).symm, HB2.out⟩
    · have hkn : k = t.out.length := by omega
      clear hb
      go_wp2_with fail
      refine (implIn_c _ _ _ _).mono ?_
      rintro e w' ⟨rfl, rfl⟩
      go_wp2
      go_ret
      exact ⟨ret_bool (by rw [outB, all_range (fun j hj => HN.out j (by omega))]; simp), HB.out⟩
end Go.Proofs.Ytoggdhbnkbdilaa
