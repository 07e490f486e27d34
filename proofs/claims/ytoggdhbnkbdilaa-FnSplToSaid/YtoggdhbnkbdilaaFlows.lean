/- Whether what leads out of a task is ok: the reference. -/
import Derived.Test.YtoggdhbnkbdilaaRise
import Derived.Deep.DeepCutAuto
namespace Go.Proofs.Ytoggdhbnkbdilaa
open Go.RowKit
set_option linter.unusedVariables false
set_option linter.unusedSimpArgs false

theorem l2Has_c (zs : List Int) (lo hi : Nat) (A : Option Addr) (b off c : Nat) (z : Int) (w : World) (hV : Row w lo hi A b off (ints zs)) (hm : zs.length ≤ maxLen) :
    Calls Try.prog 66 #[.slice A zs.length c, .int .i64 z] w fun e w' => e = .returned (.bool (decide (z ∈ zs))) ∧ w = w' := by
  unfold maxLen at hm
  go_enter Try.func66, Try.ntmps66
  go_wp2
  go_loop [5] (fun i => ∃ k : Nat, k ≤ zs.length ∧ i = .int .i64 k ∧ (∀ j y, j < k → zs[j]? = some y → y ≠ z)) (fun i => zs.length - (intOf i).toNat)
  case atStart => exact ⟨0, Nat.zero_le _, rfl, fun j y hj => absurd hj (Nat.not_lt_zero _)⟩
  case round =>
    obtain ⟨k, hk, rfl, hn⟩ := hrel
    have HN := Lib.hid hn
    clear hn
    by_cases hlt : k < zs.length
    · obtain ⟨rfl, _, _, x, hx, hc, _⟩ := hV.int hlt
      have HX := Lib.hid hx
      clear hx
      by_cases hxz : x = z
      · have HZ := Lib.hid hxz
        have e : (x == z) = true := by simpa using hxz
        clear hxz
        go_wp2
        go_ret
        exact ⟨ret_bool (by rw [eq_comm, decide_eq_true_eq, ← HZ.out]; exact List.mem_of_getElem? HX.out), rfl⟩
      · have HZ := Lib.hid hxz
        have e : (x == z) = false := by simpa using hxz
        clear hxz
        go_wp2
        go_round
        case rel =>
          refine ⟨k + 1, by omega, by go_num, fun j y hj hy => ?_⟩
          by_cases hjk : j = k
          · subst hjk
            have e := HX.out.symm.trans hy
            injection e with e; rw [← e]; exact HZ.out
          · exact HN.out j y (by omega) hy
        case measure => simp [intOf]; omega
    · go_wp2
      go_ret
      refine ⟨ret_bool ?_, rfl⟩
      rw [eq_comm, decide_eq_false_iff_not]
      intro hz
      obtain ⟨j, hj⟩ := List.getElem?_of_mem hz
      exact HN.out j z (by have := lt_of_some hj; omega) hj rfl

/-- Flow j of a task is ok: it leads to a place, its question is ok, it always holds just if it is the last one or the task splits to all, and no flow before it leads to the same place. -/
def flowOk (places split : Int) (l : List NFlow) (j : Nat) : Bool :=
  inB (l.getD j default).to 1 (places - 1) && (askOk ⟨(l.getD j default).op, (l.getD j default).var, (l.getD j default).k⟩ &&
    (((decide (j + 1 = l.length) || decide (split = 1)) == decide ((l.getD j default).op = 0)) && (List.range j).all fun i => decide ((l.getD i default).to ≠ (l.getD j default).to)))
def outB (places split : Int) (l : List NFlow) : Bool := inB l.length 1 3 && (List.range l.length).all (flowOk places split l)

set_option maxRecDepth 10000 in
set_option maxHeartbeats 2000000 in
theorem l2Flows_c (t : NTask) (vi vo vc : Value) (lo hi : Nat) (places : Int) (w : World) (hV : TaskV w lo hi t vi vo vc) (hhi : hi ≤ w.heap.size) (hp1 : 0 ≤ places) (hp2 : places ≤ 1000) :
    Calls Try.prog 81 #[.agg #[.int .i64 t.join, .int .i64 t.split, vi, vo, vc, .int .i64 t.role, .int .i64 t.apart, .int .i64 t.all, .int .i64 t.need], .int .i64 places] w
      fun e w' => e = .returned (.bool (outB places t.split t.out)) ∧ Below w.heap.size w w' := by
  obtain ⟨Ao, bo, oo, co, rfl, hmo, hRo⟩ := hV.out
  unfold maxLen at hmo
  go_enter Try.func81, Try.ntmps81
  go_wp2_with fail
  refine (l1In_c _ _ _ _).mono ?_
  rintro e w' ⟨rfl, rfl⟩
  by_cases hin : inB t.out.length 1 3 = true
  · have HIN := Lib.hid hin
    have hin' := inB_iff.1 hin
    have R0 := Row.newAt w #[.int .i64 t.join, .int .i64 t.split, vi, .slice Ao t.out.length co, vc, .int .i64 t.role, .int .i64 t.apart, .int .i64 t.all, .int .i64 t.need] 38 _ rfl
    have hB0 := (Below.refl w.heap.size w).alloc (Nat.le_refl _) (.cells #[.int .i64 t.join, .int .i64 t.split, vi, .slice Ao t.out.length co, vc, .int .i64 t.role, .int .i64 t.apart, .int .i64 t.all, .int .i64 t.need] 38)
    rw [hin]
    clear hin
    go_wp2
    go_loopw [5] (fun i wr => ∃ k : Nat, k ≤ t.out.length ∧ i = .int .i64 k ∧ (∀ j, j < k → flowOk places t.split t.out j = true) ∧ Row wr w.heap.size (w.heap.size + 1) (some ⟨w.heap.size, 0, none⟩) w.heap.size 0 [.int .i64 t.join, .int .i64 t.split, vi, .slice Ao t.out.length co, vc, .int .i64 t.role, .int .i64 t.apart, .int .i64 t.all, .int .i64 t.need] ∧ Below w.heap.size w wr ∧ w.heap.size + 1 ≤ wr.heap.size) (fun i _ => t.out.length - (intOf i).toNat)
    case atStart => exact ⟨0, Nat.zero_le _, rfl, fun j hj => absurd hj (Nat.not_lt_zero _), R0, hB0, by simp⟩
    case round =>
      obtain ⟨k, hk, rfl, hn, hR, hb, hsz⟩ := hrel
      obtain ⟨wo, rfl⟩ : ∃ wo, wo = wr := ⟨_, rfl⟩
      clear R0 hB0
      obtain ⟨⟨s0, s1, s2, s3, s4, s5, s6, s7, s8⟩, _⟩ := hR.nine
      have HN := Lib.hid hn
      have HR := Lib.hid hR
      have HB := Lib.hid hb
      have HS := Lib.hid hsz
      clear hn hR s0 s2 s4 s5 s6 s7 s8
      by_cases hlt : k < t.out.length
      · obtain ⟨rfl, _, h3, x, hx, ⟨c0, c1, c2, c3⟩, _⟩ := hRo.flow hlt
        have d0 := (hb.cell (p := ⟨bo, oo + k * 4, none⟩) (by show bo < _; omega)).trans c0
        have d1 := (hb.cell (p := ⟨bo, oo + k * 4 + 1, none⟩) (by show bo < _; omega)).trans c1
        have d2 := (hb.cell (p := ⟨bo, oo + k * 4 + 2, none⟩) (by show bo < _; omega)).trans c2
        have d3 := (hb.cell (p := ⟨bo, oo + k * 4 + 3, none⟩) (by show bo < _; omega)).trans c3
        have HX := Lib.hid hx
        have HRo := Lib.hid hRo
        clear hb c0 c1 c2 c3 hx hRo
        have z1 : w.heap.size < wo.heap.size := by omega
        have z2 : bo < wo.heap.size := by omega
        have z3 : w.heap.size ≠ wo.heap.size := by omega
        have z4 : bo ≠ wo.heap.size := by omega
        have e1 : IntKind.i64.wrap ((t.out.length : Int) - 1) = (t.out.length : Int) - 1 := IntWalk.i64_in _ (by omega)
        have hko : ((k : Int) = (t.out.length : Int) - 1) ↔ k + 1 = t.out.length := by omega
        have HKO := Lib.hid hko
        clear hko
        go_upto_region 7 with fail
        go_cut [7] (fun s7 wc => s7 = .bool (decide (k + 1 = t.out.length) || decide (t.split = 1)) ∧ wc = wo.alloc (.cells #[.int .i64 x.to, .int .i64 x.op, .int .i64 x.var, .int .i64 x.k] 47))
        case first =>
          by_cases h : k + 1 = t.out.length
          · have e : ((k : Int) == (t.out.length : Int) - 1) = true := by simp; omega
            have H := Lib.hid h
            clear h
            go_wp2
            go_meet
            exact ⟨by simp [H.out], rfl⟩
          · have e : ((k : Int) == (t.out.length : Int) - 1) = false := by simp; omega
            have H := Lib.hid h
            clear h
            go_wp2
            go_meet
            exact ⟨by simp [H.out, e]; rfl, rfl⟩
        case rest =>
          obtain ⟨rfl, rfl⟩ := hcut
          generalize hL : (decide (k + 1 = t.out.length) || decide (t.split = 1)) = L
          have HL := Lib.hid hL
          clear hL
          go_wp2_with fail
          refine (l1In_c _ _ _ _).mono ?_
          rintro e w' ⟨rfl, rfl⟩
          have HFO : ∀ b1 b2 b3, inB x.to 1 (places - 1) = b1 → askOk ⟨x.op, x.var, x.k⟩ = b2 → (L == decide (x.op = 0)) = b3 → (b1 && (b2 && b3)) = false → outB places t.split t.out = false := by
            intro b1 b2 b3 h1 h2 h3 h4
            rw [outB, not_all_range hlt]
            · simp
            · rw [flowOk, getD_of HX.out, h1, h2, HL.out, h3]
              cases b1 <;> cases b2 <;> cases b3 <;> simp_all
          have HFO := Lib.hid HFO
          by_cases h1 : inB x.to 1 (places - 1) = true
          · have H1 := Lib.hid h1
            rw [h1]
            clear h1
            go_wp2_with fail
            refine (specExpOk_c _ _ _ _).mono ?_
            rintro e w2 ⟨rfl, hb2⟩
            have hR2 := (HR.out.alloc (by omega) (.cells #[.int .i64 x.to, .int .i64 x.op, .int .i64 x.var, .int .i64 x.k] 47)).below hb2 (by simp; omega)
            have hF2 := (Row.new wo #[.int .i64 x.to, .int .i64 x.op, .int .i64 x.var, .int .i64 x.k] 47).below hb2 (by simp)
            have hB2 := (HB.out.alloc (by omega) (.cells #[.int .i64 x.to, .int .i64 x.op, .int .i64 x.var, .int .i64 x.k] 47)).trans (hb2.mono (by simp; omega))
            have hz2 : wo.heap.size + 1 ≤ w2.heap.size := by simpa using hb2.size
            have s3' := (hR2.cell (j := 3) rfl).1
            have f0 := (hF2.cell (j := 0) rfl).1
            have f1 := (hF2.cell (j := 1) rfl).1
            have HR2 := Lib.hid hR2
            have HB2 := Lib.hid hB2
            have HZ2 := Lib.hid hz2
            clear hb2 hR2 hF2 hB2 d0 d1 d2 d3 s1 s3
            by_cases h2 : askOk ⟨x.op, x.var, x.k⟩ = true
            · have H2 := Lib.hid h2
              rw [h2]
              clear h2
              by_cases h3 : (L == decide (x.op = 0)) = true
              · have H3 := Lib.hid h3
                have h3' : (L == (x.op == 0)) = true := by
                  have : (x.op == 0) = decide (x.op = 0) := rfl
                  rw [this]; exact h3
                clear h3
                go_wp2
                go_loopw [8] (fun i wr => ∃ j m : Nat, j ≤ k ∧ i = .int .i64 j ∧ (∀ i, i < j → (t.out.getD i default).to ≠ x.to) ∧ wr = w2.drewN m) (fun i _ => k - (intOf i).toNat)
                case atStart => exact ⟨0, 0, Nat.zero_le _, rfl, fun i hi => absurd hi (Nat.not_lt_zero _), rfl⟩
                case round =>
                  obtain ⟨j, m, hj, rfl, hne, hw⟩ := hrel
                  have HNE := Lib.hid hne
                  have HW := Lib.hid hw
                  have s4 : wr.cell? ⟨w.heap.size, 3, none⟩ = some (.slice (some ⟨bo, oo, none⟩) t.out.length co) := by rw [hw]; exact s3'
                  have g0 : wr.cell? ⟨wo.heap.size, 0, none⟩ = some (.int .i64 x.to) := by rw [hw]; exact f0
                  clear hne
                  by_cases hjk : j < k
                  · obtain ⟨_, _, _, y, hy, ⟨q0, _⟩, _⟩ := HRo.out.flow (k := j) (by omega)
                    have r0 : wr.cell? ⟨bo, oo + j * 4, none⟩ = some (.int .i64 y.to) := by rw [hw]; exact (HB2.out.cell (p := ⟨bo, oo + j * 4, none⟩) (by show bo < _; omega)).trans q0
                    have HY := Lib.hid hy
                    have hj1 : (j : Int) < (t.out.length : Int) := by omega
                    have hj2 : (j : Int) < (k : Int) := by omega
                    clear hw hy q0
                    by_cases hyx : y.to = x.to
                    · have e2 : (y.to == x.to) = true := by simpa using hyx
                      have HYX := Lib.hid hyx
                      clear hyx
                      go_wp2
                      go_quiet (fail)
                      go_wp2
                      go_ret
                      refine ⟨ret_bool ?_, by rw [HW.out]; exact below_drewN (below_drewN HB2.out _) _⟩
                      rw [outB, not_all_range hlt]
                      · simp
                      · rw [flowOk, getD_of HX.out, not_all_range hjk]
                        · simp
                        · rw [getD_of HY.out, HYX.out]; simp
                    · have e2 : (y.to == x.to) = false := by simpa using hyx
                      have HYX := Lib.hid hyx
                      clear hyx
                      go_wp2
                      go_quiet (fail)
                      go_wp2
                      go_roundw
                      case rel =>
                        refine ⟨j + 1, _, by omega, by go_num, fun i hi => ?_, by rw [HW.out, World.drewN_drewN]⟩
                        by_cases hij : i < j
                        · exact HNE.out i hij
                        · obtain rfl : i = j := by omega
                          rw [getD_of HY.out]; exact HYX.out
                      case measure => simp [intOf]; omega
                  · have hjk' : j = k := by omega
                    have HJK := Lib.hid hjk'
                    have hj2 : ¬ ((j : Int) < (k : Int)) := by omega
                    clear hw hjk'
                    go_wp2
                    go_roundw
                    case rel =>
                      refine ⟨k + 1, by omega, by go_num, fun i hi => ?_, by rw [HW.out]; exact HR2.out.drewN m, by rw [HW.out]; exact below_drewN HB2.out m, by rw [HW.out]; have := HZ2.out; show _ ≤ w2.heap.size; omega⟩
                      by_cases hij : i < k
                      · exact HN.out i hij
                      · obtain rfl : i = k := by omega
                        rw [flowOk, getD_of HX.out, H1.out, H2.out, HL.out, H3.out, all_range (fun q hq => by simpa using HNE.out q (by have := HJK.out; omega))]
                        rfl
                    case measure => simp [intOf]; omega
              · have H3 := Lib.hid h3
                have h3' : (L == (x.op == 0)) = false := by
                  have : (x.op == 0) = decide (x.op = 0) := rfl
                  rw [this]; exact Bool.eq_false_iff.2 h3
                clear h3
                go_wp2
                go_ret
                exact ⟨ret_bool (HFO.out _ _ false H1.out H2.out (by simpa using H3.out) (by simp)).symm, HB2.out⟩
            · have h2' : askOk ⟨x.op, x.var, x.k⟩ = false := by simpa using h2
              have H2 := Lib.hid h2'
              rw [h2']
              clear h2 h2'
              go_wp2
              go_ret
              exact ⟨ret_bool (HFO.out _ _ _ H1.out H2.out rfl (by simp)).symm, HB2.out⟩
          · have h1' : inB x.to 1 (places - 1) = false := by simpa using h1
            have H1 := Lib.hid h1'
            rw [h1']
            clear h1 h1'
            go_wp2
            go_ret
            exact ⟨ret_bool (HFO.out _ _ _ H1.out rfl rfl (by simp)).symm, HB.out.alloc (by omega) _⟩
      · have hkn : k = t.out.length := by omega
        clear hb
        go_wp2
        go_ret
        exact ⟨ret_bool (by rw [outB, HIN.out, all_range (fun j hj => HN.out j (by omega))]; rfl), HB.out⟩
  · have hin' : inB t.out.length 1 3 = false := by simpa using hin
    have HIN := Lib.hid hin'
    rw [hin']
    clear hin hin'
    go_wp2
    go_ret
    exact ⟨ret_bool (by simp [outB, HIN.out]), (Below.refl _ _).alloc (Nat.le_refl _) _⟩
end Go.Proofs.Ytoggdhbnkbdilaa
