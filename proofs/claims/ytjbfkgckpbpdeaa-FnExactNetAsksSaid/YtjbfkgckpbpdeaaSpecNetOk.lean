/- Places that rise: the reference's and the program's test of a list of places. -/
import Derived.Test.YtjbfkgckpbpdeaaNetEq
import Derived.Deep.DeepCutAuto
namespace Go.Proofs.Ytjbfkgckpbpdeaa
open Go.RowKit
set_option linter.unusedVariables false
set_option linter.unusedSimpArgs false

theorem quiet_q {P : Program} {f : FuncId} {args : Array Value} {w : World} {n : Nat} {v : Value}
    (h : Calls P f args (w.drewN n) fun e w' => e = .returned v ∧ ∃ m, w' = (w.drewN n).drewN m) : Calls P f args (w.drewN n) fun e w'' => e = .returned v ∧ ∃ m, w'' = w.drewN m :=
  h.mono fun _ _ ⟨he, m, hm⟩ => ⟨he, n + m, by rw [hm, World.drewN_drewN]⟩
theorem quiet_w {P : Program} {f : FuncId} {args : Array Value} {w : World} {n : Nat} {v : Value}
    (h : Calls P f args (w.drewN n) fun e w' => e = .returned v ∧ w.drewN n = w') : Calls P f args (w.drewN n) fun e w'' => e = .returned v ∧ ∃ m, w'' = w.drewN m :=
  h.mono fun _ _ ⟨he, hm⟩ => ⟨he, n, hm.symm⟩
theorem all_range {n : Nat} {p : Nat → Bool} (h : ∀ j, j < n → p j = true) : (List.range n).all p = true := by
  rw [List.all_eq_true]; intro j hj; exact h j (List.mem_range.1 hj)
theorem not_all_range {n k : Nat} {p : Nat → Bool} (hk : k < n) (h : p k = false) : (List.range n).all p = false := by
  rw [List.all_eq_false]; exact ⟨k, List.mem_range.2 hk, by simp [h]⟩
theorem of_all_range {n : Nat} {p : Nat → Bool} (h : (List.range n).all p = true) {j : Nat} (hj : j < n) : p j = true := by
  rw [List.all_eq_true] at h; exact h j (List.mem_range.2 hj)
theorem getD_of {α : Type} {l : List α} {k : Nat} {x d : α} (h : l[k]? = some x) : l.getD k d = x := by simp [List.getD, h]

/-- Place j of a list lies within bounds, and above the place before it. -/
def stepOk (low high : Int) (zs : List Int) (j : Nat) : Bool := inB (zs.getD j 0) low high && (j == 0 || decide (zs.getD (j - 1) 0 < zs.getD j 0))
def risesB (zs : List Int) (least most low high : Int) : Bool := inB zs.length least most && (List.range zs.length).all (stepOk low high zs)

theorem l2Rises_c (zs : List Int) (lo hi : Nat) (A : Option Addr) (b off c : Nat) (least most low high : Int) (w : World) (hV : Row w lo hi A b off (ints zs)) (hm : zs.length ≤ maxLen) :
    Calls Try.prog 35 #[.slice A zs.length c, .int .i64 least, .int .i64 most, .int .i64 low, .int .i64 high] w fun e w' => e = .returned (.bool (risesB zs least most low high)) ∧ ∃ m, w' = w.drewN m := by
  unfold maxLen at hm
  go_enter Try.func35, Try.ntmps35
  go_wp2_with fail
  refine (l1In_c _ _ _ _).mono ?_
  rintro e w' ⟨rfl, rfl⟩
  by_cases hin : inB zs.length least most = true
  · have HIN := Lib.hid hin
    rw [hin]
    clear hin
    go_wp2
    go_loopw [11] (fun i wr => ∃ k m : Nat, k ≤ zs.length ∧ i = .int .i64 k ∧ (∀ j, j < k → stepOk low high zs j = true) ∧ wr = w.drewN m) (fun i _ => zs.length - (intOf i).toNat)
    case atStart => exact ⟨0, 0, Nat.zero_le _, rfl, fun j hj => absurd hj (Nat.not_lt_zero _), rfl⟩
    case round =>
      obtain ⟨k, m, hk, rfl, hn, hw⟩ := hrel
      have HN := Lib.hid hn
      have HW := Lib.hid hw
      have hV' : Row wr lo hi A b off (ints zs) := by rw [hw]; exact hV
      clear hn hw hV
      by_cases hlt : k < zs.length
      · obtain ⟨rfl, _, _, x, hx, hc, _⟩ := hV'.int hlt
        have HX := Lib.hid hx
        have hlt1 : (k : Int) < (zs.length : Int) := by omega
        by_cases hb : inB x low high = true
        · have HB := Lib.hid hb
          have HQ := Lib.hid (show ∀ n, Calls Try.prog 22 #[.int .i64 x, .int .i64 low, .int .i64 high] (wr.drewN n) fun e w'' => e = .returned (.bool true) ∧ ∃ m', w'' = wr.drewN m' from fun n => by rw [← hb]; exact quiet_w (l1In_c _ _ _ _))
          clear hb
          by_cases h0 : k = 0
          · have h0' : ¬ ((0 : Int) < (k : Int)) := by omega
            have h0n : ¬ (0 < k) := by omega
            have h0d : decide ((0 : Int) < (k : Int)) = false := by simpa using h0n
            have h0e : decide (0 < k) = false := by simpa using h0n
            have H0 := Lib.hid h0
            clear h0 hx
            go_wp2
            go_quiet (first | (go_at_call 22; exact HQ.out _))
            go_wp2
            go_roundw
            case rel =>
              have h0 := H0.out
              refine ⟨k + 1, _, by omega, by go_num, fun j hj => ?_, by rw [HW.out, World.drewN_drewN]⟩
              by_cases hjk : j < k
              · omega
              obtain rfl : j = k := by omega
              rw [stepOk, getD_of HX.out, HB.out]; simp [h0]
            case measure => simp [intOf]; omega
          · obtain ⟨k', rfl⟩ : ∃ k', k = k' + 1 := ⟨k - 1, by omega⟩
            obtain ⟨_, _, _, y, hy, hd, _⟩ := hV'.int (k := k') (by omega)
            have HY := Lib.hid hy
            have h1 : (0 : Int) < ((k' + 1 : Nat) : Int) := by omega
            have h2 : IntKind.i64.wrap (((k' + 1 : Nat) : Int) - 1) = (k' : Int) := by rw [IntWalk.i64_in _ (by omega)]; omega
            have h3 : ((k' : Nat) : Int) < (zs.length : Int) := by omega
            clear hx hy
            by_cases hyx : x ≤ y
            · have HYX := Lib.hid hyx
              go_wp2
              go_quiet (first | (go_at_call 22; exact HQ.out _))
              go_wp2
              go_ret
              refine ⟨ret_bool ?_, _, by rw [HW.out, World.drewN_drewN]⟩
              rw [risesB, not_all_range (k := k' + 1) hlt]
              · simp
              · rw [stepOk, getD_of HX.out, show k' + 1 - 1 = k' from rfl, getD_of HY.out]
                have := HYX.out
                simp; intro _; omega
            · have hxy : y < x := by omega
              have hyx' : decide (x ≤ y) = false := by simpa using hyx
              have HYX := Lib.hid hxy
              go_wp2
              go_quiet (first | (go_at_call 22; exact HQ.out _))
              go_wp2
              go_roundw
              case rel =>
                refine ⟨k' + 1 + 1, _, by omega, by go_num, fun j hj => ?_, by rw [HW.out, World.drewN_drewN]⟩
                by_cases hjk : j < k' + 1
                · exact HN.out j hjk
                · obtain rfl : j = k' + 1 := by omega
                  rw [stepOk, getD_of HX.out, HB.out, show k' + 1 - 1 = k' from rfl, getD_of HY.out]
                  have := HYX.out
                  simp; omega
              case measure => simp [intOf]; omega
        · have hb' : inB x low high = false := by simpa using hb
          have HB := Lib.hid hb'
          have HQ := Lib.hid (show ∀ n, Calls Try.prog 22 #[.int .i64 x, .int .i64 low, .int .i64 high] (wr.drewN n) fun e w'' => e = .returned (.bool false) ∧ ∃ m', w'' = wr.drewN m' from fun n => by rw [← hb']; exact quiet_w (l1In_c _ _ _ _))
          clear hb hb' hx
          go_wp2
          go_quiet (first | (go_at_call 22; exact HQ.out _))
          go_wp2
          go_ret
          exact ⟨ret_bool (by rw [risesB, not_all_range hlt (by rw [stepOk, getD_of HX.out, HB.out]; rfl)]; simp), _, by rw [HW.out, World.drewN_drewN]⟩
      · go_wp2
        go_ret
        exact ⟨ret_bool (by rw [risesB, all_range (fun j hj => HN.out j (by omega)), HIN.out]; rfl), _, HW.out⟩
  · have hin' : inB zs.length least most = false := by simpa using hin
    have HIN := Lib.hid hin'
    rw [hin']
    clear hin hin'
    go_wp2
    go_ret
    exact ⟨ret_bool (by simp [risesB, HIN.out]), 0, rfl⟩
end Go.Proofs.Ytjbfkgckpbpdeaa

/- Whether what leads out of a task is ok: the reference. -/
namespace Go.Proofs.Ytjbfkgckpbpdeaa
open Go.RowKit
set_option linter.unusedVariables false
set_option linter.unusedSimpArgs false

theorem l2Has_c (zs : List Int) (lo hi : Nat) (A : Option Addr) (b off c : Nat) (z : Int) (w : World) (hV : Row w lo hi A b off (ints zs)) (hm : zs.length ≤ maxLen) :
    Calls Try.prog 36 #[.slice A zs.length c, .int .i64 z] w fun e w' => e = .returned (.bool (decide (z ∈ zs))) ∧ w = w' := by
  unfold maxLen at hm
  go_enter Try.func36, Try.ntmps36
  go_wp2
  go_loop [5] (fun i => ∃ k : Nat, k ≤ zs.length ∧ i = .int .i64 k ∧ (∀ j y, j < k → zs[j]? = some y → y ≠ z)) (fun i => zs.length - (intOf i).toNat)
  case atStart => exact ⟨0, Nat.zero_le _, rfl, fun j y hj => absurd hj (Nat.not_lt_zero _)⟩
  case round =>
    obtain ⟨k, hk, rfl, hn⟩ := hrel
    have HN := Lib.hid hn
    clear hn
    by_cases hlt : k < zs.length
    · obtain ⟨rfl, _, _, x, hx, hc, _⟩ := hV.int hlt
      have HX := Lib.hid hx
      clear hx
      by_cases hxz : x = z
      · have HZ := Lib.hid hxz
        have e : (x == z) = true := by simpa using hxz
        clear hxz
        go_wp2
        go_ret
        exact ⟨ret_bool (by rw [eq_comm, decide_eq_true_eq, ← HZ.out]; exact List.mem_of_getElem? HX.out), rfl⟩
      · have HZ := Lib.hid hxz
        have e : (x == z) = false := by simpa using hxz
        clear hxz
        go_wp2
        go_round
        case rel =>
          refine ⟨k + 1, by omega, by go_num, fun j y hj hy => ?_⟩
          by_cases hjk : j = k
          · subst hjk
            have e := HX.out.symm.trans hy
            injection e with e; rw [← e]; exact HZ.out
          · exact HN.out j y (by omega) hy
        case measure => simp [intOf]; omega
    · go_wp2
      go_ret
      refine ⟨ret_bool ?_, rfl⟩
      rw [eq_comm, decide_eq_false_iff_not]
      intro hz
      obtain ⟨j, hj⟩ := List.getElem?_of_mem hz
      exact HN.out j z (by have := lt_of_some hj; omega) hj rfl

/-- Flow j of a task is ok: it leads to a place, its question is ok, it always holds just if it is the last one or the task splits to all, and no flow before it leads to the same place. -/
def flowOk (places split : Int) (l : List NFlow) (j : Nat) : Bool :=
  inB (l.getD j default).to 1 (places - 1) && (askOk ⟨(l.getD j default).op, (l.getD j default).var, (l.getD j default).k⟩ &&
    (((decide (j + 1 = l.length) || decide (split = 1)) == decide ((l.getD j default).op = 0)) && (List.range j).all fun i => decide ((l.getD i default).to ≠ (l.getD j default).to)))
def outB (places split : Int) (l : List NFlow) : Bool := inB l.length 1 3 && (List.range l.length).all (flowOk places split l)

set_option maxRecDepth 10000 in
set_option maxHeartbeats 2000000 in
theorem l2Flows_c (t : NTask) (vi vo vc : Value) (lo hi : Nat) (places : Int) (w : World) (hV : TaskV w lo hi t vi vo vc) (hhi : hi ≤ w.heap.size) (hp1 : 0 ≤ places) (hp2 : places ≤ 1000) :
    Calls Try.prog 37 #[.agg #[.int .i64 t.join, .int .i64 t.split, vi, vo, vc, .int .i64 t.role, .int .i64 t.apart, .int .i64 t.all, .int .i64 t.need], .int .i64 places] w
      fun e w' => e = .returned (.bool (outB places t.split t.out)) ∧ Below w.heap.size w w' := by
  obtain ⟨Ao, bo, oo, co, rfl, hmo, hRo⟩ := hV.out
  unfold maxLen at hmo
  go_enter Try.func37, Try.ntmps37
  go_wp2_with fail
  refine (l1In_c _ _ _ _).mono ?_
  rintro e w' ⟨rfl, rfl⟩
  by_cases hin : inB t.out.length 1 3 = true
  · have HIN := Lib.hid hin
    have hin' := inB_iff.1 hin
    have R0 := Row.newAt w #[.int .i64 t.join, .int .i64 t.split, vi, .slice Ao t.out.length co, vc, .int .i64 t.role, .int .i64 t.apart, .int .i64 t.all, .int .i64 t.need] 41 _ rfl
    have hB0 := (Below.refl w.heap.size w).alloc (Nat.le_refl _) (.cells #[.int .i64 t.join, .int .i64 t.split, vi, .slice Ao t.out.length co, vc, .int .i64 t.role, .int .i64 t.apart, .int .i64 t.all, .int .i64 t.need] 41)
    rw [hin]
    clear hin
    go_wp2
    go_loopw [5] (fun i wr => ∃ k : Nat, k ≤ t.out.length ∧ i = .int .i64 k ∧ (∀ j, j < k → flowOk places t.split t.out j = true) ∧ Row wr w.heap.size (w.heap.size + 1) (some ⟨w.heap.size, 0, none⟩) w.heap.size 0 [.int .i64 t.join, .int .i64 t.split, vi, .slice Ao t.out.length co, vc, .int .i64 t.role, .int .i64 t.apart, .int .i64 t.all, .int .i64 t.need] ∧ Below w.heap.size w wr ∧ w.heap.size + 1 ≤ wr.heap.size) (fun i _ => t.out.length - (intOf i).toNat)
    case atStart => exact ⟨0, Nat.zero_le _, rfl, fun j hj => absurd hj (Nat.not_lt_zero _), R0, hB0, by simp⟩
    case round =>
      obtain ⟨k, hk, rfl, hn, hR, hb, hsz⟩ := hrel
      obtain ⟨wo, rfl⟩ : ∃ wo, wo = wr := ⟨_, rfl⟩
      clear R0 hB0
      obtain ⟨⟨s0, s1, s2, s3, s4, s5, s6, s7, s8⟩, _⟩ := hR.nine
      have HN := Lib.hid hn
      have HR := Lib.hid hR
      have HB := Lib.hid hb
      have HS := Lib.hid hsz
      clear hn hR s0 s2 s4 s5 s6 s7 s8
      by_cases hlt : k < t.out.length
      · obtain ⟨rfl, _, h3, x, hx, ⟨c0, c1, c2, c3⟩, _⟩ := hRo.flow hlt
        have d0 := (hb.cell (p := ⟨bo, oo + k * 4, none⟩) (by show bo < _; omega)).trans c0
        have d1 := (hb.cell (p := ⟨bo, oo + k * 4 + 1, none⟩) (by show bo < _; omega)).trans c1
        have d2 := (hb.cell (p := ⟨bo, oo + k * 4 + 2, none⟩) (by show bo < _; omega)).trans c2
        have d3 := (hb.cell (p := ⟨bo, oo + k * 4 + 3, none⟩) (by show bo < _; omega)).trans c3
        have HX := Lib.hid hx
        have HRo := Lib.hid hRo
        clear hb c0 c1 c2 c3 hx hRo
        have z1 : w.heap.size < wo.heap.size := by omega
        have z2 : bo < wo.heap.size := by omega
        have z3 : w.heap.size ≠ wo.heap.size := by omega
        have z4 : bo ≠ wo.heap.size := by omega
        have e1 : IntKind.i64.wrap ((t.out.length : Int) - 1) = (t.out.length : Int) - 1 := IntWalk.i64_in _ (by omega)
        have hko : ((k : Int) = (t.out.length : Int) - 1) ↔ k + 1 = t.out.length := by omega
        have HKO := Lib.hid hko
        clear hko
        go_upto_region 7 with fail
        go_cut [7] (fun s7 wc => s7 = .bool (decide (k + 1 = t.out.length) || decide (t.split = 1)) ∧ wc = wo.alloc (.cells #[.int .i64 x.to, .int .i64 x.op, .int .i64 x.var, .int .i64 x.k] 86))
        case first =>
          by_cases h : k + 1 = t.out.length
          · have e : ((k : Int) == (t.out.length : Int) - 1) = true := by simp; omega
            have H := Lib.hid h
            clear h
            go_wp2
            go_meet
            exact ⟨by simp [H.out], rfl⟩
          · have e : ((k : Int) == (t.out.length : Int) - 1) = false := by simp; omega
            have H := Lib.hid h
            clear h
            go_wp2
            go_meet
            exact ⟨by simp [H.out, e]; rfl, rfl⟩
        case rest =>
          obtain ⟨rfl, rfl⟩ := hcut
          generalize hL : (decide (k + 1 = t.out.length) || decide (t.split = 1)) = L
          have HL := Lib.hid hL
          clear hL
          go_wp2_with fail
          refine (l1In_c _ _ _ _).mono ?_
          rintro e w' ⟨rfl, rfl⟩
          have HFO : ∀ b1 b2 b3, inB x.to 1 (places - 1) = b1 → askOk ⟨x.op, x.var, x.k⟩ = b2 → (L == decide (x.op = 0)) = b3 → (b1 && (b2 && b3)) = false → outB places t.split t.out = false := by
            intro b1 b2 b3 h1 h2 h3 h4
            rw [outB, not_all_range hlt]
            · simp
            · rw [flowOk, getD_of HX.out, h1, h2, HL.out, h3]
              cases b1 <;> cases b2 <;> cases b3 <;> simp_all
          have HFO := Lib.hid HFO
          by_cases h1 : inB x.to 1 (places - 1) = true
          · have H1 := Lib.hid h1
            rw [h1]
            clear h1
            go_wp2_with fail
            refine (specExpOk_c _ _ _ _).mono ?_
            rintro e w2 ⟨rfl, hb2⟩
            have hR2 := (HR.out.alloc (by omega) (.cells #[.int .i64 x.to, .int .i64 x.op, .int .i64 x.var, .int .i64 x.k] 86)).below hb2 (by simp; omega)
            have hF2 := (Row.new wo #[.int .i64 x.to, .int .i64 x.op, .int .i64 x.var, .int .i64 x.k] 86).below hb2 (by simp)
            have hB2 := (HB.out.alloc (by omega) (.cells #[.int .i64 x.to, .int .i64 x.op, .int .i64 x.var, .int .i64 x.k] 86)).trans (hb2.mono (by simp; omega))
            have hz2 : wo.heap.size + 1 ≤ w2.heap.size := by simpa using hb2.size
            have s3' := (hR2.cell (j := 3) rfl).1
            have f0 := (hF2.cell (j := 0) rfl).1
            have f1 := (hF2.cell (j := 1) rfl).1
            have HR2 := Lib.hid hR2
            have HB2 := Lib.hid hB2
            have HZ2 := Lib.hid hz2
            clear hb2 hR2 hF2 hB2 d0 d1 d2 d3 s1 s3
            by_cases h2 : askOk ⟨x.op, x.var, x.k⟩ = true
            · have H2 := Lib.hid h2
              rw [h2]
              clear h2
              by_cases h3 : (L == decide (x.op = 0)) = true
              · have H3 := Lib.hid h3
                have h3' : (L == (x.op == 0)) = true := by
                  have : (x.op == 0) = decide (x.op = 0) := rfl
                  rw [this]; exact h3
                clear h3
                go_wp2
                go_loopw [8] (fun i wr => ∃ j m : Nat, j ≤ k ∧ i = .int .i64 j ∧ (∀ i, i < j → (t.out.getD i default).to ≠ x.to) ∧ wr = w2.drewN m) (fun i _ => k - (intOf i).toNat)
                case atStart => exact ⟨0, 0, Nat.zero_le _, rfl, fun i hi => absurd hi (Nat.not_lt_zero _), rfl⟩
                case round =>
                  obtain ⟨j, m, hj, rfl, hne, hw⟩ := hrel
                  have HNE := Lib.hid hne
                  have HW := Lib.hid hw
                  have s4 : wr.cell? ⟨w.heap.size, 3, none⟩ = some (.slice (some ⟨bo, oo, none⟩) t.out.length co) := by rw [hw]; exact s3'
                  have g0 : wr.cell? ⟨wo.heap.size, 0, none⟩ = some (.int .i64 x.to) := by rw [hw]; exact f0
                  clear hne
                  by_cases hjk : j < k
                  · obtain ⟨_, _, _, y, hy, ⟨q0, _⟩, _⟩ := HRo.out.flow (k := j) (by omega)
                    have r0 : wr.cell? ⟨bo, oo + j * 4, none⟩ = some (.int .i64 y.to) := by rw [hw]; exact (HB2.out.cell (p := ⟨bo, oo + j * 4, none⟩) (by show bo < _; omega)).trans q0
                    have HY := Lib.hid hy
                    have hj1 : (j : Int) < (t.out.length : Int) := by omega
                    have hj2 : (j : Int) < (k : Int) := by omega
                    clear hw hy q0
                    by_cases hyx : y.to = x.to
                    · have e2 : (y.to == x.to) = true := by simpa using hyx
                      have HYX := Lib.hid hyx
                      clear hyx
                      go_wp2
                      go_quiet (fail)
                      go_wp2
                      go_ret
                      refine ⟨ret_bool ?_, by rw [HW.out]; exact below_drewN (below_drewN HB2.out _) _⟩
                      rw [outB, not_all_range hlt]
                      · simp
                      · rw [flowOk, getD_of HX.out, not_all_range hjk]
                        · simp
                        · rw [getD_of HY.out, HYX.out]; simp
                    · have e2 : (y.to == x.to) = false := by simpa using hyx
                      have HYX := Lib.hid hyx
                      clear hyx
                      go_wp2
                      go_quiet (fail)
                      go_wp2
                      go_roundw
                      case rel =>
                        refine ⟨j + 1, _, by omega, by go_num, fun i hi => ?_, by rw [HW.out, World.drewN_drewN]⟩
                        by_cases hij : i < j
                        · exact HNE.out i hij
                        · obtain rfl : i = j := by omega
                          rw [getD_of HY.out]; exact HYX.out
                      case measure => simp [intOf]; omega
                  · have hjk' : j = k := by omega
                    have HJK := Lib.hid hjk'
                    have hj2 : ¬ ((j : Int) < (k : Int)) := by omega
                    clear hw hjk'
                    go_wp2
                    go_roundw
                    case rel =>
                      refine ⟨k + 1, by omega, by go_num, fun i hi => ?_, by rw [HW.out]; exact HR2.out.drewN m, by rw [HW.out]; exact below_drewN HB2.out m, by rw [HW.out]; have := HZ2.out; show _ ≤ w2.heap.size; omega⟩
                      by_cases hij : i < k
                      · exact HN.out i hij
                      · obtain rfl : i = k := by omega
                        rw [flowOk, getD_of HX.out, H1.out, H2.out, HL.out, H3.out, all_range (fun q hq => by simpa using HNE.out q (by have := HJK.out; omega))]
                        rfl
                    case measure => simp [intOf]; omega
              · have H3 := Lib.hid h3
                have h3' : (L == (x.op == 0)) = false := by
                  have : (x.op == 0) = decide (x.op = 0) := rfl
                  rw [this]; exact Bool.eq_false_iff.2 h3
                clear h3
                go_wp2
                go_ret
                exact ⟨ret_bool (HFO.out _ _ false H1.out H2.out (by simpa using H3.out) (by simp)).symm, HB2.out⟩
            · have h2' : askOk ⟨x.op, x.var, x.k⟩ = false := by simpa using h2
              have H2 := Lib.hid h2'
              rw [h2']
              clear h2 h2'
              go_wp2
              go_ret
              exact ⟨ret_bool (HFO.out _ _ _ H1.out H2.out rfl (by simp)).symm, HB2.out⟩
          · have h1' : inB x.to 1 (places - 1) = false := by simpa using h1
            have H1 := Lib.hid h1'
            rw [h1']
            clear h1 h1'
            go_wp2
            go_ret
            exact ⟨ret_bool (HFO.out _ _ _ H1.out rfl rfl (by simp)).symm, HB.out.alloc (by omega) _⟩
      · have hkn : k = t.out.length := by omega
        clear hb
        go_wp2
        go_ret
        exact ⟨ret_bool (by rw [outB, HIN.out, all_range (fun j hj => HN.out j (by omega))]; rfl), HB.out⟩
  · have hin' : inB t.out.length 1 3 = false := by simpa using hin
    have HIN := Lib.hid hin'
    rw [hin']
    clear hin hin'
    go_wp2
    go_ret
    exact ⟨ret_bool (by simp [outB, HIN.out]), (Below.refl _ _).alloc (Nat.le_refl _) _⟩
end Go.Proofs.Ytjbfkgckpbpdeaa

/- Whether a task and a net are ok: the reference. -/
namespace Go.Proofs.Ytjbfkgckpbpdeaa
open Go.RowKit
set_option linter.unusedVariables false
set_option linter.unusedSimpArgs false

def taskOk (t : NTask) (places tasks : Int) : Bool :=
  inB t.join 1 3 && (inB t.split 1 3 && (risesB t.ins 1 3 0 (places - 1) && (!decide (1 ∈ t.ins) && (outB places t.split t.out &&
    (risesB t.clear 0 places 2 (places - 1) && (inB t.role 1 3 && (inB t.apart (-1) (tasks - 1) && (inB t.all 1 3 && inB t.need 1 t.all))))))))
def netOk (n : NNet) : Bool := inB n.places 2 8 && (inB n.tasks.length 1 6 && n.tasks.all fun t => taskOk t n.places n.tasks.length)

set_option maxRecDepth 10000 in
set_option maxHeartbeats 2000000 in
theorem l2Task_c (t : NTask) (vi vo vc : Value) (lo hi : Nat) (places tasks : Int) (w : World) (hV : TaskV w lo hi t vi vo vc) (hhi : hi ≤ w.heap.size) (hp1 : 0 ≤ places) (hp2 : places ≤ 1000) (ht1 : 0 ≤ tasks) (ht2 : tasks ≤ 1000) :
    Calls Try.prog 23 #[.agg #[.int .i64 t.join, .int .i64 t.split, vi, vo, vc, .int .i64 t.role, .int .i64 t.apart, .int .i64 t.all, .int .i64 t.need], .int .i64 places, .int .i64 tasks] w
      fun e w' => e = .returned (.bool (taskOk t places tasks)) ∧ Below w.heap.size w w' := by
  obtain ⟨A1, b1, o1, c1, rfl, m1, hR1⟩ := hV.ins
  obtain ⟨A2, b2, o2, c2, rfl, m2, hR2⟩ := hV.out
  obtain ⟨A3, b3, o3, c3, rfl, m3, hR3⟩ := hV.clear
  go_enter Try.func23, Try.ntmps23
  have HR0 := Lib.hid (Row.newAt w #[.int .i64 t.join, .int .i64 t.split, .slice A1 t.ins.length c1, .slice A2 t.out.length c2, .slice A3 t.clear.length c3, .int .i64 t.role, .int .i64 t.apart, .int .i64 t.all, .int .i64 t.need] 41 _ rfl)
  have HB := Lib.hid ((Below.refl w.heap.size w).alloc (Nat.le_refl _) (.cells #[.int .i64 t.join, .int .i64 t.split, .slice A1 t.ins.length c1, .slice A2 t.out.length c2, .slice A3 t.clear.length c3, .int .i64 t.role, .int .i64 t.apart, .int .i64 t.all, .int .i64 t.need] 41))
  have HV := Lib.hid hV
  have HR1 := Lib.hid hR1
  have HR3 := Lib.hid hR3
  clear hV hR1 hR2 hR3
  go_wp2_with fail
  refine (l1In_c _ _ _ _).mono ?_
  rintro e w' ⟨rfl, rfl⟩
  by_cases h0 : inB t.join 1 3 = true
  · have H0 := Lib.hid h0
    rw [h0]
    clear h0
    go_wp2_with fail
    refine (l1In_c _ _ _ _).mono ?_
    rintro e w' ⟨rfl, rfl⟩
    by_cases h1 : inB t.split 1 3 = true
    · have H1 := Lib.hid h1
      rw [h1]
      clear h1
      go_wp2_with fail
      refine (l2Rises_c t.ins lo hi A1 b1 o1 c1 1 3 0 (places - 1) _ (HR1.out.below HB.out hhi) m1).mono ?_
      rintro e w' ⟨rfl, m2_, rfl⟩
      have HB := Lib.hid (below_drewN HB.out m2_)
      have HR0 := Lib.hid (HR0.out.drewN m2_)
      by_cases h2 : risesB t.ins 1 3 0 (places - 1) = true
      · have H2 := Lib.hid h2
        rw [h2]
        clear h2
        go_wp2_with fail
        refine (l2Has_c t.ins lo hi A1 b1 o1 c1 1 _ (HR1.out.below HB.out hhi) m1).mono ?_
        rintro e w' ⟨rfl, rfl⟩
        by_cases h3 : decide (1 ∈ t.ins) = true
        · have h3' := h3
          have H3 := Lib.hid h3'
          rw [h3']
          clear h3 h3'
          go_wp2
          go_ret
          exact ⟨ret_bool (by simp [taskOk, H3.out]), HB.out⟩
        · have h3' : decide (1 ∈ t.ins) = false := by simpa using h3
          have H3 := Lib.hid h3'
          rw [h3']
          clear h3 h3'
          go_wp2_with fail
          refine (l2Flows_c t _ _ _ lo hi places _ (HV.out.keep (fun g _ h => HB.out.block g (by omega))) (Nat.le_trans hhi HB.out.size) hp1 hp2).mono ?_
          rintro e w2 ⟨rfl, hb2⟩
          have hR0 := HR0.out.below hb2 (by show _ ≤ (w.alloc _).heap.size; simp)
          have HB := Lib.hid (HB.out.trans (hb2.mono HB.out.size))
          obtain ⟨⟨s0, s1, s2, s3, s4, s5, s6, s7, s8⟩, _⟩ := hR0.nine
          clear hb2 hR0
          by_cases h4 : outB places t.split t.out = true
          · have H4 := Lib.hid h4
            rw [h4]
            clear h4
            go_wp2_with fail
            refine (l2Rises_c t.clear lo hi A3 b3 o3 c3 0 places 2 (places - 1) _ (HR3.out.below HB.out hhi) m3).mono ?_
            rintro e w' ⟨rfl, m5_, rfl⟩
            have HB := Lib.hid (below_drewN HB.out m5_)
            by_cases h5 : risesB t.clear 0 places 2 (places - 1) = true
            · have H5 := Lib.hid h5
              rw [h5]
              clear h5
              go_wp2_with fail
              refine (l1In_c _ _ _ _).mono ?_
              rintro e w' ⟨rfl, rfl⟩
              by_cases h6 : inB t.role 1 3 = true
              · have H6 := Lib.hid h6
                rw [h6]
                clear h6
                go_wp2_with fail
                refine (l1In_c _ _ _ _).mono ?_
                rintro e w' ⟨rfl, rfl⟩
                by_cases h7 : inB t.apart (-1) (tasks - 1) = true
                · have H7 := Lib.hid h7
                  rw [h7]
                  clear h7
                  go_wp2_with fail
                  refine (l1In_c _ _ _ _).mono ?_
                  rintro e w' ⟨rfl, rfl⟩
                  by_cases h8 : inB t.all 1 3 = true
                  · have H8 := Lib.hid h8
                    rw [h8]
                    clear h8
                    go_wp2_with fail
                    refine (l1In_c _ _ _ _).mono ?_
                    rintro e w' ⟨rfl, rfl⟩
                    go_wp2
                    go_ret
                    exact ⟨ret_bool (by simp [taskOk, H0.out, H1.out, H2.out, H3.out, H4.out, H5.out, H6.out, H7.out, H8.out]), HB.out⟩
                  · have h8' : inB t.all 1 3 = false := by simpa using h8
                    have H8 := Lib.hid h8'
                    rw [h8']
                    clear h8 h8'
                    go_wp2
                    go_ret
                    exact ⟨ret_bool (by simp [taskOk, H8.out]), HB.out⟩
                · have h7' : inB t.apart (-1) (tasks - 1) = false := by simpa using h7
                  have H7 := Lib.hid h7'
                  rw [h7']
                  clear h7 h7'
                  go_wp2
                  go_ret
                  exact ⟨ret_bool (by simp [taskOk, H7.out]), HB.out⟩
              · have h6' : inB t.role 1 3 = false := by simpa using h6
                have H6 := Lib.hid h6'
                rw [h6']
                clear h6 h6'
                go_wp2
                go_ret
                exact ⟨ret_bool (by simp [taskOk, H6.out]), HB.out⟩
            · have h5' : risesB t.clear 0 places 2 (places - 1) = false := by simpa using h5
              have H5 := Lib.hid h5'
              rw [h5']
              clear h5 h5'
              go_wp2
              go_ret
              exact ⟨ret_bool (by simp [taskOk, H5.out]), HB.out⟩
          · have h4' : outB places t.split t.out = false := by simpa using h4
            have H4 := Lib.hid h4'
            rw [h4']
            clear h4 h4'
            go_wp2
            go_ret
            exact ⟨ret_bool (by simp [taskOk, H4.out]), HB.out⟩
      · have h2' : risesB t.ins 1 3 0 (places - 1) = false := by simpa using h2
        have H2 := Lib.hid h2'
        rw [h2']
        clear h2 h2'
        go_wp2
        go_ret
        exact ⟨ret_bool (by simp [taskOk, H2.out]), HB.out⟩
    · have h1' : inB t.split 1 3 = false := by simpa using h1
      have H1 := Lib.hid h1'
      rw [h1']
      clear h1 h1'
      go_wp2
      go_ret
      exact ⟨ret_bool (by simp [taskOk, H1.out]), HB.out⟩
  · have h0' : inB t.join 1 3 = false := by simpa using h0
    have H0 := Lib.hid h0'
    rw [h0']
    clear h0 h0'
    go_wp2
    go_ret
    exact ⟨ret_bool (by simp [taskOk, H0.out]), HB.out⟩
end Go.Proofs.Ytjbfkgckpbpdeaa

/- Whether a net is ok: the reference. -/
namespace Go.Proofs.Ytjbfkgckpbpdeaa
open Go.RowKit
set_option linter.unusedVariables false
set_option linter.unusedSimpArgs false

set_option maxRecDepth 10000 in
set_option maxHeartbeats 1000000 in
theorem specNetOk_c (n : NNet) (v : Value) (lo hi : Nat) (w : World) (hV : NetV w lo hi v n) (hhi : hi ≤ w.heap.size) :
    Calls Try.prog 14 #[v] w fun e w' => e = .returned (.bool (netOk n)) ∧ Below w.heap.size w w' := by
  obtain ⟨A, b, off, c, ms, rfl, hm, hT⟩ := hV
  unfold maxLen at hm
  go_enter Try.func14, Try.ntmps14
  go_wp2_with fail
  refine (l1In_c _ _ _ _).mono ?_
  rintro e w' ⟨rfl, rfl⟩
  by_cases h1 : inB n.places 2 8 = true
  · have H1 := Lib.hid h1
    have h1' := inB_iff.1 h1
    rw [h1]
    clear h1
    go_wp2_with fail
    refine (l1In_c _ _ _ _).mono ?_
    rintro e w' ⟨rfl, rfl⟩
    by_cases h2 : inB n.tasks.length 1 6 = true
    · have H2 := Lib.hid h2
      have h2' := inB_iff.1 h2
      rw [h2]
      clear h2
      have hR := Row.newAt w #[.int .i64 n.places, .slice A n.tasks.length c] 30 _ rfl
      have hB := (Below.refl w.heap.size w).alloc (Nat.le_refl _) (.cells #[.int .i64 n.places, .slice A n.tasks.length c] 30)
      go_wp2
      go_loopw [3] (fun i wr => ∃ k : Nat, k ≤ n.tasks.length ∧ i = .int .i64 k ∧ (∀ j t, j < k → n.tasks[j]? = some t → taskOk t n.places n.tasks.length = true) ∧ Row wr w.heap.size (w.heap.size + 1) (some ⟨w.heap.size, 0, none⟩) w.heap.size 0 [.int .i64 n.places, .slice A n.tasks.length c] ∧ Below w.heap.size w wr ∧ w.heap.size + 1 ≤ wr.heap.size) (fun i _ => n.tasks.length - (intOf i).toNat)
      case atStart => exact ⟨0, Nat.zero_le _, rfl, fun j t hj => absurd hj (Nat.not_lt_zero _), hR, hB, by simp⟩
      case round =>
        obtain ⟨k, hk, rfl, hn, hR', hb, hsz⟩ := hrel
        clear hR hB
        have s0 := (hR'.cell (j := 0) rfl).1
        have s1 := (hR'.cell (j := 1) rfl).1
        have HN := Lib.hid hn
        have HR := Lib.hid hR'
        have HB := Lib.hid hb
        have HS := Lib.hid hsz
        clear hn hR' hsz
        by_cases hlt : k < n.tasks.length
        · obtain ⟨rfl, _, h3, t, vi, vo, vc, hx, _, hTV, ⟨c0, c1, c2, c3, c4, c5, c6, c7, c8⟩, _⟩ := hT.task hlt
          replace c0 := (hb.cell (p := ⟨b, off + k * 9, none⟩) (by show b < _; omega)).trans c0
          replace c1 := (hb.cell (p := ⟨b, off + k * 9 + 1, none⟩) (by show b < _; omega)).trans c1
          replace c2 := (hb.cell (p := ⟨b, off + k * 9 + 2, none⟩) (by show b < _; omega)).trans c2
          replace c3 := (hb.cell (p := ⟨b, off + k * 9 + 3, none⟩) (by show b < _; omega)).trans c3
          replace c4 := (hb.cell (p := ⟨b, off + k * 9 + 4, none⟩) (by show b < _; omega)).trans c4
          replace c5 := (hb.cell (p := ⟨b, off + k * 9 + 5, none⟩) (by show b < _; omega)).trans c5
          replace c6 := (hb.cell (p := ⟨b, off + k * 9 + 6, none⟩) (by show b < _; omega)).trans c6
          replace c7 := (hb.cell (p := ⟨b, off + k * 9 + 7, none⟩) (by show b < _; omega)).trans c7
          replace c8 := (hb.cell (p := ⟨b, off + k * 9 + 8, none⟩) (by show b < _; omega)).trans c8
          have HT := Lib.hid (hTV.keep (w' := wr.drew) fun g _ h => hb.block g (by omega))
          have HX := Lib.hid hx
          have HTT := Lib.hid hT
          have hlt1 : (k : Int) < (n.tasks.length : Int) := by omega
          clear hb hx hTV hT
          go_wp2
          go_still_tail 10, (by kernel_rfl)
          change wpList _ _ _ _ _ wr.drew
          go_wp2_with fail
          refine (l2Task_c t vi vo vc lo hi n.places n.tasks.length _ HT.out (Nat.le_trans hhi HB.out.size) (by omega) (by omega) (by omega) (by omega)).mono ?_
          rintro e w2 ⟨rfl, hb2⟩
          have HB2 := Lib.hid (HB.out.drew.trans (hb2.mono HB.out.size))
          have HR2 := Lib.hid (HR.out.drew.below hb2 HS.out)
          have HS2 := Lib.hid (Nat.le_trans HS.out hb2.size)
          clear hb2
          by_cases h4 : taskOk t n.places n.tasks.length = true
          · have H4 := Lib.hid h4
            rw [h4]
            clear h4
            go_wp2_with fail
            go_roundw
            case rel =>
              refine ⟨k + 1, by omega, by go_num, fun j u hj hu => ?_, HR2.out, HB2.out, HS2.out⟩
              by_cases hjk : j = k
              · subst hjk
                have e := HX.out.symm.trans hu
                injection e with e; rw [← e]; exact H4.out
              · exact HN.out j u (by omega) hu
            case measure => simp [intOf]; omega
          · have h4' : taskOk t n.places n.tasks.length = false := by simpa using h4
            have H4 := Lib.hid h4'
            rw [h4']
            clear h4 h4'
            go_wp2_with fail
            go_ret
            exact ⟨ret_bool (by rw [netOk, not_all_of (p := fun t => taskOk t n.places n.tasks.length) HX.out H4.out]; simp), HB2.out⟩
        · clear hb
          go_wp2
          go_ret
          exact ⟨ret_bool (by rw [netOk, H1.out, H2.out, all_of (p := fun t => taskOk t n.places n.tasks.length) (fun j y hj hy => HN.out j y (by omega) hy)]; rfl), HB.out⟩
    · have h2' : inB n.tasks.length 1 6 = false := by simpa using h2
      have H2 := Lib.hid h2'
      rw [h2']
      clear h2 h2'
      go_wp2
      go_ret
      exact ⟨ret_bool (by simp [netOk, H2.out]), (Below.refl _ _).alloc (Nat.le_refl _) _⟩
  · have h1' : inB n.places 2 8 = false := by simpa using h1
    have H1 := Lib.hid h1'
    rw [h1']
    clear h1 h1'
    go_wp2
    go_ret
    exact ⟨ret_bool (by simp [netOk, H1.out]), (Below.refl _ _).alloc (Nat.le_refl _) _⟩
end Go.Proofs.Ytjbfkgckpbpdeaa
