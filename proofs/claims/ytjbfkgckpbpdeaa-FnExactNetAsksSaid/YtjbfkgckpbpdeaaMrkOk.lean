/- Whether what leads out of a task is ok: the program, with its map of places seen. -/
import Derived.Test.YtjbfkgckpbpdeaaSpecNetOk
import Derived.Maps.Own
import Derived.Maps.OwnOps
import Derived.Maps.OwnSet
import Derived.Maps.Views
namespace Go.Proofs.Ytjbfkgckpbpdeaa
open Go.RowKit Go.Maps
set_option linter.unusedVariables false
set_option linter.unusedSimpArgs false

theorem plainElem_bool_inv {H : Type} {P : Program} {e : TypeId} (he : P.underlying e = some .bool) {v : Value} {z : DataW H × List MemPlace} (h : plainElem P e v = some z) : ∃ x, v = .bool x ∧ z = (.lit (.bool x), []) := by
  unfold plainElem at h
  rw [he] at h
  split at h <;> simp_all

/-- A place has been seen: it is 0, or one of the first k flows leads to it. -/
def seenB (l : List NFlow) (k : Nat) (x : Int) : Bool := decide (x = 0) || (List.range k).any fun i => decide ((l.getD i default).to = x)
theorem seenB_succ {l : List NFlow} {k : Nat} {f : NFlow} (h : l[k]? = some f) (x : Int) : seenB l (k + 1) x = (seenB l k x || decide (f.to = x)) := by
  have e := getD_of (d := (default : NFlow)) h
  unfold seenB; rw [List.range_succ, List.any_append, List.any_cons, List.any_nil, e, Bool.or_false, Bool.or_assoc]
/-- The map of the places seen, in block b. -/
def SeenV (w : World) (b k : Nat) (l : List NFlow) : Prop :=
  ∃ (n : Nat) (D : DataW Unit), w.ownsMap Try.prog 3 (plainElem Try.prog 4) b n D ∧ n ≤ k + 1 ∧ ∀ x : Int, D.atKey (.int .i64 x) (.lit (.bool false)) = .lit (.bool (seenB l k x))
theorem wf_i64 {x : Int} (h1 : -9223372036854775808 ≤ x) (h2 : x ≤ 9223372036854775807) : (Lit.int .i64 x).wf = true := by
  have e1 : IntKind.i64.min = -9223372036854775808 := rfl
  have e2 : IntKind.i64.max = 9223372036854775807 := rfl
  simp only [Lit.wf, Bool.and_eq_true, decide_eq_true_eq]; omega
set_option maxRecDepth 10000 in
theorem SeenV.lookup {w : World} {b k : Nat} {l : List NFlow} (h : SeenV w b k l) {x : Int} (h1 : -9223372036854775808 ≤ x) (h2 : x ≤ 9223372036854775807) (hz : Sem.run Try.prog (zeroValue 4) w = .ok (.bool false) w) :
    Sem.run Try.prog (Instr.lookup 92 (.map (some b)) (.int .i64 x) false) w = .ok (.bool (seenB l k x)) w := by
  obtain ⟨n, D, hown, _, hD⟩ := h
  obtain ⟨v, ps, hrun, hv⟩ := hown.lookup (int_keyed Try.underlying3) Try.underlying92 hz (plainElem_bool Try.underlying4 false) (keyOf_int_mk Try.underlying3 (wf_i64 h1 h2))
  obtain ⟨y, rfl, hy⟩ := plainElem_bool_inv Try.underlying4 hv
  rw [hrun]
  rw [hD x] at hy
  injection hy with hy _
  injection hy with hy
  injection hy with hy
  rw [hy]
set_option maxRecDepth 10000 in
theorem SeenV.update {w : World} {b k : Nat} {l : List NFlow} (h : SeenV w b k l) (hk : k < 2000000) {f : NFlow} (hf : l[k]? = some f) (h1 : -9223372036854775808 ≤ f.to) (h2 : f.to ≤ 9223372036854775807) :
    ∃ w', Sem.run Try.prog (Instr.mapUpdate 92 (.map (some b)) (.int .i64 f.to) (.bool true)) w = .ok () w' ∧ SeenV w' b (k + 1) l ∧ w.grownBy w' (some b) := by
  obtain ⟨n, D, hown, hn, hD⟩ := h
  obtain ⟨w', hrun, hown', hg⟩ := hown.update (int_keyed Try.underlying3) Try.underlying92 (by unfold maxLen; omega) (keyOf_int_mk Try.underlying3 (wf_i64 h1 h2)) (plainElem_bool Try.underlying4 true)
  refine ⟨w', hrun, ⟨n + 1, _, hown', by omega, fun x => ?_⟩, hg⟩
  rw [seenB_succ hf]
  by_cases hx : x = f.to
  · subst hx
    rw [atKey_put_same hown.isMap (by trivial)]; simp
  · rw [atKey_put_other (by intro e; injection e with _ e; exact hx e), hD x]
    have : decide (f.to = x) = false := by simpa using fun e => hx e.symm
    rw [this, Bool.or_false]
theorem SeenV.keep {w w' : World} {b k B : Nat} {l : List NFlow} (h : SeenV w b k l) (hb : Below B w w') (hB : b < B) (hw : w.heap.size ≤ B) : SeenV w' b k l := by
  obtain ⟨n, D, hown, hn, hD⟩ := h
  exact ⟨n, D, hown.kept (row := none) ⟨hb.os, hb.tape, hb.output, hb.size, fun k hk _ => hb.block k (by omega)⟩ (by simp), hn, hD⟩
theorem SeenV.alloc {w : World} {b k : Nat} {l : List NFlow} (h : SeenV w b k l) (o : Obj) : SeenV (w.alloc o) b k l := by
  obtain ⟨n, D, hown, hn, hD⟩ := h
  exact ⟨n, D, hown.alloc o, hn, hD⟩
set_option maxRecDepth 10000 in
theorem SeenV.start (w : World) (l : List NFlow) :
    ∃ w', Sem.run Try.prog (Instr.mapUpdate 92 (.map (some w.heap.size)) (.int .i64 0) (.bool true)) (w.alloc (.map #[] 0)) = .ok () w' ∧ SeenV w' w.heap.size 0 l ∧ (w.alloc (.map #[] 0)).grownBy w' (some w.heap.size) := by
  have hown : (w.alloc (.map #[] 0)).ownsMap (H := Unit) Try.prog 3 (plainElem Try.prog 4) w.heap.size 0 (.map []) := World.ownsMap_made _ _ _ _
  obtain ⟨w', hrun, hown', hg⟩ := hown.update (int_keyed Try.underlying3) Try.underlying92 (by unfold maxLen; omega) (keyOf_int_mk Try.underlying3 (wf_i64 (x := 0) (by omega) (by omega))) (plainElem_bool Try.underlying4 true)
  refine ⟨w', hrun, ⟨1, _, hown', by omega, fun x => ?_⟩, hg⟩
  by_cases hx : x = 0
  · subst hx
    rw [atKey_put_same hown.isMap (by trivial)]; simp [seenB]
  · rw [atKey_put_other (by intro e; injection e with _ e; exact hx e)]
    simp [seenB, hx, DataW.atKey]
end Go.Proofs.Ytjbfkgckpbpdeaa

/- The program's test of what leads out of a task. -/
namespace Go.Proofs.Ytjbfkgckpbpdeaa
open Go.RowKit Go.Maps
set_option linter.unusedVariables false
set_option linter.unusedSimpArgs false

theorem flowOk_low {places split : Int} {l : List NFlow} {j : Nat} {x : NFlow} (h : l[j]? = some x) (hb : inB x.to 0 (places - 1) = false) : flowOk places split l j = false := by
  rw [flowOk, getD_of h]
  have : inB x.to 1 (places - 1) = false := by rw [inB_false] at *; omega
  rw [this]; rfl
theorem flowOk_seen {places split : Int} {l : List NFlow} {j : Nat} {x : NFlow} (h : l[j]? = some x) (hb : seenB l j x.to = true) : flowOk places split l j = false := by
  rw [flowOk, getD_of h]
  unfold seenB at hb
  rw [Bool.or_eq_true, decide_eq_true_eq, List.any_eq_true] at hb
  rcases hb with h0 | ⟨i, hi, he⟩
  · have : inB x.to 1 (places - 1) = false := by rw [inB_false]; omega
    rw [this]; rfl
  · rw [not_all_range (List.mem_range.1 hi) (by simpa using he)]; simp
theorem flowOk_true {places split : Int} {l : List NFlow} {j : Nat} {x : NFlow} (h : l[j]? = some x) (hb : inB x.to 0 (places - 1) = true) (hs : seenB l j x.to = false) (ha : askOk ⟨x.op, x.var, x.k⟩ = true) {L : Bool} (hL : (decide (j + 1 = l.length) || decide (split = 1)) = L) (hl : (L == decide (x.op = 0)) = true) : flowOk places split l j = true := by
  rw [flowOk, getD_of h, hL, ha, hl]
  unfold seenB at hs
  rw [Bool.or_eq_false_iff, decide_eq_false_iff_not, List.any_eq_false] at hs
  have : inB x.to 1 (places - 1) = true := by rw [inB_iff] at *; omega
  rw [this, all_range (fun i hi => by simpa using hs.2 i (List.mem_range.2 hi))]; rfl
theorem flowOk_ask {places split : Int} {l : List NFlow} {j : Nat} {x : NFlow} (h : l[j]? = some x) (ha : askOk ⟨x.op, x.var, x.k⟩ = false) : flowOk places split l j = false := by
  rw [flowOk, getD_of h, ha]; simp
theorem flowOk_last {places split : Int} {l : List NFlow} {j : Nat} {x : NFlow} (h : l[j]? = some x) {L : Bool} (hL : (decide (j + 1 = l.length) || decide (split = 1)) = L) (hl : (L == decide (x.op = 0)) = false) : flowOk places split l j = false := by
  rw [flowOk, getD_of h, hL, hl]; simp

theorem Try.zero_bool (w : World) : Sem.run Try.prog (zeroValue 4) w = .ok (.bool false) w := by kernel_rfl

set_option maxRecDepth 10000 in
set_option maxHeartbeats 2000000 in
theorem outOk_c (t : NTask) (vi vo vc : Value) (lo hi : Nat) (places : Int) (w : World) (hV : TaskV w lo hi t vi vo vc) (hhi : hi ≤ w.heap.size) (hlen : t.out.length ≤ 1048576) (hp1 : 0 ≤ places) (hp2 : places ≤ 1000) :
    Calls Try.prog 44 #[.agg #[.int .i64 t.join, .int .i64 t.split, vi, vo, vc, .int .i64 t.role, .int .i64 t.apart, .int .i64 t.all, .int .i64 t.need], .int .i64 places] w
      fun e w' => e = .returned (.bool (outB places t.split t.out)) ∧ Below w.heap.size w w' := by
  obtain ⟨Ao, bo, oo, co, rfl, hmo, hRo⟩ := hV.out
  clear hmo
  have hmm := @run_makeMap Try.prog
  obtain ⟨w1, hrun, hS1, hg1⟩ := SeenV.start (w.alloc (.cells #[.int .i64 t.join, .int .i64 t.split, vi, .slice Ao t.out.length co, vc, .int .i64 t.role, .int .i64 t.apart, .int .i64 t.all, .int .i64 t.need] 41)) t.out
  have hB0 := (Below.refl w.heap.size w).alloc (Nat.le_refl _) (.cells #[.int .i64 t.join, .int .i64 t.split, vi, .slice Ao t.out.length co, vc, .int .i64 t.role, .int .i64 t.apart, .int .i64 t.all, .int .i64 t.need] 41)
  have R0 := (Row.newAt w #[.int .i64 t.join, .int .i64 t.split, vi, .slice Ao t.out.length co, vc, .int .i64 t.role, .int .i64 t.apart, .int .i64 t.all, .int .i64 t.need] 41 _ rfl)
  have hB1 : Below w.heap.size w w1 := (hB0.alloc (by simp) (.map #[] 0)).grown hg1 (by simp; omega) (fun k hk => by injection hk with hk; subst hk; simp)
  have R1 := (R0.alloc (by simp) (.map #[] 0)).keep (w' := w1) (fun g h1 h2 => hg1.block g (by simp; omega) (by simp; omega))
  have hz1 : w.heap.size + 1 + 1 ≤ w1.heap.size := by have := hg1.size; simpa using this
  simp only [World.size_alloc] at hrun hS1
  have HS1 := Lib.hid hS1
  have HB1 := Lib.hid hB1
  have HR1 := Lib.hid R1
  obtain ⟨⟨s0, s1, s2, s3, s4, s5, s6, s7, s8⟩, _⟩ := R1.nine
  clear hS1 hg1 hB0 R0 hB1 R1
  go_enter Try.func44, Try.ntmps44
  go_wp2
  go_loopw [14] (fun i wr => ∃ k : Nat, k ≤ t.out.length ∧ i = .int .i64 k ∧ (∀ j, j < k → flowOk places t.split t.out j = true) ∧ Row wr w.heap.size (w.heap.size + 1) (some ⟨w.heap.size, 0, none⟩) w.heap.size 0 [.int .i64 t.join, .int .i64 t.split, vi, .slice Ao t.out.length co, vc, .int .i64 t.role, .int .i64 t.apart, .int .i64 t.all, .int .i64 t.need] ∧ SeenV wr (w.heap.size + 1) k t.out ∧ Below w.heap.size w wr ∧ w.heap.size + 1 + 1 ≤ wr.heap.size) (fun i _ => t.out.length - (intOf i).toNat)
  case atStart => exact ⟨0, Nat.zero_le _, rfl, fun j hj => absurd hj (Nat.not_lt_zero _), HR1.out, HS1.out, HB1.out, hz1⟩
  case round =>
    obtain ⟨k, hk, rfl, hn, hR, hSV, hb, hsz⟩ := hrel
    obtain ⟨wo, rfl⟩ : ∃ wo, wo = wr := ⟨_, rfl⟩
    clear s0 s1 s2 s3 s4 s5 s6 s7 s8 hrun
    obtain ⟨⟨s0, s1, s2, s3, s4, s5, s6, s7, s8⟩, _⟩ := hR.nine
    have HN := Lib.hid hn
    have HR := Lib.hid hR
    have HB := Lib.hid hb
    have HS := Lib.hid hsz
    have HSV := Lib.hid hSV
    clear hn hR s0 s2 s4 s5 s6 s7 s8 hSV
    by_cases hlt : k < t.out.length
    · obtain ⟨rfl, _, h3, x, hx, ⟨c0, c1, c2, c3⟩, _⟩ := hRo.flow hlt
      have d0 := (hb.cell (p := ⟨bo, oo + k * 4, none⟩) (by show bo < _; omega)).trans c0
      have d1 := (hb.cell (p := ⟨bo, oo + k * 4 + 1, none⟩) (by show bo < _; omega)).trans c1
      have d2 := (hb.cell (p := ⟨bo, oo + k * 4 + 2, none⟩) (by show bo < _; omega)).trans c2
      have d3 := (hb.cell (p := ⟨bo, oo + k * 4 + 3, none⟩) (by show bo < _; omega)).trans c3
      have HX := Lib.hid hx
      have HRo := Lib.hid hRo
      clear hb c0 c1 c2 c3 hx hRo
      have z1 : w.heap.size < wo.heap.size := by omega
      have z2 : bo < wo.heap.size := by omega
      have z3 : w.heap.size ≠ wo.heap.size := by omega
      have z4 : bo ≠ wo.heap.size := by omega
      have e1 : IntKind.i64.wrap ((t.out.length : Int) - 1) = (t.out.length : Int) - 1 := IntWalk.i64_in _ (by omega)
      go_upto_region 5 with fail
      go_cut [8] (fun s8 wc => s8 = .bool (decide (k + 1 = t.out.length) || decide (t.split = 1)) ∧ wc = wo.alloc (.cells #[.int .i64 x.to, .int .i64 x.op, .int .i64 x.var, .int .i64 x.k] 86))
      case first =>
        by_cases hs : t.split = 1
        · have e : (t.split == 1) = true := by simpa using hs
          have H := Lib.hid hs
          clear hs
          go_wp2
          go_meet
          exact ⟨by simp [H.out], rfl⟩
        · have e0 : (t.split == 1) = false := by simpa using hs
          have H0 := Lib.hid hs
          clear hs
          by_cases h : k + 1 = t.out.length
          · have e : ((k : Int) == (t.out.length : Int) - 1) = true := by simp; omega
            have H := Lib.hid h
            clear h
            go_wp2
            go_meet
            exact ⟨by simp [H.out], rfl⟩
          · have e : ((k : Int) == (t.out.length : Int) - 1) = false := by simp; omega
            have H := Lib.hid h
            clear h
            go_wp2
            go_meet
            exact ⟨by simp [H.out, H0.out], rfl⟩
      case rest =>
        obtain ⟨rfl, rfl⟩ := hcut
        generalize hL : (decide (k + 1 = t.out.length) || decide (t.split = 1)) = L
        have HL := Lib.hid hL
        clear hL s1 s3 d0 d1 d2 d3
        have hgen : ∀ W : World, W = wo.alloc (.cells #[.int .i64 x.to, .int .i64 x.op, .int .i64 x.var, .int .i64 x.k] 86) → Row W w.heap.size (w.heap.size + 1) (some ⟨w.heap.size, 0, none⟩) w.heap.size 0 [.int .i64 t.join, .int .i64 t.split, vi, .slice (some ⟨bo, oo, none⟩) t.out.length co, vc, .int .i64 t.role, .int .i64 t.apart, .int .i64 t.all, .int .i64 t.need] ∧ Row W wo.heap.size (wo.heap.size + 1) (some ⟨wo.heap.size, 0, none⟩) wo.heap.size 0 x.cells ∧ SeenV W (w.heap.size + 1) k t.out ∧ Below w.heap.size w W ∧ wo.heap.size + 1 ≤ W.heap.size := by
          rintro W rfl
          exact ⟨HR.out.alloc (by omega) _, Row.new wo _ _, HSV.out.alloc _, HB.out.alloc (by omega) _, by simp⟩
        generalize hW : wo.alloc (.cells #[.int .i64 x.to, .int .i64 x.op, .int .i64 x.var, .int .i64 x.k] 86) = W at hgen ⊢
        obtain ⟨hR2, hF2, hSV2, hB2, hz2⟩ := hgen W rfl
        clear hgen hW
        have f0 := (hF2.cell (j := 0) rfl).1
        have f1 := (hF2.cell (j := 1) rfl).1
        have f2 := (hF2.cell (j := 2) rfl).1
        have f3 := (hF2.cell (j := 3) rfl).1
        have HR2 := Lib.hid hR2
        have HF2 := Lib.hid hF2
        have HSV2 := Lib.hid hSV2
        have HB2 := Lib.hid hB2
        clear hR2 hF2 hSV2 hB2 HR HSV HB
        have HNO : flowOk places t.split t.out k = false → outB places t.split t.out = false := by
          intro h; rw [outB, not_all_range hlt h]; simp
        have HNO := Lib.hid HNO
        go_wp2_with fail
        refine (implIn_c _ _ _ _).mono ?_
        rintro e w' ⟨rfl, rfl⟩
        by_cases h1 : inB x.to 0 (places - 1) = true
        · have H1 := Lib.hid h1
          have h1' := inB_iff.1 h1
          rw [h1]
          clear h1
          have hlk := HSV2.out.lookup (x := x.to) (by omega) (by omega) (Try.zero_bool W)
          by_cases h2 : seenB t.out k x.to = true
          · rw [h2] at hlk
            have H2 := Lib.hid h2
            clear h2
            go_wp2
            go_ret
            exact ⟨ret_bool (HNO.out (flowOk_seen HX.out H2.out)).symm, HB2.out⟩
          · have h2' : seenB t.out k x.to = false := by simpa using h2
            rw [h2'] at hlk
            have H2 := Lib.hid h2'
            clear h2 h2'
            go_wp2_with fail
            refine (implExpOk_c _ _ _ _).mono ?_
            rintro e w3 ⟨rfl, hb3⟩
            have hR3 := HR2.out.below hb3 (by omega)
            have hF3 := HF2.out.below hb3 hz2
            have hB3 := HB2.out.trans (hb3.mono HB2.out.size)
            have hSV3 := HSV2.out.keep hb3 (by omega) (Nat.le_refl _)
            have hz3 := Nat.le_trans hz2 hb3.size
            clear f0 f1 f2 f3 hlk hb3
            have f0 := (hF3.cell (j := 0) rfl).1
            have f1 := (hF3.cell (j := 1) rfl).1
            have HR3 := Lib.hid hR3
            have HSV3 := Lib.hid hSV3
            have HB3 := Lib.hid hB3
            clear hR3 hF3 hSV3 hB3 HR2 HF2 HSV2 HB2
            by_cases h4 : askOk ⟨x.op, x.var, x.k⟩ = true
            · have H4 := Lib.hid h4
              rw [h4]
              clear h4
              by_cases h5 : (L == decide (x.op = 0)) = true
              · have H5 := Lib.hid h5
                have h5' : ((x.op == 0) == L) = true := by
                  have : (x.op == 0) = decide (x.op = 0) := rfl
                  rw [this]; revert h5; cases L <;> cases decide (x.op = 0) <;> simp
                clear h5
                obtain ⟨w4, hrun4, hSV4, hg4⟩ := HSV3.out.update (by omega) HX.out (by omega) (by omega)
                have HSV4 := Lib.hid hSV4
                have HB4 := Lib.hid (HB3.out.grown hg4 HB3.out.size (fun k hk => by injection hk with hk; subst hk; omega))
                have HR4 := Lib.hid (HR3.out.keep (w' := w4) (fun g h1 h2 => hg4.block g (by omega) (by simp; omega)))
                have HZ4 := Lib.hid (Nat.le_trans hz3 hg4.size)
                clear hSV4 hg4
                go_wp2
                go_roundw
                case rel =>
                  refine ⟨k + 1, by omega, by go_num, fun j hj => ?_, HR4.out, HSV4.out, HB4.out, by have := HZ4.out; omega⟩
                  by_cases hjk : j < k
                  · exact HN.out j hjk
                  · obtain rfl : j = k := by omega
                    exact flowOk_true HX.out H1.out H2.out H4.out HL.out H5.out
                case measure => simp [intOf]; omega
              · have h5n : (L == decide (x.op = 0)) = false := by simpa using h5
                have H5 := Lib.hid h5n
                have h5' : ((x.op == 0) == L) = false := by
                  have : (x.op == 0) = decide (x.op = 0) := rfl
                  rw [this]; revert h5n; cases L <;> cases decide (x.op = 0) <;> simp
                clear h5 h5n
                go_wp2
                go_ret
                exact ⟨ret_bool (HNO.out (flowOk_last HX.out HL.out H5.out)).symm, HB3.out⟩
            · have h4' : askOk ⟨x.op, x.var, x.k⟩ = false := by simpa using h4
              have H4 := Lib.hid h4'
              rw [h4']
              clear h4 h4'
              go_wp2
              go_ret
              exact ⟨ret_bool (HNO.out (flowOk_ask HX.out H4.out)).symm, HB3.out⟩
        · have h1' : inB x.to 0 (places - 1) = false := by simpa using h1
          have H1 := Lib.hid h1'
          rw [h1']
          clear h1 h1'
          go_wp2
          go_ret
          exact ⟨ret_bool (HNO.out (flowOk_low HX.out H1.out)).symm, HB2.out⟩
    · have hkn : k = t.out.length := by omega
      clear hb
      go_wp2_with fail
      refine (implIn_c _ _ _ _).mono ?_
      rintro e w' ⟨rfl, rfl⟩
      go_wp2
      go_ret
      exact ⟨ret_bool (by rw [outB, all_range (fun j hj => HN.out j (by omega))]; simp), HB.out⟩
end Go.Proofs.Ytjbfkgckpbpdeaa

/- The program's tests of lists of places. -/
namespace Go.Proofs.Ytjbfkgckpbpdeaa
open Go.RowKit
set_option linter.unusedVariables false
set_option linter.unusedSimpArgs false

theorem indexInt_c (zs : List Int) (lo hi : Nat) (A : Option Addr) (b off c : Nat) (z : Int) (w : World) (hV : Row w lo hi A b off (ints zs)) (hm : zs.length ≤ maxLen) :
    Calls Try.prog 70 #[.slice A zs.length c, .int .i64 z] w fun e w' => e = .returned (.int .i64 (idxFrom (fun x => z == x) 0 zs)) ∧ w = w' := by
  unfold maxLen at hm
  go_enter Try.func70, Try.ntmps70
  go_wp2
  go_loop [8] (fun i => ∃ k : Nat, k ≤ zs.length ∧ i = .int .i64 k ∧ (∀ j y, j < k → zs[j]? = some y → (z == y) = false)) (fun i => zs.length - (intOf i).toNat)
  case atStart => exact ⟨0, Nat.zero_le _, rfl, fun j y hj => absurd hj (Nat.not_lt_zero _)⟩
  case round =>
    obtain ⟨k, hk, rfl, hn⟩ := hrel
    have HN := Lib.hid hn
    clear hn
    by_cases hlt : k < zs.length
    · obtain ⟨rfl, _, _, x, hx, hc, _⟩ := hV.int hlt
      have HX := Lib.hid hx
      clear hx
      by_cases hxz : (z == x) = true
      · have HZ := Lib.hid hxz
        go_wp2
        go_ret
        exact ⟨ret_int (by rw [idxFrom_at (fun x => z == x) zs 0 k x HX.out HZ.out (fun i y hi hy => HN.out i y hi hy)]; simp), rfl⟩
      · have hxz' : (z == x) = false := by simpa using hxz
        have HZ := Lib.hid hxz'
        clear hxz
        go_wp2
        go_round
        case rel =>
          refine ⟨k + 1, by omega, by go_num, fun j y hj hy => ?_⟩
          by_cases hjk : j = k
          · subst hjk
            have e := HX.out.symm.trans hy
            injection e with e; rw [← e]; exact HZ.out
          · exact HN.out j y (by omega) hy
        case measure => simp [intOf]; omega
    · go_wp2
      go_ret
      refine ⟨ret_int ?_, rfl⟩
      exact (idxFrom_none (fun x => z == x) zs 0 (fun x hx => by
        obtain ⟨j, hj⟩ := List.getElem?_of_mem hx
        exact HN.out j x (by have := lt_of_some hj; omega) hj)).symm

theorem containsInt_c (zs : List Int) (lo hi : Nat) (A : Option Addr) (b off c : Nat) (z : Int) (w : World) (hV : Row w lo hi A b off (ints zs)) (hm : zs.length ≤ maxLen) :
    Calls Try.prog 60 #[.slice A zs.length c, .int .i64 z] w fun e w' => e = .returned (.bool (decide (z ∈ zs))) ∧ w = w' := by
  have h := idx_any (fun x => z == x) zs 0
  have h2 : (zs.any fun x => z == x) = decide (z ∈ zs) := by
    rw [Bool.eq_iff_iff, List.any_eq_true, decide_eq_true_eq]
    exact ⟨fun ⟨x, hx, e⟩ => by rw [eq_of_beq e]; exact hx, fun hz => ⟨z, hz, by simp⟩⟩
  rw [h2] at h
  generalize hi : idxFrom (fun x => z == x) 0 zs = i at h
  have HI := Lib.hid hi
  have H := Lib.hid h
  clear hi h h2
  go_enter Try.func60, Try.ntmps60
  go_wp2_with fail
  refine (indexInt_c zs _ _ A b off c z w hV hm).mono ?_
  rintro e w1 ⟨rfl, rfl⟩
  rw [HI.out]
  go_wp2
  go_ret
  exact ⟨ret_bool H.out, rfl⟩

/-- The place before place j; -1 before the first. -/
def prevOf (zs : List Int) (j : Nat) : Int := if j = 0 then -1 else zs.getD (j - 1) 0
def ascOk (places : Int) (ws zs : List Int) (j : Nat) : Bool := inB (zs.getD j 0) (prevOf zs j + 1) (places - 1) && !decide (zs.getD j 0 ∈ ws)
def ascB (places : Int) (ws zs : List Int) : Bool := (List.range zs.length).all (ascOk places ws zs)

theorem ascends_c (zs ws : List Int) (lo hi lo' hi' : Nat) (A B : Option Addr) (b off c b' off' c' : Nat) (places : Int) (w : World) (hV : Row w lo hi A b off (ints zs)) (hU : Row w lo' hi' B b' off' (ints ws)) (hm : zs.length ≤ maxLen) (hm' : ws.length ≤ maxLen) (hp1 : 0 ≤ places) (hp2 : places ≤ 1000) :
    Calls Try.prog 43 #[.slice A zs.length c, .int .i64 places, .slice B ws.length c'] w fun e w' => e = .returned (.bool (ascB places ws zs)) ∧ w = w' := by
  unfold maxLen at hm
  go_enter Try.func43, Try.ntmps43
  go_wp2
  go_loop [7, 12] (fun l i => ∃ k : Nat, k ≤ zs.length ∧ i = .int .i64 k ∧ l = .int .i64 (prevOf zs k) ∧ -1 ≤ prevOf zs k ∧ prevOf zs k ≤ 1000 ∧ (∀ j, j < k → ascOk places ws zs j = true)) (fun _ i => zs.length - (intOf i).toNat)
  case atStart => exact ⟨0, Nat.zero_le _, rfl, rfl, by simp [prevOf], by simp [prevOf], fun j hj => absurd hj (Nat.not_lt_zero _)⟩
  case round =>
    obtain ⟨k, hk, rfl, rfl, hl1, hl2, hn⟩ := hrel
    have HN := Lib.hid hn
    clear hn
    by_cases hlt : k < zs.length
    · obtain ⟨rfl, _, _, x, hx, hc, _⟩ := hV.int hlt
      have HX := Lib.hid hx
      have HNO : ascOk places ws zs k = false → ascB places ws zs = false := fun h => by rw [ascB, not_all_range hlt h]
      have HNO := Lib.hid HNO
      generalize hp : prevOf zs k = p at hl1 hl2 ⊢
      have HP := Lib.hid hp
      have HE : ∀ b1 b2, inB x (p + 1) (places - 1) = b1 → decide (x ∈ ws) = b2 → ascOk places ws zs k = (b1 && !b2) := by
        intro b1 b2 h1 h2; rw [ascOk, getD_of HX.out, HP.out, h1, h2]
      have HE := Lib.hid HE
      clear hx hp
      go_wp2_with fail
      refine (implIn_c _ _ _ _).mono ?_
      rintro e w' ⟨rfl, rfl⟩
      by_cases h1 : inB x (p + 1) (places - 1) = true
      · have H1 := Lib.hid h1
        have h1' := inB_iff.1 h1
        rw [h1]
        clear h1
        go_wp2_with fail
        refine (containsInt_c ws lo' hi' B b' off' c' x _ hU hm').mono ?_
        rintro e w' ⟨rfl, rfl⟩
        by_cases h2 : decide (x ∈ ws) = true
        · have H2 := Lib.hid h2
          rw [h2]
          clear h2
          go_wp2
          go_ret
          exact ⟨ret_bool (HNO.out (HE.out _ _ H1.out H2.out)).symm, rfl⟩
        · have h2' : decide (x ∈ ws) = false := by simpa using h2
          have H2 := Lib.hid h2'
          rw [h2']
          clear h2 h2'
          go_wp2
          go_round
          case rel =>
            have e : prevOf zs (k + 1) = x := by rw [prevOf, if_neg (by omega), show k + 1 - 1 = k from rfl, getD_of HX.out]
            refine ⟨k + 1, by omega, by go_num, by rw [e], by rw [e]; omega, by rw [e]; omega, fun j hj => ?_⟩
            by_cases hjk : j < k
            · exact HN.out j hjk
            · obtain rfl : j = k := by omega
              exact HE.out _ _ H1.out H2.out
          case measure => simp [intOf]; omega
      · have h1' : inB x (p + 1) (places - 1) = false := by simpa using h1
        have H1 := Lib.hid h1'
        rw [h1']
        clear h1 h1'
        go_wp2
        go_ret
        exact ⟨ret_bool (HNO.out (HE.out _ _ H1.out rfl)).symm, rfl⟩
    · go_wp2
      go_ret
      exact ⟨ret_bool (by rw [ascB, all_range (fun j hj => HN.out j (by omega))]), rfl⟩

/-- A list rises from place j on above the place before it, and stays below places. -/
theorem asc_at {places : Int} {ws zs : List Int} (h : ascB places ws zs = true) {j : Nat} (hj : j < zs.length) : prevOf zs j < zs.getD j 0 ∧ zs.getD j 0 ≤ places - 1 ∧ zs.getD j 0 ∉ ws := by
  have := of_all_range h hj
  rw [ascOk, Bool.and_eq_true, inB_iff] at this
  obtain ⟨⟨h1, h2⟩, h3⟩ := this
  exact ⟨by omega, h2, by simpa using h3⟩
theorem asc_low {places : Int} {ws zs : List Int} (h : ascB places ws zs = true) : ∀ {j : Nat}, j < zs.length → 0 ≤ zs.getD j 0
  | 0, hj => by have := (asc_at h hj).1; rw [prevOf, if_pos rfl] at this; omega
  | j + 1, hj => by
    have h1 := asc_low h (j := j) (by omega)
    have h2 := (asc_at h hj).1
    rw [prevOf, if_neg (by omega), show j + 1 - 1 = j from rfl] at h2; omega
theorem asc_mem {places : Int} {ws zs : List Int} (h : ascB places ws zs = true) {z : Int} (hz : z ∈ zs) : z ∉ ws := by
  obtain ⟨j, hj⟩ := List.getElem?_of_mem hz
  have := (asc_at h (lt_of_some hj)).2.2
  rwa [getD_of hj] at this
theorem rises_at {zs : List Int} {least most low high : Int} (h : risesB zs least most low high = true) {j : Nat} (hj : j < zs.length) : low ≤ zs.getD j 0 ∧ zs.getD j 0 ≤ high ∧ (j ≠ 0 → zs.getD (j - 1) 0 < zs.getD j 0) := by
  rw [risesB, Bool.and_eq_true] at h
  have := of_all_range h.2 hj
  rw [stepOk, Bool.and_eq_true, inB_iff, Bool.or_eq_true] at this
  obtain ⟨⟨h1, h2⟩, h3⟩ := this
  refine ⟨h1, h2, fun h0 => ?_⟩
  rcases h3 with h3 | h3
  · exact absurd (by simpa using h3) h0
  · simpa using h3
theorem asc_ins {places : Int} {zs : List Int} : (inB zs.length 1 3 && ascB places [1] zs) = (risesB zs 1 3 0 (places - 1) && !decide (1 ∈ zs)) := by
  rw [Bool.eq_iff_iff, Bool.and_eq_true, Bool.and_eq_true]
  constructor
  · rintro ⟨h1, h2⟩
    refine ⟨?_, by simpa using fun hz => asc_mem h2 hz (by simp)⟩
    rw [risesB, h1, Bool.true_and]
    refine all_range fun j hj => ?_
    obtain ⟨h3, h4, _⟩ := asc_at h2 hj
    have h5 := asc_low h2 hj
    rw [stepOk, Bool.and_eq_true, inB_iff, Bool.or_eq_true]
    refine ⟨⟨h5, h4⟩, ?_⟩
    by_cases h0 : j = 0
    · left; simp [h0]
    · right; rw [prevOf, if_neg h0] at h3; simpa using h3
  · rintro ⟨h1, h2⟩
    have h0 := h1
    rw [risesB, Bool.and_eq_true] at h0
    refine ⟨h0.1, all_range fun j hj => ?_⟩
    obtain ⟨h3, h4, h5⟩ := rises_at h1 hj
    rw [ascOk, Bool.and_eq_true, inB_iff]
    refine ⟨⟨?_, h4⟩, ?_⟩
    · rw [prevOf]
      by_cases hj0 : j = 0
      · rw [if_pos hj0]; omega
      · rw [if_neg hj0]; have := h5 hj0; omega
    · have h6 : zs.getD j 0 ∈ zs := by rw [getD_of (List.getElem?_eq_getElem hj)]; exact List.getElem_mem hj
      simp only [Bool.not_eq_true', decide_eq_false_iff_not, List.mem_singleton] at h2 ⊢
      intro e; rw [e] at h6; exact h2 h6
theorem asc_clear {places : Int} {zs : List Int} (hp : 0 ≤ places) : ascB places [0, 1] zs = risesB zs 0 places 2 (places - 1) := by
  rw [Bool.eq_iff_iff]
  constructor
  · intro h2
    have hlow : ∀ j, j < zs.length → 2 + (j : Int) ≤ zs.getD j 0 := by
      intro j
      induction j with
      | zero =>
        intro hj
        have h3 := (asc_at h2 hj).2.2
        have h4 := asc_low h2 hj
        simp only [List.mem_cons, List.not_mem_nil, or_false, not_or] at h3
        omega
      | succ j ih =>
        intro hj
        have h3 := (asc_at h2 hj).1
        rw [prevOf, if_neg (by omega), show j + 1 - 1 = j from rfl] at h3
        have := ih (by omega)
        omega
    rw [risesB, Bool.and_eq_true, inB_iff]
    refine ⟨⟨by omega, ?_⟩, all_range fun j hj => ?_⟩
    · by_cases h0 : zs.length = 0
      · omega
      · have h3 := hlow (zs.length - 1) (by omega)
        have h4 := (asc_at h2 (j := zs.length - 1) (by omega)).2.1
        omega
    · obtain ⟨h3, h4, _⟩ := asc_at h2 hj
      have h5 := hlow j hj
      rw [stepOk, Bool.and_eq_true, inB_iff, Bool.or_eq_true]
      refine ⟨⟨by omega, h4⟩, ?_⟩
      by_cases h0 : j = 0
      · left; simp [h0]
      · right; rw [prevOf, if_neg h0] at h3; simpa using h3
  · intro h1
    refine all_range fun j hj => ?_
    obtain ⟨h3, h4, h5⟩ := rises_at h1 hj
    rw [ascOk, Bool.and_eq_true, inB_iff]
    refine ⟨⟨?_, h4⟩, ?_⟩
    · rw [prevOf]
      by_cases hj0 : j = 0
      · rw [if_pos hj0]; omega
      · rw [if_neg hj0]; have := h5 hj0; omega
    · simp only [Bool.not_eq_true', decide_eq_false_iff_not, List.mem_cons, List.not_mem_nil, or_false, not_or]
      omega
end Go.Proofs.Ytjbfkgckpbpdeaa

/- Whether a task is ok: the program. -/
namespace Go.Proofs.Ytjbfkgckpbpdeaa
open Go.RowKit
set_option linter.unusedVariables false
set_option linter.unusedSimpArgs false

theorem isKind_c (n : Int) (w : World) : Calls Try.prog 42 #[.int .i64 n] w fun e w' => e = .returned (.bool (inB n 1 3)) ∧ w = w' := by
  go_enter Try.func42, Try.ntmps42
  go_wp2_with (go_at_call 40; refine (implIn_c _ _ _ _).mono ?_; rintro e w' ⟨rfl, rfl⟩)
  go_ret; exact ⟨rfl, rfl⟩
theorem isRole_c (n : Int) (w : World) : Calls Try.prog 45 #[.int .i64 n] w fun e w' => e = .returned (.bool (inB n 1 3)) ∧ w = w' := by
  go_enter Try.func45, Try.ntmps45
  go_wp2_with (go_at_call 40; refine (implIn_c _ _ _ _).mono ?_; rintro e w' ⟨rfl, rfl⟩)
  go_ret; exact ⟨rfl, rfl⟩
theorem sizesOk_c (n m : Int) (w : World) : Calls Try.prog 25 #[.int .i64 n, .int .i64 m] w fun e w' => e = .returned (.bool (inB n 2 8 && inB m 1 6)) ∧ w = w' := by
  go_enter Try.func25, Try.ntmps25
  go_wp2_with fail
  refine (implIn_c _ _ _ _).mono ?_
  rintro e w' ⟨rfl, rfl⟩
  by_cases h : inB n 2 8 = true
  · rw [h]
    have H := Lib.hid h
    clear h
    go_wp2_with (go_at_call 40; refine (implIn_c _ _ _ _).mono ?_; rintro e w' ⟨rfl, rfl⟩)
    go_ret; exact ⟨ret_bool (by rw [H.out]; rfl), rfl⟩
  · have h' : inB n 2 8 = false := by simpa using h
    have H := Lib.hid h'
    rw [h']
    clear h h'
    go_wp2
    go_ret; exact ⟨ret_bool (by rw [H.out]; rfl), rfl⟩

set_option maxRecDepth 10000 in
set_option maxHeartbeats 4000000 in
theorem implTaskOk_c (t : NTask) (vi vo vc : Value) (lo hi : Nat) (places tasks : Int) (w : World) (hV : TaskV w lo hi t vi vo vc) (hhi : hi ≤ w.heap.size) (hlen : t.out.length ≤ 1048576) (hp1 : 0 ≤ places) (hp2 : places ≤ 1000) (ht1 : 0 ≤ tasks) (ht2 : tasks ≤ 1000) :
    Calls Try.prog 28 #[.agg #[.int .i64 t.join, .int .i64 t.split, vi, vo, vc, .int .i64 t.role, .int .i64 t.apart, .int .i64 t.all, .int .i64 t.need], .int .i64 places, .int .i64 tasks] w
      fun e w' => e = .returned (.bool (taskOk t places tasks)) ∧ Below w.heap.size w w' := by
  have hai := asc_ins (places := places) (zs := t.ins)
  have hac := asc_clear (zs := t.clear) hp1
  have HAI := Lib.hid hai
  have HAC := Lib.hid hac
  clear hai hac
  obtain ⟨A1, b1, o1, c1, rfl, m1, hR1⟩ := hV.ins
  obtain ⟨A2, b2, o2, c2, rfl, m2, hR2⟩ := hV.out
  obtain ⟨A3, b3, o3, c3, rfl, m3, hR3⟩ := hV.clear
  have hmi := m1
  have hmc := m3
  unfold maxLen at hmi hmc
  go_enter Try.func28, Try.ntmps28
  have HR0 := Lib.hid (Row.newAt w #[.int .i64 t.join, .int .i64 t.split, .slice A1 t.ins.length c1, .slice A2 t.out.length c2, .slice A3 t.clear.length c3, .int .i64 t.role, .int .i64 t.apart, .int .i64 t.all, .int .i64 t.need] 41 _ rfl)
  have HB := Lib.hid ((Below.refl w.heap.size w).alloc (Nat.le_refl _) (.cells #[.int .i64 t.join, .int .i64 t.split, .slice A1 t.ins.length c1, .slice A2 t.out.length c2, .slice A3 t.clear.length c3, .int .i64 t.role, .int .i64 t.apart, .int .i64 t.all, .int .i64 t.need] 41))
  have HV := Lib.hid hV
  have HR1 := Lib.hid hR1
  have HR3 := Lib.hid hR3
  clear hV hR1 hR2 hR3
  go_wp2_with fail
  refine (isKind_c _ _).mono ?_
  rintro e w' ⟨rfl, rfl⟩
  by_cases h0 : inB t.join 1 3 = true
  · have H0 := Lib.hid h0
    rw [h0]
    clear h0
    go_wp2_with fail
    refine (isKind_c _ _).mono ?_
    rintro e w' ⟨rfl, rfl⟩
    by_cases h1 : inB t.split 1 3 = true
    · have H1 := Lib.hid h1
      rw [h1]
      clear h1
      go_wp2_with fail
      refine (implIn_c _ _ _ _).mono ?_
      rintro e w' ⟨rfl, rfl⟩
      by_cases h2 : inB t.ins.length 1 3 = true
      · have H2 := Lib.hid h2
        rw [h2]
        clear h2
        have hRw := Row.newAt (w.alloc (.cells #[.int .i64 t.join, .int .i64 t.split, .slice A1 t.ins.length c1, .slice A2 t.out.length c2, .slice A3 t.clear.length c3, .int .i64 t.role, .int .i64 t.apart, .int .i64 t.all, .int .i64 t.need] 41)) #[.int .i64 1] 3 (w.heap.size + 1) (by simp)
        have HB1 := Lib.hid (HB.out.alloc (by simp) (.cells #[.int .i64 1] 3))
        have HR01 := Lib.hid (HR0.out.alloc (by simp) (.cells #[.int .i64 1] 3))
        go_wp2_with fail
        refine (ascends_c t.ins [1] lo hi _ _ A1 _ b1 o1 c1 _ 0 _ places _ (HR1.out.below HB1.out hhi) hRw m1 (by simp [maxLen]) hp1 hp2).mono ?_
        rintro e w' ⟨rfl, rfl⟩
        clear hRw
        by_cases h3 : ascB places [1] t.ins = true
        · have H3 := Lib.hid h3
          rw [h3]
          clear h3
          go_wp2_with fail
          refine (outOk_c t _ _ _ lo hi places _ (HV.out.keep (fun g _ h => HB1.out.block g (by omega))) (Nat.le_trans hhi HB1.out.size) hlen hp1 hp2).mono ?_
          rintro e w2 ⟨rfl, hb2⟩
          have hR0 := HR01.out.below hb2 (by simp)
          have hz2 : w.heap.size + 1 + 1 ≤ w2.heap.size := by simpa using hb2.size
          have HB2 := Lib.hid (HB1.out.trans (hb2.mono HB1.out.size))
          obtain ⟨⟨s0, s1, s2, s3, s4, s5, s6, s7, s8⟩, _⟩ := hR0.nine
          have HR02 := Lib.hid hR0
          clear hb2 hR0
          by_cases h4 : outB places t.split t.out = true
          · have H4 := Lib.hid h4
            rw [h4]
            clear h4
            have hRw := Row.newAt w2 #[.int .i64 0, .int .i64 1] 3 w2.heap.size rfl
            have HB3 := Lib.hid (HB2.out.alloc (by omega) (.cells #[.int .i64 0, .int .i64 1] 3))
            have hz3 : w.heap.size < w2.heap.size := by omega
            have hz3n : w.heap.size ≠ w2.heap.size := by omega
            go_wp2_with fail
            refine (ascends_c t.clear [0, 1] lo hi _ _ A3 _ b3 o3 c3 _ 0 _ places _ (HR3.out.below HB3.out hhi) hRw m3 (by simp [maxLen]) hp1 hp2).mono ?_
            rintro e w' ⟨rfl, rfl⟩
            clear hRw
            by_cases h5 : ascB places [0, 1] t.clear = true
            · have H5 := Lib.hid h5
              rw [h5]
              clear h5
              go_wp2_with fail
              refine (isRole_c _ _).mono ?_
              rintro e w' ⟨rfl, rfl⟩
              by_cases h6 : inB t.role 1 3 = true
              · have H6 := Lib.hid h6
                rw [h6]
                clear h6
                go_wp2_with fail
                refine (implIn_c _ _ _ _).mono ?_
                rintro e w' ⟨rfl, rfl⟩
                by_cases h7 : inB t.apart (-1) (tasks - 1) = true
                · have H7 := Lib.hid h7
                  rw [h7]
                  clear h7
                  go_wp2_with fail
                  refine (implIn_c _ _ _ _).mono ?_
                  rintro e w' ⟨rfl, rfl⟩
                  by_cases h8 : inB t.all 1 3 = true
                  · have H8 := Lib.hid h8
                    rw [h8]
                    clear h8
                    go_wp2_with fail
                    refine (implIn_c _ _ _ _).mono ?_
                    rintro e w' ⟨rfl, rfl⟩
                    go_wp2
                    go_ret
                    refine ⟨ret_bool ?_, HB3.out⟩
                    have hai := HAI.out
                    have hac := HAC.out
                    rw [H2.out, H3.out] at hai
                    rw [H5.out] at hac
                    rw [Bool.true_and, eq_comm, Bool.and_eq_true] at hai
                    simp only [taskOk, H0.out, H1.out, hai.1, hai.2, H4.out, ← hac, H6.out, H7.out, H8.out, Bool.true_and]
                  · have h8' : inB t.all 1 3 = false := by simpa using h8
                    have H8 := Lib.hid h8'
                    rw [h8']
                    clear h8 h8'
                    go_wp2
                    go_ret
                    refine ⟨ret_bool ?_, HB3.out⟩
                    simp only [taskOk, H8.out, Bool.false_and, Bool.and_false]
                · have h7' : inB t.apart (-1) (tasks - 1) = false := by simpa using h7
                  have H7 := Lib.hid h7'
                  rw [h7']
                  clear h7 h7'
                  go_wp2
                  go_ret
                  refine ⟨ret_bool ?_, HB3.out⟩
                  simp only [taskOk, H7.out, Bool.false_and, Bool.and_false]
              · have h6' : inB t.role 1 3 = false := by simpa using h6
                have H6 := Lib.hid h6'
                rw [h6']
                clear h6 h6'
                go_wp2
                go_ret
                refine ⟨ret_bool ?_, HB3.out⟩
                simp only [taskOk, H6.out, Bool.false_and, Bool.and_false]
            · have h5' : ascB places [0, 1] t.clear = false := by simpa using h5
              have H5 := Lib.hid h5'
              rw [h5']
              clear h5 h5'
              go_wp2
              go_ret
              refine ⟨ret_bool ?_, HB3.out⟩
              have hac := HAC.out
              rw [H5.out] at hac
              simp only [taskOk, ← hac, Bool.false_and, Bool.and_false]
          · have h4' : outB places t.split t.out = false := by simpa using h4
            have H4 := Lib.hid h4'
            rw [h4']
            clear h4 h4'
            go_wp2
            go_ret
            refine ⟨ret_bool ?_, HB2.out⟩
            simp only [taskOk, H4.out, Bool.false_and, Bool.and_false]
        · have h3' : ascB places [1] t.ins = false := by simpa using h3
          have H3 := Lib.hid h3'
          rw [h3']
          clear h3 h3'
          go_wp2
          go_ret
          refine ⟨ret_bool ?_, HB1.out⟩
          have hai := HAI.out
          rw [H3.out, Bool.and_false, eq_comm] at hai
          rw [Bool.and_eq_false_iff] at hai
          rcases hai with h | h
          · simp only [taskOk, h, Bool.false_and, Bool.and_false]
          · simp only [taskOk, h, Bool.false_and, Bool.and_false]
      · have h2' : inB t.ins.length 1 3 = false := by simpa using h2
        have H2 := Lib.hid h2'
        rw [h2']
        clear h2 h2'
        go_wp2
        go_ret
        refine ⟨ret_bool ?_, HB.out⟩
        have hai := HAI.out
        rw [H2.out, Bool.false_and, eq_comm] at hai
        rw [Bool.and_eq_false_iff] at hai
        rcases hai with h | h
        · simp only [taskOk, h, Bool.false_and, Bool.and_false]
        · simp only [taskOk, h, Bool.false_and, Bool.and_false]
    · have h1' : inB t.split 1 3 = false := by simpa using h1
      have H1 := Lib.hid h1'
      rw [h1']
      clear h1 h1'
      go_wp2
      go_ret
      refine ⟨ret_bool ?_, HB.out⟩
      simp only [taskOk, H1.out, Bool.false_and, Bool.and_false]
  · have h0' : inB t.join 1 3 = false := by simpa using h0
    have H0 := Lib.hid h0'
    rw [h0']
    clear h0 h0'
    go_wp2
    go_ret
    refine ⟨ret_bool ?_, HB.out⟩
    simp only [taskOk, H0.out, Bool.false_and, Bool.and_false]
end Go.Proofs.Ytjbfkgckpbpdeaa

/- Whether a net is ok: the program. -/
namespace Go.Proofs.Ytjbfkgckpbpdeaa
open Go.RowKit
set_option linter.unusedVariables false
set_option linter.unusedSimpArgs false

/-- A function value that answers p of each of some tasks, whatever new memory lies beside. -/
def PredTask (P : Program) (g : FuncId) (lb : Array Value) (ts : List NTask) (p : NTask → Bool) (lo hi : Nat) (w : World) : Prop :=
  ∀ (t : NTask) (vi vo vc : Value) (W : World), t ∈ ts → Below w.heap.size w W → TaskV W lo hi t vi vo vc →
    Calls P g (#[.agg #[.int .i64 t.join, .int .i64 t.split, vi, vo, vc, .int .i64 t.role, .int .i64 t.apart, .int .i64 t.all, .int .i64 t.need]] ++ lb) W fun e W' => e = .returned (.bool (p t)) ∧ Below W.heap.size W W'

set_option maxRecDepth 10000 in
set_option maxHeartbeats 1000000 in
theorem indexFuncTask_c (ts : List NTask) (ms : List TaskM) (lo hi lo2 hi2 : Nat) (A : Option Addr) (b off c : Nat) (g : FuncId) (lb : Array Value) (p : NTask → Bool) (w : World) (hV : TasksV w lo hi lo2 hi2 A b off ts ms) (hhi : hi ≤ w.heap.size) (hhi2 : hi2 ≤ w.heap.size) (hm : ts.length ≤ maxLen) (hp : PredTask Try.prog g lb ts p lo2 hi2 w) (eg : EntersF Try.prog g) :
    Calls Try.prog 41 #[.slice A ts.length c, .func (.func g) #[] lb] w fun e w' => e = .returned (.int .i64 (idxFrom p 0 ts)) ∧ Below w.heap.size w w' := by
  unfold maxLen at hm
  have eg' : ∀ (args : Array Value) (w : World), Sem.run Try.prog (callFunc g args) w = .ok (.enter g args) w := eg
  go_enter Try.func41, Try.ntmps41
  go_wp2
  go_loopw [8] (fun i wr => ∃ k : Nat, k ≤ ts.length ∧ i = .int .i64 k ∧ (∀ j y, j < k → ts[j]? = some y → p y = false) ∧ Below w.heap.size w wr) (fun i _ => ts.length - (intOf i).toNat)
  case atStart => exact ⟨0, Nat.zero_le _, rfl, fun j y hj => absurd hj (Nat.not_lt_zero _), Below.refl _ _⟩
  case round =>
    obtain ⟨k, hk, rfl, hn, hb⟩ := hrel
    have HN := Lib.hid hn
    have HB := Lib.hid hb
    by_cases hlt : k < ts.length
    · obtain ⟨rfl, _, h3, t, vi, vo, vc, hx, _, hTV, ⟨c0, c1, c2, c3, c4, c5, c6, c7, c8⟩, _⟩ := hV.task hlt
      replace c0 := (hb.cell (p := ⟨b, off + k * 9, none⟩) (by show b < _; omega)).trans c0
      replace c1 := (hb.cell (p := ⟨b, off + k * 9 + 1, none⟩) (by show b < _; omega)).trans c1
      replace c2 := (hb.cell (p := ⟨b, off + k * 9 + 2, none⟩) (by show b < _; omega)).trans c2
      replace c3 := (hb.cell (p := ⟨b, off + k * 9 + 3, none⟩) (by show b < _; omega)).trans c3
      replace c4 := (hb.cell (p := ⟨b, off + k * 9 + 4, none⟩) (by show b < _; omega)).trans c4
      replace c5 := (hb.cell (p := ⟨b, off + k * 9 + 5, none⟩) (by show b < _; omega)).trans c5
      replace c6 := (hb.cell (p := ⟨b, off + k * 9 + 6, none⟩) (by show b < _; omega)).trans c6
      replace c7 := (hb.cell (p := ⟨b, off + k * 9 + 7, none⟩) (by show b < _; omega)).trans c7
      replace c8 := (hb.cell (p := ⟨b, off + k * 9 + 8, none⟩) (by show b < _; omega)).trans c8
      have HX := Lib.hid hx
      have HP := Lib.hid (hp t vi vo vc wr (List.mem_of_getElem? hx) hb (hTV.keep fun g _ h => hb.block g (by omega)))
      clear hx hn hb hTV hV hp
      go_wp2_with fail
      refine HP.out.mono ?_
      rintro e w1 ⟨rfl, hb1⟩
      have HB1 := Lib.hid hb1
      have HBs := Lib.hid HB.out.size
      clear hb1
      by_cases hpx : p t = true
      · have HPX := Lib.hid hpx
        rw [hpx]
        clear hpx
        go_wp2_with fail
        go_ret
        exact ⟨ret_int (by rw [idxFrom_at p ts 0 k t HX.out HPX.out (fun i y hi hy => HN.out i y hi hy)]; simp), HB.out.trans (HB1.out.mono HBs.out)⟩
      · have hpx' : p t = false := by simpa using hpx
        have HPX := Lib.hid hpx'
        rw [hpx']
        clear hpx hpx'
        go_wp2_with fail
        go_roundw
        case rel =>
          refine ⟨k + 1, by omega, by go_num, fun j y hj hy => ?_, HB.out.trans (HB1.out.mono HBs.out)⟩
          by_cases hjk : j = k
          · subst hjk
            have e := HX.out.symm.trans hy
            injection e with e; rw [← e]; exact HPX.out
          · exact HN.out j y (by omega) hy
        case measure => simp [intOf]; omega
    · go_wp2
      go_ret
      refine ⟨ret_int ?_, HB.out⟩
      exact (idxFrom_none p ts 0 (fun x hx => by
        obtain ⟨j, hj⟩ := List.getElem?_of_mem hx
        exact HN.out j x (by have := lt_of_some hj; omega) hj)).symm

theorem containsFuncTask_c (ts : List NTask) (ms : List TaskM) (lo hi lo2 hi2 : Nat) (A : Option Addr) (b off c : Nat) (g : FuncId) (lb : Array Value) (p : NTask → Bool) (w : World) (hV : TasksV w lo hi lo2 hi2 A b off ts ms) (hhi : hi ≤ w.heap.size) (hhi2 : hi2 ≤ w.heap.size) (hm : ts.length ≤ maxLen) (hp : PredTask Try.prog g lb ts p lo2 hi2 w) (eg : EntersF Try.prog g) :
    Calls Try.prog 26 #[.slice A ts.length c, .func (.func g) #[] lb] w fun e w' => e = .returned (.bool (ts.any p)) ∧ Below w.heap.size w w' := by
  have hidx := idx_any p ts 0
  generalize hr : ts.any p = r at hidx
  have HR := Lib.hid hr
  clear hr
  generalize hi : idxFrom p 0 ts = i at hidx
  have HI := Lib.hid hi
  clear hi
  go_enter Try.func26, Try.ntmps26
  go_wp2_with fail
  refine (indexFuncTask_c ts ms _ _ lo2 hi2 A b off c g lb p w hV hhi hhi2 hm hp eg).mono ?_
  rintro e w1 ⟨rfl, hb1⟩
  rw [HI.out]
  have HB1 := Lib.hid hb1
  clear hb1
  go_wp2_with fail
  go_ret
  exact ⟨rfl, HB1.out⟩

/-- The captured net in block g. -/
theorem netOk1_c (t : NTask) (vi vo vc : Value) (lo hi g : Nat) (places : Int) (A : Option Addr) (m c : Nat) (w : World) (hV : TaskV w lo hi t vi vo vc) (hhi : hi ≤ w.heap.size) (hlen : t.out.length ≤ 1048576) (hp1 : 0 ≤ places) (hp2 : places ≤ 1000) (ht2 : m ≤ 1000)
    (hR : Row w g (g + 1) (some ⟨g, 0, none⟩) g 0 [.int .i64 places, .slice A m c]) (hg : g < w.heap.size) :
    Calls Try.prog 27 #[.agg #[.int .i64 t.join, .int .i64 t.split, vi, vo, vc, .int .i64 t.role, .int .i64 t.apart, .int .i64 t.all, .int .i64 t.need], .pointer (some ⟨g, 0, none⟩)] w
      fun e w' => e = .returned (.bool (!taskOk t places m)) ∧ Below w.heap.size w w' := by
  have s0 := (hR.cell (j := 0) rfl).1
  have s1 := (hR.cell (j := 1) rfl).1
  have hne : g ≠ w.heap.size := by omega
  clear hR
  go_enter Try.func27, Try.ntmps27
  go_wp2_with fail
  refine (implTaskOk_c t vi vo vc lo hi places m _ (hV.keep fun g _ h => Below.heap_alloc w _ g (by omega)) (by simp; omega) hlen hp1 hp2 (by omega) (by omega)).mono ?_
  rintro e w1 ⟨rfl, hb1⟩
  have HB := Lib.hid (((Below.refl w.heap.size w).alloc (Nat.le_refl _) _).trans (hb1.mono (by simp)))
  clear hb1
  go_wp2
  go_ret
  exact ⟨rfl, HB.out⟩

theorem implNetOk_c (n : NNet) (v : Value) (lo hi : Nat) (w : World) (hV : NetV w lo hi v n) (hhi : hi ≤ w.heap.size) (hlen : ∀ t ∈ n.tasks, t.out.length ≤ 1048576) :
    Calls Try.prog 16 #[v] w fun e w' => e = .returned (.bool (netOk n)) ∧ Below w.heap.size w w' := by
  obtain ⟨A, b, off, c, ms, rfl, hm, hT⟩ := hV
  have hm0 := hm
  have eg : EntersF Try.prog 27 := entersF Try.func27 (by kernel_rfl) rfl
  have EG := Lib.hid eg
  have HLEN := Lib.hid hlen
  unfold maxLen at hm
  clear eg hlen
  go_enter Try.func16, Try.ntmps16
  go_wp2_with fail
  refine (sizesOk_c _ _ _).mono ?_
  rintro e w' ⟨rfl, rfl⟩
  by_cases h1 : (inB n.places 2 8 && inB n.tasks.length 1 6) = true
  · have H1 := Lib.hid h1
    rw [h1]
    rw [Bool.and_eq_true, inB_iff, inB_iff] at h1
    have hR := Row.newAt w #[.int .i64 n.places, .slice A n.tasks.length c] 30 _ rfl
    have HB := Lib.hid ((Below.refl w.heap.size w).alloc (Nat.le_refl _) (.cells #[.int .i64 n.places, .slice A n.tasks.length c] 30))
    have hp : PredTask Try.prog 27 #[.pointer (some ⟨w.heap.size, 0, none⟩)] n.tasks (fun t => !taskOk t n.places n.tasks.length) lo hi (w.alloc (.cells #[.int .i64 n.places, .slice A n.tasks.length c] 30)) := by
      intro t vi vo vc W ht hb hTV
      have hz : w.heap.size + 1 ≤ W.heap.size := by simpa using hb.size
      exact netOk1_c t vi vo vc lo hi w.heap.size n.places A n.tasks.length c W hTV (by omega) (HLEN.out t ht) (by omega) (by omega) (by omega) (hR.below hb (by simp)) (by omega)
    have HC := Lib.hid (containsFuncTask_c n.tasks ms lo hi lo hi A b off c _ _ _ _ (hT.keep (fun g _ h => Below.heap_alloc w _ g (by omega)) (fun g _ h => Below.heap_alloc w _ g (by omega))) (by simp; omega) (by simp; omega) hm0 hp EG.out)
    clear hp hR hT h1
    go_wp2_with fail
    refine HC.out.mono ?_
    rintro e w1 ⟨rfl, hb1⟩
    have HB1 := Lib.hid (HB.out.trans (hb1.mono (by simp)))
    clear hb1
    generalize hr : (n.tasks.any fun t => !taskOk t n.places n.tasks.length) = r
    have HR := Lib.hid hr
    clear hr
    go_wp2
    go_ret
    refine ⟨ret_bool ?_, HB1.out⟩
    have e : netOk n = ((inB n.places 2 8 && inB n.tasks.length 1 6) && n.tasks.all fun t => taskOk t n.places n.tasks.length) := by rw [netOk, Bool.and_assoc]
    rw [e, H1.out, ← HR.out, List.any_eq_not_all_not]; simp
  · have h1' : (inB n.places 2 8 && inB n.tasks.length 1 6) = false := by simpa using h1
    have H1 := Lib.hid h1'
    rw [h1']
    clear h1 h1'
    go_wp2
    go_ret
    refine ⟨ret_bool ?_, (Below.refl _ _).alloc (Nat.le_refl _) _⟩
    have e : netOk n = ((inB n.places 2 8 && inB n.tasks.length 1 6) && n.tasks.all fun t => taskOk t n.places n.tasks.length) := by rw [netOk, Bool.and_assoc]
    rw [e, H1.out]; rfl
end Go.Proofs.Ytjbfkgckpbpdeaa

/- How many ways a net has: the program and the reference. -/
namespace Go.Proofs.Ytjbfkgckpbpdeaa
open Go.RowKit
set_option linter.unusedVariables false
set_option linter.unusedSimpArgs false

theorem netOk_parts {n : NNet} (h : netOk n = true) : 2 ≤ n.places ∧ n.places ≤ 8 ∧ 1 ≤ n.tasks.length ∧ n.tasks.length ≤ 6 ∧ ∀ t ∈ n.tasks, taskOk t n.places n.tasks.length = true := by
  rw [netOk, Bool.and_eq_true, Bool.and_eq_true, inB_iff, inB_iff, List.all_eq_true] at h
  exact ⟨h.1.1, h.1.2, by omega, by omega, h.2.2⟩
theorem taskOk_parts {t : NTask} {p m : Int} (h : taskOk t p m = true) : inB t.join 1 3 = true ∧ inB t.split 1 3 = true ∧ risesB t.ins 1 3 0 (p - 1) = true ∧ 1 ∉ t.ins ∧ outB p t.split t.out = true ∧ risesB t.clear 0 p 2 (p - 1) = true ∧ inB t.role 1 3 = true ∧ inB t.apart (-1) (m - 1) = true ∧ inB t.all 1 3 = true ∧ inB t.need 1 t.all = true := by
  simp only [taskOk, Bool.and_eq_true, Bool.not_eq_true', decide_eq_false_iff_not] at h
  obtain ⟨h1, h2, h3, h4, h5, h6, h7, h8, h9, h10⟩ := h
  exact ⟨h1, h2, h3, h4, h5, h6, h7, h8, h9, h10⟩
theorem taskOk_lens {t : NTask} {p m : Int} (h : taskOk t p m = true) : 1 ≤ t.ins.length ∧ t.ins.length ≤ 3 ∧ 1 ≤ t.out.length ∧ t.out.length ≤ 3 := by
  obtain ⟨_, _, h3, _, h5, _⟩ := taskOk_parts h
  rw [risesB, Bool.and_eq_true, inB_iff] at h3
  rw [outB, Bool.and_eq_true, inB_iff] at h5
  omega

def waysOf (t : NTask) : Int := (t.ins.length : Int) + (t.out.length : Int)
def waysSum (ts : List NTask) : Int := (ts.map waysOf).sum
def flowsN (n : NNet) : Int := if netOk n then waysSum n.tasks else 0
theorem waysSum_snoc {ts : List NTask} {k : Nat} {t : NTask} (h : ts[k]? = some t) : waysSum (ts.take (k + 1)) = waysSum (ts.take k) + waysOf t := by
  rw [take_succ_of h]; simp [waysSum]
theorem waysSum_bound {n : NNet} (h : netOk n = true) : ∀ k, 0 ≤ waysSum (n.tasks.take k) ∧ waysSum (n.tasks.take k) ≤ 6 * (k : Int)
  | 0 => by simp [waysSum]
  | k + 1 => by
    have ih := waysSum_bound h k
    by_cases hk : k < n.tasks.length
    · have hx := List.getElem?_eq_getElem hk
      have hl := taskOk_lens ((netOk_parts h).2.2.2.2 _ (List.mem_of_getElem? hx))
      rw [waysSum_snoc hx]
      unfold waysOf
      omega
    · rw [List.take_of_length_le (show n.tasks.length ≤ k + 1 by omega), ← List.take_of_length_le (l := n.tasks) (show n.tasks.length ≤ k by omega)]
      omega


end Go.Proofs.Ytjbfkgckpbpdeaa

/- Whether marks are ok in a net: the program and the reference. -/
namespace Go.Proofs.Ytjbfkgckpbpdeaa
open Go.RowKit
set_option linter.unusedVariables false
set_option linter.unusedSimpArgs false

def marksB (places : Int) (zs : List Int) : Bool := decide ((zs.length : Int) = places) && zs.all fun m => inB m 0 4
def mrkOk (n : NNet) (zs : List Int) : Bool := netOk n && marksB n.places zs
/-- The boxed net. -/
abbrev netBox (places : Int) (A : Option Addr) (m c : Nat) : List Value := [.int .i64 places, .slice A m c]




end Go.Proofs.Ytjbfkgckpbpdeaa
