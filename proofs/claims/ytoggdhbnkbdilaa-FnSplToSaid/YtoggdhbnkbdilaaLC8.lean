/- A law over what is drawn of a code: a task leads where its questions say. -/
import Derived.Test.YtoggdhbnkbdilaaDrawS
import Derived.Test.YtoggdhbnkbdilaaNB
import Derived.Test.YtoggdhbnkbdilaaSpl
import Derived.Test.YtoggdhbnkbdilaaReader
import Derived.BigQuiet
import Derived.Deep.DeepCutAuto
namespace Go.Proofs.Ytoggdhbnkbdilaa
open Go.RowKit
set_option linter.unusedVariables false
set_option linter.unusedSimpArgs false

structure TB (w0 : World) (T : Nat) (t : NTask) (Ai : Option Addr) (ci : Nat) (Ao : Option Addr) (co : Nat) (Ac : Option Addr) (cc : Nat) (w : World) : Prop where
  blk : Blk w T 38 #[.int .i64 t.join, .int .i64 t.split, .slice Ai t.ins.length ci, .slice Ao t.out.length co, .slice Ac t.clear.length cc, .int .i64 t.role, .int .i64 t.apart, .int .i64 t.all, .int .i64 t.need]
  tv : TaskV w w0.heap.size T t (.slice Ai t.ins.length ci) (.slice Ao t.out.length co) (.slice Ac t.clear.length cc)
  bl : Below w0.heap.size w0 w
  lt : T < w.heap.size
section
variable {w0 w w' : World} {T ci co cc : Nat} {t : NTask} {Ai Ao Ac : Option Addr}
theorem TB.start (hv : TaskV w w0.heap.size w.heap.size t (.slice Ai t.ins.length ci) (.slice Ao t.out.length co) (.slice Ac t.clear.length cc)) (hb : Below w0.heap.size w0 w) : TB w0 w.heap.size t Ai ci Ao co Ac cc (w.alloc (.cells #[.int .i64 t.join, .int .i64 t.split, .slice Ai t.ins.length ci, .slice Ao t.out.length co, .slice Ac t.clear.length cc, .int .i64 t.role, .int .i64 t.apart, .int .i64 t.all, .int .i64 t.need] 38)) :=
  ⟨Blk.new_ _ _ _, hv.keep fun g _ h => Below.heap_alloc w _ g h, hb.alloc hb.size _, by simp⟩
theorem TB.below (h : TB w0 T t Ai ci Ao co Ac cc w) (hb : Below w.heap.size w w') : TB w0 T t Ai ci Ao co Ac cc w' :=
  ⟨h.blk.below hb h.lt, h.tv.keep fun g _ h2 => hb.block g (by have := h.lt; omega), h.bl.trans (hb.mono h.bl.size), Nat.lt_of_lt_of_le h.lt hb.size⟩
end

set_option maxRecDepth 100000 in
set_option maxHeartbeats 4000000 in
theorem splTo_walk {zs : List Int} {A : Option Addr} {b off c : Nat} (w : World) (hV : Row w 0 w.heap.size A b off (bytesC zs)) (hz : ∀ x ∈ zs, 0 ≤ x ∧ x ≤ 255) (hm : zs.length ≤ maxLen) (hcap : zs.length ≤ c) :
    Calls Try.prog 5 #[.slice A zs.length c] w fun e w' => e = .returned (.bool true) ∧ Below w.heap.size w w' := by
  have hm0 := hm
  have HZ := Lib.hid hz
  clear hz
  unfold maxLen at hm
  obtain ⟨i0, hi0, hz0, hz1, hz2⟩ := info_parts Try.info3
  go_enter Try.func5, Try.ntmps5
  by_cases hbig : 1048576 < zs.length
  · go_wp2; go_ret; exact ⟨rfl, Below.refl _ _⟩
  · go_wp2_with fail
    refine (drawSplTo_c zs A b off c w hV HZ.out hm0 hcap).mono ?_
    rintro e w1 ⟨t, Ai, ci, Ao, co, Ac, cc, v, ys, rfl, hst, htv, hyl, hv, hb⟩
    obtain ⟨A2, b2, o2, c2, rfl, hc2, hrow⟩ := hv
    have HT1 := Lib.hid (TB.start htv hb)
    have HD1 := Lib.hid (hrow.alloc (Nat.le_refl _) (.cells #[.int .i64 t.join, .int .i64 t.split, .slice Ai t.ins.length ci, .slice Ao t.out.length co, .slice Ac t.clear.length cc, .int .i64 t.role, .int .i64 t.apart, .int .i64 t.all, .int .i64 t.need] 38))
    have hil := hst.1.2.1
    clear hst htv hb hrow
    generalize hTT : w1.heap.size = T at HT1 HD1
    have hym : ys.length ≤ maxLen := by unfold maxLen; omega
    have fa0 : (w1.alloc (.cells #[.int .i64 t.join, .int .i64 t.split, .slice Ai t.ins.length ci, .slice Ao t.out.length co, .slice Ac t.clear.length cc, .int .i64 t.role, .int .i64 t.apart, .int .i64 t.all, .int .i64 t.need] 38)).cell? ⟨T, 0, none⟩ = some (.int .i64 t.join) := HT1.out.blk.cell 0
    have fa1 : (w1.alloc (.cells #[.int .i64 t.join, .int .i64 t.split, .slice Ai t.ins.length ci, .slice Ao t.out.length co, .slice Ac t.clear.length cc, .int .i64 t.role, .int .i64 t.apart, .int .i64 t.all, .int .i64 t.need] 38)).cell? ⟨T, 1, none⟩ = some (.int .i64 t.split) := HT1.out.blk.cell 1
    have fa2 : (w1.alloc (.cells #[.int .i64 t.join, .int .i64 t.split, .slice Ai t.ins.length ci, .slice Ao t.out.length co, .slice Ac t.clear.length cc, .int .i64 t.role, .int .i64 t.apart, .int .i64 t.all, .int .i64 t.need] 38)).cell? ⟨T, 2, none⟩ = some (.slice Ai t.ins.length ci) := HT1.out.blk.cell 2
    have fa3 : (w1.alloc (.cells #[.int .i64 t.join, .int .i64 t.split, .slice Ai t.ins.length ci, .slice Ao t.out.length co, .slice Ac t.clear.length cc, .int .i64 t.role, .int .i64 t.apart, .int .i64 t.all, .int .i64 t.need] 38)).cell? ⟨T, 3, none⟩ = some (.slice Ao t.out.length co) := HT1.out.blk.cell 3
    have fa4 : (w1.alloc (.cells #[.int .i64 t.join, .int .i64 t.split, .slice Ai t.ins.length ci, .slice Ao t.out.length co, .slice Ac t.clear.length cc, .int .i64 t.role, .int .i64 t.apart, .int .i64 t.all, .int .i64 t.need] 38)).cell? ⟨T, 4, none⟩ = some (.slice Ac t.clear.length cc) := HT1.out.blk.cell 4
    have fa5 : (w1.alloc (.cells #[.int .i64 t.join, .int .i64 t.split, .slice Ai t.ins.length ci, .slice Ao t.out.length co, .slice Ac t.clear.length cc, .int .i64 t.role, .int .i64 t.apart, .int .i64 t.all, .int .i64 t.need] 38)).cell? ⟨T, 5, none⟩ = some (.int .i64 t.role) := HT1.out.blk.cell 5
    have fa6 : (w1.alloc (.cells #[.int .i64 t.join, .int .i64 t.split, .slice Ai t.ins.length ci, .slice Ao t.out.length co, .slice Ac t.clear.length cc, .int .i64 t.role, .int .i64 t.apart, .int .i64 t.all, .int .i64 t.need] 38)).cell? ⟨T, 6, none⟩ = some (.int .i64 t.apart) := HT1.out.blk.cell 6
    have fa7 : (w1.alloc (.cells #[.int .i64 t.join, .int .i64 t.split, .slice Ai t.ins.length ci, .slice Ao t.out.length co, .slice Ac t.clear.length cc, .int .i64 t.role, .int .i64 t.apart, .int .i64 t.all, .int .i64 t.need] 38)).cell? ⟨T, 7, none⟩ = some (.int .i64 t.all) := HT1.out.blk.cell 7
    have fa8 : (w1.alloc (.cells #[.int .i64 t.join, .int .i64 t.split, .slice Ai t.ins.length ci, .slice Ao t.out.length co, .slice Ac t.clear.length cc, .int .i64 t.role, .int .i64 t.apart, .int .i64 t.all, .int .i64 t.need] 38)).cell? ⟨T, 8, none⟩ = some (.int .i64 t.need) := HT1.out.blk.cell 8
    go_wp2_with fail
    refine (implSplTo_c t _ _ _ ys _ _ _ _ A2 b2 o2 c2 _ HT1.out.tv (Nat.le_of_lt HT1.out.lt) (by omega) HD1.out (Nat.le_of_lt HT1.out.lt) hym).mono ?_
    rintro e w2 ⟨v2, rfl, hM2, hb2⟩
    have HT2 := Lib.hid (HT1.out.below hb2)
    have HD2 := Lib.hid (HD1.out.below hb2 (Nat.le_of_lt HT1.out.lt))
    obtain ⟨A3, b3, c3, rfl, hr3⟩ := hM2.row
    have HX2 := Lib.hid hr3
    clear hb2 hM2 hr3
    clear fa0 fa1 fa2 fa3 fa4 fa5 fa6 fa7 fa8
    have fb0 : w2.cell? ⟨T, 0, none⟩ = some (.int .i64 t.join) := HT2.out.blk.cell 0
    have fb1 : w2.cell? ⟨T, 1, none⟩ = some (.int .i64 t.split) := HT2.out.blk.cell 1
    have fb2 : w2.cell? ⟨T, 2, none⟩ = some (.slice Ai t.ins.length ci) := HT2.out.blk.cell 2
    have fb3 : w2.cell? ⟨T, 3, none⟩ = some (.slice Ao t.out.length co) := HT2.out.blk.cell 3
    have fb4 : w2.cell? ⟨T, 4, none⟩ = some (.slice Ac t.clear.length cc) := HT2.out.blk.cell 4
    have fb5 : w2.cell? ⟨T, 5, none⟩ = some (.int .i64 t.role) := HT2.out.blk.cell 5
    have fb6 : w2.cell? ⟨T, 6, none⟩ = some (.int .i64 t.apart) := HT2.out.blk.cell 6
    have fb7 : w2.cell? ⟨T, 7, none⟩ = some (.int .i64 t.all) := HT2.out.blk.cell 7
    have fb8 : w2.cell? ⟨T, 8, none⟩ = some (.int .i64 t.need) := HT2.out.blk.cell 8
    go_wp2_with fail
    refine (specSplTo_c t _ _ _ ys _ _ _ _ A2 b2 o2 c2 w2 HT2.out.tv (Nat.le_of_lt HT2.out.lt) (by omega) HD2.out (Nat.le_of_lt HT2.out.lt) hym).mono ?_
    rintro e w3 ⟨v3, rfl, hM3, hb3⟩
    have HT3 := Lib.hid (HT2.out.below hb3)
    have HD3 := Lib.hid (HD2.out.below hb3 (Nat.le_of_lt HT2.out.lt))
    have HX3 := Lib.hid (HX2.out.below hb3 (Nat.le_refl _))
    obtain ⟨A4, b4, c4, rfl, hr4⟩ := hM3.row
    have hsl := splN_len t ys t.out.length
    have hsl' : (splL t ys).length ≤ maxLen := by unfold maxLen splL; omega
    have HGB := guInts_c (splL t ys) (splL t ys) _ _ _ _ A3 A4 b3 0 c3 b4 0 c4 w3 HX3.out hr4 hsl' hsl'
    rw [decide_eq_true rfl] at HGB
    have HGB := Lib.hid HGB
    have hs3 := hb3.size
    clear hb3 hM3 hr4 HX2
    clear fb0 fb1 fb2 fb3 fb4 fb5 fb6 fb7 fb8
    go_wp2_with fail
    refine HGB.out.mono ?_
    rintro e w4 ⟨rfl, hb4⟩
    have HT4 := Lib.hid (HT3.out.below hb4)
    have HD4 := Lib.hid (HD3.out.below hb4 (Nat.le_of_lt HT3.out.lt))
    have HX4 := Lib.hid (HX3.out.below hb4 hs3)
    have hs4 := hb4.size
    have hs24 : w2.heap.size ≤ w4.heap.size := Nat.le_trans hs3 hs4
    clear hb4 HGB HT3 HD3 HX3 HT2 HD2
    have HO0 := Lib.hid (own_lit0 w4 3)
    go_wp2
    go_loopw [6, 7] (fun v i wr => ∃ j : Nat, j ≤ t.out.length ∧ i = .int .i64 j ∧ wr.ownsRow w4.heap.size 3 1 v (splN t ys j).length (ints (splN t ys j)) ∧ Below w4.heap.size w4 wr) (fun _ i _ => t.out.length - (intOf i).toNat)
    case atStart => exact ⟨0, Nat.zero_le _, rfl, HO0.out, (Below.refl _ _).alloc (Nat.le_refl _) _⟩
    case round =>
      clear HO0
      obtain ⟨j, hj, rfl, hown, hbl⟩ := hrel
      have HO := Lib.hid hown
      have HBL := Lib.hid hbl
      have hsr := hbl.size
      have HTr := Lib.hid (show TB w T t Ai ci Ao co Ac cc wr from ⟨HT4.out.blk.below hbl HT4.out.lt, HT4.out.tv.keep fun g _ h2 => hbl.block g (by have := HT4.out.lt; omega), HT4.out.bl.trans (hbl.mono HT4.out.bl.size), Nat.lt_of_lt_of_le HT4.out.lt hbl.size⟩)
      have HDr := Lib.hid (HD4.out.below hbl (Nat.le_of_lt HT4.out.lt))
      clear hown hbl
      obtain ⟨Aw, cw, rfl⟩ := own_any HO.out
      have hwl := splN_len t ys j
      have fd0 : wr.cell? ⟨T, 0, none⟩ = some (.int .i64 t.join) := HTr.out.blk.cell 0
      have fd1 : wr.cell? ⟨T, 1, none⟩ = some (.int .i64 t.split) := HTr.out.blk.cell 1
      have fd2 : wr.cell? ⟨T, 2, none⟩ = some (.slice Ai t.ins.length ci) := HTr.out.blk.cell 2
      have fd3 : wr.cell? ⟨T, 3, none⟩ = some (.slice Ao t.out.length co) := HTr.out.blk.cell 3
      have fd4 : wr.cell? ⟨T, 4, none⟩ = some (.slice Ac t.clear.length cc) := HTr.out.blk.cell 4
      have fd5 : wr.cell? ⟨T, 5, none⟩ = some (.int .i64 t.role) := HTr.out.blk.cell 5
      have fd6 : wr.cell? ⟨T, 6, none⟩ = some (.int .i64 t.apart) := HTr.out.blk.cell 6
      have fd7 : wr.cell? ⟨T, 7, none⟩ = some (.int .i64 t.all) := HTr.out.blk.cell 7
      have fd8 : wr.cell? ⟨T, 8, none⟩ = some (.int .i64 t.need) := HTr.out.blk.cell 8
      obtain ⟨_, bo, oo, _, eo, _, hro⟩ := HTr.out.tv.out
      injection eo with eo1 eo2 eo3
      subst eo1
      subst eo3
      clear eo2
      by_cases hjl : j < t.out.length
      · have hjl1 : (j : Int) < (t.out.length : Int) := by omega
        obtain ⟨rfl, _, hbo, f, hf, ⟨hcf, hcf1, hcf2, hcf3⟩, _⟩ := hro.flow hjl
        have HF := Lib.hid hf
        have HYES := Lib.hid (fun (h : goesTo t ys j f (splN t ys j).length = true) => splN_yes hf h)
        have HNO := Lib.hid (fun (h : goesTo t ys j f (splN t ys j).length = false) => splN_no hf h)
        clear hf hro
        go_wp2_with fail
        refine (implExpHolds_c f.op f.var f.k ys _ _ A2 b2 o2 c2 wr HDr.out (Nat.le_of_lt HTr.out.lt) hym).mono ?_
        rintro e w5 ⟨rfl, hb5⟩
        have HT5 := Lib.hid (HTr.out.below hb5)
        have hcf' := (hb5.cell (p := ⟨bo, oo + j * 4, none⟩) (by show bo < _; have := HTr.out.lt; omega)).trans hcf
        have HO5 := Lib.hid (own_below HO.out hb5)
        have HB5 := Lib.hid (HBL.out.trans (hb5.mono hsr))
        have hs5 := HB5.out.size
        clear hb5 hcf hcf1 hcf2 hcf3
        clear fd0 fd1 fd2 fd3 fd4 fd5 fd6 fd7 fd8
        have fd0 : w5.cell? ⟨T, 0, none⟩ = some (.int .i64 t.join) := HT5.out.blk.cell 0
        have fd1 : w5.cell? ⟨T, 1, none⟩ = some (.int .i64 t.split) := HT5.out.blk.cell 1
        have fd2 : w5.cell? ⟨T, 2, none⟩ = some (.slice Ai t.ins.length ci) := HT5.out.blk.cell 2
        have fd3 : w5.cell? ⟨T, 3, none⟩ = some (.slice (some ⟨bo, oo, none⟩) t.out.length co) := HT5.out.blk.cell 3
        have fd4 : w5.cell? ⟨T, 4, none⟩ = some (.slice Ac t.clear.length cc) := HT5.out.blk.cell 4
        have fd5 : w5.cell? ⟨T, 5, none⟩ = some (.int .i64 t.role) := HT5.out.blk.cell 5
        have fd6 : w5.cell? ⟨T, 6, none⟩ = some (.int .i64 t.apart) := HT5.out.blk.cell 6
        have fd7 : w5.cell? ⟨T, 7, none⟩ = some (.int .i64 t.all) := HT5.out.blk.cell 7
        have fd8 : w5.cell? ⟨T, 8, none⟩ = some (.int .i64 t.need) := HT5.out.blk.cell 8
        have hT5 := HT5.out.lt
        unfold goesTo at HYES HNO
        generalize hhh : holdsB ⟨f.op, f.var, f.k⟩ ys = hh at HYES HNO ⊢
        clear hhh
        generalize hln : (splN t ys j).length = ln at HYES HNO HO5 hwl ⊢
        have HLN := Lib.hid hln
        clear hln
        have hwrap : IntKind.i64.wrap ((t.out.length : Int) - 1) = (t.out.length : Int) - 1 := IntWalk.i64_in _ (by omega)
        by_cases hs2 : t.split = 2
        · have e2 : (t.split == 2) = true := by simpa using hs2
          have e3 : (t.split == 3) = false := by simp [hs2]
          have HS2 := Lib.hid hs2
          clear hs2
          by_cases hl0 : 0 < ln
          · have hl1 : (0 : Int) < (ln : Int) := by omega
            go_wp2
            go_roundw
            case rel => exact ⟨j + 1, by omega, by go_num, by rw [HNO.out (by first | (simp [HS2.out, HS3.out, HLA.out, hl0]; done) | (simp [HS2.out, HS3.out, HLA.out]; done) | (simp [HS2.out, HS3.out]; done) | (simp [HS2.out, hl0]; done) | (simp [HS2.out]; done) | (simp; done))]; rw [HLN.out]; exact HO5.out, HB5.out⟩
            case measure => simp [intOf]; omega
          · have hl1 : ¬ ((0 : Int) < (ln : Int)) := by omega
            cases hh with
            | true =>
              go_wp2_with (at_builtin; refine wpList_append_own _ rfl _ _ 26 rfl w4.heap.size 3 i0 _ 1 8 Try.underlying26 hi0 hz0 hz1 hz2 rfl (by omega) _ ln (ints (splN t ys j)) rfl (HO5.out.alloc _) ⟨w5.heap.size, 0, none⟩ 1 1 [.int .i64 f.to] rfl rfl (one_cell _ _ _) (by intro u hu; simp at hu; subst hu; rfl) (by unfold maxLen; omega) (by omega) (by simp; omega) ?_; intro v' w6 hown6 hg6 _; have HO6 := Lib.hid hown6; have HB6 := Lib.hid ((HB5.out.alloc hs5 _).grown hg6 (by simp; omega) (fun g hg => ((HO5.out.alloc (.cells #[.int .i64 f.to] 3)).lt g hg).1)); clear hown6 hg6)
              go_roundw
              case rel => exact ⟨j + 1, by omega, by go_num, by rw [HYES.out (by first | (simp [HS2.out, HS3.out, HLA.out, hl0]; done) | (simp [HS2.out, HS3.out, HLA.out]; done) | (simp [HS2.out, HS3.out]; done) | (simp [HS2.out, hl0]; done) | (simp [HS2.out]; done) | (simp; done))]; have := HO6.out; simpa [← HLN.out] using this, HB6.out⟩
              case measure => simp [intOf]; omega
            | false =>
              go_wp2
              go_roundw
              case rel => exact ⟨j + 1, by omega, by go_num, by rw [HNO.out (by first | (simp [HS2.out, HS3.out, HLA.out, hl0]; done) | (simp [HS2.out, HS3.out, HLA.out]; done) | (simp [HS2.out, HS3.out]; done) | (simp [HS2.out, hl0]; done) | (simp [HS2.out]; done) | (simp; done))]; rw [HLN.out]; exact HO5.out, HB5.out⟩
              case measure => simp [intOf]; omega
        · have e2 : (t.split == 2) = false := by simpa using hs2
          have HS2 := Lib.hid hs2
          clear hs2
          by_cases hs3 : t.split = 3
          · have e3 : (t.split == 3) = true := by simpa using hs3
            have HS3 := Lib.hid hs3
            clear hs3
            by_cases hla : j + 1 = t.out.length
            · have hla1 : ((j : Int) == (t.out.length : Int) - 1) = true := by simp; omega
              have HLA := Lib.hid hla
              clear hla
              by_cases hl0 : 0 < ln
              · have hl1 : (0 : Int) < (ln : Int) := by omega
                go_wp2
                go_roundw
                case rel => exact ⟨j + 1, by omega, by go_num, by rw [HNO.out (by first | (simp [HS2.out, HS3.out, HLA.out, hl0]; done) | (simp [HS2.out, HS3.out, HLA.out]; done) | (simp [HS2.out, HS3.out]; done) | (simp [HS2.out, hl0]; done) | (simp [HS2.out]; done) | (simp; done))]; rw [HLN.out]; exact HO5.out, HB5.out⟩
                case measure => simp [intOf]; omega
              · have hl1 : ¬ ((0 : Int) < (ln : Int)) := by omega
                cases hh with
                | true =>
                  go_wp2_with (at_builtin; refine wpList_append_own _ rfl _ _ 26 rfl w4.heap.size 3 i0 _ 1 8 Try.underlying26 hi0 hz0 hz1 hz2 rfl (by omega) _ ln (ints (splN t ys j)) rfl (HO5.out.alloc _) ⟨w5.heap.size, 0, none⟩ 1 1 [.int .i64 f.to] rfl rfl (one_cell _ _ _) (by intro u hu; simp at hu; subst hu; rfl) (by unfold maxLen; omega) (by omega) (by simp; omega) ?_; intro v' w6 hown6 hg6 _; have HO6 := Lib.hid hown6; have HB6 := Lib.hid ((HB5.out.alloc hs5 _).grown hg6 (by simp; omega) (fun g hg => ((HO5.out.alloc (.cells #[.int .i64 f.to] 3)).lt g hg).1)); clear hown6 hg6)
                  go_roundw
                  case rel => exact ⟨j + 1, by omega, by go_num, by rw [HYES.out (by first | (simp [HS2.out, HS3.out, HLA.out, hl0]; done) | (simp [HS2.out, HS3.out, HLA.out]; done) | (simp [HS2.out, HS3.out]; done) | (simp [HS2.out, hl0]; done) | (simp [HS2.out]; done) | (simp; done))]; have := HO6.out; simpa [← HLN.out] using this, HB6.out⟩
                  case measure => simp [intOf]; omega
                | false =>
                  go_wp2
                  go_roundw
                  case rel => exact ⟨j + 1, by omega, by go_num, by rw [HNO.out (by first | (simp [HS2.out, HS3.out, HLA.out, hl0]; done) | (simp [HS2.out, HS3.out, HLA.out]; done) | (simp [HS2.out, HS3.out]; done) | (simp [HS2.out, hl0]; done) | (simp [HS2.out]; done) | (simp; done))]; rw [HLN.out]; exact HO5.out, HB5.out⟩
                  case measure => simp [intOf]; omega
            · have hla1 : ((j : Int) == (t.out.length : Int) - 1) = false := by simp; omega
              have HLA := Lib.hid hla
              clear hla
              cases hh with
              | true =>
                go_wp2_with (at_builtin; refine wpList_append_own _ rfl _ _ 26 rfl w4.heap.size 3 i0 _ 1 8 Try.underlying26 hi0 hz0 hz1 hz2 rfl (by omega) _ ln (ints (splN t ys j)) rfl (HO5.out.alloc _) ⟨w5.heap.size, 0, none⟩ 1 1 [.int .i64 f.to] rfl rfl (one_cell _ _ _) (by intro u hu; simp at hu; subst hu; rfl) (by unfold maxLen; omega) (by omega) (by simp; omega) ?_; intro v' w6 hown6 hg6 _; have HO6 := Lib.hid hown6; have HB6 := Lib.hid ((HB5.out.alloc hs5 _).grown hg6 (by simp; omega) (fun g hg => ((HO5.out.alloc (.cells #[.int .i64 f.to] 3)).lt g hg).1)); clear hown6 hg6)
                go_roundw
                case rel => exact ⟨j + 1, by omega, by go_num, by rw [HYES.out (by first | (simp [HS2.out, HS3.out, HLA.out, hl0]; done) | (simp [HS2.out, HS3.out, HLA.out]; done) | (simp [HS2.out, HS3.out]; done) | (simp [HS2.out, hl0]; done) | (simp [HS2.out]; done) | (simp; done))]; have := HO6.out; simpa [← HLN.out] using this, HB6.out⟩
                case measure => simp [intOf]; omega
              | false =>
                go_wp2
                go_roundw
                case rel => exact ⟨j + 1, by omega, by go_num, by rw [HNO.out (by first | (simp [HS2.out, HS3.out, HLA.out, hl0]; done) | (simp [HS2.out, HS3.out, HLA.out]; done) | (simp [HS2.out, HS3.out]; done) | (simp [HS2.out, hl0]; done) | (simp [HS2.out]; done) | (simp; done))]; rw [HLN.out]; exact HO5.out, HB5.out⟩
                case measure => simp [intOf]; omega
          · have e3 : (t.split == 3) = false := by simpa using hs3
            have HS3 := Lib.hid hs3
            clear hs3
            by_cases hla : j + 1 = t.out.length
            · have hla1 : ((j : Int) == (t.out.length : Int) - 1) = true := by simp; omega
              have HLA := Lib.hid hla
              clear hla
              cases hh with
              | true =>
                go_wp2_with (at_builtin; refine wpList_append_own _ rfl _ _ 26 rfl w4.heap.size 3 i0 _ 1 8 Try.underlying26 hi0 hz0 hz1 hz2 rfl (by omega) _ ln (ints (splN t ys j)) rfl (HO5.out.alloc _) ⟨w5.heap.size, 0, none⟩ 1 1 [.int .i64 f.to] rfl rfl (one_cell _ _ _) (by intro u hu; simp at hu; subst hu; rfl) (by unfold maxLen; omega) (by omega) (by simp; omega) ?_; intro v' w6 hown6 hg6 _; have HO6 := Lib.hid hown6; have HB6 := Lib.hid ((HB5.out.alloc hs5 _).grown hg6 (by simp; omega) (fun g hg => ((HO5.out.alloc (.cells #[.int .i64 f.to] 3)).lt g hg).1)); clear hown6 hg6)
                go_roundw
                case rel => exact ⟨j + 1, by omega, by go_num, by rw [HYES.out (by first | (simp [HS2.out, HS3.out, HLA.out, hl0]; done) | (simp [HS2.out, HS3.out, HLA.out]; done) | (simp [HS2.out, HS3.out]; done) | (simp [HS2.out, hl0]; done) | (simp [HS2.out]; done) | (simp; done))]; have := HO6.out; simpa [← HLN.out] using this, HB6.out⟩
                case measure => simp [intOf]; omega
              | false =>
                go_wp2
                go_roundw
                case rel => exact ⟨j + 1, by omega, by go_num, by rw [HNO.out (by first | (simp [HS2.out, HS3.out, HLA.out, hl0]; done) | (simp [HS2.out, HS3.out, HLA.out]; done) | (simp [HS2.out, HS3.out]; done) | (simp [HS2.out, hl0]; done) | (simp [HS2.out]; done) | (simp; done))]; rw [HLN.out]; exact HO5.out, HB5.out⟩
                case measure => simp [intOf]; omega
            · have hla1 : ((j : Int) == (t.out.length : Int) - 1) = false := by simp; omega
              have HLA := Lib.hid hla
              clear hla
              cases hh with
              | true =>
                go_wp2_with (at_builtin; refine wpList_append_own _ rfl _ _ 26 rfl w4.heap.size 3 i0 _ 1 8 Try.underlying26 hi0 hz0 hz1 hz2 rfl (by omega) _ ln (ints (splN t ys j)) rfl (HO5.out.alloc _) ⟨w5.heap.size, 0, none⟩ 1 1 [.int .i64 f.to] rfl rfl (one_cell _ _ _) (by intro u hu; simp at hu; subst hu; rfl) (by unfold maxLen; omega) (by omega) (by simp; omega) ?_; intro v' w6 hown6 hg6 _; have HO6 := Lib.hid hown6; have HB6 := Lib.hid ((HB5.out.alloc hs5 _).grown hg6 (by simp; omega) (fun g hg => ((HO5.out.alloc (.cells #[.int .i64 f.to] 3)).lt g hg).1)); clear hown6 hg6)
                go_roundw
                case rel => exact ⟨j + 1, by omega, by go_num, by rw [HYES.out (by first | (simp [HS2.out, HS3.out, HLA.out, hl0]; done) | (simp [HS2.out, HS3.out, HLA.out]; done) | (simp [HS2.out, HS3.out]; done) | (simp [HS2.out, hl0]; done) | (simp [HS2.out]; done) | (simp; done))]; have := HO6.out; simpa [← HLN.out] using this, HB6.out⟩
                case measure => simp [intOf]; omega
              | false =>
                go_wp2
                go_roundw
                case rel => exact ⟨j + 1, by omega, by go_num, by rw [HNO.out (by first | (simp [HS2.out, HS3.out, HLA.out, hl0]; done) | (simp [HS2.out, HS3.out, HLA.out]; done) | (simp [HS2.out, HS3.out]; done) | (simp [HS2.out, hl0]; done) | (simp [HS2.out]; done) | (simp; done))]; rw [HLN.out]; exact HO5.out, HB5.out⟩
                case measure => simp [intOf]; omega
      · have hjl1 : ¬ ((j : Int) < (t.out.length : Int)) := by omega
        have hje : splN t ys j = splL t ys := by rw [splL, show j = t.out.length by omega]
        have hjl2 : (splN t ys j).length ≤ maxLen := by unfold maxLen; omega
        obtain ⟨A7, b7, o7, c7, e7, hc7, hr7⟩ := draw_row (zs := splN t ys j) HO.out
        injection e7 with e71 e72 e73
        subst e71
        have HGB := guInts_c (splL t ys) (splN t ys j) _ _ _ _ A3 Aw b3 0 c3 b7 o7 cw wr (HX4.out.below HBL.out hs24) hr7 hsl' hjl2
        rw [decide_eq_true hje.symm] at HGB
        have HGB := Lib.hid HGB
        clear hr7 hro hje e73 e72
        go_wp2_with fail
        refine HGB.out.mono ?_
        rintro e w6 ⟨rfl, hb6⟩
        have HT6 := Lib.hid (HTr.out.below hb6)
        clear hb6 HGB
        go_wp2_with fail
        refine (guOk_c w6).mono ?_
        rintro e w8 ⟨rfl, hb8⟩
        have HB8 := Lib.hid (HT6.out.below hb8).bl
        clear hb8
        go_wp2
        go_ret
        exact ⟨rfl, HB8.out⟩
end Go.Proofs.Ytoggdhbnkbdilaa
