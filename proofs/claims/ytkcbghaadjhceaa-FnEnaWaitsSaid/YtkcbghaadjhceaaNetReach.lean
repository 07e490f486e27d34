/- Which places can be come to from some: the reference. -/
import Derived.Test.YtkcbghaadjhceaaTakeL
import Derived.Test.YtkcbghaadjhceaaNetMark2
import Derived.Deep.DeepCutAuto
namespace Go.Proofs.Ytkcbghaadjhceaa
open Go.RowKit
set_option linter.unusedVariables false
set_option linter.unusedSimpArgs false

set_option maxRecDepth 10000 in
set_option maxHeartbeats 2000000 in
theorem l2Spread_c (n : NNet) (v : Value) (lo hi : Nat) (s : List Bool) (lo1 hi1 : Nat) (A1 : Option Addr) (b1 off1 c1 : Nat) (but : Int) (w : World) (hN : NetV w lo hi v n) (hhi : hi ≤ w.heap.size) (hok : netOk n = true)
    (hS : Row w lo1 hi1 A1 b1 off1 (bools s)) (hhi1 : hi1 ≤ w.heap.size) (hsl : (s.length : Int) = n.places) :
    Calls Try.prog 84 #[v, .slice A1 s.length c1, .int .i64 but] w fun e w' => ∃ v', e = .returned v' ∧ MadeB w' w.heap.size 4 (reachAll n but s) v' ∧ Below w.heap.size w w' := by
  obtain ⟨i0, hi0, hz0, hz1, hz2⟩ := info_parts Try.infoB
  obtain ⟨p1, p2, p3, p4, p5⟩ := netOk_parts hok
  obtain ⟨A, b, off, c, ms, rfl, hm, hT⟩ := hN
  unfold maxLen at hm
  generalize hob : Obj.cells #[.int .i64 n.places, .slice A n.tasks.length c] 25 = ob
  have hR := (Row.newAt w #[.int .i64 n.places, .slice A n.tasks.length c] 25 _ rfl)
  rw [hob] at hR
  have HR := Lib.hid hR
  have HB := Lib.hid ((Below.refl w.heap.size w).alloc (Nat.le_refl _) ob)
  have HT := Lib.hid (hT.keep (w' := w.alloc ob) (fun g _ h => Below.heap_alloc w _ g (by omega)) (fun g _ h => Below.heap_alloc w _ g (by omega)))
  have HS := Lib.hid ((hS.alloc hhi1 ob).alloc (by simp; omega) (.cells #[] 4))
  have HL := Lib.hid (show ((w.alloc ob).alloc (.cells #[] 4)).ownsRow (w.heap.size + 1) 4 1 (.slice (some ⟨w.heap.size + 1, 0, none⟩) 0 0) 0 [] from by have := own_lit0 (w.alloc ob) 4; simpa using this)
  have HO := Lib.hid hob
  have HOK := Lib.hid hok
  clear hR hT hS hob hok p5
  go_enter Try.func84, Try.ntmps84
  go_wp2_with (at_builtin; rw [HO.out]; go_loud (refine wpList_append_row rfl _ _ 49 rfl (w.heap.size + 1) 4 i0 _ 1 1 Try.underlying49 hi0 hz0 hz1 hz2 rfl (by omega) (.slice (some ⟨w.heap.size + 1, 0, none⟩) 0 0) 0 [] rfl HL.out lo1 hi1 A1 b1 off1 s.length c1 (bools s) rfl (by simp) HS.out (bools_one s) (by unfold maxLen; omega) (by omega) (by simp) ?_; intro v' w1 hown hg))
  have HB1 := Lib.hid (((Below.refl (w.heap.size + 1) (w.alloc ob)).alloc (by simp) (.cells #[] 4)).grown hg (by simp) (fun k hk => (World.ownsRow.lt HL.out k hk).1))
  have hM : MadeB w1 (w.heap.size + 1) 4 s v' := by simpa [MadeB] using hown
  clear hown hg
  obtain ⟨g, c', rfl, hg1, hg2⟩ := hM.len (by omega)
  have HM := Lib.hid hM
  clear hM
  go_loopw [8] (fun i wr => ∃ k : Nat, k ≤ s.length ∧ i = .int .i64 k ∧ MadeB wr (w.heap.size + 1) 4 (spread but n.tasks k s) (.slice (some ⟨g, 0, none⟩) s.length c') ∧ Below (w.heap.size + 1) (w.alloc ob) wr) (fun i _ => s.length - (intOf i).toNat)
  case atStart => exact ⟨0, Nat.zero_le _, rfl, HM.out, HB1.out⟩
  case round =>
    obtain ⟨k, hk, rfl, hM, hb⟩ := hrel
    obtain ⟨wo, rfl⟩ : ∃ wo, wo = wr := ⟨_, rfl⟩
    have hzo : w.heap.size + 1 ≤ wo.heap.size := by simpa using hb.size
    have hR' := HR.out.below hb (by simp)
    have s0 := (hR'.cell (j := 0) rfl).1
    have s1 := (hR'.cell (j := 1) rfl).1
    have HMo := Lib.hid hM
    have HBo := Lib.hid hb
    clear hM hb hR'
    generalize hcur : spread but n.tasks k s = cur at HMo
    have hcl : cur.length = s.length := by rw [← hcur, spread_length]
    have HCUR := Lib.hid hcur
    clear hcur
    by_cases hlt : k < s.length
    · have hlt1 : (k : Int) < n.places := by omega
      go_wp2
      go_loopw [9] (fun i wr => ∃ j : Nat, j ≤ n.tasks.length ∧ i = .int .i64 j ∧ MadeB wr (w.heap.size + 1) 4 (passN but n.tasks j cur) (.slice (some ⟨g, 0, none⟩) s.length c') ∧ Below (w.heap.size + 1) (w.alloc ob) wr) (fun i _ => n.tasks.length - (intOf i).toNat)
      case atStart => exact ⟨0, Nat.zero_le _, rfl, HMo.out, HBo.out⟩
      case round =>
        obtain ⟨j, hj, rfl, hM, hb⟩ := hrel
        obtain ⟨wp, rfl⟩ : ∃ wp, wp = wr := ⟨_, rfl⟩
        clear s0 s1
        have hzp : w.heap.size + 1 ≤ wp.heap.size := by simpa using hb.size
        have hR' := HR.out.below hb (by simp)
        have s0 := (hR'.cell (j := 0) rfl).1
        have s1 := (hR'.cell (j := 1) rfl).1
        have HMp := Lib.hid hM
        have HBp := Lib.hid hb
        clear hM hb hR'
        generalize hcu : passN but n.tasks j cur = cu at HMp
        have hcul : cu.length = s.length := by rw [← hcu, passN_length]; exact hcl
        have HCU := Lib.hid hcu
        clear hcu
        by_cases hjt : j < n.tasks.length
        · have hjt1 : (j : Int) < (n.tasks.length : Int) := by omega
          obtain ⟨rfl, _, h3, t, vi, vo, vc, hx, _, hTV, ⟨c0, d1, c2, c3, _⟩, _⟩ := HT.out.task hjt
          obtain ⟨A2, q1, A3, q2, A4, q3, rfl, rfl, rfl⟩ := hTV.forms
          obtain ⟨_, b2, o2, _, e2, hmi, hRi⟩ := hTV.ins
          cases e2
          obtain ⟨_, b3, o3, _, e3, hmo, hRo⟩ := hTV.out
          cases e3
          unfold maxLen at hmi hmo
          have d2 := (HBp.out.cell (p := ⟨b, off + j * 9 + 2, none⟩) (by show b < _; omega)).trans c2
          have d3 := (HBp.out.cell (p := ⟨b, off + j * 9 + 3, none⟩) (by show b < _; omega)).trans c3
          have HX := Lib.hid hx
          have HIN := Lib.hid (fun (x : Int) (hx' : x ∈ t.ins) => ins_bound HOK.out (List.mem_of_getElem? hx) hx')
          have HOUT := Lib.hid (fun (f : NFlow) (hf' : f ∈ t.out) => out_bound HOK.out (List.mem_of_getElem? hx) hf')
          have HC2 := Lib.hid c2
          have HC3 := Lib.hid c3
          have HRi := Lib.hid hRi
          have HRo := Lib.hid hRo
          clear c0 d1 c2 c3 hTV hx hRi hRo
          go_wp2
          go_loopw [10, 11] (fun z i wr => ∃ q d : Nat, q ≤ t.ins.length ∧ i = .int .i64 q ∧ z = .bool ((t.ins.take q).any (bit cu)) ∧ wr = wp.drewN d) (fun _ i _ => t.ins.length - (intOf i).toNat)
          case atStart => exact ⟨0, 0, Nat.zero_le _, rfl, by simp, rfl⟩
          case round =>
            obtain ⟨q, d, hq, rfl, rfl, hw⟩ := hrel
            obtain ⟨wq, rfl⟩ : ∃ wq, wq = wr := ⟨_, rfl⟩
            have HW := Lib.hid hw
            replace s0 : wq.cell? ⟨w.heap.size, 0, none⟩ = some (.int .i64 n.places) := by rw [hw]; exact s0
            replace s1 : wq.cell? ⟨w.heap.size, 1, none⟩ = some (.slice (some ⟨b, off, none⟩) n.tasks.length c) := by rw [hw]; exact s1
            replace d2 : wq.cell? ⟨b, off + j * 9 + 2, none⟩ = some (.slice A2 t.ins.length q1) := by rw [hw]; exact d2
            replace d3 : wq.cell? ⟨b, off + j * 9 + 3, none⟩ = some (.slice A3 t.out.length q2) := by rw [hw]; exact d3
            clear hw
            generalize hany : (t.ins.take q).any (bit cu) = some1
            have HANY := Lib.hid hany
            clear hany
            by_cases hqi : q < t.ins.length
            · have hqi1 : (q : Int) < (t.ins.length : Int) := by omega
              obtain ⟨rfl, _, _, x, hx, hcx, _⟩ := HRi.out.int hqi
              obtain ⟨hx0, hx1⟩ := HIN.out x (List.mem_of_getElem? hx)
              obtain ⟨xn, rfl⟩ := Int.eq_ofNat_of_zero_le hx0
              have hxn : xn < s.length := by omega
              have hxn1 : (xn : Int) < (s.length : Int) := by omega
              obtain ⟨e1, _, _⟩ := HMp.out.at_ hcul (k := xn) (by omega)
              replace e1 : wq.cell? ⟨g, xn, none⟩ = some (.bool (cu.getD xn false)) := by rw [HW.out]; exact e1
              have hcx1 : wq.cell? ⟨b2, o2 + q, none⟩ = some (.int .i64 (xn : Int)) := by rw [HW.out]; exact (HBp.out.cell (p := ⟨b2, o2 + q, none⟩) (by show b2 < _; omega)).trans hcx
              have HS2 := Lib.hid (any_snoc (bit cu) hx)
              clear hx hcx
              cases some1 with
              | true =>
                go_wp2
                go_roundw
                case rel => exact ⟨q + 1, _, by omega, by go_num, by rw [HS2.out, HANY.out]; rfl, by rw [HW.out]⟩
                case measure => simp [intOf]; omega
              | false =>
                go_wp2
                go_roundw
                case rel => exact ⟨q + 1, _, by omega, by go_num, by rw [HS2.out, HANY.out]; simp [bit, hcul, hxn], by rw [HW.out]⟩
                case measure => simp [intOf]; omega
            · have hqi0 : q = t.ins.length := by omega
              have hqi1 : ¬ ((q : Int) < (t.ins.length : Int)) := by omega
              rw [hqi0, List.take_length] at HANY
              have HMq : MadeB wq (w.heap.size + 1) 4 cu (.slice (some ⟨g, 0, none⟩) s.length c') := by rw [HW.out]; exact HMp.out.drewN d
              have HBq : Below (w.heap.size + 1) (w.alloc ob) wq := by rw [HW.out]; exact below_drewN HBp.out d
              have HMq := Lib.hid HMq
              have HBq := Lib.hid HBq
              clear hqi0
              go_wp2
              go_loopw [12] (fun i wr => ∃ r : Nat, r ≤ t.out.length ∧ i = .int .i64 r ∧ (0 < r → goes but j t cu = true) ∧ MadeB wr (w.heap.size + 1) 4 (light cu (t.out.take r)) (.slice (some ⟨g, 0, none⟩) s.length c') ∧ Below (w.heap.size + 1) (w.alloc ob) wr) (fun i _ => t.out.length - (intOf i).toNat)
              case atStart => exact ⟨0, Nat.zero_le _, rfl, fun h => absurd h (Nat.lt_irrefl 0), HMq.out, HBq.out⟩
              case round =>
                obtain ⟨r, hr, rfl, hgo, hM, hb⟩ := hrel
                obtain ⟨wz, rfl⟩ : ∃ wz, wz = wr := ⟨_, rfl⟩
                clear s0 s1 d2 d3
                have hR' := HR.out.below hb (by simp)
                have s0 := (hR'.cell (j := 0) rfl).1
                have s1 := (hR'.cell (j := 1) rfl).1
                have d3 := (hb.cell (p := ⟨b, off + j * 9 + 3, none⟩) (by show b < _; omega)).trans HC3.out
                have HGO := Lib.hid hgo
                have HMr := Lib.hid hM
                have HBr := Lib.hid hb
                clear hM hb hR' hgo
                generalize hcv : light cu (t.out.take r) = cv at HMr
                have hcvl : cv.length = s.length := by rw [← hcv, light_length]; exact hcul
                have HCV := Lib.hid hcv
                clear hcv
                by_cases hgg : goes but j t cu = true
                · have HGG := Lib.hid hgg
                  rw [goes, HANY.out, Bool.and_eq_true] at hgg
                  obtain ⟨hjb, rfl⟩ := hgg
                  have hjb1 : (j : Int) ≠ but := by simpa using hjb
                  have hjb2 : ((j : Int) != but) = true := by simpa using hjb1
                  clear hjb
                  by_cases hrt : r < t.out.length
                  · have hrt1 : (r : Int) < (t.out.length : Int) := by omega
                    obtain ⟨rfl, _, _, f, hf, ⟨f0, _⟩, _⟩ := HRo.out.flow hrt
                    obtain ⟨hf0, hf1⟩ := HOUT.out f (List.mem_of_getElem? hf)
                    obtain ⟨fn, hfn⟩ := Int.eq_ofNat_of_zero_le (show 0 ≤ f.to by omega)
                    have hfn0 : fn < s.length := by omega
                    have hfn1 : (fn : Int) < (s.length : Int) := by omega
                    obtain ⟨e1, e2, e3⟩ := HMr.out.at_ hcvl (k := fn) (by omega)
                    have f0' := (HBr.out.cell (p := ⟨b3, o3 + r * 4, none⟩) (by show b3 < _; omega)).trans f0
                    rw [hfn] at f0'
                    have HSN := Lib.hid (light_snoc cu hf)
                    have HFN := Lib.hid hfn
                    have HE3 := Lib.hid e3
                    clear hf f0 hf0 hf1 hfn e3
                    go_wp2
                    go_roundw
                    case rel => exact ⟨r + 1, by omega, by go_num, fun _ => HGG.out, by rw [HSN.out, HCV.out, HFN.out]; exact HE3.out, HBr.out.setCell (by show _ ≤ g; omega) _⟩
                    case measure => simp [intOf]; omega
                  · have hrt1 : ¬ ((r : Int) < (t.out.length : Int)) := by omega
                    have hrl : r = t.out.length := by omega
                    have HRL := Lib.hid hrl
                    clear hrl
                    go_wp2
                    go_roundw
                    case rel => exact ⟨j + 1, by omega, by go_num, by rw [passN_succ HX.out, HCU.out, stepT, if_pos HGG.out]; have := HMr.out; rw [← HCV.out, HRL.out, List.take_length] at this; exact this, HBr.out⟩
                    case measure => simp [intOf]; omega
                · have hgg' : goes but j t cu = false := by simpa using hgg
                  have HGG := Lib.hid hgg'
                  have hr0 : r = 0 := by
                    rcases Nat.eq_zero_or_pos r with h | h
                    · exact h
                    · exact absurd (HGO.out h) hgg
                  have HR0 := Lib.hid hr0
                  have hrt : r < t.out.length := by
                    have := taskOk_lens ((netOk_parts HOK.out).2.2.2.2 t (List.mem_of_getElem? HX.out)); omega
                  have hrt1 : (r : Int) < (t.out.length : Int) := by omega
                  rw [goes, HANY.out] at hgg'
                  clear hgg hr0
                  cases some1 with
                  | true =>
                    have hjb : (j : Int) = but := by simpa using hgg'
                    have hjb2 : ((j : Int) != but) = false := by simpa using hjb
                    clear hgg' hjb
                    go_wp2
                    go_roundw
                    case rel => exact ⟨j + 1, by omega, by go_num, by rw [passN_succ HX.out, HCU.out, stepT, HGG.out]; have := HMr.out; rw [← HCV.out, HR0.out] at this; exact this, HBr.out⟩
                    case measure => simp [intOf]; omega
                  | false =>
                    clear hgg'
                    go_wp2
                    go_roundw
                    case rel => exact ⟨j + 1, by omega, by go_num, by rw [passN_succ HX.out, HCU.out, stepT, HGG.out]; have := HMr.out; rw [← HCV.out, HR0.out] at this; exact this, HBr.out⟩
                    case measure => simp [intOf]; omega
        · have hjl : j = n.tasks.length := by omega
          have hjt1 : ¬ ((j : Int) < (n.tasks.length : Int)) := by omega
          have HJL := Lib.hid hjl
          clear hjl
          go_wp2
          go_roundw
          case rel => exact ⟨k + 1, by omega, by go_num, by show MadeB _ _ _ (pass but n.tasks (spread but n.tasks k s)) _; rw [HCUR.out, pass, ← HJL.out, HCU.out]; exact HMp.out, HBp.out⟩
          case measure => simp [intOf]; omega
    · have hks : k = s.length := by omega
      have hlt1 : ¬ ((k : Int) < n.places) := by omega
      have HK := Lib.hid hks
      clear hks
      go_wp2
      go_ret
      refine ⟨.slice (some ⟨g, 0, none⟩) s.length c', rfl, ?_, HB.out.trans (HBo.out.mono (by omega))⟩
      have hM := HMo.out
      rw [← HCUR.out] at hM
      have e : reachAll n but s = spread but n.tasks k s := by rw [reachAll, HK.out]; congr 1; omega
      rw [e]
      have := hM.base (show w.heap.size ≤ w.heap.size + 1 by omega)
      exact this
end Go.Proofs.Ytkcbghaadjhceaa

/- Which places can be come to from one: the reference. -/
namespace Go.Proofs.Ytkcbghaadjhceaa
open Go.RowKit
set_option linter.unusedVariables false
set_option linter.unusedSimpArgs false

/-- Of each place of a net that is ok, whether it can be come to from one, through tasks but one. -/
def reachN (n : NNet) (place but : Int) : List Bool := if netOk n && inB place 0 (n.places - 1) then reachAll n but (single n.places.toNat place) else []
theorem reachN_yes {n : NNet} {place but : Int} (h1 : netOk n = true) (h2 : inB place 0 (n.places - 1) = true) : reachN n place but = reachAll n but (single n.places.toNat place) := by rw [reachN, h1, h2]; rfl
theorem reachN_no1 {n : NNet} {place but : Int} (h1 : netOk n = false) : reachN n place but = [] := by rw [reachN, h1]; rfl
theorem reachN_no2 {n : NNet} {place but : Int} (h1 : netOk n = true) (h2 : inB place 0 (n.places - 1) = false) : reachN n place but = [] := by rw [reachN, h1, h2]; rfl
theorem reachN_len (n : NNet) (place but : Int) : (reachN n place but).length ≤ 8 := by
  unfold reachN
  split
  · next h =>
    rw [Bool.and_eq_true] at h
    have := netOk_parts h.1
    rw [reachAll_length, single_length]; omega
  · simp
theorem made_false (m : Nat) : (madeCells (Value.bool false).cells (m * 1)).toList = bools (List.replicate m false) := by
  refine List.ext_getElem (by simp [size_madeCells]) fun i h1 h2 => ?_
  have hc : (Value.bool false).cells = #[.bool false] := by rfl
  simp only [hc, Nat.mul_one]
  simp [madeCells, Nat.mod_one]
/-- The truth values that a call has just made, and the one that it stores. -/
theorem made_single {w : World} {base : Nat} {e : TypeId} {g m c : Nat} (h : w.ownsRow base e 1 (.slice (some ⟨g, 0, none⟩) m c) m (madeCells (Value.bool false).cells (m * 1)).toList) {p : Nat} (hp : p < m) :
    w.cell? ⟨g, p, none⟩ = some (.bool ((List.replicate m false).getD p false)) ∧ w.frozen? ⟨g, p, none⟩ = false ∧ MadeB (w.setCell ⟨g, p, none⟩ (.bool true)) base e (single m (p : Int)) (.slice (some ⟨g, 0, none⟩) m c) := by
  rw [made_false] at h
  have h2 : MadeB w base e (List.replicate m false) (.slice (some ⟨g, 0, none⟩) m c) := by unfold MadeB; rw [List.length_replicate]; exact h
  exact h2.at_ (by simp) (by simpa using hp)
theorem own_lit0B (w : World) (base : Nat) (e : TypeId) (hb : base ≤ w.heap.size) : MadeB (w.alloc (.cells #[] e)) base e [] (.slice (some ⟨w.heap.size, 0, none⟩) 0 0) :=
  MadeB.base (base := w.heap.size) (own_lit0 w e) hb

end Go.Proofs.Ytkcbghaadjhceaa

/- Which places can be come to from one: the program. -/
namespace Go.Proofs.Ytkcbghaadjhceaa
open Go.RowKit
set_option linter.unusedVariables false
set_option linter.unusedSimpArgs false

theorem Chg.refl (lo hi : Nat) (w : World) : Chg lo hi w w := ⟨rfl, rfl, rfl, Nat.le_refl _, fun _ _ _ => rfl⟩
theorem Chg.trans {lo hi : Nat} {a b c : World} (h : Chg lo hi a b) (k : Chg lo hi b c) : Chg lo hi a c :=
  ⟨k.os.trans h.os, k.tape.trans h.tape, k.output.trans h.output, Nat.le_trans h.size k.size, fun g hg hn => (k.block g (Nat.lt_of_lt_of_le hg h.size) hn).trans (h.block g hg hn)⟩
theorem Chg.of_below {lo hi : Nat} {w w' : World} (h : Below w.heap.size w w') : Chg lo hi w w' := ⟨h.os, h.tape, h.output, h.size, fun g hg _ => h.block g hg⟩
theorem Chg.alloc {lo hi : Nat} {a w : World} (h : Chg lo hi a w) (o : Obj) : Chg lo hi a (w.alloc o) := h.trans (Chg.of_below ((Below.refl _ _).alloc (Nat.le_refl _) o))
theorem Chg.setCell {lo hi : Nat} {a w : World} (h : Chg lo hi a w) {p : Addr} (h1 : lo ≤ p.block) (h2 : p.block < hi) (u : Value) : Chg lo hi a (w.setCell p u) :=
  h.trans (Chg.of_upd ((Upd.refl lo hi w).setCell h1 h2 u))
theorem Chg.drewN {lo hi : Nat} {a w : World} (h : Chg lo hi a w) (n : Nat) : Chg lo hi a (w.drewN n) := ⟨h.os, h.tape, h.output, h.size, h.block⟩

/-- How many places of a row are not true. -/
def unlitW (w : World) (g m : Nat) : Nat := (List.range m).countP fun j => match w.cell? ⟨g, j, none⟩ with | some (.bool true) => false | _ => true
def flagOf (v : Value) : Nat := match v with | .bool true => 1 | _ => 0
theorem unlitW_eq {w : World} {base g m c : Nat} {e : TypeId} {zs : List Bool} (h : MadeB w base e zs (.slice (some ⟨g, 0, none⟩) m c)) (hm : zs.length = m) : unlitW w g m = unlit zs := by
  have e1 : zs = (List.range m).map fun j => zs.getD j false := by
    refine List.ext_getElem (by simp [hm]) fun i h1 h2 => ?_
    simp [h1]
  conv => rhs; rw [e1]
  rw [unlit, List.countP_map, unlitW]
  refine List.countP_congr fun j hj => ?_
  rw [(h.at_ hm (k := j) (by rw [hm]; exact List.mem_range.1 hj)).1]
  simp only [Function.comp]
  cases zs.getD j false <;> simp

/-- What the program's flag says of how far the places have come since the round began. -/
def Flag (cur : List Bool) (ch : Bool) (cv : List Bool) : Prop := (ch = false ∧ cv = cur) ∨ (ch = true ∧ unlit cv < unlit cur)
theorem flag_step {cur cv : List Bool} {ch : Bool} (h : Flag cur ch cv) {k : Nat} (hk : k < cv.length) : Flag cur (ch || !(cv.getD k false)) (cv.set k true) := by
  rcases h with ⟨rfl, rfl⟩ | ⟨rfl, h⟩
  · cases hb : cv.getD k false with
    | true => exact .inl ⟨rfl, set_same (by rw [List.getD_eq_getElem?_getD, List.getElem?_eq_getElem hk] at hb; rw [List.getElem?_eq_getElem hk]; simp at hb; simp [hb])⟩
    | false => exact .inr ⟨rfl, by have := unlit_set cv k (by rw [List.getD_eq_getElem?_getD, List.getElem?_eq_getElem hk] at hb; rw [List.getElem?_eq_getElem hk]; simp at hb; simp [hb]); omega⟩
  · exact .inr ⟨rfl, Nat.lt_of_le_of_lt (up_set cv k).le h⟩

/-- A function value that answers p of each of some numbers, whatever new memory lies beside. -/
def PredIntOn (P : Program) (g : FuncId) (lb : Array Value) (zs : List Int) (p : Int → Bool) (w : World) : Prop :=
  ∀ (x : Int) (W : World), x ∈ zs → Below w.heap.size w W → Calls P g (#[.int .i64 x] ++ lb) W fun e W' => e = .returned (.bool (p x)) ∧ Below W.heap.size W W'

theorem indexFuncIntOn_c (zs : List Int) (lo hi : Nat) (A : Option Addr) (b off c : Nat) (g : FuncId) (lb : Array Value) (p : Int → Bool) (w : World) (hV : Row w lo hi A b off (ints zs)) (hhi : hi ≤ w.heap.size) (hm : zs.length ≤ maxLen) (hp : PredIntOn Try.prog g lb zs p w) (eg : EntersF Try.prog g) :
    Calls Try.prog 76 #[.slice A zs.length c, .func (.func g) #[] lb] w fun e w' => e = .returned (.int .i64 (idxFrom p 0 zs)) ∧ Below w.heap.size w w' := by
  unfold maxLen at hm
  have eg' : ∀ (args : Array Value) (w : World), Sem.run Try.prog (callFunc g args) w = .ok (.enter g args) w := eg
  go_enter Try.func76, Try.ntmps76
  go_wp2
  go_loopw [8] (fun i wr => ∃ k : Nat, k ≤ zs.length ∧ i = .int .i64 k ∧ (∀ j y, j < k → zs[j]? = some y → p y = false) ∧ Below w.heap.size w wr) (fun i _ => zs.length - (intOf i).toNat)
  case atStart => exact ⟨0, Nat.zero_le _, rfl, fun j y hj => absurd hj (Nat.not_lt_zero _), Below.refl _ _⟩
  case round =>
    obtain ⟨k, hk, rfl, hn, hb⟩ := hrel
    have HN := Lib.hid hn
    have HB := Lib.hid hb
    by_cases hlt : k < zs.length
    · obtain ⟨rfl, _, h3, x, hx, hc, _⟩ := hV.int hlt
      have hc1 := (hb.cell (p := ⟨b, off + k, none⟩) (by show b < _; omega)).trans hc
      have HX := Lib.hid hx
      have HP := Lib.hid (hp x wr (List.mem_of_getElem? hx) hb)
      clear hx hc hn hb hp
      go_wp2_with fail
      refine HP.out.mono ?_
      rintro e w1 ⟨rfl, hb1⟩
      have HB1 := Lib.hid hb1
      have HBs := Lib.hid HB.out.size
      clear hb1
      by_cases hpx : p x = true
      · have HPX := Lib.hid hpx
        rw [hpx]
        clear hpx
        go_wp2_with fail
        go_ret
        exact ⟨ret_int (by rw [idxFrom_at p zs 0 k x HX.out HPX.out (fun i y hi hy => HN.out i y hi hy)]; simp), HB.out.trans (HB1.out.mono HBs.out)⟩
      · have hpx' : p x = false := by simpa using hpx
        have HPX := Lib.hid hpx'
        rw [hpx']
        clear hpx hpx'
        go_wp2_with fail
        go_roundw
        case rel =>
          refine ⟨k + 1, by omega, by go_num, fun j y hj hy => ?_, HB.out.trans (HB1.out.mono HBs.out)⟩
          by_cases hjk : j = k
          · subst hjk
            have e := HX.out.symm.trans hy
            injection e with e; rw [← e]; exact HPX.out
          · exact HN.out j y (by omega) hy
        case measure => simp [intOf]; omega
    · go_wp2
      go_ret
      refine ⟨ret_int ?_, HB.out⟩
      exact (idxFrom_none p zs 0 (fun x hx => by
        obtain ⟨j, hj⟩ := List.getElem?_of_mem hx
        exact HN.out j x (by have := lt_of_some hj; omega) hj)).symm

theorem containsFuncIntOn_c (zs : List Int) (lo hi : Nat) (A : Option Addr) (b off c : Nat) (g : FuncId) (lb : Array Value) (p : Int → Bool) (w : World) (hV : Row w lo hi A b off (ints zs)) (hhi : hi ≤ w.heap.size) (hm : zs.length ≤ maxLen) (hp : PredIntOn Try.prog g lb zs p w) (eg : EntersF Try.prog g) :
    Calls Try.prog 57 #[.slice A zs.length c, .func (.func g) #[] lb] w fun e w' => e = .returned (.bool (zs.any p)) ∧ Below w.heap.size w w' := by
  have hidx := idx_any p zs 0
  generalize hr : zs.any p = r at hidx
  have HR := Lib.hid hr
  clear hr
  generalize hi : idxFrom p 0 zs = i at hidx
  have HI := Lib.hid hi
  clear hi
  go_enter Try.func57, Try.ntmps57
  go_wp2_with fail
  refine (indexFuncIntOn_c zs lo _ A b off c g lb p w hV hhi hm hp eg).mono ?_
  rintro e w1 ⟨rfl, hb1⟩
  rw [HI.out]
  have HB1 := Lib.hid hb1
  clear hb1
  go_wp2_with fail
  go_ret
  exact ⟨rfl, HB1.out⟩

theorem reach1_c (x : Nat) (base bx g m c : Nat) (cu : List Bool) (w : World) (hc : w.cell? ⟨bx, 0, none⟩ = some (.slice (some ⟨g, 0, none⟩) m c)) (hM : MadeB w base 4 cu (.slice (some ⟨g, 0, none⟩) m c)) (hm : cu.length = m) (hx : x < m) (hm2 : m ≤ 1000) :
    Calls Try.prog 75 #[.int .i64 (x : Int), .pointer (some ⟨bx, 0, none⟩)] w fun e w' => e = .returned (.bool (bit cu (x : Int))) ∧ Below w.heap.size w w' := by
  obtain ⟨e1, _, _⟩ := hM.at_ hm (k := x) (by omega)
  have hx1 : (x : Int) < (m : Int) := by omega
  rw [← bit_nat] at e1
  generalize bit cu (x : Int) = y at *
  clear hM
  go_enter Try.func75, Try.ntmps75
  go_wp2
  go_ret
  exact ⟨rfl, Below.refl _ _⟩
end Go.Proofs.Ytkcbghaadjhceaa

/- Which places can be come to from one: the program's worklist. -/
namespace Go.Proofs.Ytkcbghaadjhceaa
open Go.RowKit
set_option linter.unusedVariables false
set_option linter.unusedSimpArgs false

theorem made_new {w w1 : World} {e : TypeId} {m pn g : Nat} (hg0 : w.heap.size = g) (hown : w1.ownsRow g e 1 (.slice (some ⟨w.heap.size, 0, none⟩) m m) m (madeCells (Value.bool false).cells (m * 1)).toList) (hg : w.grownBy w1 none) (hp : pn < m) :
    MadeB w1 g e (List.replicate m false) (.slice (some ⟨g, 0, none⟩) m m) ∧ Below g w w1 ∧ w1.cell? ⟨g, pn, none⟩ = some (.bool ((List.replicate m false).getD pn false)) ∧ w1.frozen? ⟨g, pn, none⟩ = false ∧ g < w1.heap.size ∧ g ≠ w1.heap.size := by
  subst hg0
  have hM : MadeB w1 w.heap.size e (List.replicate m false) (.slice (some ⟨w.heap.size, 0, none⟩) m m) := by
    unfold MadeB; rw [List.length_replicate, ← made_false]; exact hown
  obtain ⟨e1, e2, _⟩ := hM.at_ (by simp) (k := pn) (by simpa using hp)
  have h3 : w.heap.size < w1.heap.size := (hown.lt _ rfl).2
  exact ⟨hM, (Below.refl _ _).grown hg (Nat.le_refl _) (fun k hk => by cases hk), e1, e2, h3, Nat.ne_of_lt h3⟩

set_option maxRecDepth 10000 in
set_option maxHeartbeats 4000000 in
theorem implReach_c (n : NNet) (v : Value) (lo hi : Nat) (pn : Nat) (but : Int) (w : World) (hN : NetV w lo hi v n) (hhi : hi ≤ w.heap.size) (hok : netOk n = true) (hpl : (pn : Int) < n.places) :
    Calls Try.prog 56 #[v, .int .i64 (pn : Int), .int .i64 but] w fun e w' => ∃ v', e = .returned v' ∧ MadeB w' w.heap.size 4 (reachAll n but (single n.places.toNat (pn : Int))) v' ∧ Below w.heap.size w w' := by
  obtain ⟨i0, hi0, hz0, hz1, hz2⟩ := info_parts Try.infoB
  obtain ⟨p1, p2, p3, p4, p5⟩ := netOk_parts hok
  have EG := Lib.hid (entersF Try.func75 (by kernel_rfl) rfl : EntersF Try.prog 75)
  obtain ⟨A, b, off, c, ms, rfl, hm, hT⟩ := hN
  unfold maxLen at hm
  generalize hmm : n.places.toNat = m
  have hpm : (m : Int) = n.places := by omega
  have HPM := Lib.hid hpm
  have HMM := Lib.hid hmm
  have hm8 : m ≤ 8 := by omega
  have hplt : pn < m := by omega
  have hpi : (pn : Int) < (m : Int) := by omega
  have hbase : w.heap.size ≠ w.heap.size + 1 := by omega
  generalize hob : Obj.cells #[.int .i64 n.places, .slice A n.tasks.length c] 25 = ob
  have hR := (Row.newAt w #[.int .i64 n.places, .slice A n.tasks.length c] 25 _ rfl)
  rw [hob] at hR
  have HR := Lib.hid hR
  have HB := Lib.hid ((Below.refl w.heap.size w).alloc (Nat.le_refl _) ob)
  have HT := Lib.hid (hT.keep (w' := w.alloc ob) (fun g _ h => Below.heap_alloc w _ g (by omega)) (fun g _ h => Below.heap_alloc w _ g (by omega)))
  have HO := Lib.hid hob
  have HOK := Lib.hid hok
  clear hR hT hob hok p5 hpm hmm
  go_enter Try.func56, Try.ntmps56
  go_wp2_with (at_make; rw [HO.out]; refine wpList_make_full _ rfl (.tmp 14) (.tmp 14) 49 rfl (w.heap.size + 1) 4 i0 _ 1 Try.underlying49 hi0 hz0 hz1 .i64 .i64 _ _ m rfl rfl HPM.out.symm HPM.out.symm (by rw [hz2]; omega) (by unfold maxLen; omega) (by simp) ?_; intro w1 hown1 hg1; obtain ⟨hM1, hb1, e1, e2, hg2, hne1⟩ := made_new (pn := pn) (by simp) hown1 hg1 hplt; simp only [World.size_alloc]; have HM1 := Lib.hid hM1; have HB1 := Lib.hid hb1; clear hown1 hg1 hM1 hb1)
  generalize hW2 : ((w1.setCell ⟨w.heap.size + 1, pn, none⟩ (.bool true)).alloc (.cells #[.slice (some ⟨w.heap.size + 1, 0, none⟩) m m] 49)) = W2
  have hzW : W2.heap.size = w1.heap.size + 1 := by rw [← hW2]; simp [World.setCell]
  have HM2 : MadeB W2 (w.heap.size + 1) 4 (single m (pn : Int)) (.slice (some ⟨w.heap.size + 1, 0, none⟩) m m) := by
    rw [← hW2]; exact (HM1.out.at_ (by simp) (k := pn) (by simpa using hplt)).2.2.alloc _
  have HBX : W2.cell? ⟨w1.heap.size, 0, none⟩ = some (.slice (some ⟨w.heap.size + 1, 0, none⟩) m m) := by
    rw [← hW2, World.cell?_alloc_at _ _ _ _ (by simp [World.setCell])]; rfl
  have HB2 : Below (w.heap.size + 1) (w.alloc ob) W2 := by rw [← hW2]; exact (HB1.out.setCell (by show _ ≤ w.heap.size + 1; omega) _).alloc (by simp [World.setCell]; omega) _
  have HM2 := Lib.hid HM2
  have HBX := Lib.hid HBX
  have HB2 := Lib.hid HB2
  clear hW2 e1 e2
  go_loopw [8] (fun ch wr => ∃ (j : Nat) (cur : List Bool) (cb : Bool), ch = .bool cb ∧ cur = spread but n.tasks j (single m (pn : Int)) ∧ (cb = false → pass but n.tasks cur = cur) ∧ MadeB wr (w.heap.size + 1) 4 cur (.slice (some ⟨w.heap.size + 1, 0, none⟩) m m) ∧ Chg (w.heap.size + 1) (w.heap.size + 1 + 1) W2 wr) (fun ch wr => 2 * unlitW wr (w.heap.size + 1) m + flagOf ch)
  case atStart => exact ⟨0, _, true, rfl, rfl, (by intro h; cases h), HM2.out, Chg.refl _ _ _⟩
  case round =>
    obtain ⟨j, cur, cb, rfl, hcur, hfix, hM, hC⟩ := hrel
    obtain ⟨wo, rfl⟩ : ∃ wo, wo = wr := ⟨_, rfl⟩
    have hcl : cur.length = m := by rw [hcur, spread_length, single_length]
    have hun := unlitW_eq hM hcl
    have HUN := Lib.hid hun
    have HCUR := Lib.hid hcur
    have HFIX := Lib.hid hfix
    have HMo := Lib.hid hM
    have hbo := HB2.out.trans ((hC.below (Nat.le_refl _) (by omega)))
    have hzo : W2.heap.size ≤ wo.heap.size := hC.size
    have s1 := ((HR.out.below hbo (by simp)).cell (j := 1) rfl).1
    have HCo := Lib.hid hC
    have HBo := Lib.hid hbo
    have hbxo := (hC.cell (p := ⟨w1.heap.size, 0, none⟩) (by dsimp only; omega) (by dsimp only; omega)).trans HBX.out
    clear hcur hfix hM hC hbo hun
    cases cb with
    | true =>
      go_wp2
      go_loopw [8, 23] (fun ch i wr => ∃ (k : Nat) (cb : Bool), k ≤ n.tasks.length ∧ i = .int .i64 k ∧ ch = .bool cb ∧ Flag cur cb (passN but n.tasks k cur) ∧ MadeB wr (w.heap.size + 1) 4 (passN but n.tasks k cur) (.slice (some ⟨w.heap.size + 1, 0, none⟩) m m) ∧ Chg (w.heap.size + 1) (w.heap.size + 1 + 1) W2 wr) (fun _ i _ => n.tasks.length - (intOf i).toNat)
      case atStart => exact ⟨0, false, Nat.zero_le _, rfl, rfl, .inl ⟨rfl, rfl⟩, HMo.out, HCo.out⟩
      case round =>
        obtain ⟨k, cb, hk, rfl, rfl, hF, hM, hC⟩ := hrel
        obtain ⟨wp, rfl⟩ : ∃ wp, wp = wr := ⟨_, rfl⟩
        clear s1 hbxo
        generalize hcu : passN but n.tasks k cur = cu at hF hM
        have hcul : cu.length = m := by rw [← hcu, passN_length]; exact hcl
        have HCU := Lib.hid hcu
        have HF := Lib.hid hF
        have HMp := Lib.hid hM
        have HCp := Lib.hid hC
        have hbp := HB2.out.trans ((hC.below (Nat.le_refl _) (by omega)))
        have hzp : W2.heap.size ≤ wp.heap.size := hC.size
        have HBp := Lib.hid hbp
        have hbx := (hC.cell (p := ⟨w1.heap.size, 0, none⟩) (by dsimp only; omega) (by dsimp only; omega)).trans HBX.out
        clear hcu hF hM hC hbp
        by_cases hkt : k < n.tasks.length
        · have hkt1 : (k : Int) < (n.tasks.length : Int) := by omega
          obtain ⟨rfl, _, h3, t, vi, vo, vc, hx, _, hTV, ⟨c0, c1, c2, c3, c4, c5, c6, c7, c8⟩, _⟩ := HT.out.task hkt
          obtain ⟨A2, q1, A3, q2, A4, q3, rfl, rfl, rfl⟩ := hTV.forms
          obtain ⟨_, b2, o2, _, e2, hmi, hRi⟩ := hTV.ins
          cases e2
          obtain ⟨_, b3, o3, _, e3, hmo, hRo⟩ := hTV.out
          cases e3
          unfold maxLen at hmo
          replace c0 := (HBp.out.cell (p := ⟨b, off + k * 9, none⟩) (by show b < _; omega)).trans c0
          replace c1 := (HBp.out.cell (p := ⟨b, off + k * 9 + 1, none⟩) (by show b < _; omega)).trans c1
          replace c2 := (HBp.out.cell (p := ⟨b, off + k * 9 + 2, none⟩) (by show b < _; omega)).trans c2
          replace c3 := (HBp.out.cell (p := ⟨b, off + k * 9 + 3, none⟩) (by show b < _; omega)).trans c3
          replace c4 := (HBp.out.cell (p := ⟨b, off + k * 9 + 4, none⟩) (by show b < _; omega)).trans c4
          replace c5 := (HBp.out.cell (p := ⟨b, off + k * 9 + 5, none⟩) (by show b < _; omega)).trans c5
          replace c6 := (HBp.out.cell (p := ⟨b, off + k * 9 + 6, none⟩) (by show b < _; omega)).trans c6
          replace c7 := (HBp.out.cell (p := ⟨b, off + k * 9 + 7, none⟩) (by show b < _; omega)).trans c7
          replace c8 := (HBp.out.cell (p := ⟨b, off + k * 9 + 8, none⟩) (by show b < _; omega)).trans c8
          have HX := Lib.hid hx
          have HIN := Lib.hid (fun (x : Int) (hx' : x ∈ t.ins) => ins_bound HOK.out (List.mem_of_getElem? hx) hx')
          have HOUT := Lib.hid (fun (f : NFlow) (hf' : f ∈ t.out) => out_bound HOK.out (List.mem_of_getElem? hx) hf')
          have HRi := Lib.hid hRi
          have HRo := Lib.hid hRo
          have HMI := Lib.hid hmi
          clear hTV hx hRi hRo hmi
          by_cases hkb : (k : Int) = but
          · have hkb1 : ((k : Int) == but) = true := by simpa using hkb
            have HKB := Lib.hid hkb
            clear hkb
            go_wp2
            go_roundw
            case rel => exact ⟨k + 1, cb, by omega, by go_num, rfl, by rw [passN_succ HX.out, HCU.out, stepT, goes, decide_eq_true HKB.out]; exact HF.out, by rw [passN_succ HX.out, HCU.out, stepT, goes, decide_eq_true HKB.out]; exact HMp.out.alloc _, HCp.out.alloc _⟩
            case measure => simp [intOf]; omega
          · have hkb1 : ((k : Int) == but) = false := by simpa using hkb
            have HKB := Lib.hid hkb
            clear hkb
            have hw4 : (wp.alloc (.cells #[.int .i64 t.join, .int .i64 t.split, .slice A2 t.ins.length q1, .slice A3 t.out.length q2, .slice A4 t.clear.length q3, .int .i64 t.role, .int .i64 t.apart, .int .i64 t.all, .int .i64 t.need] 36)).heap.size = wp.heap.size + 1 := by simp
            have hR4 := Row.newAt wp #[.int .i64 t.join, .int .i64 t.split, .slice A2 t.ins.length q1, .slice A3 t.out.length q2, .slice A4 t.clear.length q3, .int .i64 t.role, .int .i64 t.apart, .int .i64 t.all, .int .i64 t.need] 36 _ rfl
            have HCC := Lib.hid (containsFuncIntOn_c t.ins lo hi A2 b2 o2 q1 75 #[.pointer (some ⟨w1.heap.size, 0, none⟩)] (bit cu) (wp.alloc (.cells #[.int .i64 t.join, .int .i64 t.split, .slice A2 t.ins.length q1, .slice A3 t.out.length q2, .slice A4 t.clear.length q3, .int .i64 t.role, .int .i64 t.apart, .int .i64 t.all, .int .i64 t.need] 36))
              ((HRi.out.below HBp.out (by omega)).alloc (by omega) _) (by omega) HMI.out
              (fun x W hx hb => by
                obtain ⟨hx0, hx1⟩ := HIN.out x hx
                obtain ⟨xn, rfl⟩ := Int.eq_ofNat_of_zero_le hx0
                exact reach1_c xn (w.heap.size + 1) w1.heap.size (w.heap.size + 1) m m cu W ((hb.cell (p := ⟨w1.heap.size, 0, none⟩) (by dsimp only; omega)).trans (((Below.refl wp.heap.size wp).alloc (Nat.le_refl _) _).cell (p := ⟨w1.heap.size, 0, none⟩) (by dsimp only; omega) |>.trans hbx)) ((HMp.out.alloc _).below hb (Nat.le_refl _)) hcul (by have := HPM.out; omega) (by omega)) EG.out)
            have HR4 := Lib.hid hR4
            clear hR4
            go_wp2_with fail
            refine HCC.out.mono ?_
            rintro e w5 ⟨rfl, hb5⟩
            have hz5 : wp.heap.size + 1 ≤ w5.heap.size := by rw [← hw4]; exact hb5.size
            have hC5 := (HCp.out.alloc (.cells #[.int .i64 t.join, .int .i64 t.split, .slice A2 t.ins.length q1, .slice A3 t.out.length q2, .slice A4 t.clear.length q3, .int .i64 t.role, .int .i64 t.apart, .int .i64 t.all, .int .i64 t.need] 36)).trans (Chg.of_below hb5)
            have HM5 := Lib.hid ((HMp.out.alloc _).below hb5 (Nat.le_refl _))
            have s3 := ((HR4.out.below hb5 (by simp)).cell (j := 3) rfl).1
            have HC5 := Lib.hid hC5
            clear hb5 hC5 hbx c0 c1 c2 c3 c4 c5 c6 c7 c8 HCC
            by_cases hany : t.ins.any (bit cu) = true
            · have HGG := Lib.hid (show goes but k t cu = true by rw [goes, hany, decide_eq_false HKB.out]; rfl)
              rw [hany]
              clear hany
              go_wp2
              go_loopw [8, 41] (fun ch i wr => ∃ (r : Nat) (cb : Bool), r ≤ t.out.length ∧ i = .int .i64 r ∧ ch = .bool cb ∧ Flag cur cb (light cu (t.out.take r)) ∧ MadeB wr (w.heap.size + 1) 4 (light cu (t.out.take r)) (.slice (some ⟨w.heap.size + 1, 0, none⟩) m m) ∧ Chg (w.heap.size + 1) (w.heap.size + 1 + 1) W2 wr) (fun _ i _ => t.out.length - (intOf i).toNat)
              case atStart => exact ⟨0, cb, Nat.zero_le _, rfl, rfl, HF.out, HM5.out, HC5.out⟩
              case round =>
                obtain ⟨r, cb, hr, rfl, rfl, hF, hM, hC⟩ := hrel
                obtain ⟨wz, rfl⟩ : ∃ wz, wz = wr := ⟨_, rfl⟩
                generalize hcv : light cu (t.out.take r) = cv at hF hM
                have hcvl : cv.length = m := by rw [← hcv, light_length]; exact hcul
                have HCV := Lib.hid hcv
                have HFv := Lib.hid hF
                have HMv := Lib.hid hM
                have HCv := Lib.hid hC
                have hbv := HB2.out.trans ((hC.below (Nat.le_refl _) (by omega)))
                have hzv : W2.heap.size ≤ wz.heap.size := hC.size
                have hbx := (hC.cell (p := ⟨w1.heap.size, 0, none⟩) (by dsimp only; omega) (by dsimp only; omega)).trans HBX.out
                have HBv := Lib.hid hbv
                clear hcv hF hM hC hbv s3
                by_cases hrt : r < t.out.length
                · have hrt1 : (r : Int) < (t.out.length : Int) := by omega
                  obtain ⟨rfl, _, h3', f, hf, ⟨f0, f1, f2, f3⟩, _⟩ := HRo.out.flow hrt
                  obtain ⟨hf0, hf1⟩ := HOUT.out f (List.mem_of_getElem? hf)
                  obtain ⟨fn, hfn⟩ := Int.eq_ofNat_of_zero_le (show 0 ≤ f.to by omega)
                  have hfn0 : fn < m := by have := HPM.out; omega
                  have hfn1 : (fn : Int) < (m : Int) := by omega
                  obtain ⟨e1, e2, e3⟩ := HMv.out.at_ hcvl (k := fn) (by omega)
                  have f0' := (HBv.out.cell (p := ⟨b3, o3 + r * 4, none⟩) (by show b3 < _; omega)).trans f0
                  have f1' := (HBv.out.cell (p := ⟨b3, o3 + r * 4 + 1, none⟩) (by show b3 < _; omega)).trans f1
                  have f2' := (HBv.out.cell (p := ⟨b3, o3 + r * 4 + 2, none⟩) (by show b3 < _; omega)).trans f2
                  have f3' := (HBv.out.cell (p := ⟨b3, o3 + r * 4 + 3, none⟩) (by show b3 < _; omega)).trans f3
                  rw [hfn] at f0'
                  have HSN := Lib.hid (light_snoc cu hf)
                  have HFN := Lib.hid hfn
                  have HE3 := Lib.hid e3
                  have HFS := Lib.hid (flag_step HFv.out (k := fn) (by omega))
                  generalize hy : cv.getD fn false = y at e1
                  have HY := Lib.hid hy
                  have hgz1 : w.heap.size + 1 ≠ wz.heap.size := by omega
                  have hgz2 : w1.heap.size ≠ wz.heap.size := by omega
                  have hgz3 : w1.heap.size < wz.heap.size := by omega
                  have hgz4 : w.heap.size + 1 < wz.heap.size := by omega
                  have hgz5 : b3 < wz.heap.size := by omega
                  have hgz6 : b3 ≠ wz.heap.size := by omega
                  have hgz7 : w.heap.size + 1 ≠ w1.heap.size := by omega
                  clear hf f0 f1 f2 f3 hf0 hf1 hfn e3 hy
                  cases cb with
                  | true =>
                    go_wp2
                    go_roundw
                    case rel => exact ⟨r + 1, _, by omega, by go_num, rfl, by rw [HSN.out, HCV.out, HFN.out]; have := HFS.out; rw [HY.out] at this; exact this, by rw [HSN.out, HCV.out, HFN.out]; exact HE3.out.alloc _, (HCv.out.setCell (by show _ ≤ w.heap.size + 1; omega) (by show w.heap.size + 1 < _; omega) _).alloc _⟩
                    case measure => simp [intOf]; omega
                  | false =>
                    go_wp2
                    go_roundw
                    case rel => exact ⟨r + 1, _, by omega, by go_num, rfl, by rw [HSN.out, HCV.out, HFN.out]; have := HFS.out; rw [HY.out] at this; exact this, by rw [HSN.out, HCV.out, HFN.out]; exact HE3.out.alloc _, (HCv.out.setCell (by show _ ≤ w.heap.size + 1; omega) (by show w.heap.size + 1 < _; omega) _).alloc _⟩
                    case measure => simp [intOf]; omega
                · have hrt1 : ¬ ((r : Int) < (t.out.length : Int)) := by omega
                  have hrl : r = t.out.length := by omega
                  have HRL := Lib.hid hrl
                  clear hrl
                  go_wp2
                  go_roundw
                  case rel =>
                    have hst : passN but n.tasks (k + 1) cur = cv := by rw [passN_succ HX.out, HCU.out, stepT, if_pos HGG.out, ← HCV.out, HRL.out, List.take_length]
                    exact ⟨k + 1, cb, by omega, by go_num, rfl, by rw [hst]; exact HFv.out, by rw [hst]; exact HMv.out, HCv.out⟩
                  case measure => simp [intOf]; omega
            · have hany' : t.ins.any (bit cu) = false := by simpa using hany
              have HGG := Lib.hid (show goes but k t cu = false by rw [goes, hany']; simp)
              rw [hany']
              clear hany hany'
              go_wp2
              go_roundw
              case rel =>
                have hst : passN but n.tasks (k + 1) cur = cu := by rw [passN_succ HX.out, HCU.out, stepT, HGG.out]; rfl
                exact ⟨k + 1, cb, by omega, by go_num, rfl, by rw [hst]; exact HF.out, by rw [hst]; exact HM5.out, HC5.out⟩
              case measure => simp [intOf]; omega
        · have hkt1 : ¬ ((k : Int) < (n.tasks.length : Int)) := by omega
          have hkl : k = n.tasks.length := by omega
          have HKL := Lib.hid hkl
          clear hkl
          go_wp2
          go_roundw
          case rel =>
            have hst : pass but n.tasks cur = cu := by rw [pass, ← HKL.out, HCU.out]
            refine ⟨j + 1, cu, cb, rfl, by rw [spread, ← HCUR.out, hst], fun h => ?_, HMp.out, HCp.out⟩
            rcases HF.out with ⟨_, e⟩ | ⟨e, _⟩
            · rw [e] at hst ⊢; exact hst
            · rw [h] at e; cases e
          case measure =>
            rw [HUN.out, unlitW_eq HMp.out hcul]
            rcases HF.out with ⟨rfl, rfl⟩ | ⟨rfl, h⟩
            · simp [flagOf]
            · simp [flagOf]; omega
    | false =>
      go_wp2
      go_ret
      refine ⟨.slice (some ⟨w.heap.size + 1, 0, none⟩) m m, rfl, ?_, HB.out.trans (HBo.out.mono (by omega))⟩
      have hfix := HFIX.out (by simp)
      rw [HCUR.out] at hfix
      have e : reachAll n but (single m (pn : Int)) = cur := by
        rw [reachAll, HMM.out, HCUR.out]
        exact (spread_done but n.tasks _ j m (by rw [single_length]; exact Nat.le_refl _) hfix).symm
      rw [e]; exact HMo.out.base (by omega)
end Go.Proofs.Ytkcbghaadjhceaa

/- NetReach of the program. -/
namespace Go.Proofs.Ytkcbghaadjhceaa
open Go.RowKit
set_option linter.unusedVariables false
set_option linter.unusedSimpArgs false

theorem implNetReach_c (n : NNet) (v : Value) (lo hi : Nat) (place but : Int) (w : World) (hN : NetV w lo hi v n) (hhi : hi ≤ w.heap.size) (hlen : ∀ t ∈ n.tasks, t.out.length ≤ 1048576) :
    Calls Try.prog 27 #[v, .int .i64 place, .int .i64 but] w fun e w' => ∃ v', e = .returned v' ∧ MadeB w' w.heap.size 4 (reachN n place but) v' ∧ Below w.heap.size w w' := by
  have HN := Lib.hid hN
  obtain ⟨A, b, off, c, ms, rfl, hm, hT⟩ := hN
  unfold maxLen at hm
  clear hT
  generalize hob : Obj.cells #[.int .i64 n.places, .slice A n.tasks.length c] 25 = ob
  have hR := (Row.newAt w #[.int .i64 n.places, .slice A n.tasks.length c] 25 _ rfl)
  rw [hob] at hR
  have HR := Lib.hid hR
  have HB := Lib.hid ((Below.refl w.heap.size w).alloc (Nat.le_refl _) ob)
  have HC := Lib.hid (implNetOk_c n _ lo hi (w.alloc ob) (HN.out.keep fun g _ h => Below.heap_alloc w _ g (by omega)) (by simp; omega) hlen)
  have HO := Lib.hid hob
  clear hR hob hlen
  go_enter Try.func27, Try.ntmps27
  go_wp2_with fail
  rw [HO.out]
  refine HC.out.mono ?_
  rintro e w1 ⟨rfl, hb1⟩
  have hR1 := HR.out.below hb1 (by simp)
  have s0 := (hR1.cell (j := 0) rfl).1
  have s1 := (hR1.cell (j := 1) rfl).1
  have hz1' : w.heap.size + 1 ≤ w1.heap.size := by simpa using hb1.size
  have HB1 := Lib.hid (HB.out.trans (hb1.mono (by simp)))
  clear hb1 hR1
  by_cases h1 : netOk n = true
  · have H1 := Lib.hid h1
    have hp := netOk_parts h1
    rw [h1]
    clear h1
    go_wp2_with fail
    refine (implIn_c _ _ _ _).mono ?_
    rintro e w' ⟨rfl, rfl⟩
    by_cases h2 : inB place 0 (n.places - 1) = true
    · have H2 := Lib.hid h2
      rw [h2]
      have hpl := inB_iff.1 h2
      obtain ⟨pn, rfl⟩ := Int.eq_ofNat_of_zero_le hpl.1
      clear h2
      go_wp2_with fail
      refine (implReach_c n _ lo hi pn but _ (HN.out.below HB1.out hhi) (by omega) H1.out (by omega)).mono ?_
      rintro e w4 ⟨v', rfl, hM, hb4⟩
      have HM := Lib.hid hM
      have HB4 := Lib.hid (HB1.out.trans (hb4.mono (by omega)))
      clear hM hb4
      go_wp2
      go_ret
      exact ⟨v', rfl, by rw [reachN_yes H1.out H2.out]; exact HM.out.base (by omega), HB4.out⟩
    · have h2' : inB place 0 (n.places - 1) = false := by simpa using h2
      have H2 := Lib.hid h2'
      rw [h2']
      clear h2 h2'
      go_wp2
      go_ret
      exact ⟨_, rfl, by rw [reachN_no2 H1.out H2.out]; exact MadeB.nil_ _ _ _, HB1.out⟩
  · have h1' : netOk n = false := by simpa using h1
    have H1 := Lib.hid h1'
    rw [h1']
    clear h1 h1'
    go_wp2
    go_ret
    exact ⟨_, rfl, by rw [reachN_no1 H1.out]; exact MadeB.nil_ _ _ _, HB1.out⟩
end Go.Proofs.Ytkcbghaadjhceaa
