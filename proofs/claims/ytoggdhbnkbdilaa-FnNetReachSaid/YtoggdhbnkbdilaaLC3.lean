/- A law over what is drawn of a code: what can be come to from what can be come to. -/
import Derived.Test.YtoggdhbnkbdilaaNB
import Derived.Test.YtoggdhbnkbdilaaSpecWhole
import Derived.Test.YtoggdhbnkbdilaaReader
import Derived.BigQuiet
import Derived.Deep.DeepCutAuto
namespace Go.Proofs.Ytoggdhbnkbdilaa
open Go.RowKit
set_option linter.unusedVariables false
set_option linter.unusedSimpArgs false

theorem reachN_parts {n : NNet} {x y : Int} (h : 0 < (reachN n x y).length) : netOk n = true ∧ 0 ≤ x ∧ x < n.places ∧ reachN n x y = reachAll n y (single n.places.toNat x) := by
  by_cases h1 : netOk n = true
  · cases h2 : inB x 0 (n.places - 1) with
    | true => rw [inB_iff] at h2; exact ⟨h1, h2.1, by omega, reachN_yes h1 (by rw [inB_iff]; omega)⟩
    | false => rw [reachN_no2 h1 h2] at h; simp at h
  · rw [reachN_no1 (by simpa using h1)] at h; simp at h
theorem reachN_length {n : NNet} {x y : Int} (h : 0 < (reachN n x y).length) : (reachN n x y).length = n.places.toNat := by
  obtain ⟨_, _, _, e⟩ := reachN_parts h
  rw [e, reachAll_length, single_length]
theorem reach_closed (n : NNet) (y x : Int) : Closed y n.tasks (reachAll n y (single n.places.toNat x)) :=
  fix_closed (spread_fix y n.tasks _ _ (Nat.le_of_eq (single_length _ _)))
theorem there_law {n : NNet} {x y : Int} {q k : Nat} (h : 0 < (reachN n x y).length) (hq : (reachN n x y).getD q false = true) (hk : (reachN n (q : Int) y).getD k false = true) : (reachN n x y).getD k false = true := by
  obtain ⟨h1, h2, h3, e⟩ := reachN_parts h
  have h' : 0 < (reachN n (q : Int) y).length := by
    cases hl : reachN n (q : Int) y with
    | nil => rw [hl] at hk; simp at hk
    | cons a r => simp
  obtain ⟨_, h4, h5, e2⟩ := reachN_parts h'
  rw [e] at hq ⊢
  rw [e2] at hk
  have hc := reach_closed n y x
  have hl : (reachAll n y (single n.places.toNat x)).length = n.places.toNat := by rw [reachAll_length, single_length]
  exact spread_sub hc n.places.toNat (s := single n.places.toNat (q : Int)) (by rw [single_length, hl]) (fun j hj => by
    rw [single_at] at hj
    have hj' := of_decide_eq_true hj
    rw [← hj'.1, Int.toNat_natCast]; exact hq) k hk
theorem getD_some {l : List Bool} {k : Nat} {x : Bool} (h : l[k]? = some x) : l.getD k false = x := by rw [List.getD_eq_getElem?_getD, h]; rfl

set_option maxRecDepth 100000 in
set_option maxHeartbeats 4000000 in
theorem netThere_walk {zs : List Int} {A : Option Addr} {b off c : Nat} (w : World) (hV : Row w 0 w.heap.size A b off (bytesC zs)) (hz : ∀ x ∈ zs, 0 ≤ x ∧ x ≤ 255) (hm : zs.length ≤ maxLen) (hcap : zs.length ≤ c) :
    Calls Try.prog 7 #[.slice A zs.length c] w fun e w' => e = .returned (.bool true) ∧ Below w.heap.size w w' := by
  have hm0 := hm
  have HZ := Lib.hid hz
  clear hz
  unfold maxLen at hm
  go_enter Try.func7, Try.ntmps7
  by_cases hbig : 1048576 < zs.length
  · go_wp2; go_ret; exact ⟨rfl, Below.refl _ _⟩
  · go_wp2_with fail
    refine (drawNetReach_c zs A b off c w hV HZ.out hm0 hcap).mono ?_
    rintro e w1 ⟨P, b1, k1, c1, n, x, y, rfl, hx1, hx2, hy1, hy2, hg, hb⟩
    have HN1 := Lib.hid (NB.start hg hb)
    have HSM := Lib.hid hg.1
    clear hg hb
    generalize hBB : w1.heap.size = B at HN1
    have cB0 := HN1.out.cell0
    have cB1 := HN1.out.cell1
    go_wp2_with fail
    refine (implNetReach_c n _ _ _ x y _ HN1.out.nv (Nat.le_of_lt HN1.out.lt) (small_out HSM.out)).mono ?_
    rintro e w2 ⟨v2, rfl, hM2, hb2⟩
    have HN2 := Lib.hid (HN1.out.below hb2)
    obtain ⟨A2, b2, c2, rfl, hr2⟩ := hM2.row
    have HR2 := Lib.hid hr2
    have dB0 := HN2.out.cell0
    have dB1 := HN2.out.cell1
    clear hb2 hM2 hr2
    go_wp2_with fail
    refine (specNetReach_c n _ _ _ x y w2 HN2.out.nv (Nat.le_of_lt HN2.out.lt)).mono ?_
    rintro e w3 ⟨v3, rfl, hM3, hb3⟩
    have HN3 := Lib.hid (HN2.out.below hb3)
    obtain ⟨A3, b3, c3, rfl, hr3⟩ := hM3.row
    have HR3 := Lib.hid hr3
    have HR23 := Lib.hid (HR2.out.below hb3 (Nat.le_refl _))
    have hl8 := reachN_len n x y
    have HGB := guBools_c (reachN n x y) (reachN n x y) _ _ _ _ A2 A3 b2 0 c2 b3 0 c3 w3 HR23.out HR3.out (by unfold maxLen; omega) (by unfold maxLen; omega)
    rw [decide_eq_true rfl] at HGB
    have HGB := Lib.hid HGB
    have hs23 := hb3.size
    clear hb3 hM3 hr3 HR2
    have HL0 := Lib.hid (fun (h : 0 < (reachN n x y).length) => reachN_length h)
    have HTL := Lib.hid (fun (q k : Nat) (h : 0 < (reachN n x y).length) => @there_law n x y q k h)
    generalize hrs : reachN n x y = rs at HR23 HR3 HGB hl8 HL0 HTL ⊢
    clear hrs
    go_wp2_with fail
    refine HGB.out.mono ?_
    rintro e w4 ⟨rfl, hb4⟩
    have HN4 := Lib.hid (HN3.out.below hb4)
    have HR4 := Lib.hid (HR23.out.below hb4 hs23)
    have hs4 := hb4.size
    clear hb4 HGB HR23 HR3
    go_wp2
    go_loopw [7] (fun i wr => ∃ q : Nat, q ≤ rs.length ∧ i = .int .i64 q ∧ NB w B P b1 k1 c1 n wr ∧ Row wr _ w2.heap.size A2 b2 0 (bools rs) ∧ w2.heap.size ≤ wr.heap.size) (fun i _ => rs.length - (intOf i).toNat)
    case atStart => exact ⟨0, Nat.zero_le _, rfl, HN4.out, HR4.out, by omega⟩
    case round =>
      clear HN4 HR4 hs4
      obtain ⟨q, hq, rfl, hn, hr, hsz⟩ := hrel
      have HN := Lib.hid hn
      have HR := Lib.hid hr
      clear hn hr
      have gB0 := HN.out.cell0
      have gB1 := HN.out.cell1
      by_cases hlt : q < rs.length
      · have hlt1 : (q : Int) < (rs.length : Int) := by omega
        go_wp2_with fail
        refine (implNetReach_c n _ _ _ (q : Int) y wr HN.out.nv (Nat.le_of_lt HN.out.lt) (small_out HSM.out)).mono ?_
        rintro e w5 ⟨v5, rfl, hM5, hb5⟩
        have HN5 := Lib.hid (HN.out.below hb5)
        have HR5 := Lib.hid (HR.out.below hb5 hsz)
        obtain ⟨A5, b5, c5, rfl, hr5⟩ := hM5.row
        have HS5 := Lib.hid hr5
        have hl5 := reachN_len n (q : Int) y
        have HSL := Lib.hid (fun (h : 0 < (reachN n (q : Int) y).length) => reachN_length h)
        have HTQ := Lib.hid (fun (k : Nat) => HTL.out q k (by omega))
        have hs5 := hb5.size
        clear hb5 hM5 hr5 gB0 gB1
        generalize hss : reachN n (q : Int) y = ss at HS5 hl5 HSL HTQ ⊢
        clear hss
        obtain ⟨rfl, _, _, rq, hrq, hcq, _⟩ := HR5.out.bool hlt
        rw [Nat.zero_add] at hcq
        have HRQ := Lib.hid (getD_some hrq)
        clear hrq
        go_wp2
        go_loop [9] (fun i => ∃ k : Nat, k ≤ ss.length ∧ i = .int .i64 k) (fun i => ss.length - (intOf i).toNat)
        case atStart => exact ⟨0, Nat.zero_le _, rfl⟩
        case round =>
          obtain ⟨k, hk, rfl⟩ := hrel
          by_cases hkl : k < ss.length
          · have hkl1 : (k : Int) < (ss.length : Int) := by omega
            have hkr : k < rs.length := by have h1 := HSL.out (by omega); have h2 := HL0.out (by omega); omega
            have hkr1 : (k : Int) < (rs.length : Int) := by omega
            cases rq with
            | true =>
              obtain ⟨rfl, _, _, sk, hsk, hck, _⟩ := HS5.out.bool hkl
              rw [Nat.zero_add] at hck
              obtain ⟨_, _, _, rk, hrk, hcr, _⟩ := HR5.out.bool hkr
              rw [Nat.zero_add] at hcr
              cases sk with
              | true =>
                have hrt : rk = true := by rw [← getD_some hrk]; exact HTQ.out k HRQ.out (getD_some hsk)
                subst hrt
                clear hsk hrk
                go_wp2
                go_round
                case rel => exact ⟨k + 1, by omega, by go_num⟩
                case measure => simp [intOf]; omega
              | false =>
                clear hsk hrk
                go_wp2
                go_round
                case rel => exact ⟨k + 1, by omega, by go_num⟩
                case measure => simp [intOf]; omega
            | false =>
              go_wp2
              go_roundw
              case rel => exact ⟨q + 1, by omega, by go_num, HN5.out, HR5.out, by omega⟩
              case measure => simp [intOf]; omega
          · have hkl1 : ¬ ((k : Int) < (ss.length : Int)) := by omega
            go_wp2
            go_roundw
            case rel => exact ⟨q + 1, by omega, by go_num, HN5.out, HR5.out, by omega⟩
            case measure => simp [intOf]; omega
      · have hlt1 : ¬ ((q : Int) < (rs.length : Int)) := by omega
        go_wp2_with fail
        refine (guOk_c wr).mono ?_
        rintro e w8 ⟨rfl, hb8⟩
        have HB8 := Lib.hid (HN.out.below hb8).bl
        clear hb8
        go_wp2
        go_ret
        exact ⟨rfl, HB8.out⟩
end Go.Proofs.Ytoggdhbnkbdilaa
