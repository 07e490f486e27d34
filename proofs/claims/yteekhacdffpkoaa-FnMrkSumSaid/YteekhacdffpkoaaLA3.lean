/- Laws over what is drawn of a code: marks. -/
import Derived.Test.YteekhacdffpkoaaDraw4
import Derived.Test.YteekhacdffpkoaaMore
import Derived.Test.YteekhacdffpkoaaInts
import Derived.Deep.DeepCutAuto
namespace Go.Proofs.Yteekhacdffpkoaa
open Go.RowKit
set_option linter.unusedVariables false
set_option linter.unusedSimpArgs false

theorem quiet_q {P : Program} {f : FuncId} {args : Array Value} {w : World} {n : Nat} {v : Value}
    (h : Calls P f args (w.drewN n) fun e w' => e = .returned v ∧ ∃ m, w' = (w.drewN n).drewN m) : Calls P f args (w.drewN n) fun e w'' => e = .returned v ∧ ∃ m, w'' = w.drewN m :=
  h.mono fun _ _ ⟨he, m, hm⟩ => ⟨he, n + m, by rw [hm, World.drewN_drewN]⟩
theorem quiet_w {P : Program} {f : FuncId} {args : Array Value} {w : World} {n : Nat} {v : Value}
    (h : Calls P f args (w.drewN n) fun e w' => e = .returned v ∧ w.drewN n = w') : Calls P f args (w.drewN n) fun e w'' => e = .returned v ∧ ∃ m, w'' = w.drewN m :=
  h.mono fun _ _ ⟨he, hm⟩ => ⟨he, n, hm.symm⟩

theorem bne_wrap (a : Int) : (wrap64 a != IntKind.i64.wrap a) = false := by
  have e : IntKind.i64.wrap a = wrap64 a := by rw [IntKind.wrap_i64]; unfold wrap64; rfl
  rw [e]; simp
theorem wrap_add (a b : Int) : wrap64 (wrap64 a + b) = wrap64 (a + b) := by unfold wrap64; omega
theorem wrap_add_r (a b : Int) : wrap64 (a + wrap64 b) = wrap64 (a + b) := by rw [Int.add_comm, wrap_add, Int.add_comm]
theorem sumW_eq : ∀ (zs : List Int) (s : Int), zs.foldl (fun s x => wrap64 (s + x)) (wrap64 s) = wrap64 (s + zs.sum)
  | [], s => by simp
  | x :: r, s => by
    simp only [List.foldl_cons, List.sum_cons]
    rw [wrap_add, sumW_eq r (s + x)]
    congr 1; omega
theorem sumW_sum (zs : List Int) : sumW zs = wrap64 zs.sum := by
  have h := sumW_eq zs 0
  have e : wrap64 0 = 0 := IntWalk.wrap64_in _ (by omega)
  rw [e] at h
  simpa [sumW] using h
theorem sumW_split (zs : List Int) (k : Nat) : sumW zs = wrap64 (sumW (zs.take k) + sumW (zs.drop k)) := by
  rw [sumW_sum, sumW_sum, sumW_sum, wrap_add, wrap_add_r]
  congr 1
  conv => lhs; rw [← List.take_append_drop k zs]
  rw [List.sum_append]
theorem sum_bound : ∀ (zs : List Int), (∀ x ∈ zs, -1 ≤ x ∧ x ≤ 5) → -(zs.length : Int) ≤ zs.sum ∧ zs.sum ≤ 5 * (zs.length : Int)
  | [], _ => by simp
  | x :: r, h => by
    have h1 := h x (List.mem_cons_self ..)
    have h2 := sum_bound r (fun y hy => h y (List.mem_cons_of_mem _ hy))
    simp only [List.sum_cons, List.length_cons]
    omega
theorem sumW_small (zs : List Int) (h : ∀ x ∈ zs, -1 ≤ x ∧ x ≤ 5) (hl : zs.length ≤ 100) : sumW zs = zs.sum := by
  rw [sumW_sum]
  have := sum_bound zs h
  exact IntWalk.wrap64_in _ (by omega)
theorem sum_more : ∀ (xs ys : List Int), moreB xs ys = true → ys.sum ≤ xs.sum
  | [], [], _ => by simp
  | [], _ :: _, h => by simp [moreB] at h
  | _ :: _, [], h => by simp [moreB] at h
  | x :: xs, y :: ys, h => by
    simp only [moreB, Bool.and_eq_true, decide_eq_true_eq] at h
    have := sum_more xs ys h.2
    simp only [List.sum_cons]; omega
theorem moreB_refl (xs : List Int) : moreB xs xs = true := moreB_true rfl (fun j x y hx hy => by rw [hx] at hy; injection hy with hy; omega)

theorem specMrkSum_n (zs : List Int) (n lo hi : Nat) (A : Option Addr) (b off c : Nat) (w : World) (hV : Row w lo hi A b off (ints zs)) (hm : zs.length ≤ maxLen) (hn : zs.length = n) :
    Calls Try.prog 17 #[.slice A n c] w fun e w' => e = .returned (.int .i64 (sumW zs)) ∧ w = w' := by subst hn; exact specMrkSum_c zs lo hi A b off c w hV hm
theorem implMrkSum_n (zs : List Int) (n lo hi : Nat) (A : Option Addr) (b off c : Nat) (w : World) (hV : Row w lo hi A b off (ints zs)) (hm : zs.length ≤ maxLen) (hn : zs.length = n) :
    Calls Try.prog 19 #[.slice A n c] w fun e w' => e = .returned (.int .i64 (sumW zs)) ∧ w = w' := by subst hn; exact implMrkSum_c zs lo hi A b off c w hV hm

theorem Row.take_ {w : World} {lo hi b off : Nat} {A : Option Addr} {zs : List Int} (h : Row w lo hi A b off (ints zs)) (k : Nat) : Row w lo hi A b off (ints (zs.take k)) :=
  ⟨fun hn => h.1 (fun e => hn (by have h0 : zs = [] := (by simpa using e); rw [h0]; simp)), fun j u hu => h.2 j u (by
    rw [List.getElem?_map, List.getElem?_take] at hu
    rw [List.getElem?_map]
    by_cases hj : j < k
    · simpa [hj] using hu
    · simp [hj] at hu)⟩
theorem Row.drop_ {w : World} {lo hi b off c : Nat} {A : Option Addr} {zs : List Int} (h : Row w lo hi A b off (ints zs)) (k : Nat) (hc : zs.length ≤ c) : Row w lo hi (if c = k then A else A.map (·.add k)) b (off + k) (ints (zs.drop k)) := by
  by_cases hk : k < zs.length
  · obtain ⟨rfl, h1, h2⟩ := h.ref (k := 0) (by simp; omega)
    rw [if_neg (by omega)]
    refine ⟨fun _ => ⟨by simp [addr_add0], h1, h2⟩, fun j u hu => ?_⟩
    have := h.2 (k + j) u (by rw [← hu, List.getElem?_map, List.getElem?_map, List.getElem?_drop])
    rw [Nat.add_assoc]; exact this
  · have : zs.drop k = [] := List.drop_eq_nil_of_le (by omega)
    rw [this]; exact Row.nil_

set_option maxRecDepth 100000 in
set_option maxHeartbeats 1000000 in
theorem mrkSum_walk {zs : List Int} {A : Option Addr} {b off c : Nat} {zt : List Int} {A' : Option Addr} {b' off' c' : Nat} (w : World) (hV : Row w 0 w.heap.size A b off (bytesC zs)) (hz : ∀ x ∈ zs, 0 ≤ x ∧ x ≤ 255) (hm : zs.length ≤ maxLen) (hcap : zs.length ≤ c)
    (hV' : Row w 0 w.heap.size A' b' off' (bytesC zt)) (hz' : ∀ x ∈ zt, 0 ≤ x ∧ x ≤ 255) (hm' : zt.length ≤ maxLen) (hcap' : zt.length ≤ c') :
    Calls Try.prog 10 #[.slice A zs.length c, .slice A' zt.length c'] w fun e w' => e = .returned (.bool true) ∧ Below w.heap.size w w' := by
  have hm0 := hm
  have hm0' := hm'
  have HZ := Lib.hid hz
  have HZ' := Lib.hid hz'
  clear hz hz'
  unfold maxLen at hm hm'
  by_cases hbig : 1048576 < zs.length
  · go_enter Try.func10, Try.ntmps10
    go_wp2; go_ret; exact ⟨rfl, Below.refl _ _⟩
  · by_cases hbig' : 1048576 < zt.length
    · go_enter Try.func10, Try.ntmps10
      go_wp2; go_ret; exact ⟨rfl, Below.refl _ _⟩
    · go_enter Try.func10, Try.ntmps10
      go_wp2_with fail
      refine (drawMrkSum_c zs A b off c w hV HZ.out hm0 hcap).mono ?_
      rintro e w1 ⟨v, ms, rfl, hms, hmb, hv, hb⟩
      obtain ⟨A1, b1, o1, c1, rfl, hc1, hrow⟩ := hv
      have HB1 := Lib.hid hb
      have HROW := Lib.hid hrow
      have HMB := Lib.hid hmb
      have hs1 := hb.size
      clear hb hrow hmb
      go_wp2_with fail
      refine (drawMrkMore_c zt A' b' off' c' w1 ((hV'.below HB1.out (Nat.le_refl _)).more (Nat.le_refl _) hs1) HZ'.out hm0' hcap').mono ?_
      rintro e w2 ⟨va, vb, xs, ys, rfl, hxl, hxb, hyl, hyb, hva, hvb, hb⟩
      obtain ⟨A2, b2, o2, c2, rfl, hc2, hrow2⟩ := hva
      obtain ⟨A3, b3, o3, c3, rfl, hc3, hrow3⟩ := hvb
      have HB2 := Lib.hid (HB1.out.trans (hb.mono hs1))
      have hR1 : Row w2 w.heap.size w1.heap.size A1 b1 o1 (ints ms) := HROW.out.below hb (Nat.le_refl _)
      have HXB := Lib.hid hxb
      have HYB := Lib.hid hyb
      clear hb hxb hyb
      obtain ⟨k, hk⟩ : ∃ k, k = zs.length % (ms.length + 1) := ⟨_, rfl⟩
      have hkl : k ≤ ms.length := by have := Nat.mod_lt zs.length (show 0 < ms.length + 1 by omega); omega
      have hk' : ((zs.length : Int) % ((ms.length : Int) + 1)) = (k : Int) := by rw [hk]; simp
      clear hk
      have hRt := hR1.take_ k
      have hRd := hR1.drop_ k hc1
      have hsp := sumW_split ms k
      go_wp2_with fail
      refine (implMrkSum_c ms _ _ _ _ _ _ _ hR1 (by unfold maxLen; omega)).mono ?_
      rintro e w' ⟨rfl, rfl⟩
      obtain ⟨s1, hs⟩ : ∃ s1, s1 = sumW ms := ⟨_, rfl⟩
      rw [← hs]
      have hne1 : (s1 != s1) = false := by simp
      rw [← hs] at hsp
      obtain ⟨s2, hs2⟩ : ∃ s, s = sumW (ms.take k) := ⟨_, rfl⟩
      obtain ⟨s3, hs3⟩ : ∃ s, s = sumW (ms.drop k) := ⟨_, rfl⟩
      rw [← hs2, ← hs3] at hsp
      have hne2 : (s1 != IntKind.i64.wrap (s2 + s3)) = false := by rw [hsp]; exact bne_wrap _
      have hne3 : (moreB xs ys != moreB xs ys) = false := by simp
      have HS := Lib.hid hs
      have HS2 := Lib.hid hs2
      have HS3 := Lib.hid hs3
      clear hs hs2 hs3 hsp
      have hkc : (k : Int) ≤ (c1 : Int) := by omega
      have hkl' : (k : Int) ≤ (ms.length : Int) := by omega
      go_upto_region 7 with fail
      go_cut [60] (fun s60 wc => s60 = .bool false ∧ ∃ n, wc = w2.drewN n)
      case first =>
        rcases A1 with _ | ad
        · simp only [Option.map_none, ite_self] at hRd
          have HQ1 := Lib.hid (show ∀ n, Calls Try.prog 17 #[.slice none ms.length c1] (w2.drewN n) fun e w'' => e = .returned (.int .i64 s1) ∧ ∃ m, w'' = w2.drewN m from fun n => by rw [HS.out]; exact quiet_w (specMrkSum_c ms _ _ _ _ _ _ (w2.drewN n) hR1 (by unfold maxLen; omega)))
          have HQ2 := Lib.hid (show ∀ n, Calls Try.prog 19 #[.slice none k c1] (w2.drewN n) fun e w'' => e = .returned (.int .i64 s2) ∧ ∃ m, w'' = w2.drewN m from fun n => by rw [HS2.out]; exact quiet_w (implMrkSum_n (ms.take k) k _ _ _ _ _ _ (w2.drewN n) hRt (by rw [List.length_take]; unfold maxLen; omega) (by rw [List.length_take]; omega)))
          have HQ3 := Lib.hid (show ∀ n, Calls Try.prog 19 #[.slice none (ms.length - k) (c1 - k)] (w2.drewN n) fun e w'' => e = .returned (.int .i64 s3) ∧ ∃ m, w'' = w2.drewN m from fun n => by rw [HS3.out]; exact quiet_w (implMrkSum_n (ms.drop k) (ms.length - k) _ _ _ _ _ _ (w2.drewN n) hRd (by rw [List.length_drop]; unfold maxLen; omega) (by rw [List.length_drop])))
          have HQ4 := Lib.hid (show ∀ n, Calls Try.prog 22 #[.slice A2 xs.length c2, .slice A3 ys.length c3] (w2.drewN n) fun e w'' => e = .returned (.bool (moreB xs ys)) ∧ ∃ m, w'' = w2.drewN m from fun n => quiet_q (implMrkMore_q xs ys _ _ _ _ _ _ _ _ _ _ _ _ (w2.drewN n) hrow2 hrow3 (by unfold maxLen; omega) (by unfold maxLen; omega)))
          have HQ5 := Lib.hid (show ∀ n, Calls Try.prog 21 #[.slice A2 xs.length c2, .slice A3 ys.length c3] (w2.drewN n) fun e w'' => e = .returned (.bool (moreB xs ys)) ∧ ∃ m, w'' = w2.drewN m from fun n => quiet_q (specMrkMore_q xs ys _ _ _ _ _ _ _ _ _ _ _ _ (w2.drewN n) hrow2 hrow3 (by unfold maxLen; omega) (by unfold maxLen; omega)))
          go_quiet (first | (go_at_call 17; exact HQ1.out _) | (go_at_call 22; exact HQ4.out _) | (go_at_call 21; exact HQ5.out _) | (go_at_call 19; with_reducible exact HQ2.out _) | (go_at_call 19; with_reducible exact HQ3.out _))
          go_wp2_with fail
          go_meet
          exact ⟨rfl, _, rfl⟩
        · simp only [Option.map_some] at hRd
          have HQ1 := Lib.hid (show ∀ n, Calls Try.prog 17 #[.slice (some ad) ms.length c1] (w2.drewN n) fun e w'' => e = .returned (.int .i64 s1) ∧ ∃ m, w'' = w2.drewN m from fun n => by rw [HS.out]; exact quiet_w (specMrkSum_c ms _ _ _ _ _ _ (w2.drewN n) hR1 (by unfold maxLen; omega)))
          have HQ2 := Lib.hid (show ∀ n, Calls Try.prog 19 #[.slice (some ad) k c1] (w2.drewN n) fun e w'' => e = .returned (.int .i64 s2) ∧ ∃ m, w'' = w2.drewN m from fun n => by rw [HS2.out]; exact quiet_w (implMrkSum_n (ms.take k) k _ _ _ _ _ _ (w2.drewN n) hRt (by rw [List.length_take]; unfold maxLen; omega) (by rw [List.length_take]; omega)))
          have HQ3 := Lib.hid (show ∀ n, Calls Try.prog 19 #[.slice (if c1 = k then some ad else some (ad.add k)) (ms.length - k) (c1 - k)] (w2.drewN n) fun e w'' => e = .returned (.int .i64 s3) ∧ ∃ m, w'' = w2.drewN m from fun n => by rw [HS3.out]; exact quiet_w (implMrkSum_n (ms.drop k) (ms.length - k) _ _ _ _ _ _ (w2.drewN n) hRd (by rw [List.length_drop]; unfold maxLen; omega) (by rw [List.length_drop])))
          have HQ4 := Lib.hid (show ∀ n, Calls Try.prog 22 #[.slice A2 xs.length c2, .slice A3 ys.length c3] (w2.drewN n) fun e w'' => e = .returned (.bool (moreB xs ys)) ∧ ∃ m, w'' = w2.drewN m from fun n => quiet_q (implMrkMore_q xs ys _ _ _ _ _ _ _ _ _ _ _ _ (w2.drewN n) hrow2 hrow3 (by unfold maxLen; omega) (by unfold maxLen; omega)))
          have HQ5 := Lib.hid (show ∀ n, Calls Try.prog 21 #[.slice A2 xs.length c2, .slice A3 ys.length c3] (w2.drewN n) fun e w'' => e = .returned (.bool (moreB xs ys)) ∧ ∃ m, w'' = w2.drewN m from fun n => quiet_q (specMrkMore_q xs ys _ _ _ _ _ _ _ _ _ _ _ _ (w2.drewN n) hrow2 hrow3 (by unfold maxLen; omega) (by unfold maxLen; omega)))
          go_quiet (first | (go_at_call 17; exact HQ1.out _) | (go_at_call 22; exact HQ4.out _) | (go_at_call 21; exact HQ5.out _) | (go_at_call 19; with_reducible exact HQ2.out _) | (go_at_call 19; with_reducible exact HQ3.out _))
          generalize (if c1 = k then some ad else some (ad.add k)) = Bq
          go_wp2_with fail
          go_meet
          exact ⟨rfl, _, rfl⟩
      case rest =>
        obtain ⟨rfl, n7, rfl⟩ := hcut
        clear hne1 hne2 hne3 hRt hRd hR1 HS HS2 HS3 hkc hkl' hkl hk' HROW
        have HS1 := Lib.hid (sumW_small xs HXB.out (by omega))
        have HS2 := Lib.hid (sumW_small ys HYB.out (by omega))
        have hmr : moreB xs xs = true := moreB_refl xs
        go_wp2
        go_loopw [10, 11] (fun s10 i wr => ∃ (k n : Nat) (al : Bool), k ≤ xs.length ∧ i = .int .i64 k ∧ s10 = .bool al ∧ (al = true ↔ (xs.length = ys.length ∧ ∀ (j : Nat) (x y : Int), j < k → xs[j]? = some x → ys[j]? = some y → y ≤ x)) ∧ wr = w2.drewN n) (fun _ i _ => xs.length - (intOf i).toNat)
        case atStart =>
          refine ⟨0, n7, _, Nat.zero_le _, rfl, rfl, ?_, rfl⟩
          simp; omega
        case round =>
          obtain ⟨k, n, al, hk, rfl, rfl, hal, rfl⟩ := hrel
          have HAL := Lib.hid hal
          clear hal
          by_cases hgo : k < xs.length ∧ al = true
          · obtain ⟨hlt, rfl⟩ := hgo
            have hll := (HAL.out.1 rfl).1
            obtain ⟨rfl, _, _, x, hx, hc, _⟩ := hrow2.int hlt
            obtain ⟨rfl, _, _, y, hy, hd, _⟩ := hrow3.int (k := k) (by omega)
            have HX := Lib.hid hx
            have HY := Lib.hid hy
            have hlt1 : (k : Int) < (xs.length : Int) := by omega
            have hlt2 : (k : Int) < (ys.length : Int) := by omega
            have HLL := Lib.hid hll
            clear hx hy hll
            go_wp2
            go_quiet (fail)
            go_wp2
            go_roundw
            case rel =>
              refine ⟨k + 1, _, _, by omega, by go_num, rfl, ?_, rfl⟩
              constructor
              · intro h
                refine ⟨HLL.out, fun j a b hj ha hb => ?_⟩
                by_cases hjk : j = k
                · subst hjk
                  have e1 := HX.out.symm.trans ha
                  have e2 := HY.out.symm.trans hb
                  injection e1 with e1; injection e2 with e2
                  simp at h; omega
                · exact (HAL.out.1 (by simp)).2 j a b (by omega) ha hb
              · intro h
                have := h.2 k x y (by omega) HX.out HY.out
                simp; omega
            case measure => simp [intOf]; omega
          · have hfin : al = moreB xs ys := by
              rw [Bool.eq_iff_iff, moreB_iff]
              constructor
              · intro h
                have h1 := HAL.out.1 h
                exact ⟨h1.1, fun j x y hx hy => h1.2 j x y (by have := lt_of_some hx; have : ¬ k < xs.length := fun h' => hgo ⟨h', h⟩; omega) hx hy⟩
              · intro h
                exact HAL.out.2 ⟨h.1, fun j x y _ hx hy => h.2 j x y hx hy⟩
            have HF := Lib.hid hfin
            have HSM := Lib.hid (fun h : moreB xs ys = true => sum_more xs ys h)
            clear hfin
            by_cases h1 : al = true
            · have h2 : ¬ k < xs.length := fun h => hgo ⟨h, h1⟩
              have h3 : ¬ (k : Int) < (xs.length : Int) := by omega
              subst h1
              go_wp2_with fail
              refine (implMrkMore_c xs ys _ _ _ _ _ _ _ _ _ _ _ _ _ (hrow2.drewN n) (hrow3.drewN n) (by unfold maxLen; omega) (by unfold maxLen; omega)).mono ?_
              rintro e w3 ⟨rfl, hb3⟩
              replace hb3 : Below w2.heap.size w2 w3 := (below_draws _ _ n).trans hb3
              have HB3 := Lib.hid hb3
              have hs3 : w2.heap.size ≤ w3.heap.size := hb3.size
              have hr2 := hrow2.below hb3 (Nat.le_refl _)
              have hr3 := hrow3.below hb3 (Nat.le_refl _)
              clear hb3
              rw [← HF.out]
              go_wp2_with fail
              refine (implMrkMore_c xs xs _ _ _ _ _ _ _ _ _ _ _ _ _ hr2 hr2 (by unfold maxLen; omega) (by unfold maxLen; omega)).mono ?_
              rintro e w4 ⟨rfl, hb4⟩
              rw [hmr]
              have HB4 := Lib.hid hb4
              have hs4 : w3.heap.size ≤ w4.heap.size := hb4.size
              have hq2 := hr2.below hb4 (by omega)
              have hq3 := hr3.below hb4 (by omega)
              clear hb4
              have hmore := HSM.out (by rw [← HF.out])
              have hge : ys.sum ≤ xs.sum := hmore
              have e1 := HS1.out
              have e2 := HS2.out
              have C1 := implMrkSum_c xs _ _ _ _ _ c2 w4 hq2 (by unfold maxLen; omega)
              have C2 := implMrkSum_c ys _ _ _ _ _ c3 w4 hq3 (by unfold maxLen; omega)
              rw [e1] at C1
              rw [e2] at C2
              have HC1 := Lib.hid C1
              have HC2 := Lib.hid C2
              clear C1 C2 e1 e2
              go_wp2_with fail
              refine HC1.out.mono ?_
              rintro e w' ⟨rfl, rfl⟩
              go_wp2_with fail
              refine HC2.out.mono ?_
              rintro e w' ⟨rfl, rfl⟩
              go_wp2
              go_ret
              exact ⟨rfl, HB2.out.trans ((HB3.out.trans (HB4.out.mono hs3)).mono HB2.out.size)⟩
            · have h1' : al = false := by simpa using h1
              subst h1'
              by_cases h2 : k < xs.length
              · have h3 : (k : Int) < (xs.length : Int) := by omega
                go_wp2_with fail
                refine (implMrkMore_c xs ys _ _ _ _ _ _ _ _ _ _ _ _ _ (hrow2.drewN n) (hrow3.drewN n) (by unfold maxLen; omega) (by unfold maxLen; omega)).mono ?_
                rintro e w3 ⟨rfl, hb3⟩
                replace hb3 : Below w2.heap.size w2 w3 := (below_draws _ _ n).trans hb3
                have HB3 := Lib.hid hb3
                have hs3 : w2.heap.size ≤ w3.heap.size := hb3.size
                have hr2 := hrow2.below hb3 (Nat.le_refl _)
                have hr3 := hrow3.below hb3 (Nat.le_refl _)
                clear hb3
                rw [← HF.out]
                go_wp2_with fail
                refine (implMrkMore_c xs xs _ _ _ _ _ _ _ _ _ _ _ _ _ hr2 hr2 (by unfold maxLen; omega) (by unfold maxLen; omega)).mono ?_
                rintro e w4 ⟨rfl, hb4⟩
                rw [hmr]
                have HB4 := Lib.hid hb4
                have hs4 : w3.heap.size ≤ w4.heap.size := hb4.size
                have hq2 := hr2.below hb4 (by omega)
                have hq3 := hr3.below hb4 (by omega)
                clear hb4
                go_wp2
                go_ret
                exact ⟨rfl, HB2.out.trans ((HB3.out.trans (HB4.out.mono hs3)).mono HB2.out.size)⟩
              · have h3 : ¬ (k : Int) < (xs.length : Int) := by omega
                go_wp2_with fail
                refine (implMrkMore_c xs ys _ _ _ _ _ _ _ _ _ _ _ _ _ (hrow2.drewN n) (hrow3.drewN n) (by unfold maxLen; omega) (by unfold maxLen; omega)).mono ?_
                rintro e w3 ⟨rfl, hb3⟩
                replace hb3 : Below w2.heap.size w2 w3 := (below_draws _ _ n).trans hb3
                have HB3 := Lib.hid hb3
                have hs3 : w2.heap.size ≤ w3.heap.size := hb3.size
                have hr2 := hrow2.below hb3 (Nat.le_refl _)
                have hr3 := hrow3.below hb3 (Nat.le_refl _)
                clear hb3
                rw [← HF.out]
                go_wp2_with fail
                refine (implMrkMore_c xs xs _ _ _ _ _ _ _ _ _ _ _ _ _ hr2 hr2 (by unfold maxLen; omega) (by unfold maxLen; omega)).mono ?_
                rintro e w4 ⟨rfl, hb4⟩
                rw [hmr]
                have HB4 := Lib.hid hb4
                have hs4 : w3.heap.size ≤ w4.heap.size := hb4.size
                have hq2 := hr2.below hb4 (by omega)
                have hq3 := hr3.below hb4 (by omega)
                clear hb4
                go_wp2
                go_ret
                exact ⟨rfl, HB2.out.trans ((HB3.out.trans (HB4.out.mono hs3)).mono HB2.out.size)⟩
end Go.Proofs.Yteekhacdffpkoaa
