/- Draws of questions and of their texts, straight and bent. -/
import Derived.Test.YtgleblbgomhmdaaDoorBent
namespace Go.Proofs.YtgleblbgomhmdaaDoor
open Go.RowKit
set_option linter.unusedVariables false
set_option linter.unusedSimpArgs false

theorem ResB.grown {w W W' : World} {R : Nat} (h : ResB w W) (hg : W.grownBy W' (some R)) (hR : w.heap.size < R) : ResB w W' :=
  ⟨h.res.grown hg (by omega), below_grown h.bel hg h.bel.size (by omega)⟩
theorem askT_len (o v k : Int) : (askT ⟨o, v, k⟩).length ≤ 6 := by
  by_cases h : askOk ⟨o, v, k⟩ = true
  · by_cases h0 : o = 0
    · subst h0; rw [askT_always h]; simp
    · obtain ⟨_, _, h3⟩ := askOk_in h h0
      rw [askT_text h h0]
      have := itoa_len h3.1 h3.2
      simp; omega
  · rw [Bool.not_eq_true] at h
    rw [askT_no h]; simp

set_option maxRecDepth 100000 in
set_option maxHeartbeats 4000000 in
theorem drawExpText_c (zs : List Int) (A : Option Addr) (b off c : Nat) (w : World) (hV : Row w 0 w.heap.size A b off (bytesC zs)) (hz : ∀ x ∈ zs, 0 ≤ x ∧ x ≤ 255) (hm : zs.length ≤ maxLen) (hcap : zs.length ≤ c) :
    Calls Tryd.prog 9 #[.slice A zs.length c] w fun e w' => ∃ (o v k : Int), e = .returned (.agg #[.int .i64 o, .int .i64 v, .int .i64 k]) ∧ Below w.heap.size w w' := by
  have hV1 := fun ob => hV.alloc (Nat.le_refl _) ob
  have hR0 := ResB.new w
  go_enter Tryd.func9, Tryd.ntmps9
  go_wp2_with fail
  refine (l20Open_c zs A b off c _ ((hV1 _).more (Nat.le_refl _) (by simp)) hz hm hcap).mono ?_
  rintro e w1 ⟨R, rfl, hR, hrd, hb⟩
  have hR' : w.heap.size + 1 ≤ R := by simpa using hR
  replace hR0 := hR0.below hb
  clear hV1
  go_wp2_with fail
  refine (l20Ask_c R 0 4 w1 hrd (by omega) (by omega) (by omega)).mono ?_
  rintro e w2 ⟨o, v, k, p, rfl, hp, hrd2, hg⟩
  replace hR0 := hR0.grown hg (by omega)
  obtain ⟨⟨x0, x1, x2⟩, ⟨f0, f1, f2⟩⟩ := hR0.cells
  go_wp2_with fail
  obtain ⟨⟨z0, z1, z2⟩, hbl⟩ := hR0.out o v k
  refine bodyPost_ret (v := .agg #[.int .i64 o, .int .i64 v, .int .i64 k]) (by simp [results, Tryd.results9, go_sem, z0, z1, z2]) rfl ⟨o, v, k, rfl, hbl⟩

set_option maxHeartbeats 4000000 in
theorem l20Maybe_c (R p : Nat) (s : ByteArray) (hs : s.size ≤ 1000) (w : World) (hR : RdV w R p) (hp : p ≤ 800000) :
    Calls Tryd.prog 20 #[.pointer (some ⟨R, 0, none⟩), .string s] w fun e w' => ∃ t : ByteArray, e = .returned (.string t) ∧ t.size ≤ 1048576 ∧ w.grownBy w' (some R) := by
  go_enter Tryd.func20, Tryd.ntmps20
  go_wp2_with fail
  refine (pick_c R p 2 _ hR (by omega) (by omega) (by omega)).mono ?_
  rintro e w1 ⟨k, rfl, hk0, hR1, hu1⟩
  by_cases hk : k = 0
  · subst hk
    go_wp2_with fail
    refine (l20Bent_c R (p + 1) s hs _ hR1 (by omega)).mono ?_
    rintro e w2 ⟨t, rfl, ht, hg⟩
    go_wp2_with fail
    go_ret
    exact ⟨t, rfl, ht, grown_tr (grown_upd hu1) hg⟩
  · have hk2 : ((k : Int) == 0) = false := by simp; omega
    go_wp2_with fail
    go_ret
    exact ⟨s, rfl, by omega, grown_upd hu1⟩

set_option maxHeartbeats 4000000 in
theorem drawExpRead_c (zs : List Int) (A : Option Addr) (b off c : Nat) (w : World) (hV : Row w 0 w.heap.size A b off (bytesC zs)) (hz : ∀ x ∈ zs, 0 ≤ x ∧ x ≤ 255) (hm : zs.length ≤ maxLen) (hcap : zs.length ≤ c) :
    Calls Tryd.prog 10 #[.slice A zs.length c] w fun e w' => ∃ t : ByteArray, e = .returned (.string t) ∧ t.size ≤ 1048576 ∧ Below w.heap.size w w' := by
  go_enter Tryd.func10, Tryd.ntmps10
  go_wp2_with fail
  refine (l20Open_c zs A b off c _ hV hz hm hcap).mono ?_
  rintro e w1 ⟨R, rfl, hR, hrd, hb⟩
  go_wp2_with fail
  refine (l20Ask_c R 0 99 w1 hrd (by omega) (by omega) (by omega)).mono ?_
  rintro e w2 ⟨o, v, k, p, rfl, hp, hrd2, hg⟩
  go_wp2_with fail
  refine (specExpText_c o v k _).mono ?_
  rintro e w3 ⟨rfl, hb3⟩
  have hrd3 := hrd2.below hb3
  have hlt := hrd2.lt
  have hl := askT_len o v k
  unfold askV
  go_wp2_with fail
  refine (l20Maybe_c R p ⟨(askT ⟨o, v, k⟩).toArray⟩ (by show (askT ⟨o, v, k⟩).length ≤ _; omega) _ hrd3 (by omega)).mono ?_
  rintro e w4 ⟨t, rfl, ht, hg4⟩
  go_wp2_with fail
  go_ret
  refine ⟨t, rfl, ht, ?_⟩
  have h1 := below_grown hb hg hb.size hR
  have h2 := Below.trans h1 (hb3.mono h1.size)
  exact below_grown h2 hg4 h2.size hR
end Go.Proofs.YtgleblbgomhmdaaDoor
