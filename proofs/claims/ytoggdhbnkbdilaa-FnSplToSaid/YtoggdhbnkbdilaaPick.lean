/- The tasks of a net for which something holds: the program's pick, and the plain list it makes. -/
import Derived.Test.YtoggdhbnkbdilaaNetFlows
import Derived.Test.YtoggdhbnkbdilaaAppend
import Derived.Laws.AppendOwnNone
namespace Go.Proofs.Ytoggdhbnkbdilaa
open Go.RowKit
set_option linter.unusedVariables false
set_option linter.unusedSimpArgs false

/-- The numbers below k at which p holds. -/
def atsN (p : Nat → Bool) : Nat → List Int
  | 0 => []
  | k + 1 => atsN p k ++ (if p k then [(k : Int)] else [])
theorem atsN_yes {p : Nat → Bool} {k : Nat} (h : p k = true) : atsN p (k + 1) = atsN p k ++ [(k : Int)] := by rw [atsN, if_pos h]
theorem atsN_no {p : Nat → Bool} {k : Nat} (h : p k = false) : atsN p (k + 1) = atsN p k := by rw [atsN, h]; simp
theorem atsN_len (p : Nat → Bool) : ∀ k, (atsN p k).length ≤ k
  | 0 => Nat.le_refl _
  | k + 1 => by
    have := atsN_len p k
    rw [atsN, List.length_append]
    split <;> simp <;> omega
theorem atsN_congr {p q : Nat → Bool} : ∀ (k : Nat), (∀ j, j < k → p j = q j) → atsN p k = atsN q k
  | 0, _ => rfl
  | k + 1, h => by rw [atsN, atsN, atsN_congr k (fun j hj => h j (by omega)), h k (by omega)]
def taskAt (p : NTask → Bool) (n : NNet) (k : Nat) : Bool := match n.tasks[k]? with | some t => p t | none => false
theorem taskAt_of {p : NTask → Bool} {n : NNet} {k : Nat} {t : NTask} (h : n.tasks[k]? = some t) : taskAt p n k = p t := by simp [taskAt, h]
/-- The tasks of a net that is ok for which p holds. -/
def pickN (p : NTask → Bool) (n : NNet) : List Int := if netOk n then atsN (taskAt p n) n.tasks.length else []
theorem pickN_ok {p : NTask → Bool} {n : NNet} (h : netOk n = true) : pickN p n = atsN (taskAt p n) n.tasks.length := by rw [pickN, if_pos h]
theorem pickN_no {p : NTask → Bool} {n : NNet} (h : netOk n = false) : pickN p n = [] := by rw [pickN, h]; rfl
theorem pickN_len (p : NTask → Bool) (n : NNet) : (pickN p n).length ≤ 1048576 := by
  by_cases h : netOk n = true
  · have := atsN_len (taskAt p n) n.tasks.length
    have := netOk_parts h
    rw [pickN_ok h]; omega
  · rw [pickN_no (by simpa using h)]; simp

/-- One new cell, as an appended element. -/
theorem one_new (w : World) (u : Value) (T : TypeId) : ∀ (j : Nat) (v : Value), [u][j]? = some v → (w.alloc (.cells #[u] T)).cell? ((⟨w.heap.size, 0, none⟩ : Addr).add j) = some v := by
  intro j v hj
  match j, hj with
  | 0, hj => simp at hj; subst hj; rw [addr_add0, World.cell?_alloc_at _ _ _ _ rfl]; rfl
theorem Made.nil_ (w : World) (base : Nat) (e : TypeId) : Made w base e [] (.slice none 0 0) := World.ownsRow_nil _ _ _ _
theorem Made.alloc {w : World} {base : Nat} {e : TypeId} {zs : List Int} {v : Value} (h : Made w base e zs v) (o : Obj) : Made (w.alloc o) base e zs v :=
  h.below ((Below.refl w.heap.size w).alloc (Nat.le_refl _) o) (Nat.le_refl _)
theorem Made.drewN {w : World} {base : Nat} {e : TypeId} {zs : List Int} {v : Value} (h : Made w base e zs v) (n : Nat) : Made (w.drewN n) base e zs v :=
  h.below (below_draws w.heap.size w n) (Nat.le_refl _)
theorem Made.own {w : World} {base : Nat} {e : TypeId} {zs : List Int} {v : Value} (h : Made w base e zs v) {k : Nat} (hk : v.ownBlock = some k) : base ≤ k := (World.ownsRow.lt h k hk).1
theorem Made.base {w : World} {base base' : Nat} {e : TypeId} {zs : List Int} {v : Value} (h : Made w base e zs v) (hb : base' ≤ base) : Made w base' e zs v := by
  unfold Made World.ownsRow at h ⊢
  refine ⟨h.1, ?_⟩
  rcases h.2 with h2 | ⟨g, cap, cur, h3, h4, h5⟩
  · exact .inl h2
  · exact .inr ⟨g, cap, cur, h3, Nat.le_trans hb h4, h5⟩

set_option maxRecDepth 10000 in
set_option maxHeartbeats 1000000 in
theorem implPick_c (n : NNet) (v : Value) (lo hi : Nat) (g : FuncId) (lb : Array Value) (p : NTask → Bool) (w : World) (hN : NetV w lo hi v n) (hhi : hi ≤ w.heap.size) (hlen : ∀ t ∈ n.tasks, t.out.length ≤ 1048576) (hp : PredTask Try.prog g lb n.tasks p lo hi w) (eg : EntersF Try.prog g) :
    Calls Try.prog 53 #[v, .func (.func g) #[] lb] w fun e w' => ∃ v', e = .returned v' ∧ Made w' w.heap.size 3 (pickN p n) v' ∧ Below w.heap.size w w' := by
  obtain ⟨i0, hi0, hz0, hz1, hz2⟩ := info_parts Try.info3
  have eg' : ∀ (args : Array Value) (w : World), Sem.run Try.prog (callFunc g args) w = .ok (.enter g args) w := eg
  have hN' := hN
  obtain ⟨A, b, off, c, ms, rfl, hm, hT⟩ := hN
  have HC := Lib.hid (implNetOk_c n _ lo hi (w.alloc (.cells #[.int .i64 n.places, .slice A n.tasks.length c] 25)) (hN'.keep fun g _ h => Below.heap_alloc w _ g (by omega)) (by simp; omega) hlen)
  have HR := Lib.hid (Row.newAt w #[.int .i64 n.places, .slice A n.tasks.length c] 25 _ rfl)
  have HP := Lib.hid hp
  clear hN' hlen hp eg
  go_enter Try.func53, Try.ntmps53
  go_wp2_with fail
  refine HC.out.mono ?_
  rintro e w1 ⟨rfl, hb1⟩
  have hR1 := HR.out.below hb1 (by simp)
  have hB1 := ((Below.refl w.heap.size w).alloc (Nat.le_refl _) (.cells #[.int .i64 n.places, .slice A n.tasks.length c] 25)).trans (hb1.mono (by simp))
  have s0 := (hR1.cell (j := 0) rfl).1
  have s1 := (hR1.cell (j := 1) rfl).1
  have hz1' : w.heap.size ≤ w1.heap.size := hB1.size
  have HB1 := Lib.hid hB1
  clear hb1 hR1 hB1
  by_cases h1 : netOk n = true
  · have H1 := Lib.hid h1
    have hp := netOk_parts h1
    rw [h1]
    clear h1
    go_wp2
    go_loopw [5, 14] (fun v i wr => ∃ k : Nat, k ≤ n.tasks.length ∧ i = .int .i64 k ∧ Made wr w1.heap.size 3 (atsN (taskAt p n) k) v ∧ Below w1.heap.size w1 wr) (fun _ i _ => n.tasks.length - (intOf i).toNat)
    case atStart => exact ⟨0, Nat.zero_le _, rfl, Made.nil_ _ _ _, Below.refl _ _⟩
    case round =>
      obtain ⟨k, hk, rfl, hM, hb⟩ := hrel
      have hzr : w1.heap.size ≤ wr.heap.size := hb.size
      have hlen := atsN_len (taskAt p n) k
      have HM := Lib.hid hM
      have HB := Lib.hid hb
      clear s0 s1 hM
      by_cases hlt : k < n.tasks.length
      · obtain ⟨rfl, _, h3, t, vi, vo, vc, hx, _, hTV, ⟨c0, c1, c2, c3, c4, c5, c6, c7, c8⟩, _⟩ := hT.task hlt
        have hb0 := HB1.out.trans (hb.mono hz1')
        obtain ⟨A1, q1, A2, q2, A3, q3, rfl, rfl, rfl⟩ := hTV.forms
        replace c0 := (hb0.cell (p := ⟨b, off + k * 9, none⟩) (by show b < _; omega)).trans c0
        replace c1 := (hb0.cell (p := ⟨b, off + k * 9 + 1, none⟩) (by show b < _; omega)).trans c1
        replace c2 := (hb0.cell (p := ⟨b, off + k * 9 + 2, none⟩) (by show b < _; omega)).trans c2
        replace c3 := (hb0.cell (p := ⟨b, off + k * 9 + 3, none⟩) (by show b < _; omega)).trans c3
        replace c4 := (hb0.cell (p := ⟨b, off + k * 9 + 4, none⟩) (by show b < _; omega)).trans c4
        replace c5 := (hb0.cell (p := ⟨b, off + k * 9 + 5, none⟩) (by show b < _; omega)).trans c5
        replace c6 := (hb0.cell (p := ⟨b, off + k * 9 + 6, none⟩) (by show b < _; omega)).trans c6
        replace c7 := (hb0.cell (p := ⟨b, off + k * 9 + 7, none⟩) (by show b < _; omega)).trans c7
        replace c8 := (hb0.cell (p := ⟨b, off + k * 9 + 8, none⟩) (by show b < _; omega)).trans c8
        have HP2 := Lib.hid (HP.out t _ _ _ (wr.alloc (.cells #[.int .i64 t.join, .int .i64 t.split, .slice A1 t.ins.length q1, .slice A2 t.out.length q2, .slice A3 t.clear.length q3, .int .i64 t.role, .int .i64 t.apart, .int .i64 t.all, .int .i64 t.need] 38)) (List.mem_of_getElem? hx) (hb0.alloc (by omega) _) ((hTV.keep fun g _ h => hb0.block g (by omega)).keep fun g _ h => Below.heap_alloc wr _ g (by omega)))
        have HX := Lib.hid hx
        clear hx hb hb0 hTV
        go_wp2_with fail
        refine HP2.out.mono ?_
        rintro e w2 ⟨rfl, hb2⟩
        have hzw2 : wr.heap.size + 1 ≤ w2.heap.size := by simpa using hb2.size
        have HB2 := Lib.hid (HB.out.trans (((Below.refl wr.heap.size wr).alloc (Nat.le_refl _) (.cells #[.int .i64 t.join, .int .i64 t.split, .slice A1 t.ins.length q1, .slice A2 t.out.length q2, .slice A3 t.clear.length q3, .int .i64 t.role, .int .i64 t.apart, .int .i64 t.all, .int .i64 t.need] 38)).trans (hb2.mono (by simp)) |>.mono hzr))
        have HM2 := Lib.hid (((HM.out.alloc _).below hb2 (by simp) : Made w2 w1.heap.size 3 (atsN (taskAt p n) k) _))
        clear hb2 c0 c1 c2 c3 c4 c5 c6 c7 c8
        by_cases hpt : p t = true
        · have HPT := Lib.hid (atsN_yes (k := k) (p := taskAt p n) (by rw [taskAt_of HX.out]; exact hpt))
          rw [hpt]
          clear hpt
          go_wp2_with (at_builtin; refine wpList_append_own _ rfl _ _ 26 rfl w1.heap.size 3 i0 _ 1 8 Try.underlying26 hi0 hz0 hz1 hz2 rfl (by omega) _ (atsN (taskAt p n) k).length (ints (atsN (taskAt p n) k)) rfl (HM2.out.alloc _) ⟨w2.heap.size, 0, none⟩ 1 1 [.int .i64 k] rfl rfl (one_new _ _ _) (by intro u hu; simp at hu; subst hu; rfl) (by unfold maxLen; omega) (by omega) (by simp; omega) ?_; intro v' w3 hown3 hg3 _)
          have HB3 := Lib.hid ((HB2.out.alloc (by omega) _).grown hg3 (by simp; omega) (fun k hk => Made.own HM2.out hk))
          have HO3 := Lib.hid hown3
          clear hown3 hg3
          go_wp2
          go_roundw
          case rel => exact ⟨k + 1, by omega, by go_num, by have := HO3.out; rw [HPT.out]; simpa [Made, ints] using this, HB3.out⟩
          case measure => simp [intOf]; omega
        · have hpt' : p t = false := by simpa using hpt
          have HPT := Lib.hid (atsN_no (k := k) (p := taskAt p n) (by rw [taskAt_of HX.out]; exact hpt'))
          rw [hpt']
          clear hpt hpt'
          go_wp2
          go_roundw
          case rel => exact ⟨k + 1, by omega, by go_num, by rw [HPT.out]; exact HM2.out, HB2.out⟩
          case measure => simp [intOf]; omega
      · have hkn : k = n.tasks.length := by omega
        have HK := Lib.hid hkn
        clear hb hkn
        go_wp2
        go_ret
        exact ⟨_, rfl, by rw [pickN_ok H1.out, ← HK.out]; exact HM.out.base hz1', HB1.out.trans (HB.out.mono hz1')⟩
  · have h1' : netOk n = false := by simpa using h1
    have H1 := Lib.hid h1'
    rw [h1']
    clear h1 h1'
    go_wp2
    go_ret
    exact ⟨_, rfl, by rw [pickN_no H1.out]; exact Made.nil_ _ _ _, HB1.out⟩
end Go.Proofs.Ytoggdhbnkbdilaa
