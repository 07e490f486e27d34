/- Marks behind a task's end, in plain Lean. -/
import Derived.Test.YtkcbghaadjhceaaTakeL
import Derived.Test.YtkcbghaadjhceaaSplP
import Derived.Test.YtkcbghaadjhceaaEnaTake
import Derived.Test.YtkcbghaadjhceaaSpl
import Derived.StillTailTactics
import Derived.Deep.DeepCutAuto
namespace Go.Proofs.Ytkcbghaadjhceaa
open Go.RowKit
set_option linter.unusedVariables false
set_option linter.unusedSimpArgs false

def clearL (cl zs : List Int) : List Int := cl.foldl (fun s p => s.set p.toNat 0) zs
def addL (ps zs : List Int) : List Int := ps.foldl (fun s p => s.set p.toNat (s.getD p.toNat 0 + 1)) zs
theorem clearL_length : ∀ (cl zs : List Int), (clearL cl zs).length = zs.length
  | [], _ => rfl
  | x :: r, zs => by show (clearL r (zs.set x.toNat 0)).length = _; rw [clearL_length r]; simp
theorem addL_length : ∀ (ps zs : List Int), (addL ps zs).length = zs.length
  | [], _ => rfl
  | x :: r, zs => by show (addL r (zs.set x.toNat _)).length = _; rw [addL_length r]; simp
theorem clearL_snoc {l : List Int} {k : Nat} {x : Int} (s : List Int) (h : l[k]? = some x) : clearL (l.take (k + 1)) s = (clearL (l.take k) s).set x.toNat 0 := by
  rw [take_succ_of h, clearL, List.foldl_append]; rfl
theorem addL_snoc {l : List Int} {k : Nat} {x : Int} (s : List Int) (h : l[k]? = some x) : addL (l.take (k + 1)) s = (addL (l.take k) s).set x.toNat ((addL (l.take k) s).getD x.toNat 0 + 1) := by
  rw [take_succ_of h, addL, List.foldl_append]; rfl
theorem addL_split (l : List Int) (s : List Int) (k : Nat) : addL l s = addL (l.drop k) (addL (l.take k) s) := by
  conv => lhs; rw [← List.take_append_drop k l, addL, List.foldl_append]
  rfl
theorem clearL_at : ∀ (cl zs : List Int), (∀ x ∈ cl, 0 ≤ x) → ∀ p : Nat, (clearL cl zs).getD p 0 = if (p : Int) ∈ cl then 0 else zs.getD p 0
  | [], zs, _, p => by simp [clearL]
  | x :: r, zs, h, p => by
    have hx := h x (List.mem_cons_self ..)
    show (clearL r (zs.set x.toNat 0)).getD p 0 = _
    rw [clearL_at r _ (fun y hy => h y (List.mem_cons_of_mem _ hy)) p, getD_setI]
    by_cases e : (p : Int) = x
    · rw [if_pos (show (p : Int) ∈ x :: r by rw [e]; exact List.mem_cons_self ..)]
      split
      · rfl
      · by_cases hl : x.toNat < zs.length
        · rw [if_pos ⟨by omega, hl⟩]
        · rw [if_neg (fun h => hl h.2), List.getD_eq_getElem?_getD, List.getElem?_eq_none (by omega)]; rfl
    · rw [if_neg (fun h : x.toNat = p ∧ x.toNat < zs.length => e (by omega))]
      simp only [List.mem_cons, e, false_or]
theorem addL_at : ∀ (ps zs : List Int), (∀ x ∈ ps, 0 ≤ x ∧ x.toNat < zs.length) → ps.Nodup → ∀ p : Nat, (addL ps zs).getD p 0 = zs.getD p 0 + if (p : Int) ∈ ps then 1 else 0
  | [], zs, _, _, p => by simp [addL]
  | x :: r, zs, h, hn, p => by
    have hx := h x (List.mem_cons_self ..)
    have hxr := (List.nodup_cons.1 hn).1
    show (addL r (zs.set x.toNat (zs.getD x.toNat 0 + 1))).getD p 0 = _
    rw [addL_at r _ (fun y hy => by rw [List.length_set]; exact h y (List.mem_cons_of_mem _ hy)) (List.nodup_cons.1 hn).2 p, getD_setI]
    by_cases e : (p : Int) = x
    · rw [if_pos (show (p : Int) ∈ x :: r by rw [e]; exact List.mem_cons_self ..), if_pos ⟨by omega, hx.2⟩, if_neg (by rw [e]; exact hxr), show x.toNat = p by omega]
      omega
    · rw [if_neg (fun h : x.toNat = p ∧ x.toNat < zs.length => e (by omega))]
      simp only [List.mem_cons, e, false_or]
theorem addL_up : ∀ (ps zs : List Int) (p : Nat), zs.getD p 0 ≤ (addL ps zs).getD p 0
  | [], _, _ => Int.le_refl _
  | x :: r, zs, p => by
    refine Int.le_trans ?_ (addL_up r (zs.set x.toNat (zs.getD x.toNat 0 + 1)) p)
    rw [getD_setI]
    split
    · rename_i h; rw [← h.1]; omega
    · exact Int.le_refl _
theorem few_clear {zs : List Int} (h : Few zs) (k : Nat) : Few (zs.set k 0) := by
  intro y hy
  rcases List.mem_or_eq_of_mem_set hy with h1 | h1
  · exact h y h1
  · omega
theorem few_clearL : ∀ (cl zs : List Int), Few zs → Few (clearL cl zs)
  | [], _, h => h
  | x :: r, zs, h => few_clearL r _ (few_clear h _)
theorem few_more {zs : List Int} (h : Few zs) {k : Nat} (h4 : zs.getD k 0 ≠ 4) : Few (zs.set k (zs.getD k 0 + 1)) := by
  intro y hy
  rcases List.mem_or_eq_of_mem_set hy with h1 | h1
  · exact h y h1
  · have := few_getD h k; omega
theorem marks_few {places : Int} {zs : List Int} (hl : (zs.length : Int) = places) (h : Few zs) : marksB places zs = true := by
  rw [marksB, Bool.and_eq_true, decide_eq_true_eq, List.all_eq_true]
  exact ⟨hl, fun y hy => inB_iff.2 (h y hy)⟩
theorem marks_parts {places : Int} {zs : List Int} (h : marksB places zs = true) : (zs.length : Int) = places ∧ Few zs := by
  rw [marksB, Bool.and_eq_true, decide_eq_true_eq, List.all_eq_true] at h
  exact ⟨h.1, fun y hy => inB_iff.1 (h.2 y hy)⟩
/-- One more where there are four is too many. -/
theorem marks_over {places : Int} {ps s : List Int} {k : Nat} {x : Int} (h : ps[k]? = some x) (h4 : (addL (ps.take k) s).getD x.toNat 0 = 4) (hx : x.toNat < s.length) : marksB places (addL ps s) = false := by
  refine Bool.eq_false_iff.2 fun hm => ?_
  have h1 := few_getD (marks_parts hm).2 x.toNat
  rw [addL_split ps s (k + 1), addL_snoc s h] at h1
  have h2 := addL_up (ps.drop (k + 1)) ((addL (ps.take k) s).set x.toNat ((addL (ps.take k) s).getD x.toNat 0 + 1)) x.toNat
  rw [getD_setI, if_pos ⟨rfl, by rw [addL_length]; exact hx⟩, h4] at h2
  rw [h4] at h1
  omega
/-- Marks behind a task's end: before it is looked whether they are too many. -/
def gaveL (n : NNet) (zs : List Int) (t : Int) (ds : List Int) : List Int := addL (splL (taskOf n t) ds) (clearL (taskOf n t).clear zs)
def firAsk (n : NNet) (zs : List Int) (t : Int) (ds : List Int) : Bool := mrkOk n zs && (inB t 0 ((n.tasks.length : Int) - 1) && datOk ds)
def firB (n : NNet) (zs : List Int) (t : Int) (ds : List Int) : Bool := firAsk n zs t ds && marksB n.places (gaveL n zs t ds)
def firL (n : NNet) (zs : List Int) (t : Int) (ds : List Int) : List Int := if firB n zs t ds then gaveL n zs t ds else []
theorem firB_no {n : NNet} {zs : List Int} {t : Int} {ds : List Int} (h : firAsk n zs t ds = false) : firB n zs t ds = false := by rw [firB, h]; rfl
theorem firL_no {n : NNet} {zs : List Int} {t : Int} {ds : List Int} (h : firB n zs t ds = false) : firL n zs t ds = [] := by rw [firL, h]; rfl
theorem firL_yes {n : NNet} {zs : List Int} {t : Int} {ds : List Int} (h : firB n zs t ds = true) : firL n zs t ds = gaveL n zs t ds := by rw [firL, if_pos h]
theorem ask_no1 {n : NNet} {zs : List Int} {t : Int} {ds : List Int} (h : mrkOk n zs = false) : firAsk n zs t ds = false := by rw [firAsk, h]; rfl
theorem ask_no2 {n : NNet} {zs : List Int} {t : Int} {ds : List Int} (h : inB t 0 ((n.tasks.length : Int) - 1) = false) : firAsk n zs t ds = false := by rw [firAsk, h]; simp
theorem ask_no3 {n : NNet} {zs : List Int} {t : Int} {ds : List Int} (h : datOk ds = false) : firAsk n zs t ds = false := by rw [firAsk, h]; simp
theorem ask_yes {n : NNet} {zs : List Int} {t : Int} {ds : List Int} (h1 : mrkOk n zs = true) (h2 : inB t 0 ((n.tasks.length : Int) - 1) = true) (h3 : datOk ds = true) : firAsk n zs t ds = true := by rw [firAsk, h1, h2, h3]; rfl
theorem gaveL_length (n : NNet) (zs : List Int) (t : Int) (ds : List Int) : (gaveL n zs t ds).length = zs.length := by rw [gaveL, addL_length, clearL_length]
theorem firL_len (n : NNet) (zs : List Int) (t : Int) (ds : List Int) : (firL n zs t ds).length ≤ 1048576 := by
  unfold firL
  split
  · next h =>
    rw [firB, firAsk, Bool.and_eq_true, Bool.and_eq_true] at h
    have hp := mrkOk_parts h.1.1
    have hq := netOk_parts hp.1
    rw [gaveL_length]; omega
  · simp
/-- Where a task may lead ps: its flows' places, no two alike. -/
theorem splN_mem {t : NTask} {ds : List Int} {x : Int} : ∀ k, x ∈ splN t ds k → ∃ j f, j < k ∧ t.out[j]? = some f ∧ f.to = x
  | 0, h => by cases h
  | k + 1, h => by
    unfold splN at h
    split at h
    · next f hf =>
      split at h
      · rcases List.mem_append.1 h with h | h
        · obtain ⟨j, f', h1, h2⟩ := splN_mem k h
          exact ⟨j, f', by omega, h2⟩
        · simp at h; exact ⟨k, f, by omega, hf, h.symm⟩
      · obtain ⟨j, f', h1, h2⟩ := splN_mem k h
        exact ⟨j, f', by omega, h2⟩
    · obtain ⟨j, f', h1, h2⟩ := splN_mem k h
      exact ⟨j, f', by omega, h2⟩
theorem splN_nodup {t : NTask} {ds : List Int} (hd : ∀ (i j : Nat) (f g : NFlow), i < j → t.out[i]? = some f → t.out[j]? = some g → f.to ≠ g.to) : ∀ k, (splN t ds k).Nodup
  | 0 => List.nodup_nil
  | k + 1 => by
    have ih := splN_nodup hd (ds := ds) k
    unfold splN
    split
    · next f hf =>
      split
      · refine List.nodup_append.2 ⟨ih, by simp, fun a ha b hb e => ?_⟩
        simp at hb
        obtain ⟨j, f', h1, h2, h3⟩ := splN_mem k ha
        exact hd j k f' f h1 h2 hf (by rw [h3, e, hb])
      · exact ih
    · exact ih
theorem out_apart {n : NNet} (h : netOk n = true) {t : NTask} (ht : t ∈ n.tasks) : ∀ (i j : Nat) (f g : NFlow), i < j → t.out[i]? = some f → t.out[j]? = some g → f.to ≠ g.to := by
  obtain ⟨_, _, _, _, h5, _⟩ := taskOk_parts ((netOk_parts h).2.2.2.2 t ht)
  rw [outB, Bool.and_eq_true] at h5
  intro i j f g hij hf hg e
  have h6 := of_all_range h5.2 (lt_of_some hg)
  unfold flowOk at h6
  simp only [Bool.and_eq_true, getD_of (d := (default : NFlow)) hg] at h6
  have h7 := of_decide_eq_true (of_all_range h6.2.2.2 hij)
  rw [getD_of (d := (default : NFlow)) hf] at h7
  exact h7 e
theorem spl_ok {n : NNet} (h : netOk n = true) {t : NTask} (ht : t ∈ n.tasks) (ds : List Int) : (splL t ds).Nodup ∧ ∀ x ∈ splL t ds, 0 ≤ x ∧ x < n.places :=
  ⟨splN_nodup (out_apart h ht) _, fun x hx => by
    obtain ⟨j, f, _, hf, rfl⟩ := splN_mem _ hx
    have := out_bound h ht (List.mem_of_getElem? hf)
    omega⟩
theorem clear_bound {n : NNet} (h : netOk n = true) {t : NTask} (ht : t ∈ n.tasks) {x : Int} (hx : x ∈ t.clear) : 0 ≤ x ∧ x < n.places := by
  obtain ⟨_, _, _, _, _, h6, _⟩ := taskOk_parts ((netOk_parts h).2.2.2.2 t ht)
  rw [risesB, Bool.and_eq_true] at h6
  obtain ⟨j, hj⟩ := List.getElem?_of_mem hx
  have := of_all_range h6.2 (lt_of_some hj)
  rw [stepOk, Bool.and_eq_true, getD_of hj, inB_iff] at this
  omega
def giveAt (zs cl ps : List Int) (p : Nat) : Int := (if (p : Int) ∈ cl then 0 else zs.getD p 0) + (if (p : Int) ∈ ps then 1 else 0)
theorem gave_at {n : NNet} {zs : List Int} (hok : mrkOk n zs = true) {tn : Nat} {t : NTask} (ht : n.tasks[tn]? = some t) (ds : List Int) (p : Nat) : (gaveL n zs (tn : Int) ds).getD p 0 = giveAt zs t.clear (splL t ds) p := by
  obtain ⟨h1, h2, h3⟩ := mrkOk_parts hok
  have hm := List.mem_of_getElem? ht
  have hs := spl_ok h1 hm ds
  rw [gaveL, taskOf_at ht, addL_at _ _ (fun x hx => by rw [clearL_length]; have := hs.2 x hx; omega) hs.1, clearL_at _ _ (fun x hx => (clear_bound h1 hm hx).1), giveAt]
def fitN (zs cl ps : List Int) (k : Nat) : Bool := (List.range k).all fun j => decide (giveAt zs cl ps j ≤ 4)
theorem fitN_succ (zs cl ps : List Int) (k : Nat) : fitN zs cl ps (k + 1) = (fitN zs cl ps k && decide (giveAt zs cl ps k ≤ 4)) := by
  unfold fitN; rw [List.range_succ, List.all_append]; simp
theorem giveAt_pos {zs : List Int} (h : Few zs) (cl ps : List Int) (p : Nat) : 0 ≤ giveAt zs cl ps p ∧ giveAt zs cl ps p ≤ 5 := by
  have := few_getD h p
  unfold giveAt; split <;> split <;> omega
theorem fit_fir {n : NNet} {zs : List Int} {tn : Nat} {t : NTask} {ds : List Int} (ha : firAsk n zs (tn : Int) ds = true) (hok : mrkOk n zs = true) (ht : n.tasks[tn]? = some t) : firB n zs (tn : Int) ds = fitN zs t.clear (splL t ds) n.places.toNat := by
  have hp := mrkOk_parts hok
  rw [firB, ha, Bool.true_and]
  refine Bool.eq_iff_iff.2 ⟨fun h => all_range fun j hj => decide_eq_true ?_, fun h => marks_few (by rw [gaveL_length]; exact hp.2.1) fun y hy => ?_⟩
  · rw [← gave_at hok ht ds j]; exact (few_getD (marks_parts h).2 j).2
  · obtain ⟨j, hj⟩ := List.getElem?_of_mem hy
    have hl := lt_of_some hj
    rw [gaveL_length] at hl
    have h1 := of_decide_eq_true (of_all_range h (show j < n.places.toNat by omega))
    have h2 := giveAt_pos hp.2.2 t.clear (splL t ds) j
    rw [← gave_at hok ht ds j, getD_of hj] at h1 h2
    exact ⟨h2.1, h1⟩
end Go.Proofs.Ytkcbghaadjhceaa

/- FirGive: the program and the reference. -/
namespace Go.Proofs.Ytkcbghaadjhceaa
open Go.RowKit
set_option linter.unusedVariables false
set_option linter.unusedSimpArgs false

def Up5 (m : Nat) (zs : List Int) : Prop := ∀ j : Nat, 0 ≤ zs.getD j 0 ∧ zs.getD j 0 ≤ 4 + (m : Int)
theorem up5_few {zs : List Int} (h : Few zs) : Up5 0 zs := fun j => by have := few_getD h j; omega
theorem up5_more {m : Nat} {zs : List Int} (h : Up5 m zs) (k : Nat) : Up5 (m + 1) (zs.set k (zs.getD k 0 + 1)) := fun j => by
  have h1 := h j; have h2 := h k
  rw [getD_setI]; split <;> omega
/-- What the calls of FirGive say. -/
def FirOut (w : World) (n : NNet) (zs : List Int) (t : Int) (ds : List Int) (e : Ending) (w' : World) : Prop := ∃ v', e = .returned (.tuple #[v', .bool (firB n zs t ds)]) ∧ Made w' w.heap.size 3 (firL n zs t ds) v' ∧ Below w.heap.size w w'
theorem FirOut.no {w w' : World} {n : NNet} {zs : List Int} {t : Int} {ds : List Int} {v' : Value} (h : firB n zs t ds = false) (hm : Made w' w.heap.size 3 [] v') (hb : Below w.heap.size w w') : FirOut w n zs t ds (.returned (.tuple #[v', .bool false])) w' :=
  ⟨v', by rw [h], by rw [firL_no h]; exact hm, hb⟩
theorem FirOut.yes {w w' : World} {n : NNet} {zs : List Int} {t : Int} {ds : List Int} {v' : Value} (h : firB n zs t ds = true) (hm : Made w' w.heap.size 3 (gaveL n zs t ds) v') (hb : Below w.heap.size w w') : FirOut w n zs t ds (.returned (.tuple #[v', .bool true])) w' :=
  ⟨v', by rw [h], by rw [firL_yes h]; exact hm, hb⟩
end Go.Proofs.Ytkcbghaadjhceaa
