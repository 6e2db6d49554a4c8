/- Events in order: the document's. Helper. -/
import Derived.Test.YtefgpnalahijgaaOrdSorted
namespace Go.Proofs.Ytefgpnalahijgaa
open Go.RowKit
set_option linter.unusedVariables false
set_option linter.unusedSimpArgs false
/-- Events as cells. -/
def cs (l : List Ev) : List Value := l.flatMap Ev.c
theorem cs_append (a b : List Ev) : cs (a ++ b) = cs a ++ cs b := by simp [cs]
theorem cs_one (e : Ev) : cs [e] = e.c := by simp [cs]
theorem cs_length : ∀ l : List Ev, (cs l).length = l.length * 6
  | [] => rfl
  | e :: l => by
    have := cs_length l
    unfold cs at *
    rw [List.flatMap_cons, List.length_append, this, List.length_cons]
    show 6 + _ = _
    omega
theorem cs_oneCell (l : List Ev) : ∀ u ∈ cs l, u.oneCell' = true := by
  intro u hu
  obtain ⟨e, _, he⟩ := List.mem_flatMap.1 hu
  simp [Ev.c] at he
  rcases he with rfl | rfl | rfl | rfl | rfl | rfl <;> rfl
theorem cs_get : ∀ (l : List Ev) (h : Nat) (hh : h < l.length) (i : Nat), i < 6 → (cs l)[h * 6 + i]? = (l[h].c)[i]?
  | e :: l, 0, _, i, hi => by
    unfold cs
    rw [List.flatMap_cons, Nat.zero_mul, Nat.zero_add, List.getElem?_append_left (by show i < 6; exact hi)]; rfl
  | e :: l, h + 1, hh, i, hi => by
    have hh' : h < l.length := by simpa using hh
    have := cs_get l h hh' i hi
    unfold cs at *
    rw [List.flatMap_cons, List.getElem?_append_right (by show 6 ≤ _; omega), show (h + 1) * 6 + i - e.c.length = h * 6 + i by show (h + 1) * 6 + i - 6 = _; omega, this]; rfl
/-- An event's cells among others. -/
theorem ev_at {w : World} {A : Option Addr} {ws : List Ev} (hr : Rd w A (cs ws)) {h : Nat} (hh : h < ws.length) :
    ∃ b o, A = some ⟨b, o, none⟩ ∧ w.cell? ⟨b, o + h * 6, none⟩ = some (.int .i64 ws[h].k.T) ∧ w.cell? ⟨b, o + h * 6 + 1, none⟩ = some (.int .i64 ws[h].k.O) ∧ w.cell? ⟨b, o + h * 6 + 2, none⟩ = some (.int .i64 ws[h].k.S) ∧
      w.cell? ⟨b, o + h * 6 + 3, none⟩ = some (.int .i64 ws[h].p) ∧ w.cell? ⟨b, o + h * 6 + 4, none⟩ = some (.int .i64 ws[h].q) ∧ w.cell? ⟨b, o + h * 6 + 5, none⟩ = some (.int .i64 ws[h].d) := by
  have hl := cs_length ws
  obtain ⟨b, o, e, _, hc⟩ := hr.get (k := h * 6) (by rw [hl]; omega)
  have c : ∀ i v, i < 6 → (ws[h].c)[i]? = some v → w.cell? ⟨b, o + h * 6 + i, none⟩ = some v := fun i v hi hv => by
    rw [Nat.add_assoc]
    exact hc (h * 6 + i) _ (by rw [cs_get ws h hh i hi, hv])
  exact ⟨b, o, e, c 0 _ (by omega) rfl, c 1 _ (by omega) rfl, c 2 _ (by omega) rfl, c 3 _ (by omega) rfl, c 4 _ (by omega) rfl, c 5 _ (by omega) rfl⟩
/-- An event put in where it belongs. -/
def insO (e : Ev) : List Ev → List Ev
  | [] => [e]
  | x :: t => if e.k.less x.k = true then e :: x :: t else x :: insO e t
def putS (e : Ev) (p : List Ev × Bool) (x : Ev) : List Ev × Bool := if (!p.2 && e.k.less x.k) = true then (p.1 ++ [e, x], true) else (p.1 ++ [x], p.2)
def putE (e : Ev) (p : List Ev × Bool) : List Ev := if p.2 = true then p.1 else p.1 ++ [e]
theorem putS_true (e : Ev) : ∀ (l acc : List Ev), l.foldl (putS e) (acc, true) = (acc ++ l, true)
  | [], acc => by simp
  | x :: t, acc => by
    rw [List.foldl_cons, show putS e (acc, true) x = (acc ++ [x], true) from rfl, putS_true e t]
    simp
theorem putE_is (e : Ev) : ∀ (l acc : List Ev), putE e (l.foldl (putS e) (acc, false)) = acc ++ insO e l
  | [], acc => rfl
  | x :: t, acc => by
    rw [List.foldl_cons]
    by_cases h : e.k.less x.k = true
    · rw [show putS e (acc, false) x = (acc ++ [e, x], true) by unfold putS; simp [h], putS_true]
      unfold putE insO
      simp [h]
    · rw [show putS e (acc, false) x = (acc ++ [x], false) by unfold putS; simp [h], putE_is e t]
      simp [insO, h]
theorem insO_length (e : Ev) : ∀ l : List Ev, (insO e l).length = l.length + 1
  | [] => rfl
  | x :: t => by
    unfold insO
    split
    · simp
    · simp [insO_length e t]
theorem insO_mem {e x : Ev} : ∀ {l : List Ev}, x ∈ insO e l → x = e ∨ x ∈ l
  | [], h => by simp [insO] at h; exact .inl h
  | y :: t, h => by
    unfold insO at h
    split at h
    · rcases List.mem_cons.1 h with h | h
      · exact .inl h
      · exact .inr h
    · rcases List.mem_cons.1 h with rfl | h
      · exact .inr List.mem_cons_self
      · rcases insO_mem h with h | h
        · exact .inl h
        · exact .inr (List.mem_cons_of_mem _ h)
theorem insO_order (e : Ev) : ∀ l : List Ev, InOrder l → InOrder (insO e l) ∧ ∀ k : Ky, (insO e l).filter (fun x => x.k == k) = (l ++ [e]).filter (fun x => x.k == k)
  | [], _ => ⟨by unfold insO InOrder; simp, fun _ => rfl⟩
  | x :: t, h => by
    have h' := List.pairwise_cons.1 h
    obtain ⟨i1, i2⟩ := insO_order e t h'.2
    unfold insO
    by_cases hl : e.k.less x.k = true
    · rw [if_pos hl]
      have all : ∀ y ∈ x :: t, e.k.less y.k = true := fun y hy => by
        rcases List.mem_cons.1 hy with rfl | hy
        · exact hl
        · exact Ky.less_le hl (h'.1 y hy)
      refine ⟨List.pairwise_cons.2 ⟨fun y hy => Ky.less_asymm (all y hy), h⟩, fun k => ?_⟩
      rw [List.filter_append]
      by_cases hk : e.k = k
      · subst hk
        have hz : (x :: t).filter (fun y => y.k == e.k) = [] := filter_none fun y hy => fun q => Ky.less_ne (all y hy) q.symm
        rw [List.filter_cons, hz]
        simp
      · have h1 : (e.k == k) = false := by simpa using hk
        rw [List.filter_cons]
        simp [h1, hk]
    · rw [if_neg hl]
      refine ⟨List.pairwise_cons.2 ⟨fun y hy => ?_, i1⟩, fun k => ?_⟩
      · rcases insO_mem hy with rfl | hy
        · simpa using hl
        · exact h'.1 y hy
      · rw [List.filter_cons, i2 k, List.cons_append, List.filter_cons]
def sortO (l : List Ev) : List Ev := l.foldl (fun a e => insO e a) []
theorem sortO_snoc (l : List Ev) (e : Ev) : sortO (l ++ [e]) = insO e (sortO l) := by simp [sortO]
theorem sortO_is : ∀ (n : Nat) (l : List Ev), l.length = n → InOrder (sortO l) ∧ (∀ k : Ky, (sortO l).filter (fun x => x.k == k) = l.filter (fun x => x.k == k)) ∧ (sortO l).length = l.length
  | 0, l, h => by
    have : l = [] := List.eq_nil_of_length_eq_zero h
    subst this
    exact ⟨List.Pairwise.nil, fun _ => rfl, rfl⟩
  | n + 1, l, h => by
    obtain ⟨a, e, rfl⟩ : ∃ a e, l = a ++ [e] := ⟨l.dropLast, l.getLast (by intro q; rw [q] at h; cases h), (List.dropLast_concat_getLast _).symm⟩
    obtain ⟨i1, i2, i3⟩ := sortO_is n a (by simpa using h)
    rw [sortO_snoc]
    obtain ⟨j1, j2⟩ := insO_order e _ i1
    refine ⟨j1, fun k => ?_, by rw [insO_length, i3]; simp⟩
    rw [j2 k, List.filter_append, i2 k, ← List.filter_append]
/-- The program's and the document's are one. -/
theorem sorted_one {n : Nat} {f f' : Nat → Ev} (h : Kept n f f') (hr : Rise f' 0 n) : seg f' n = sortO (seg f n) := by
  obtain ⟨i1, i2, _⟩ := sortO_is _ (seg f n) rfl
  exact InOrder.uniq _ _ (Rise.inOrder n hr) i1 fun k => (h k).trans (i2 k).symm
end Go.Proofs.Ytefgpnalahijgaa
