/- Names of a heap's items, plain; a heap that is being shifted. Helper. -/
import Derived.Test.YtghmldfllieonaaHeapLay
namespace Go.Proofs.Ytghmldfllieonaa
open Go.RowKit
set_option linter.unusedVariables false
set_option linter.unusedSimpArgs false
/-- f says where each name stands. -/
def NameOk (l : List It) (f : Int → Int → Option Nat) : Prop :=
  (∀ i, i < l.length → f (g l i).k.O (g l i).n = some i) ∧ ∀ O N i, f O N = some i → i < l.length ∧ (g l i).k.O = O ∧ (g l i).n = N
theorem NameOk.nil : NameOk [] (fun _ _ => none) := ⟨fun i h => by simp at h, fun _ _ _ h => by cases h⟩
theorem NameOk.uniq {l : List It} {f : Int → Int → Option Nat} (h : NameOk l f) {i j : Nat} (hi : i < l.length) (hj : j < l.length) (h1 : (g l i).k.O = (g l j).k.O) (h2 : (g l i).n = (g l j).n) : i = j := by
  have a := h.1 i hi
  rw [h1, h2, h.1 j hj] at a
  injection a with a
  exact a.symm
theorem NameOk.swap {l : List It} {f : Int → Int → Option Nat} (h : NameOk l f) {i p : Nat} (hi : i < l.length) (hp : p < l.length) (hne : i ≠ p) :
    NameOk (swapL l i p) (updF (updF f (g l p).k.O (g l p).n i) (g l i).k.O (g l i).n p) := by
  have hnm : ¬ ((g l p).k.O = (g l i).k.O ∧ (g l p).n = (g l i).n) := fun e => hne (h.uniq hi hp e.1.symm e.2.symm)
  refine ⟨fun j hj => ?_, fun O N j hj => ?_⟩
  · rw [swapL_length] at hj
    rw [g_swap l i p j hi hp]
    unfold updF
    by_cases e1 : j = p
    · subst e1; rw [if_pos rfl, if_pos ⟨rfl, rfl⟩]
    · rw [if_neg e1]
      by_cases e2 : j = i
      · subst e2; rw [if_pos rfl, if_neg hnm, if_pos ⟨rfl, rfl⟩]
      · rw [if_neg e2, if_neg (fun e => e2 (h.uniq hj hi e.1 e.2)), if_neg (fun e => e1 (h.uniq hj hp e.1 e.2))]
        exact h.1 j hj
  · rw [swapL_length, g_swap l i p j hi hp]
    unfold updF at hj
    by_cases e1 : O = (g l i).k.O ∧ N = (g l i).n
    · rw [if_pos e1] at hj
      injection hj with hj
      subst hj
      rw [if_pos rfl]
      exact ⟨hp, e1.1.symm, e1.2.symm⟩
    · rw [if_neg e1] at hj
      by_cases e2 : O = (g l p).k.O ∧ N = (g l p).n
      · rw [if_pos e2] at hj
        injection hj with hj
        subst hj
        rw [if_neg hne, if_pos rfl]
        exact ⟨hi, e2.1.symm, e2.2.symm⟩
      · rw [if_neg e2] at hj
        obtain ⟨h1, h2, h3⟩ := h.2 O N j hj
        refine ⟨h1, ?_⟩
        rw [if_neg, if_neg]
        · exact ⟨h2, h3⟩
        · rintro rfl; exact e1 ⟨h2.symm, h3.symm⟩
        · rintro rfl; exact e2 ⟨h2.symm, h3.symm⟩
theorem NameOk.put {l : List It} {f : Int → Int → Option Nat} (h : NameOk l f) (e : It) (he : f e.k.O e.n = none) : NameOk (l ++ [e]) (updF f e.k.O e.n l.length) := by
  have hg : ∀ j, j < l.length → g (l ++ [e]) j = g l j := fun j hj => by unfold g; rw [List.getElem?_append_left hj]
  have hl : g (l ++ [e]) l.length = e := by unfold g; rw [List.getElem?_append_right (Nat.le_refl _)]; simp
  refine ⟨fun j hj => ?_, fun O N j hj => ?_⟩
  · rw [List.length_append, List.length_singleton] at hj
    unfold updF
    by_cases e1 : j = l.length
    · subst e1; rw [hl, if_pos ⟨rfl, rfl⟩]
    · have hj' : j < l.length := by omega
      rw [hg j hj', if_neg, h.1 j hj']
      rintro ⟨h1, h2⟩
      have := h.1 j hj'
      rw [h1, h2, he] at this
      cases this
  · rw [List.length_append, List.length_singleton]
    unfold updF at hj
    by_cases e1 : O = e.k.O ∧ N = e.n
    · rw [if_pos e1] at hj
      injection hj with hj
      subst hj
      exact ⟨by omega, by rw [hl]; exact e1.1.symm, by rw [hl]; exact e1.2.symm⟩
    · rw [if_neg e1] at hj
      obtain ⟨h1, h2, h3⟩ := h.2 O N j hj
      rw [hg j h1]
      exact ⟨by omega, h2, h3⟩
theorem g_take (l : List It) (n j : Nat) (h : j < n) : g (l.take n) j = g l j := by unfold g; rw [List.getElem?_take_of_lt h]
/-- The last one is dropped. -/
theorem NameOk.dropLast {l : List It} {f : Int → Int → Option Nat} (h : NameOk l f) {n : Nat} (hn : l.length = n + 1) : NameOk (l.take n) (delF f (g l n).k.O (g l n).n) := by
  refine ⟨fun j hj => ?_, fun O N j hj => ?_⟩
  · rw [List.length_take] at hj
    rw [g_take _ _ _ (by omega)]
    unfold delF
    rw [if_neg, h.1 j (by omega)]
    rintro ⟨h1, h2⟩
    have := h.uniq (show j < l.length by omega) (show n < l.length by omega) h1 h2
    omega
  · unfold delF at hj
    by_cases e1 : O = (g l n).k.O ∧ N = (g l n).n
    · rw [if_pos e1] at hj; cases hj
    · rw [if_neg e1] at hj
      obtain ⟨h1, h2, h3⟩ := h.2 O N j hj
      have : j ≠ n := by rintro rfl; exact e1 ⟨h2.symm, h3.symm⟩
      rw [g_take _ _ _ (by omega), List.length_take]
      exact ⟨by omega, h2, h3⟩
/-- One is dropped, the last one laid in its place. -/
theorem NameOk.dropAt {l : List It} {f : Int → Int → Option Nat} (h : NameOk l f) {n i : Nat} (hn : l.length = n + 1) (hi : i < n) :
    NameOk ((l.take n).set i (g l n)) (updF (delF f (g l i).k.O (g l i).n) (g l n).k.O (g l n).n i) := by
  have hil : i < (l.take n).length := by rw [List.length_take]; omega
  have hnm : ¬ ((g l n).k.O = (g l i).k.O ∧ (g l n).n = (g l i).n) := fun e => by have := h.uniq (show n < l.length by omega) (show i < l.length by omega) e.1 e.2; omega
  refine ⟨fun j hj => ?_, fun O N j hj => ?_⟩
  · rw [List.length_set, List.length_take] at hj
    rw [g_set _ _ _ _ hil]
    unfold updF delF
    by_cases e1 : j = i
    · subst e1; rw [if_pos rfl, if_pos ⟨rfl, rfl⟩]
    · rw [if_neg e1, g_take _ _ _ (by omega), if_neg, if_neg, h.1 j (by omega)]
      · rintro ⟨h1, h2⟩; exact e1 (h.uniq (by omega) (by omega) h1 h2)
      · rintro ⟨h1, h2⟩; have := h.uniq (show j < l.length by omega) (show n < l.length by omega) h1 h2; omega
  · rw [List.length_set, List.length_take, g_set _ _ _ _ hil]
    unfold updF delF at hj
    by_cases e1 : O = (g l n).k.O ∧ N = (g l n).n
    · rw [if_pos e1] at hj
      injection hj with hj
      subst hj
      rw [if_pos rfl]
      exact ⟨by omega, e1.1.symm, e1.2.symm⟩
    · rw [if_neg e1] at hj
      by_cases e2 : O = (g l i).k.O ∧ N = (g l i).n
      · rw [if_pos e2] at hj; cases hj
      · rw [if_neg e2] at hj
        obtain ⟨h1, h2, h3⟩ := h.2 O N j hj
        have hjn : j ≠ n := by rintro rfl; exact e1 ⟨h2.symm, h3.symm⟩
        have hji : j ≠ i := by rintro rfl; exact e2 ⟨h2.symm, h3.symm⟩
        rw [if_neg hji, g_take _ _ _ (by omega)]
        exact ⟨by omega, h2, h3⟩
/-- One whose name the model holds. -/
def WOk (e : It) : Prop := W64 e.k.O ∧ W64 e.n
/-- A heap whose items are being shifted: l0, the items that it began with. -/
structure Kp (w0 w : World) (gB S : Nat) (v : Value) (m : Nat) (blk : Option Nat) (l0 l : List It) (f : Int → Int → Option Nat) : Prop where
  hm : HM w gB S v l f m blk
  nm : NameOk l f
  wf : ∀ e ∈ l, WOk e
  pm : l.Perm l0
  ch : Chg (HTurn gB S blk) w0 w
theorem Kp.new {w0 w w' : World} {gB S : Nat} {v : Value} {m : Nat} {blk : Option Nat} {l0 l : List It} {f : Int → Int → Option Nat} (h : Kp w0 w gB S v m blk l0 l f) (hB : Below w.heap.size w w') : Kp w0 w' gB S v m blk l0 l f :=
  ⟨h.hm.new hB, h.nm, h.wf, h.pm, h.ch.trans (Chg.of_below hB (Nat.le_refl _) (HTurn gB S blk)) (fun _ _ h => h)⟩
theorem Kp.item {w0 w : World} {gB S : Nat} {v : Value} {m : Nat} {blk : Option Nat} {l0 l : List It} {f : Int → Int → Option Nat} (h : Kp w0 w gB S v m blk l0 l f) (i : Nat) (hi : i < l.length) : WOk (g l i) :=
  h.wf _ (by rw [g_get l i hi]; exact List.getElem_mem hi)
/-- Two change places by two calls of lay. -/
theorem Kp.swap {w0 w w1 w2 : World} {gB S : Nat} {v : Value} {m : Nat} {blk : Option Nat} {l0 l : List It} {f : Int → Int → Option Nat} (h : Kp w0 w gB S v m blk l0 l f) {i p : Nat} (hi : i < l.length) (hp : p < l.length) (hne : i ≠ p)
    (h2 : HM w2 gB S v ((l.set i (g l p)).set p (g l i)) (updF (updF f (g l p).k.O (g l p).n i) (g l i).k.O (g l i).n p) m blk) (c1 : Chg (HTurn gB S blk) w w1) (c2 : Chg (HTurn gB S blk) w1 w2) :
    Kp w0 w2 gB S v m blk l0 (swapL l i p) (updF (updF f (g l p).k.O (g l p).n i) (g l i).k.O (g l i).n p) :=
  ⟨h2, h.nm.swap hi hp hne, fun e he => h.wf e ((swapL_perm l i p hi hp).mem_iff.1 he), (swapL_perm l i p hi hp).trans h.pm,
    (h.ch.trans c1 (fun _ _ h => h)).trans c2 (fun _ _ h => h)⟩
theorem Kp.has {w0 w : World} {gB S : Nat} {v : Value} {m : Nat} {blk : Option Nat} {l0 l : List It} {f : Int → Int → Option Nat} (h : Kp w0 w gB S v m blk l0 l f) {i p : Nat} (hi : i < l.length) (hp : p < l.length) :
    (f (g l p).k.O (g l p).n).isSome = true ∧ (updF f (g l p).k.O (g l p).n i (g l i).k.O (g l i).n).isSome = true := by
  refine ⟨by rw [h.nm.1 p hp]; rfl, ?_⟩
  unfold updF
  split
  · rfl
  · rw [h.nm.1 i hi]; rfl
end Go.Proofs.Ytghmldfllieonaa
