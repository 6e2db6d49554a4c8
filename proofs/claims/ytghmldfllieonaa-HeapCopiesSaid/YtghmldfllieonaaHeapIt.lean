/- Items of a heap and what a heap is: plain. Helper. -/
import Derived.Test.YtghmldfllieonaaOrdB
namespace Go.Proofs.Ytghmldfllieonaa
open Go.RowKit
set_option linter.unusedVariables false
set_option linter.unusedSimpArgs false
theorem Ky.less_iff (a b : Ky) : a.less b = true ↔ a.T < b.T ∨ a.T = b.T ∧ (a.O < b.O ∨ a.O = b.O ∧ a.S < b.S) := by
  unfold Ky.less
  by_cases h1 : a.T = b.T <;> by_cases h2 : a.O = b.O <;> simp [*] <;> omega
/-- An item: an event, and its Serial. -/
structure It where
  k : Ky
  p : Int
  q : Int
  d : Int
  n : Int
deriving DecidableEq
def It.c (e : It) : List Value := [.int .i64 e.k.T, .int .i64 e.k.O, .int .i64 e.k.S, .int .i64 e.p, .int .i64 e.q, .int .i64 e.d, .int .i64 e.n]
def It.zero : It := ⟨⟨0, 0, 0⟩, 0, 0, 0, 0⟩
instance : Inhabited It := ⟨It.zero⟩
def It.less (a b : It) : Bool := if a.k = b.k then decide (a.n < b.n) else a.k.less b.k
def or2 (x y : Int) : Int := if x ≠ 0 then x else y
def It.cmp (a b : It) : Int := or2 (a.k.cmp b.k) (c3 a.n b.n)
theorem Ky.ext_iff' (a b : Ky) : a = b ↔ a.T = b.T ∧ a.O = b.O ∧ a.S = b.S := by
  obtain ⟨a1, a2, a3⟩ := a
  obtain ⟨b1, b2, b3⟩ := b
  simp
theorem It.less_iff (a b : It) : a.less b = true ↔ a.k.T < b.k.T ∨ a.k.T = b.k.T ∧ (a.k.O < b.k.O ∨ a.k.O = b.k.O ∧ (a.k.S < b.k.S ∨ a.k.S = b.k.S ∧ a.n < b.n)) := by
  unfold It.less
  by_cases h : a.k = b.k
  · rw [if_pos h, decide_eq_true_eq]
    rw [Ky.ext_iff'] at h
    omega
  · rw [if_neg h, Ky.less_iff]
    rw [Ky.ext_iff'] at h
    omega
theorem It.less_irrefl (a : It) : a.less a = false := by
  rw [← Bool.not_eq_true, It.less_iff]; omega
theorem It.less_trans {a b c : It} (h : a.less b = true) (h' : b.less c = true) : a.less c = true := by
  rw [It.less_iff] at *; omega
theorem It.less_asymm {a b : It} (h : a.less b = true) : b.less a = false := by
  rw [← Bool.not_eq_true, It.less_iff]; rw [It.less_iff] at h; omega
/-- b is not ahead of a, c not of b -/
theorem It.le_trans {a b c : It} (h : b.less a = false) (h' : c.less b = false) : c.less a = false := by
  rw [← Bool.not_eq_true, It.less_iff] at *; omega
theorem It.less_le {a b c : It} (h : a.less b = true) (h' : c.less b = false) : a.less c = true := by
  rw [← Bool.not_eq_true, It.less_iff] at h'; rw [It.less_iff] at *; omega
/-- Two that are not ahead of one another have one name. -/
theorem It.tie {a b : It} (h : a.less b = false) (h' : b.less a = false) : a.k = b.k ∧ a.n = b.n := by
  rw [← Bool.not_eq_true, It.less_iff] at *
  rw [Ky.ext_iff']; omega
theorem Ky.cmp_less (a b : Ky) : (a.cmp b < 0 ↔ a.less b = true) ∧ (a.cmp b = 0 ↔ a = b) := by
  unfold Ky.cmp
  have h1 := Ky.less_iff a b
  have h2 := Ky.less_iff b a
  have h3 := Ky.ext_iff' a b
  by_cases h : a.less b = true
  · have h1' := h1.1 h
    rw [if_pos h]
    refine ⟨by simp [h], ⟨fun e => by simp at e, fun e => ?_⟩⟩
    have e2 := h3.1 e
    exfalso
    omega
  · have h1' := mt h1.2 h
    rw [if_neg h]
    by_cases h' : b.less a = true
    · have h2' := h2.1 h'
      rw [if_pos h']
      refine ⟨by simp [h], ⟨fun e => by simp at e, fun e => ?_⟩⟩
      have e2 := h3.1 e
      exfalso
      omega
    · have h2' := mt h2.2 h'
      rw [if_neg h']
      exact ⟨by simp [h], ⟨fun e => h3.2 (by omega), fun e => rfl⟩⟩
theorem It.cmp_neg (a b : It) : a.cmp b < 0 ↔ a.less b = true := by
  have hk := Ky.cmp_less a.k b.k
  unfold It.cmp or2 It.less c3
  by_cases h : a.k = b.k
  · rw [if_neg (by simpa using hk.2.2 h), if_pos h, decide_eq_true_eq]
    split
    · simp [*]
    · split <;> simp <;> omega
  · rw [if_pos (fun e => h (hk.2.1 e)), if_neg h, hk.1]
/-- One's place in a list. -/
def g (l : List It) (i : Nat) : It := l[i]?.getD It.zero
theorem g_get (l : List It) (i : Nat) (h : i < l.length) : g l i = l[i] := by simp [g, h]
theorem g_set (l : List It) (i : Nat) (x : It) (j : Nat) (hi : i < l.length) : g (l.set i x) j = if j = i then x else g l j := by
  unfold g
  by_cases h : j = i
  · subst h; simp [hi]
  · rw [if_neg h, List.getElem?_set, if_neg (fun e => h e.symm)]
/-- Two change places. -/
def swapL (l : List It) (i j : Nat) : List It := (l.set i (g l j)).set j (g l i)
theorem swapL_length (l : List It) (i j : Nat) : (swapL l i j).length = l.length := by simp [swapL]
theorem g_swap (l : List It) (i j k : Nat) (hi : i < l.length) (hj : j < l.length) : g (swapL l i j) k = if k = j then g l i else if k = i then g l j else g l k := by
  unfold swapL
  rw [g_set _ _ _ _ (by simpa using hj), g_set _ _ _ _ hi]
theorem swapL_perm (l : List It) (i j : Nat) (hi : i < l.length) (hj : j < l.length) : (swapL l i j).Perm l := by
  unfold swapL
  rw [g_get l i hi, g_get l j hj]
  exact List.set_set_perm hi hj
/-- Each is not ahead of the one above it. -/
def HeapL (l : List It) : Prop := ∀ i, 0 < i → i < l.length → (g l i).less (g l ((i - 1) / 2)) = false
/-- .. but at i, on both sides. -/
def HeapD (l : List It) (i : Nat) : Prop :=
  (∀ j, 0 < j → j < l.length → j ≠ i → (j - 1) / 2 ≠ i → (g l j).less (g l ((j - 1) / 2)) = false) ∧
  ∀ j, 0 < j → j < l.length → (j - 1) / 2 = i → 0 < i → (g l j).less (g l ((i - 1) / 2)) = false
/-- .. but i and the one above it -/
def HeapU (l : List It) (i : Nat) : Prop :=
  (∀ j, 0 < j → j < l.length → j ≠ i → (g l j).less (g l ((j - 1) / 2)) = false) ∧
  ∀ j, 0 < j → j < l.length → (j - 1) / 2 = i → 0 < i → (g l j).less (g l ((i - 1) / 2)) = false
/-- .. but i and those below it -/
def HeapN (l : List It) (i : Nat) : Prop :=
  (∀ j, 0 < j → j < l.length → (j - 1) / 2 ≠ i → (g l j).less (g l ((j - 1) / 2)) = false) ∧
  ∀ j, 0 < j → j < l.length → (j - 1) / 2 = i → 0 < i → (g l j).less (g l ((i - 1) / 2)) = false
theorem HeapU.d {l : List It} {i : Nat} (h : HeapU l i) : HeapD l i := ⟨fun j h1 h2 h3 _ => h.1 j h1 h2 h3, h.2⟩
theorem HeapL.n {l : List It} (h : HeapL l) (i : Nat) (hi : i < l.length) : HeapN l i :=
  ⟨fun j h1 h2 _ => h j h1 h2, fun j h1 h2 h3 h4 => It.le_trans (h i h4 hi) (by have := h j h1 h2; rwa [h3] at this)⟩
theorem HeapU.whole {l : List It} {i : Nat} (h : HeapU l i) (hw : i = 0 ∨ (g l i).less (g l ((i - 1) / 2)) = false) : HeapL l := fun j h1 h2 => by
  by_cases e : j = i
  · subst e
    rcases hw with h0 | h0
    · omega
    · exact h0
  · exact h.1 j h1 h2 e
theorem HeapD.n {l : List It} {i : Nat} (h : HeapD l i) (hw : i = 0 ∨ (g l i).less (g l ((i - 1) / 2)) = false) : HeapN l i := ⟨fun j h1 h2 h3 => by
  by_cases e : j = i
  · subst e
    rcases hw with h0 | h0
    · omega
    · exact h0
  · exact h.1 j h1 h2 e h3, h.2⟩
theorem HeapD.up {l : List It} {i : Nat} (h : HeapD l i) (hi : i < l.length) (h0 : 0 < i) (hl : (g l i).less (g l ((i - 1) / 2)) = true) : HeapU (swapL l i ((i - 1) / 2)) ((i - 1) / 2) := by
  obtain ⟨q, hq⟩ : ∃ q, (i - 1) / 2 = q := ⟨_, rfl⟩
  rw [hq] at hl ⊢
  have hql : q < l.length := by omega
  have hqi : q ≠ i := by omega
  refine ⟨fun j h1 h2 h3 => ?_, fun j h1 h2 h3 h4 => ?_⟩
  · rw [swapL_length] at h2
    rw [g_swap l i q _ hi hql, g_swap l i q _ hi hql, if_neg h3]
    by_cases ji : j = i
    · subst ji
      rw [if_pos rfl, hq, if_pos rfl]
      exact It.less_asymm hl
    · rw [if_neg ji]
      by_cases pq : (j - 1) / 2 = q
      · rw [if_pos pq]
        have := h.1 j h1 h2 ji (by omega)
        rw [pq] at this
        exact It.le_trans (It.less_asymm hl) this
      · rw [if_neg pq]
        by_cases pi : (j - 1) / 2 = i
        · rw [if_pos pi]
          have := h.2 j h1 h2 pi h0
          rwa [hq] at this
        · rw [if_neg pi]
          exact h.1 j h1 h2 ji pi
  · rw [swapL_length] at h2
    obtain ⟨r, hr⟩ : ∃ r, (q - 1) / 2 = r := ⟨_, rfl⟩
    rw [hr]
    have hrq := h.1 q h4 hql hqi (by omega)
    rw [hr] at hrq
    rw [g_swap l i q _ hi hql, g_swap l i q _ hi hql, if_neg (show r ≠ q by omega), if_neg (show r ≠ i by omega), if_neg (show j ≠ q by omega)]
    by_cases ji : j = i
    · rw [if_pos ji]; exact hrq
    · rw [if_neg ji]
      have := h.1 j h1 h2 ji (by omega)
      rw [h3] at this
      exact It.le_trans hrq this
theorem HeapN.down {l : List It} {i k : Nat} (h : HeapN l i) (hi : i < l.length) (hk : k < l.length) (hk0 : 0 < k) (hp : (k - 1) / 2 = i) (hl : (g l i).less (g l k) = false) (hc : ∀ j, 0 < j → j < l.length → (j - 1) / 2 = i → (g l j).less (g l k) = false) :
    HeapN (swapL l i k) k := by
  have hki : k ≠ i := by omega
  refine ⟨fun j h1 h2 h3 => ?_, fun j h1 h2 h3 _ => ?_⟩
  · rw [swapL_length] at h2
    rw [g_swap l i k _ hi hk, g_swap l i k _ hi hk, if_neg h3]
    by_cases jk : j = k
    · subst jk
      rw [if_pos rfl, if_pos hp]
      exact hl
    · rw [if_neg jk]
      by_cases pi : (j - 1) / 2 = i
      · rw [if_pos pi, if_neg (show j ≠ i by omega)]
        exact hc j h1 h2 pi
      · rw [if_neg pi]
        by_cases ji : j = i
        · subst ji
          rw [if_pos rfl]
          exact h.2 k hk0 hk hp h1
        · rw [if_neg ji]
          exact h.1 j h1 h2 pi
  · rw [swapL_length] at h2
    rw [hp, g_swap l i k _ hi hk, g_swap l i k _ hi hk, if_neg (show i ≠ k by omega), if_pos rfl, if_neg (show j ≠ k by omega), if_neg (show j ≠ i by omega)]
    have := h.1 j h1 h2 (by omega)
    rwa [h3] at this
theorem HeapN.whole {l : List It} {i : Nat} (h : HeapN l i) (hc : ∀ j, 0 < j → j < l.length → (j - 1) / 2 = i → (g l j).less (g l i) = false) : HeapL l := fun j h1 h2 => by
  by_cases e : (j - 1) / 2 = i
  · rw [e]; exact hc j h1 h2 e
  · exact h.1 j h1 h2 e
/-- The least one among one and both below it. -/
def lst (l : List It) (i : Nat) : Nat :=
  let o := if 2 * i + 1 < l.length ∧ (g l (2 * i + 1)).less (g l i) = true then 2 * i + 1 else i
  if 2 * i + 2 < l.length ∧ (g l (2 * i + 2)).less (g l o) = true then 2 * i + 2 else o
theorem lst_spec (l : List It) (i : Nat) (hi : i < l.length) : lst l i < l.length ∧ (lst l i = i ∨ 0 < lst l i ∧ (lst l i - 1) / 2 = i ∧ (g l (lst l i)).less (g l i) = true) ∧ ∀ j, 0 < j → j < l.length → (j - 1) / 2 = i → (g l j).less (g l (lst l i)) = false := by
  have hch : ∀ j, 0 < j → (j - 1) / 2 = i → j = 2 * i + 1 ∨ j = 2 * i + 2 := fun j h1 h2 => by omega
  unfold lst
  simp only
  by_cases h1 : 2 * i + 1 < l.length ∧ (g l (2 * i + 1)).less (g l i) = true
  · rw [if_pos h1]
    by_cases h2 : 2 * i + 2 < l.length ∧ (g l (2 * i + 2)).less (g l (2 * i + 1)) = true
    · rw [if_pos h2]
      refine ⟨h2.1, .inr ⟨by omega, by omega, It.less_trans h2.2 h1.2⟩, fun j hj hjl hp => ?_⟩
      rcases hch j hj hp with rfl | rfl
      · exact It.less_asymm h2.2
      · exact It.less_irrefl _
    · rw [if_neg h2]
      refine ⟨h1.1, .inr ⟨by omega, by omega, h1.2⟩, fun j hj hjl hp => ?_⟩
      rcases hch j hj hp with rfl | rfl
      · exact It.less_irrefl _
      · rw [← Bool.not_eq_true]; exact fun h => h2 ⟨hjl, h⟩
  · rw [if_neg h1]
    by_cases h2 : 2 * i + 2 < l.length ∧ (g l (2 * i + 2)).less (g l i) = true
    · rw [if_pos h2]
      refine ⟨h2.1, .inr ⟨by omega, by omega, h2.2⟩, fun j hj hjl hp => ?_⟩
      rcases hch j hj hp with rfl | rfl
      · have : (g l (2 * i + 1)).less (g l i) = false := by rw [← Bool.not_eq_true]; exact fun h => h1 ⟨hjl, h⟩
        exact It.le_trans (It.less_asymm h2.2) this
      · exact It.less_irrefl _
    · rw [if_neg h2]
      refine ⟨hi, .inl rfl, fun j hj hjl hp => ?_⟩
      rcases hch j hj hp with rfl | rfl
      · rw [← Bool.not_eq_true]; exact fun h => h1 ⟨hjl, h⟩
      · rw [← Bool.not_eq_true]; exact fun h => h2 ⟨hjl, h⟩
theorem lst_ge (l : List It) (i : Nat) : i ≤ lst l i := by
  unfold lst
  simp only
  by_cases h1 : 2 * i + 1 < l.length ∧ (g l (2 * i + 1)).less (g l i) = true
  · rw [if_pos h1]; split <;> omega
  · rw [if_neg h1]; split <;> omega
/-- The first one is ahead of no other one's. -/
theorem HeapL.least {l : List It} (h : HeapL l) : ∀ i, i < l.length → (g l i).less (g l 0) = false := by
  intro i
  induction i using Nat.strongRecOn with
  | _ i ih =>
    intro hi
    by_cases h0 : i = 0
    · subst h0; exact It.less_irrefl _
    · exact It.le_trans (ih ((i - 1) / 2) (by omega) (by omega)) (h i (by omega) hi)
end Go.Proofs.Ytghmldfllieonaa
