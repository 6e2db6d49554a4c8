/- Events in order stand in one way only. Helper. -/
import Derived.Test.YtefgpnalahijgaaOrdEv
namespace Go.Proofs.Ytefgpnalahijgaa
open Go.RowKit
set_option linter.unusedVariables false
set_option linter.unusedSimpArgs false
def InOrder (l : List Ev) : Prop := l.Pairwise fun a b => b.k.less a.k = false
theorem InOrder.uniq : ∀ l1 l2 : List Ev, InOrder l1 → InOrder l2 → (∀ k : Ky, l1.filter (fun e => e.k == k) = l2.filter (fun e => e.k == k)) → l1 = l2 := by
  intro l1
  induction l1 with
  | nil =>
    intro l2 _ _ h
    cases l2 with
    | nil => rfl
    | cons b t => have := h b.k; simp [List.filter_cons] at this
  | cons a t ih =>
    intro l2 h1 h2 h
    cases l2 with
    | nil => have := h a.k; simp [List.filter_cons] at this
    | cons b t2 =>
      have h1' := List.pairwise_cons.1 h1
      have h2' := List.pairwise_cons.1 h2
      have ma : a ∈ b :: t2 := by
        have : a ∈ (b :: t2).filter (fun e => e.k == a.k) := by rw [← h a.k]; simp [List.filter_cons]
        exact (List.mem_filter.1 this).1
      have mb : b ∈ a :: t := by
        have : b ∈ (a :: t).filter (fun e => e.k == b.k) := by rw [h b.k]; simp [List.filter_cons]
        exact (List.mem_filter.1 this).1
      have e1 : a.k.less b.k = false := by
        rcases List.mem_cons.1 ma with rfl | m
        · exact Ky.less_irrefl _
        · exact h2'.1 a m
      have e2 : b.k.less a.k = false := by
        rcases List.mem_cons.1 mb with rfl | m
        · exact Ky.less_irrefl _
        · exact h1'.1 b m
      have ek : a.k = b.k := Ky.eq_of e1 e2
      have hd := h a.k
      rw [List.filter_cons, List.filter_cons] at hd
      simp only [ek, beq_self_eq_true, if_true] at hd
      injection hd with hab hd
      subst hab
      congr 1
      refine ih t2 h1'.2 h2'.2 fun k => ?_
      have := h k
      rw [List.filter_cons, List.filter_cons] at this
      split at this
      · injection this
      · exact this
theorem Rise.inOrder {f : Nat → Ev} : ∀ n, Rise f 0 n → InOrder (seg f n) := by
  intro n
  induction n with
  | zero => intro _; exact List.Pairwise.nil
  | succ n ih =>
    intro h
    rw [seg_succ]
    refine List.pairwise_append.2 ⟨ih (fun p q h1 h2 h3 => h p q h1 h2 (by omega)), List.pairwise_singleton _ _, ?_⟩
    intro a ha b hb
    obtain ⟨i, hi, rfl⟩ := List.mem_map.1 ha
    have := List.mem_range.1 hi
    have hb' : b = f n := by simpa using hb
    subst hb'
    exact h i n (Nat.zero_le _) this (by omega)
theorem seg_get (f : Nat → Ev) (n i : Nat) (hi : i < n) : (seg f n)[i]? = some (f i) := by simp [seg, hi]
theorem Kept.one {n : Nat} {f f' s : Nat → Ev} (h : Kept n f f') (hr : Rise f' 0 n) (hs : Kept n f s) (hsr : Rise s 0 n) : ∀ i, i < n → f' i = s i := by
  have := InOrder.uniq (seg f' n) (seg s n) (Rise.inOrder n hr) (Rise.inOrder n hsr) (fun k => (h k).trans (hs k).symm)
  intro i hi
  have h1 := seg_get f' n i hi
  rw [this, seg_get s n i hi] at h1
  injection h1 with h1
  exact h1.symm
/-- The events of an array, cell by cell. -/
def flat (f : Nat → Ev) (n : Nat) : List Value := (seg f n).flatMap Ev.c
theorem flat_succ (f : Nat → Ev) (n : Nat) : flat f (n + 1) = flat f n ++ (f n).c := by simp [flat, seg_succ]
theorem flat_length (f : Nat → Ev) (n : Nat) : (flat f n).length = n * 6 := by
  induction n with
  | zero => rfl
  | succ n ih => rw [flat_succ, List.length_append, ih]; show n * 6 + 6 = _; omega
theorem flat_get (f : Nat → Ev) (n i j : Nat) (hi : i < n) (hj : j < 6) : (flat f n)[i * 6 + j]? = some ((f i).c[j]'hj) := by
  induction n with
  | zero => omega
  | succ n ih =>
    rw [flat_succ]
    by_cases h : i < n
    · rw [List.getElem?_append_left (by rw [flat_length]; omega)]; exact ih h
    · obtain rfl : i = n := by omega
      rw [List.getElem?_append_right (by rw [flat_length]; omega), flat_length, Nat.add_sub_cancel_left]
      exact List.getElem?_eq_getElem hj
theorem flat_one (f : Nat → Ev) (n : Nat) : ∀ u ∈ flat f n, u.oneCell' = true := by
  intro u hu
  obtain ⟨e, _, he⟩ := List.mem_flatMap.1 hu
  simp [Ev.c] at he
  rcases he with rfl | rfl | rfl | rfl | rfl | rfl <;> rfl
theorem EvsAt.rd {w : World} {g o n : Nat} {f : Nat → Ev} (h : EvsAt w g o n f) : Rd w (some ⟨g, o, none⟩) (flat f n) := by
  refine .inr ⟨g, o, rfl, fun j u hu => ?_⟩
  have hj : j < n * 6 := by
    rcases Nat.lt_or_ge j (n * 6) with h | h
    · exact h
    · rw [List.getElem?_eq_none (by rw [flat_length]; exact h)] at hu; cases hu
  have e : j = j / 6 * 6 + j % 6 := by omega
  have hm : j % 6 < 6 := Nat.mod_lt _ (by decide)
  have hi : j / 6 < n := by omega
  rw [e, flat_get f n _ _ hi hm] at hu
  have := h.cell (j / 6) hi (j % 6) hm
  rw [e, ← Nat.add_assoc, this]
  exact hu
theorem Own.evs {w : World} {v : Value} {n : Nat} {f : Nat → Ev} {blk : Option Nat} (h : Own w 28 6 v n (flat f n) blk) (hn : 0 < n) :
    ∃ g o c, v = .slice (some ⟨g, o, none⟩) n c ∧ blk = some g ∧ EvsAt w g o n f ∧ n ≤ c ∧ c ≤ maxLen := by
  obtain ⟨_, A, c, rfl, hnc, hm, ⟨h0, _⟩ | ⟨g, o, cur, rfl, rfl, hb, hs, ht⟩⟩ := h
  · omega
  · refine ⟨g, o, c, rfl, rfl, ⟨fun i hi j hj => ?_, fun i hi j hj => hb.frozen _⟩, hnc, hm⟩
    have h1 := flat_get f n i j hi hj
    rw [← ht, List.getElem?_take] at h1
    split at h1
    · rw [List.getElem?_drop] at h1
      rw [hb.cell, Nat.add_assoc]
      simpa using h1
    · cases h1
end Go.Proofs.Ytefgpnalahijgaa
