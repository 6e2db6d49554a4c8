/- Frames: what a stream tells when more of it comes; what is told, framed again, is what came. No program in sight. Helper. -/
import Derived.Test.YtalcafaibmbgjaaDoorFrmPlain
namespace Go.Proofs.YtalcafaibmbgjaaDoor
set_option linter.unusedVariables false
set_option linter.unusedSimpArgs false
/-- How long the payload is that stands at a place. -/
def frN (s : List UInt8) (p : Nat) : Nat := 256 * (s.getD p 0).toNat + (s.getD (p + 1) 0).toNat
/-- The payload that stands at a place. -/
def frP (s : List UInt8) (p : Nat) : List UInt8 := (s.drop (p + 6)).take (frN s p)
/-- One step of what is told, by its five ways. -/
inductive TStep (s : List UInt8) (p : Nat) : List (Nat × Nat) × Int × Nat → Prop
  | short (h : s.length < p + 2) : TStep s p ([], 0, p)
  | long (h : p + 2 ≤ s.length) (h1 : frN s p < 1 ∨ 4096 < frN s p) : TStep s p ([], 10, p)
  | part (h : p + 2 ≤ s.length) (h1 : 1 ≤ frN s p ∧ frN s p ≤ 4096) (h2 : s.length < p + 6 + frN s p) : TStep s p ([], 0, p)
  | sum (h1 : 1 ≤ frN s p ∧ frN s p ≤ 4096) (h2 : p + 6 + frN s p ≤ s.length) (h3 : frameB (frP s p) ≠ (s.drop p).take (6 + frN s p)) : TStep s p ([], 11, p)
theorem toldF_step (s : List UInt8) (f p : Nat) : TStep s p (toldF s (f + 1) p) ∨
    ((1 ≤ frN s p ∧ frN s p ≤ 4096) ∧ p + 6 + frN s p ≤ s.length ∧ frameB (frP s p) = (s.drop p).take (6 + frN s p) ∧ toldF s (f + 1) p = ((p + 6, frN s p) :: (toldF s f (p + 6 + frN s p)).1, (toldF s f (p + 6 + frN s p)).2)) := by
  have e : toldF s (f + 1) p = if s.length < p + 2 then ([], 0, p) else if frN s p < 1 ∨ 4096 < frN s p then ([], 10, p) else if s.length < p + 6 + frN s p then ([], 0, p)
      else if frameB (frP s p) ≠ (s.drop p).take (6 + frN s p) then ([], 11, p) else ((p + 6, frN s p) :: (toldF s f (p + 6 + frN s p)).1, (toldF s f (p + 6 + frN s p)).2) := by
    rw [toldF]; rfl
  rw [e]
  by_cases h : s.length < p + 2
  · rw [if_pos h]; exact .inl (.short h)
  rw [if_neg h]
  by_cases h1 : frN s p < 1 ∨ 4096 < frN s p
  · rw [if_pos h1]; exact .inl (.long (by omega) h1)
  rw [if_neg h1]
  by_cases h2 : s.length < p + 6 + frN s p
  · rw [if_pos h2]; exact .inl (.part (by omega) (by omega) h2)
  rw [if_neg h2]
  by_cases h3 : frameB (frP s p) ≠ (s.drop p).take (6 + frN s p)
  · rw [if_pos h3]; exact .inl (.sum (by omega) (by omega) h3)
  rw [if_neg h3]
  exact .inr ⟨by omega, by omega, Classical.not_not.1 h3, rfl⟩
theorem toldF_fuel (s : List UInt8) (f : Nat) : ∀ (f' p : Nat), s.length ≤ p + f → s.length ≤ p + f' → toldF s f p = toldF s f' p := by
  induction f with
  | zero => intro f' p h h'; rw [toldF_stop s 0 p (by omega), toldF_stop s f' p (by omega)]
  | succ f ih =>
    intro f' p h h'
    cases f' with
    | zero => rw [toldF_stop s (f + 1) p (by omega), toldF_stop s 0 p (by omega)]
    | succ f' =>
      rcases toldF_step s f p with h1 | ⟨h1, h2, h3, h4⟩
      · rcases toldF_step s f' p with k1 | ⟨k1, k2, k3, k4⟩
        · generalize toldF s (f + 1) p = X at h1 ⊢
          generalize toldF s (f' + 1) p = Y at k1 ⊢
          cases h1 <;> cases k1 <;> first | rfl | omega | contradiction
        · generalize toldF s (f + 1) p = X at h1 ⊢
          cases h1 <;> first | omega | contradiction
      · rcases toldF_step s f' p with k1 | ⟨k1, k2, k3, k4⟩
        · generalize toldF s (f' + 1) p = Y at k1 ⊢
          cases k1 <;> first | omega | contradiction
        · rw [h4, k4, ih f' (p + 6 + frN s p) (by omega) (by omega)]
/-- Where it ends lies within. -/
theorem toldF_end (s : List UInt8) (f : Nat) : ∀ p, p ≤ s.length → p ≤ (toldF s f p).2.2 ∧ (toldF s f p).2.2 ≤ s.length := by
  induction f with
  | zero => intro p h; simp [toldF, h]
  | succ f ih =>
    intro p h
    rcases toldF_step s f p with h1 | ⟨h1, h2, h3, h4⟩
    · generalize toldF s (f + 1) p = X at h1 ⊢
      cases h1 <;> exact ⟨Nat.le_refl _, h⟩
    · rw [h4]
      have := ih (p + 6 + frN s p) h2
      exact ⟨Nat.le_trans (by omega) this.1, this.2⟩
/-- What is told, framed again, is what came. -/
theorem toldF_back (s : List UInt8) (f : Nat) : ∀ p, p ≤ s.length → ((toldF s f p).1.map fun x => frameB ((s.drop x.1).take x.2)).flatten = (s.drop p).take ((toldF s f p).2.2 - p) := by
  induction f with
  | zero => intro p h; simp [toldF]
  | succ f ih =>
    intro p h
    rcases toldF_step s f p with h1 | ⟨h1, h2, h3, h4⟩
    · generalize toldF s (f + 1) p = X at h1 ⊢
      cases h1 <;> simp
    · rw [h4]
      have hi := ih (p + 6 + frN s p) h2
      have he := toldF_end s f (p + 6 + frN s p) h2
      simp only [List.map_cons, List.flatten_cons]
      rw [hi]
      generalize (toldF s f (p + 6 + frN s p)).2.2 = z at he ⊢
      have e1 : frameB ((s.drop (p + 6)).take (frN s p)) = (s.drop p).take (6 + frN s p) := h3
      obtain ⟨n, hn⟩ : ∃ n, 6 + frN s p = n := ⟨_, rfl⟩
      rw [e1, hn, show p + 6 + frN s p = p + n by omega, ← List.drop_drop, show z - p = n + (z - (p + n)) by omega, List.take_add]
/-- The payloads that are told are of 1 to 4096 bytes, and lie within. -/
theorem toldF_mem (s : List UInt8) (f : Nat) : ∀ p, p ≤ s.length → ∀ x ∈ (toldF s f p).1, p + 6 ≤ x.1 ∧ 1 ≤ x.2 ∧ x.2 ≤ 4096 ∧ x.1 + x.2 ≤ s.length := by
  induction f with
  | zero => intro p h x hx; simp [toldF] at hx
  | succ f ih =>
    intro p h x hx
    rcases toldF_step s f p with h1 | ⟨h1, h2, h3, h4⟩
    · generalize toldF s (f + 1) p = X at h1 hx
      cases h1 <;> simp at hx
    · rw [h4] at hx
      rcases List.mem_cons.1 hx with rfl | hx
      · exact ⟨Nat.le_refl _, h1.1, h1.2, h2⟩
      · have := ih _ h2 x hx; omega
/-- How many are told. -/
theorem toldF_many (s : List UInt8) (f : Nat) : ∀ p, p ≤ s.length → 7 * (toldF s f p).1.length + p ≤ s.length := by
  induction f with
  | zero => intro p h; simp [toldF, h]
  | succ f ih =>
    intro p h
    rcases toldF_step s f p with h1 | ⟨h1, h2, h3, h4⟩
    · generalize toldF s (f + 1) p = X at h1 ⊢
      cases h1 <;> simp <;> omega
    · rw [h4]
      have := ih _ h2
      simp only [List.length_cons]
      omega
theorem frN_app (u r : List UInt8) (p : Nat) (h : p + 2 ≤ u.length) : frN (u ++ r) p = frN u p := by
  unfold frN
  rw [List.getD_eq_getElem?_getD, List.getD_eq_getElem?_getD, List.getD_eq_getElem?_getD, List.getD_eq_getElem?_getD, List.getElem?_append_left (by omega), List.getElem?_append_left (by omega)]
theorem drop_app (u r : List UInt8) (p n : Nat) (h : p + n ≤ u.length) : ((u ++ r).drop p).take n = (u.drop p).take n := by
  rw [List.drop_append_of_le_length (by omega), List.take_append_of_le_length (by rw [List.length_drop]; omega)]
/-- A stream of which more comes: what was wrong stays wrong; else it goes on where it stood. -/
theorem toldF_app (u r : List UInt8) (f : Nat) : ∀ (p g g' : Nat), p ≤ u.length → u.length ≤ p + f → (u ++ r).length ≤ p + g → (u ++ r).length ≤ (toldF u f p).2.2 + g' →
    toldF (u ++ r) g p = if (toldF u f p).2.1 = 0 then ((toldF u f p).1 ++ (toldF (u ++ r) g' (toldF u f p).2.2).1, (toldF (u ++ r) g' (toldF u f p).2.2).2) else toldF u f p := by
  induction f with
  | zero =>
    intro p g g' h hf hg hg'
    rw [toldF_stop u 0 p (by omega)] at hg' ⊢
    rw [if_pos rfl, List.nil_append]
    exact toldF_fuel _ _ _ _ hg hg'
  | succ f ih =>
    intro p g g' h hf hg hg'
    rw [List.length_append] at hg
    rcases toldF_step u f p with h1 | ⟨h1, h2, h3, h4⟩
    · generalize toldF u (f + 1) p = X at h1 hg' ⊢
      cases h1 with
      | short h0 => rw [if_pos rfl, List.nil_append]; exact toldF_fuel _ _ _ _ (by rw [List.length_append]; exact hg) hg'
      | part h0 h1 h2 => rw [if_pos rfl, List.nil_append]; exact toldF_fuel _ _ _ _ (by rw [List.length_append]; exact hg) hg'
      | long h0 h1 =>
        rw [if_neg (by show ¬ ((_ : Int) = 0); simp)]
        obtain ⟨g, rfl⟩ : ∃ k, g = k + 1 := ⟨g - 1, by omega⟩
        have e := frN_app u r p h0
        rcases toldF_step (u ++ r) g p with k1 | ⟨k1, k2, k3, k4⟩
        · generalize toldF (u ++ r) (g + 1) p = Y at k1 ⊢
          cases k1 with
          | short h' => rw [List.length_append] at h'; omega
          | long _ _ => rfl
          | part _ h' _ => rw [e] at h'; omega
          | sum h' _ _ => rw [e] at h'; omega
        · rw [e] at k1; omega
      | sum h1 h2 h3 =>
        rw [if_neg (by show ¬ ((_ : Int) = 0); simp)]
        obtain ⟨g, rfl⟩ : ∃ k, g = k + 1 := ⟨g - 1, by omega⟩
        have e := frN_app u r p (by omega)
        have eP : frP (u ++ r) p = frP u p := by unfold frP; rw [e]; exact drop_app u r _ _ h2
        have eD := drop_app u r p (6 + frN u p) (by omega)
        rcases toldF_step (u ++ r) g p with k1 | ⟨k1, k2, k3, k4⟩
        · generalize toldF (u ++ r) (g + 1) p = Y at k1 ⊢
          cases k1 with
          | short h' => rw [List.length_append] at h'; omega
          | long _ h' => rw [e] at h'; omega
          | part _ _ h' => rw [e, List.length_append] at h'; omega
          | sum _ _ _ => rfl
        · rw [e, eP, eD] at k3; exact absurd k3 h3
    · have e := frN_app u r p (by omega)
      have eP : frP (u ++ r) p = frP u p := by unfold frP; rw [e]; exact drop_app u r _ _ h2
      have eD := drop_app u r p (6 + frN u p) (by omega)
      obtain ⟨g, rfl⟩ : ∃ k, g = k + 1 := ⟨g - 1, by omega⟩
      have k4 : toldF (u ++ r) (g + 1) p = ((p + 6, frN u p) :: (toldF (u ++ r) g (p + 6 + frN u p)).1, (toldF (u ++ r) g (p + 6 + frN u p)).2) := by
        rcases toldF_step (u ++ r) g p with k1 | ⟨k1, k2, k3, k4⟩
        · generalize toldF (u ++ r) (g + 1) p = Y at k1 ⊢
          cases k1 with
          | short h' => rw [List.length_append] at h'; omega
          | long _ h' => rw [e] at h'; omega
          | part _ _ h' => rw [e, List.length_append] at h'; omega
          | sum _ _ h' => rw [e, eP, eD] at h'; exact absurd h3 h'
        · rw [e] at k4; exact k4
      rw [h4] at hg' ⊢
      rw [k4, ih (p + 6 + frN u p) g g' h2 (by omega) (by rw [List.length_append]; omega) hg']
      by_cases hz : (toldF u f (p + 6 + frN u p)).2.1 = 0
      · rw [if_pos hz, if_pos hz]; rfl
      · rw [if_neg hz, if_neg hz]
/-- What a list of bytes is as a number, the highest first. -/
theorem head_iff (n : Nat) (C : BitVec 32) (b0 b1 b2 b3 b4 b5 : UInt8) (hn : 256 * b0.toNat + b1.toNat = n) :
    headB n C = [b0, b1, b2, b3, b4, b5] ↔ C.toNat = 16777216 * b2.toNat + 65536 * b3.toNat + 256 * b4.toNat + b5.toNat := by
  have q0 := b0.toNat_lt
  have q1 := b1.toNat_lt
  have q2 := b2.toNat_lt
  have q3 := b3.toNat_lt
  have q4 := b4.toNat_lt
  have q5 := b5.toNat_lt
  have qC := C.isLt
  unfold headB
  simp only [List.cons.injEq, and_true]
  constructor
  · rintro ⟨_, _, e2, e3, e4, e5⟩
    have e2 := congrArg UInt8.toNat e2
    have e3 := congrArg UInt8.toNat e3
    have e4 := congrArg UInt8.toNat e4
    have e5 := congrArg UInt8.toNat e5
    rw [UInt8.toNat_ofNat'] at e2 e3 e4 e5
    omega
  · intro h
    refine ⟨?_, ?_, ?_, ?_, ?_, ?_⟩ <;> (apply UInt8.toNat_inj.1; rw [UInt8.toNat_ofNat']; omega)
end Go.Proofs.YtalcafaibmbgjaaDoor
