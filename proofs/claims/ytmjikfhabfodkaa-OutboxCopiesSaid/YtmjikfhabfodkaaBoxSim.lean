/- Outbox: what the document's outbox and ours say alike. Helper of OutboxPlays. -/
import Derived.Test.YtmjikfhabfodkaaBoxParts
import Derived.Test.YtmjikfhabfodkaaRefA
namespace Go.Proofs.Ytmjikfhabfodkaa
open Go.RowKit
set_option linter.unusedVariables false
set_option linter.unusedSimpArgs false
def cum : Nat → List (List UInt8) → List Nat
  | _, [] => []
  | s, l :: ls => (s + l.length) :: cum (s + l.length) ls
/-- The document's outbox and ours say the same. -/
def Sim (ls : List (List UInt8)) (bs : List UInt8) (ends : List Nat) (sent : Nat) : Prop :=
  Full ls ∧ sent ≤ bs.length ∧ bs.drop sent = ls.flatten ∧ ∃ E0, ends = E0 ++ cum sent ls ∧ ∀ x ∈ E0, x ≤ sent
theorem Sim.zero : Sim [] [] [] 0 := ⟨by intro l hl; simp at hl, Nat.le_refl _, rfl, [], rfl, by simp⟩
theorem cum_gt : ∀ (ls : List (List UInt8)) (s : Nat), Full ls → ∀ x ∈ cum s ls, s < x
  | [], s, _, x, hx => by simp [cum] at hx
  | l :: ls, s, h, x, hx => by
    have hl := List.length_pos_iff.2 (h l (by simp))
    rcases List.mem_cons.1 hx with rfl | hx
    · omega
    · have := cum_gt ls (s + l.length) (fun y hy => h y (by simp [hy])) x hx
      omega
theorem cum_length : ∀ (ls : List (List UInt8)) (s : Nat), (cum s ls).length = ls.length
  | [], s => rfl
  | l :: ls, s => by simp [cum, cum_length ls]
theorem cum_snoc : ∀ (ls : List (List UInt8)) (s : Nat) (l : List UInt8), cum s (ls ++ [l]) = cum s ls ++ [s + lens ls + l.length]
  | [], s, l => by simp [cum, lens]
  | k :: ls, s, l => by
    simp only [List.cons_append, cum, cum_snoc ls, List.cons.injEq, true_and]
    congr 2
    simp [lens]
    omega
theorem Sim.len {ls : List (List UInt8)} {bs : List UInt8} {ends : List Nat} {sent : Nat} (h : Sim ls bs ends sent) : lenE ends sent = ls.length := by
  obtain ⟨hF, _, _, E0, rfl, hE⟩ := h
  unfold lenE
  rw [List.filter_append, List.length_append, List.filter_eq_nil_iff.2 (fun x hx => by have := hE x hx; simp; omega), List.filter_eq_self.2 (fun x hx => by have := cum_gt ls sent hF x hx; simpa using this), cum_length]
  simp
theorem Sim.left {ls : List (List UInt8)} {bs : List UInt8} {ends : List Nat} {sent : Nat} (h : Sim ls bs ends sent) : bs.length = sent + lens ls := by
  obtain ⟨_, h1, h2, _⟩ := h
  have := congrArg List.length h2
  rw [List.length_drop, ← lens_flat] at this
  omega
theorem Sim.put {ls : List (List UInt8)} {bs : List UInt8} {ends : List Nat} {sent : Nat} (h : Sim ls bs ends sent) {l : List UInt8} (h0 : l ≠ []) : Sim (ls ++ [l]) (bs ++ l) (ends ++ [bs.length + l.length]) sent := by
  have hl := h.left
  obtain ⟨hF, h1, h2, E0, rfl, hE⟩ := h
  refine ⟨fun x hx => ?_, by simp; omega, by rw [List.drop_append_of_le_length h1, h2]; simp, E0, by rw [cum_snoc, ← hl, List.append_assoc], hE⟩
  rcases List.mem_append.1 hx with hx | hx
  · exact hF x hx
  · obtain rfl : x = l := by simpa using hx
    exact h0
theorem cum_drop : ∀ (ls : List (List UInt8)) (s N : Nat), Full ls → N ≤ lens ls → ∃ E0, cum s ls = E0 ++ cum (s + N) (dropB ls N) ∧ ∀ x ∈ E0, x ≤ s + N
  | [], s, N, _, hN => ⟨[], by simp [lens] at hN; subst hN; rw [dropB_zero _ (by intro l hl; simp at hl)]; rfl, by simp⟩
  | l :: ls, s, N, h, hN => by
    by_cases hlt : N < l.length
    · refine ⟨[], ?_, by simp⟩
      rw [dropB_lt l ls N hlt]
      simp only [cum, List.nil_append, List.length_drop]
      rw [show s + N + (l.length - N) = s + l.length by omega]
    · obtain ⟨E0, h1, h2⟩ := cum_drop ls (s + l.length) (N - l.length) (fun y hy => h y (by simp [hy])) (by simp [lens] at hN ⊢; omega)
      have hd : dropB (l :: ls) N = dropB ls (N - l.length) := by
        have e := dropB_add (l :: ls) l.length (N - l.length)
        rw [dropB_eq l ls (fun y hy => h y (by simp [hy])), show l.length + (N - l.length) = N by omega] at e
        exact e.symm
      refine ⟨(s + l.length) :: E0, ?_, fun x hx => ?_⟩
      · rw [hd]
        simp only [cum, List.cons_append]
        rw [h1, show s + l.length + (N - l.length) = s + N by omega]
      · rcases List.mem_cons.1 hx with rfl | hx
        · omega
        · have := h2 x hx; omega
theorem Sim.take {ls : List (List UInt8)} {bs : List UInt8} {ends : List Nat} {sent : Nat} (h : Sim ls bs ends sent) {N : Nat} (hN : N ≤ lens ls) : Sim (dropB ls N) bs ends (sent + N) := by
  have hl := h.left
  obtain ⟨hF, h1, h2, E0, rfl, hE⟩ := h
  obtain ⟨E1, e1, e2⟩ := cum_drop ls sent N hF hN
  refine ⟨hF.drop N, by omega, by rw [dropB_flat, ← h2, List.drop_drop], E0 ++ E1, by rw [e1, List.append_assoc], fun x hx => ?_⟩
  rcases List.mem_append.1 hx with hx | hx
  · have := hE x hx; omega
  · exact e2 x hx
theorem Sim.takeN {ls : List (List UInt8)} {bs : List UInt8} {ends : List Nat} {sent : Nat} (h : Sim ls bs ends sent) (n : Int) : rTake bs sent n = takeN ls n := by
  have := h.left
  unfold rTake Go.Proofs.Ytmjikfhabfodkaa.takeN
  omega
end Go.Proofs.Ytmjikfhabfodkaa
