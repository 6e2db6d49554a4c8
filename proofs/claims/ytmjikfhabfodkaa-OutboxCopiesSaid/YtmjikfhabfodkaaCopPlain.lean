/- Outbox: when two are the same, plainly; two pairs side by side. Helper of OutboxCopies. -/
import Derived.Test.YtmjikfhabfodkaaCopDo
namespace Go.Proofs.Ytmjikfhabfodkaa
open Go.RowKit
set_option linter.unusedVariables false
set_option linter.unusedSimpArgs false
theorem cum_inj : ∀ (ls ls' : List (List UInt8)) (s : Nat), cum s ls = cum s ls' → ls.flatten = ls'.flatten → ls = ls'
  | [], [], _, _, _ => rfl
  | [], l :: ls, s, h, _ => by simp [cum] at h
  | l :: ls, [], s, h, _ => by simp [cum] at h
  | l :: ls, l' :: ls', s, h, hf => by
    simp only [cum, List.cons.injEq] at h
    have hl : l.length = l'.length := by omega
    simp only [List.flatten_cons] at hf
    obtain ⟨rfl, hf'⟩ := List.append_inj hf hl
    rw [cum_inj ls ls' (s + l.length) h.2 hf']
theorem Sim.ends_at {ls : List (List UInt8)} {bs : List UInt8} {ends : List Nat} {sent : Nat} (h : Sim ls bs ends sent) {i : Nat} (h1 : 1 ≤ i) (hi : i ≤ ls.length) :
    ls.length ≤ ends.length ∧ ends[ends.length - i]? = (cum sent ls)[ls.length - i]? := by
  obtain ⟨_, _, _, E0, rfl, _⟩ := h
  have hc := cum_length ls sent
  rw [List.length_append, hc]
  refine ⟨by omega, ?_⟩
  rw [List.getElem?_append_right (by omega)]
  congr 1
  omega
/-- Are the last k ends the same? -/
theorem cum_all {ls ls' : List (List UInt8)} {s : Nat} (hl : ls.length = ls'.length) (h : ∀ i, 1 ≤ i → i ≤ ls.length → (cum s ls)[ls.length - i]? = (cum s ls')[ls.length - i]?) : cum s ls = cum s ls' := by
  have c1 := cum_length ls s
  have c2 := cum_length ls' s
  apply List.ext_getElem?
  intro j
  by_cases hj : j < ls.length
  · have := h (ls.length - j) (by omega) (by omega)
    rwa [show ls.length - (ls.length - j) = j by omega] at this
  · rw [List.getElem?_eq_none (by omega), List.getElem?_eq_none (by omega)]
theorem Apart.step {w w' : World} {H1 H2 : Nat → Prop} (h : Apart w H1 H2) (hc : Chg (MO w H1) w w') (hb : ∀ k, H2 k → k < w.heap.size) : Apart w' (fun k => (H1 k ∨ w.heap.size ≤ k) ∧ k < w'.heap.size) H2 := by
  intro k cs t fr hg h1 h2
  have hk := hb k h2
  have h1' : H1 k := h1.1.resolve_right (by omega)
  by_cases hm : MO w H1 k
  · obtain ⟨_, cs', fr', t', ht, hg'⟩ := hm
    obtain ⟨a1, a2, a3⟩ := h k cs' t' fr' hg' h1' h2
    rcases ht with e | e | e
    · exact absurd e a1
    · exact absurd e a2
    · exact absurd e a3
  · rw [hc.block k hk hm] at hg
    exact h k cs t fr hg h1' h2
theorem Apart.symm {w : World} {H1 H2 : Nat → Prop} (h : Apart w H1 H2) : Apart w H2 H1 := fun k cs t fr hg h1 h2 => h k cs t fr hg h2 h1
theorem Apart.new {w w' : World} {H1 H2 : Nat → Prop} (h : Apart w H1 H2) (hB : Below w.heap.size w w') (hb : ∀ k, H2 k → k < w.heap.size) : Apart w' H1 H2 := by
  intro k cs t fr hg h1 h2
  rw [hB.block k (hb k h2)] at hg
  exact h k cs t fr hg h1 h2
theorem BothH.both {w : World} {Hm : Nat → Prop} {B R : Nat} {ls : List (List UInt8)} {bs : List UInt8} {ends : List Nat} {sent M : Nat} (h : BothH w Hm B R ls bs ends sent M) : Both w 0 B R ls bs ends sent M :=
  ⟨h.ob.mono (fun _ _ _ => Nat.zero_le _), h.rb.mono (fun _ _ _ => Nat.zero_le _), h.sim, h.le, h.big, Nat.zero_le _⟩
/-- Two pairs, each in its home. -/
structure Pairs (w0 w : World) (H1 H2 : Nat → Prop) (B R P V : Nat) (ls : List (List UInt8)) (bs : List UInt8) (ends : List Nat) (sent : Nat) (ls' : List (List UInt8)) (bs' : List UInt8) (ends' : List Nat) (sent' M : Nat) : Prop where
  one : BothH w H1 B R ls bs ends sent M
  two : BothH w H2 P V ls' bs' ends' sent' M
  apart : Apart w H1 H2
  b1 : ∀ k, H1 k → k < w.heap.size
  b2 : ∀ k, H2 k → k < w.heap.size
  g1 : ∀ k, H1 k → w0.heap.size ≤ k
  g2 : ∀ k, H2 k → w0.heap.size ≤ k
  bel : Below w0.heap.size w0 w
theorem Pairs.turn {w0 w w' : World} {H1 H2 : Nat → Prop} {B R P V : Nat} {ls : List (List UInt8)} {bs : List UInt8} {ends : List Nat} {sent : Nat} {ls' : List (List UInt8)} {bs' : List UInt8} {ends' : List Nat} {sent' M : Nat}
    (h : Pairs w0 w H1 H2 B R P V ls bs ends sent ls' bs' ends' sent' M) {lsn : List (List UInt8)} {bsn : List UInt8} {endsn : List Nat} {sentn : Nat} (hn : BothH w' (fun k => H1 k ∨ w.heap.size ≤ k) B R lsn bsn endsn sentn M) (hc : Chg (MO w H1) w w') :
    Pairs w0 w' (fun k => (H1 k ∨ w.heap.size ≤ k) ∧ k < w'.heap.size) H2 B R P V lsn bsn endsn sentn ls' bs' ends' sent' M := by
  have hs := h.bel.size
  refine ⟨hn.mono fun k h1 h2 => ⟨h2, h1⟩, h.two.far hc h.apart, h.apart.step hc h.b2, fun k hk => hk.2, fun k hk => Nat.lt_of_lt_of_le (h.b2 k hk) hc.size, fun k hk => ?_, h.g2, h.bel.trans (hc.below (fun k _ hm => h.g1 k hm.1) hs)⟩
  rcases hk.1 with g | g
  · exact h.g1 k g
  · omega
theorem Pairs.swap {w0 w : World} {H1 H2 : Nat → Prop} {B R P V : Nat} {ls : List (List UInt8)} {bs : List UInt8} {ends : List Nat} {sent : Nat} {ls' : List (List UInt8)} {bs' : List UInt8} {ends' : List Nat} {sent' M : Nat}
    (h : Pairs w0 w H1 H2 B R P V ls bs ends sent ls' bs' ends' sent' M) : Pairs w0 w H2 H1 P V B R ls' bs' ends' sent' ls bs ends sent M :=
  ⟨h.two, h.one, h.apart.symm, h.b2, h.b1, h.g2, h.g1, h.bel⟩
theorem Pairs.new {w0 w w' : World} {H1 H2 : Nat → Prop} {B R P V : Nat} {ls : List (List UInt8)} {bs : List UInt8} {ends : List Nat} {sent : Nat} {ls' : List (List UInt8)} {bs' : List UInt8} {ends' : List Nat} {sent' M : Nat}
    (h : Pairs w0 w H1 H2 B R P V ls bs ends sent ls' bs' ends' sent' M) (hB : Below w.heap.size w w') : Pairs w0 w' H1 H2 B R P V ls bs ends sent ls' bs' ends' sent' M :=
  ⟨h.one.new hB, h.two.new hB, h.apart.new hB h.b2, fun k hk => Nat.lt_of_lt_of_le (h.b1 k hk) hB.size, fun k hk => Nat.lt_of_lt_of_le (h.b2 k hk) hB.size, h.g1, h.g2, h.bel.trans (hB.mono h.bel.size)⟩
end Go.Proofs.Ytmjikfhabfodkaa
