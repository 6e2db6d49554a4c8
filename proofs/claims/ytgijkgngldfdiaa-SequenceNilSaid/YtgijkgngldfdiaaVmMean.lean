/- What a run's answer means: plain. Helper. -/
import Derived.Test.YtgijkgngldfdiaaVmKinds
namespace Go.Proofs.Ytgijkgngldfdiaa
open Go.RowKit
set_option linter.unusedVariables false
set_option linter.unusedSimpArgs false
structure Means (c : Cfg) (sent0 drawn0 : Int) (f : Nat) (s : Vm) : Prop where
  ns : s.sends.length ≤ 4
  nt : s.tells.length ≤ 4
  sent : s.sent = sent0 + (s.sends.length : Int)
  drawn : drawn0 ≤ s.drawn ∧ s.drawn ≤ drawn0 + (f : Int)
  snd : ∀ j (h : j < s.sends.length), ∃ t dst kd d, s.sends[j] = [t, c.self, sent0 + (j : Int), dst, kd, d] ∧ c.time < t ∧ t ≤ 1099511627776 ∧ 1 ≤ dst ∧ dst ≤ c.procs
  tel : ∀ j (h : j < s.tells.length), ∃ v, s.tells[j] = [c.time, c.origin, c.seq, c.self, (j : Int), v]
theorem Means.of_eq {c : Cfg} {a b : Int} {f f' : Nat} {s s' : Vm} (h : Means c a b f s) (hf : f ≤ f') (e1 : s'.sends = s.sends) (e2 : s'.tells = s.tells) (e3 : s'.sent = s.sent) (e4 : s'.drawn = s.drawn) : Means c a b f' s' := by
  obtain ⟨h1, h2, h3, h4, h5, h6⟩ := h
  refine ⟨by rw [e1]; exact h1, by rw [e2]; exact h2, by rw [e1, e3]; exact h3, by rw [e4]; omega, fun j hj => ?_, fun j hj => ?_⟩
  · have hj' : j < s.sends.length := by rw [← e1]; exact hj
    simp only [e1]; exact h5 j hj'
  · have hj' : j < s.tells.length := by rw [← e2]; exact hj
    simp only [e2]; exact h6 j hj'
theorem push_four (s : Vm) (n : Int) : (s.push n).sends = s.sends ∧ (s.push n).tells = s.tells ∧ (s.push n).sent = s.sent ∧ (s.push n).drawn = s.drawn := by unfold Vm.push; split <;> exact ⟨rfl, rfl, rfl, rfl⟩
theorem Means.push {c : Cfg} {a b : Int} {f f' : Nat} {s s' : Vm} (h : Means c a b f s) (hf : f ≤ f') (n : Int) (e : s'.sends = s.sends ∧ s'.tells = s.tells ∧ s'.sent = s.sent ∧ s'.drawn = s.drawn) : Means c a b f' (s'.push n) := by
  obtain ⟨p1, p2, p3, p4⟩ := push_four s' n
  exact h.of_eq hf (p1.trans e.1) (p2.trans e.2.1) (p3.trans e.2.2.1) (p4.trans e.2.2.2)
theorem Means.send {c : Cfg} {a b : Int} {f : Nat} {s : Vm} (h : Means c a b f s) (hp : 1 ≤ c.procs) (ha : 0 ≤ a ∧ a ≤ 2199023255552) (x y z k : Int) : Means c a b f (Vm.sendTo c s x y z k) := by
  unfold Vm.sendTo
  split
  · exact h
  · rename_i hn
    have hc : ¬ 1099511627776 < c.time + clampD y := fun g => hn (.inl g)
    have hl : ¬ 4 ≤ s.sends.length := fun g => hn (.inr g)
    have hb := clamp_bd y
    have ht := toP_bd x c.procs hp
    obtain ⟨h1, h2, h3, h4, h5, h6⟩ := h
    have hw : wrap64 (s.sent + 1) = s.sent + 1 := by unfold wrap64; omega
    refine ⟨by show (s.sends ++ [_]).length ≤ 4; rw [List.length_append, List.length_singleton]; omega, h2, ?_, h4, fun j hj => ?_, h6⟩
    · show wrap64 (s.sent + 1) = a + ((s.sends ++ [_]).length : Int)
      rw [hw, List.length_append, List.length_singleton]; omega
    · have hj2 : j < (s.sends ++ [[c.time + clampD y, c.self, s.sent, toP x c.procs, k, z]]).length := hj
      show ∃ t dst kd d, (s.sends ++ [[c.time + clampD y, c.self, s.sent, toP x c.procs, k, z]])[j] = _ ∧ _
      by_cases e : j < s.sends.length
      · rw [List.getElem_append_left e]; exact h5 j e
      · have e2 : j = s.sends.length := by rw [List.length_append, List.length_singleton] at hj2; omega
        subst e2
        refine ⟨c.time + clampD y, toP x c.procs, k, z, ?_, by omega, by omega, ht.1, ht.2⟩
        rw [List.getElem_append_right (Nat.le_refl _)]
        simp [h3]
theorem Means.tell {c : Cfg} {a b : Int} {f : Nat} {s : Vm} (h : Means c a b f s) : Means c a b f (Vm.tellV c s) := by
  unfold Vm.tellV
  split
  · rename_i hl
    obtain ⟨h1, h2, h3, h4, h5, h6⟩ := h
    refine ⟨h1, by show (s.tells ++ [_]).length ≤ 4; rw [List.length_append, List.length_singleton]; omega, h3, h4, h5, fun j hj => ?_⟩
    have hj2 : j < (s.tells ++ [[c.time, c.origin, c.seq, c.self, (s.tells.length : Int), s.top]]).length := hj
    show ∃ v, (s.tells ++ [[c.time, c.origin, c.seq, c.self, (s.tells.length : Int), s.top]])[j] = _
    by_cases e : j < s.tells.length
    · rw [List.getElem_append_left e]; exact h6 j e
    · have e2 : j = s.tells.length := by rw [List.length_append, List.length_singleton] at hj2; omega
      subst e2
      exact ⟨s.top, by rw [List.getElem_append_right (Nat.le_refl _)]; simp⟩
  · exact h.of_eq (Nat.le_refl _) rfl rfl rfl rfl
theorem Means.step {c : Cfg} {a b : Int} {f : Nat} {s : Vm} (h : Means c a b f s) (hp : 1 ≤ c.procs) (ha : 0 ≤ a ∧ a ≤ 2199023255552) (hb : 0 ≤ b ∧ b ≤ 2199023255552) (hf : f ≤ 300) (op : Nat) (n : Int) : Means c a b (f + 1) (s.step c op n) := by
  have hq : f ≤ f + 1 := by omega
  unfold Vm.step
  by_cases h1 : op = 1
  · rw [if_pos h1]; exact h.push hq _ ⟨rfl, rfl, rfl, rfl⟩
  rw [if_neg h1]
  by_cases h2 : op = 2
  · rw [if_pos h2]; exact h.push hq _ ⟨rfl, rfl, rfl, rfl⟩
  rw [if_neg h2]
  by_cases h3 : op = 3
  · rw [if_pos h3]; exact h.of_eq hq rfl rfl rfl rfl
  rw [if_neg h3]
  by_cases h4 : op = 4
  · rw [if_pos h4]; exact h.push hq _ ⟨rfl, rfl, rfl, rfl⟩
  rw [if_neg h4]
  by_cases h5 : op = 5
  · rw [if_pos h5]; exact h.push hq _ ⟨rfl, rfl, rfl, rfl⟩
  rw [if_neg h5]
  by_cases h6 : op = 6
  · rw [if_pos h6]; exact h.push hq _ ⟨rfl, rfl, rfl, rfl⟩
  rw [if_neg h6]
  by_cases h7 : op = 7
  · rw [if_pos h7]
    obtain ⟨p1, p2, p3, p4⟩ := push_four s (chanceV c.seed s.drawn)
    have hd := h.drawn
    have hw : wrap64 (s.drawn + 1) = s.drawn + 1 := by unfold wrap64; omega
    obtain ⟨q1, q2, q3, q4, q5, q6⟩ := h.of_eq (s' := s.push (chanceV c.seed s.drawn)) hq p1 p2 p3 p4
    exact ⟨q1, q2, q3, by show b ≤ wrap64 (s.drawn + 1) ∧ wrap64 (s.drawn + 1) ≤ _; rw [hw]; omega, q5, q6⟩
  rw [if_neg h7]
  by_cases h8 : op = 8
  · rw [if_pos h8]; exact h.push hq _ ⟨rfl, rfl, rfl, rfl⟩
  rw [if_neg h8]
  by_cases h9 : op = 9
  · rw [if_pos h9]; exact h.push hq _ ⟨rfl, rfl, rfl, rfl⟩
  rw [if_neg h9]
  by_cases h10 : op = 10
  · rw [if_pos h10]; exact h.push hq _ ⟨rfl, rfl, rfl, rfl⟩
  rw [if_neg h10]
  by_cases h11 : op = 11
  · rw [if_pos h11]; exact h.push hq _ ⟨rfl, rfl, rfl, rfl⟩
  rw [if_neg h11]
  by_cases h12 : op = 12
  · rw [if_pos h12]; exact h.push hq _ ⟨rfl, rfl, rfl, rfl⟩
  rw [if_neg h12]
  by_cases h13 : op = 13
  · rw [if_pos h13]; exact h.of_eq hq rfl rfl rfl rfl
  rw [if_neg h13]
  by_cases h14 : op = 14
  · rw [if_pos h14]
    by_cases h0 : s.top = 0
    · rw [if_pos h0]; exact h.of_eq hq rfl rfl rfl rfl
    · rw [if_neg h0]; exact h.of_eq hq rfl rfl rfl rfl
  rw [if_neg h14]
  by_cases h15 : op = 15
  · rw [if_pos h15]
    unfold Vm.sendV
    exact ((h.of_eq hq (s' := s.pop.pop.pop) rfl rfl rfl rfl)).send hp ha _ _ _ _
  rw [if_neg h15]
  by_cases h16 : op = 16
  · rw [if_pos h16]; exact (h.of_eq hq (s' := s) rfl rfl rfl rfl).tell
  rw [if_neg h16]
  exact h.of_eq hq rfl rfl rfl rfl
theorem Means.go {c : Cfg} {a b : Int} (hp : 1 ≤ c.procs) (ha : 0 ≤ a ∧ a ≤ 2199023255552) (hb : 0 ≤ b ∧ b ≤ 2199023255552) (l : List (Nat × Int)) : ∀ (f g : Nat) (s : Vm), Means c a b g s → g + f ≤ 256 → Means c a b 256 (Vm.go c l f s)
  | 0, g, s, h, hg => h.of_eq (by omega) rfl rfl rfl rfl
  | f + 1, g, s, h, hg => by
    unfold Vm.go
    split
    · exact Means.go hp ha hb l f (g + 1) _ ((h.of_eq (Nat.le_refl _) (s' := { s with pc := s.pc + 1 }) rfl rfl rfl rfl).step hp ha hb (by omega) _ _) (by omega)
    · exact h.of_eq (by omega) rfl rfl rfl rfl
theorem means_run (me procs seed : Int) (ks : List (List (Nat × Int))) (T O S d : Int) (kq : Nat) (l : List Int) (sent drawn : Int) (hp : 1 ≤ procs) (ha : 0 ≤ sent ∧ sent ≤ 2199023255552) (hb : 0 ≤ drawn ∧ drawn ≤ 2199023255552) :
    Means ⟨T, O, S, me, kq, d, me, procs, seed, none, 0, none⟩ sent drawn 256 (runV me procs seed ks T O S d kq l sent drawn) ∧ (runV me procs seed ks T O S d kq l sent drawn).vars.length = l.length := by
  have h0 : Means ⟨T, O, S, me, kq, d, me, procs, seed, none, 0, none⟩ sent drawn 0 (vm0 l sent drawn) :=
    ⟨Nat.zero_le _, Nat.zero_le _, by show sent = sent + ((0 : Nat) : Int); simp, by show drawn ≤ drawn ∧ drawn ≤ drawn + ((0 : Nat) : Int); simp, fun j hj => absurd hj (Nat.not_lt_zero _), fun j hj => absurd hj (Nat.not_lt_zero _)⟩
  unfold runV
  split
  · exact ⟨Means.go hp ha hb _ 256 0 _ h0 (by omega), (keeps_go _ _ 256 _).1⟩
  · exact ⟨h0.of_eq (by omega) rfl rfl rfl rfl, rfl⟩
end Go.Proofs.Ytgijkgngldfdiaa
