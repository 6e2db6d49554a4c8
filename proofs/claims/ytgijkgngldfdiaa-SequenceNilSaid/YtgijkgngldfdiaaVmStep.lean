/- One instruction of the machine, any. Helper. -/
import Derived.Test.YtgijkgngldfdiaaVmSend
import Derived.Test.YtgijkgngldfdiaaVmTell
namespace Go.Proofs.Ytgijkgngldfdiaa
open Go.RowKit
set_option linter.unusedVariables false
set_option linter.unusedSimpArgs false
def Vm.step (c : Cfg) (op : Nat) (n : Int) (s : Vm) : Vm :=
  if op = 1 then s.push n
  else if op = 2 then s.push (s.vars.getD n.toNat 0)
  else if op = 3 then { s.pop with vars := s.vars.set n.toNat s.top }
  else if op = 4 then s.push c.time
  else if op = 5 then s.push c.data
  else if op = 6 then s.push c.self
  else if op = 7 then { s.push (chanceV c.seed s.drawn) with drawn := wrap64 (s.drawn + 1) }
  else if op = 8 then s.pop.pop.push (wrap64 (s.pop.top + s.top))
  else if op = 9 then s.pop.pop.push (wrap64 (s.pop.top - s.top))
  else if op = 10 then s.pop.pop.push (wrap64 (s.pop.top * s.top))
  else if op = 11 then s.pop.pop.push (if s.pop.top < s.top then 1 else 0)
  else if op = 12 then s.pop.pop.push (if s.pop.top = s.top then 1 else 0)
  else if op = 13 then { s with pc := n.toNat }
  else if op = 14 then (if s.top = 0 then { s.pop with pc := n.toNat } else s.pop)
  else if op = 15 then Vm.sendV c s n
  else if op = 16 then Vm.tellV c s
  else { s with pc := 129 }
/-- May an instruction be, of a program of so many variables and kinds, in a kind of so many? -/
structure InsOk (vars kinds len op : Nat) (n : Int) : Prop where
  lo : 1 ≤ op
  hi : op ≤ 17
  var : op = 2 ∨ op = 3 → 0 ≤ n ∧ n < vars
  go : op = 13 ∨ op = 14 → 0 ≤ n ∧ n ≤ len
  send : op = 15 → 0 ≤ n ∧ n < kinds
def deed (op : Nat) : Nat :=
  if op = 1 then 83 else if op = 2 then 84 else if op = 3 then 85 else if op = 4 then 86
  else if op = 5 then 87 else if op = 6 then 88 else if op = 7 then 89 else if op = 8 then 90
  else if op = 9 then 91 else if op = 10 then 92 else if op = 11 then 93 else if op = 12 then 94
  else if op = 13 then 95 else if op = 14 then 96 else if op = 15 then 97 else if op = 16 then 98 else 99
theorem step_any (Hm : Nat → Prop) (R MB : Nat) (c : Cfg) (s : Vm) (op : Nat) (n : Int) (kinds len : Nat) (w : World) (h : RunH w Hm R MB c s) (hok : InsOk s.vars.length kinds len op n)
    (hl : s.vars.length ≤ 4294967295) (ht : s.tells.length ≤ 4294967295) (hp : 1 ≤ c.procs ∧ c.procs ≤ 16) (htm : 0 ≤ c.time ∧ c.time ≤ 1099511627776) :
    Calls Try.prog (deed op) #[.pointer (some ⟨R, 0, none⟩), .int .i64 n] w fun e w' => e = .returned (.tuple #[]) ∧ Done w w' Hm R MB c (s.step c op n) := by
  obtain ⟨h1, h2, hv, hg, hs⟩ := hok
  have hc : op = 1 ∨ op = 2 ∨ op = 3 ∨ op = 4 ∨ op = 5 ∨ op = 6 ∨ op = 7 ∨ op = 8 ∨ op = 9 ∨ op = 10 ∨ op = 11 ∨ op = 12 ∨ op = 13 ∨ op = 14 ∨ op = 15 ∨ op = 16 ∨ op = 17 := by omega
  rcases hc with rfl | rfl | rfl | rfl | rfl | rfl | rfl | rfl | rfl | rfl | rfl | rfl | rfl | rfl | rfl | rfl | rfl
  · exact push_any Hm R MB c s n w h
  · obtain ⟨g1, g2⟩ := hv (.inl rfl)
    obtain ⟨i, rfl⟩ := Int.eq_ofNat_of_zero_le g1
    have hi : i < s.vars.length := by omega
    have e : s.step c 2 (i : Int) = s.push s.vars[i] := by
      show s.push (s.vars.getD (i : Int).toNat 0) = _
      rw [Int.toNat_natCast, List.getD_eq_getElem?_getD, List.getElem?_eq_getElem hi]; rfl
    rw [e]
    exact load_any Hm R MB c s w i hi h hl
  · obtain ⟨g1, g2⟩ := hv (.inr rfl)
    obtain ⟨i, rfl⟩ := Int.eq_ofNat_of_zero_le g1
    exact store_any Hm R MB c s w i (by omega) h hl
  · exact time_any Hm R MB c s n w h
  · exact data_any Hm R MB c s n w h
  · exact self_any Hm R MB c s n w h
  · exact chanceop_any Hm R MB c s n w h
  · exact add_any Hm R MB c s n w h
  · exact sub_any Hm R MB c s n w h
  · exact mul_any Hm R MB c s n w h
  · exact less_any Hm R MB c s n w h
  · exact same_any Hm R MB c s n w h
  · obtain ⟨g1, g2⟩ := hg (.inl rfl)
    obtain ⟨i, rfl⟩ := Int.eq_ofNat_of_zero_le g1
    exact jump_any Hm R MB c s w i h
  · obtain ⟨g1, g2⟩ := hg (.inr rfl)
    obtain ⟨i, rfl⟩ := Int.eq_ofNat_of_zero_le g1
    exact zero_any Hm R MB c s w i h
  · exact send_any Hm R MB c s n w h hp htm
  · exact tell_any Hm R MB c s n w h ht
  · exact end_any Hm R MB c s n w h
/-- The variables' number stays; few are sent, few told. -/
def Keeps (s s' : Vm) : Prop := s'.vars.length = s.vars.length ∧ (s.tells.length ≤ 4 → s'.tells.length ≤ 4) ∧ (s.sends.length ≤ 4 → s'.sends.length ≤ 4)
theorem keeps_push (s : Vm) (n : Int) : Keeps s (s.push n) := by unfold Vm.push; split <;> exact ⟨rfl, id, id⟩
theorem keeps_push1 (s : Vm) (n : Int) : Keeps s (s.pop.pop.push n) := by unfold Vm.push; split <;> exact ⟨rfl, id, id⟩
theorem keeps_push2 (s : Vm) (n d : Int) : Keeps s { s.push n with drawn := d } := by unfold Vm.push; split <;> exact ⟨rfl, id, id⟩
theorem keeps_send (c : Cfg) (s : Vm) (n : Int) : Keeps s (Vm.sendV c s n) := by
  unfold Vm.sendV Vm.sendTo
  split
  · exact ⟨rfl, id, id⟩
  · rename_i h
    have h2 : ¬ 4 ≤ s.sends.length := fun g => h (.inr g)
    refine ⟨rfl, id, fun _ => ?_⟩
    show (s.sends ++ [_]).length ≤ 4
    rw [List.length_append, List.length_singleton]
    omega
theorem keeps_tell (c : Cfg) (s : Vm) : Keeps s (Vm.tellV c s) := by
  unfold Vm.tellV
  split
  · refine ⟨rfl, fun _ => ?_, id⟩
    show (s.tells ++ [_]).length ≤ 4
    rw [List.length_append, List.length_singleton]
    omega
  · exact ⟨rfl, id, id⟩
theorem keeps_step (c : Cfg) (op : Nat) (n : Int) (s : Vm) : Keeps s (s.step c op n) := by
  unfold Vm.step
  by_cases h1 : op = 1
  · rw [if_pos h1]
    exact keeps_push _ _
  rw [if_neg h1]
  by_cases h2 : op = 2
  · rw [if_pos h2]
    exact keeps_push _ _
  rw [if_neg h2]
  by_cases h3 : op = 3
  · rw [if_pos h3]
    exact ⟨by simp [Vm.pop], id, id⟩
  rw [if_neg h3]
  by_cases h4 : op = 4
  · rw [if_pos h4]
    exact keeps_push _ _
  rw [if_neg h4]
  by_cases h5 : op = 5
  · rw [if_pos h5]
    exact keeps_push _ _
  rw [if_neg h5]
  by_cases h6 : op = 6
  · rw [if_pos h6]
    exact keeps_push _ _
  rw [if_neg h6]
  by_cases h7 : op = 7
  · rw [if_pos h7]
    exact keeps_push2 _ _ _
  rw [if_neg h7]
  by_cases h8 : op = 8
  · rw [if_pos h8]
    exact keeps_push1 _ _
  rw [if_neg h8]
  by_cases h9 : op = 9
  · rw [if_pos h9]
    exact keeps_push1 _ _
  rw [if_neg h9]
  by_cases h10 : op = 10
  · rw [if_pos h10]
    exact keeps_push1 _ _
  rw [if_neg h10]
  by_cases h11 : op = 11
  · rw [if_pos h11]
    exact keeps_push1 _ _
  rw [if_neg h11]
  by_cases h12 : op = 12
  · rw [if_pos h12]
    exact keeps_push1 _ _
  rw [if_neg h12]
  by_cases h13 : op = 13
  · rw [if_pos h13]
    exact ⟨rfl, id, id⟩
  rw [if_neg h13]
  by_cases h14 : op = 14
  · rw [if_pos h14]
    by_cases h0 : s.top = 0
    · rw [if_pos h0]; exact ⟨rfl, id, id⟩
    · rw [if_neg h0]; exact ⟨rfl, id, id⟩
  rw [if_neg h14]
  by_cases h15 : op = 15
  · rw [if_pos h15]
    exact keeps_send _ _ _
  rw [if_neg h15]
  by_cases h16 : op = 16
  · rw [if_pos h16]
    exact keeps_tell _ _
  rw [if_neg h16]
  exact ⟨rfl, id, id⟩
/-- The run, so much fuel. -/
def Vm.go (c : Cfg) (l : List (Nat × Int)) : Nat → Vm → Vm
  | 0, s => s
  | f + 1, s => if h : s.pc < l.length then Vm.go c l f (({ s with pc := s.pc + 1 } : Vm).step c (l[s.pc]).1 (l[s.pc]).2) else s
theorem keeps_go (c : Cfg) (l : List (Nat × Int)) : ∀ (f : Nat) (s : Vm), Keeps s (Vm.go c l f s)
  | 0, s => ⟨rfl, id, id⟩
  | f + 1, s => by
    unfold Vm.go
    split
    · rename_i h
      obtain ⟨a1, a2, a3⟩ := keeps_step c (l[s.pc]).1 (l[s.pc]).2 ({ s with pc := s.pc + 1 } : Vm)
      obtain ⟨b1, b2, b3⟩ := keeps_go c l f (({ s with pc := s.pc + 1 } : Vm).step c (l[s.pc]).1 (l[s.pc]).2)
      exact ⟨b1.trans a1, fun h => b2 (a2 h), fun h => b3 (a3 h)⟩
    · exact ⟨rfl, id, id⟩
theorem go_stop (c : Cfg) (l : List (Nat × Int)) (f : Nat) (s : Vm) (h : ¬ s.pc < l.length) : Vm.go c l f s = s := by
  cases f with
  | zero => rfl
  | succ f => unfold Vm.go; rw [dif_neg h]
theorem go_next (c : Cfg) (l : List (Nat × Int)) (f : Nat) (s : Vm) (h : s.pc < l.length) : Vm.go c l (f + 1) s = Vm.go c l f (({ s with pc := s.pc + 1 } : Vm).step c (l[s.pc]).1 (l[s.pc]).2) := by
  rw [Vm.go, dif_pos h]
end Go.Proofs.Ytgijkgngldfdiaa
