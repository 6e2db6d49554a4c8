/- A run's answer in a box. Helper. -/
import Derived.Test.YtgijkgngldfdiaaVmRefRunNo
import Derived.Test.YtgijkgngldfdiaaOrdB
import Derived.Test.YtgijkgngldfdiaaMore
import Derived.Lib.AppendZerosOnto
import Derived.Lib.Overlaps
import Derived.Lib.SliceRun
import Derived.Test.YtgijkgngldfdiaaVmSmall
import Derived.Deep.RegionLaw
import Derived.Laws.Externs
import Derived.Deep.RegionHeld3
import Derived.Deep.QuietTactic
import Derived.BigQuiet
import Derived.Test.YtgijkgngldfdiaaRegE
import Derived.Maps.Own
import Derived.Maps.OwnOps
import Derived.Maps.OwnSet
import Derived.Maps.Views
import Derived.WalkSpells
namespace Go.Proofs.Ytgijkgngldfdiaa
open Go.RowKit
set_option linter.unusedVariables false
set_option linter.unusedSimpArgs false
/-- What is sent has a kind below so many. -/
def KindB (m : Int) (s : Vm) : Prop := ∀ r ∈ s.sends, 0 ≤ r.getD 4 0 ∧ r.getD 4 0 < m
theorem KindB.of_eq {m : Int} {s s' : Vm} (h : KindB m s) (e : s'.sends = s.sends) : KindB m s' := by unfold KindB; rw [e]; exact h
theorem KindB.push {m : Int} {s : Vm} (h : KindB m s) (n : Int) : KindB m (s.push n) := h.of_eq (push_four s n).1
theorem KindB.send {m : Int} {s : Vm} (h : KindB m s) (c : Cfg) (x y z k : Int) (hk : 0 ≤ k ∧ k < m) : KindB m (Vm.sendTo c s x y z k) := by
  unfold Vm.sendTo
  split
  · exact h
  · intro r hr
    have hr2 : r ∈ s.sends ++ [[c.time + clampD y, c.self, s.sent, toP x c.procs, k, z]] := hr
    rw [List.mem_append] at hr2
    rcases hr2 with hr2 | hr2
    · exact h r hr2
    · rw [List.mem_singleton] at hr2
      subst hr2
      exact hk
theorem KindB.step {m : Int} {s : Vm} (h : KindB m s) (c : Cfg) {vars kinds len op : Nat} {n : Int} (hok : InsOk vars kinds len op n) (hm : (kinds : Int) ≤ m) : KindB m (s.step c op n) := by
  obtain ⟨h1, h2, hv, hg, hs⟩ := hok
  have hc : op = 1 ∨ op = 2 ∨ op = 3 ∨ op = 4 ∨ op = 5 ∨ op = 6 ∨ op = 7 ∨ op = 8 ∨ op = 9 ∨ op = 10 ∨ op = 11 ∨ op = 12 ∨ op = 13 ∨ op = 14 ∨ op = 15 ∨ op = 16 ∨ op = 17 := by omega
  rcases hc with rfl | rfl | rfl | rfl | rfl | rfl | rfl | rfl | rfl | rfl | rfl | rfl | rfl | rfl | rfl | rfl | rfl
  · exact h.push _
  · exact h.push _
  · exact h.of_eq (s' := { s.pop with vars := s.vars.set n.toNat s.top }) rfl
  · exact h.push _
  · exact h.push _
  · exact h.push _
  · exact (h.push (chanceV c.seed s.drawn)).of_eq (s' := { s.push (chanceV c.seed s.drawn) with drawn := wrap64 (s.drawn + 1) }) rfl
  · exact (h.of_eq (s' := s.pop.pop) rfl).push _
  · exact (h.of_eq (s' := s.pop.pop) rfl).push _
  · exact (h.of_eq (s' := s.pop.pop) rfl).push _
  · exact (h.of_eq (s' := s.pop.pop) rfl).push _
  · exact (h.of_eq (s' := s.pop.pop) rfl).push _
  · exact h.of_eq (s' := { s with pc := n.toNat }) rfl
  · show KindB m (if s.top = 0 then { s.pop with pc := n.toNat } else s.pop)
    split
    · exact h.of_eq rfl
    · exact h.of_eq rfl
  · obtain ⟨g1, g2⟩ := hs rfl
    exact KindB.send (h.of_eq (s' := s.pop.pop.pop) rfl) c _ _ _ _ ⟨g1, by omega⟩
  · show KindB m (Vm.tellV c s)
    unfold Vm.tellV
    split
    · exact h.of_eq rfl
    · exact h.of_eq rfl
  · exact h.of_eq (s' := { s with pc := 129 }) rfl
theorem KindB.go {m : Int} (c : Cfg) {vars kinds len : Nat} (l : List (Nat × Int)) (hl : ∀ x ∈ l, InsOk vars kinds len x.1 x.2) (hm : (kinds : Int) ≤ m) : ∀ (f : Nat) (s : Vm), KindB m s → KindB m (Vm.go c l f s)
  | 0, s, h => h
  | f + 1, s, h => by
    unfold Vm.go
    split
    · exact KindB.go c l hl hm f _ ((h.of_eq (s' := { s with pc := s.pc + 1 }) rfl).step c (hl _ (List.getElem_mem _)) hm)
    · exact h
theorem runB_kinds (vars me procs seed : Int) (ks : List (List (Int × Int))) (T O S p q d : Int) (l : List Int) (sent drawn : Int) (hmay : codeMay vars ks = true) : KindB 8 (runB vars me procs seed (nk ks) T O S p q d l sent drawn).1 := by
  have hz : KindB 8 vmZ := fun r hr => absurd hr (by simp [vmZ])
  have h0 : KindB 8 (vm0 l sent drawn) := fun r hr => absurd hr (by simp [vm0])
  unfold runB
  split
  · unfold runA
    split
    · show KindB 8 (runV me procs seed (nk ks) T O S d q.toNat l sent drawn)
      unfold runV
      split
      · rename_i h
        exact KindB.go _ _ (nk_ok hmay q.toNat h).2 (by rw [nk_length]; have := may_vars hmay; omega) 256 _ h0
      · exact h0
    · exact hz
  · exact hz
end Go.Proofs.Ytgijkgngldfdiaa
/- A sequence, plainly. Helper. -/
namespace Go.Proofs.Ytgijkgngldfdiaa
open Go.RowKit
set_option linter.unusedVariables false
set_option linter.unusedSimpArgs false
/-- An event. -/
structure Ev where
  k : Ky
  p : Int
  q : Int
  d : Int
def Ev.row (e : Ev) : List Int := [e.k.T, e.k.O, e.k.S, e.p, e.q, e.d]
def evOf (r : List Int) : Ev := ⟨⟨r.getD 0 0, r.getD 1 0, r.getD 2 0⟩, r.getD 3 0, r.getD 4 0, r.getD 5 0⟩
theorem evOf_row (e : Ev) : evOf e.row = e := rfl
theorem row_evOf {r : List Int} (h : r.length = 6) : (evOf r).row = r := by
  match r, h with
  | [a, b, c, d, e, f], _ => rfl
/-- A process of a model; a model; a state; a sequence (last: the key of what was done last). -/
structure Pr where
  vars : Int
  ks : List (List (Int × Int))
  vals : List Int
  seed : Int
structure Mdl where
  procs : List Pr
  first : List Ev
structure St where
  vars : List Int
  sent : Int
  drawn : Int
structure Sq where
  sts : List St
  w : List Ev
  put : List Int
  done : Nat
  last : Ky
def St.z : St := ⟨[], 0, 0⟩
def Pr.z : Pr := ⟨0, [], [], 0⟩
def Ev.may (e : Ev) (n : Int) : Bool := MayB e.k.T e.k.O e.k.S e.p e.q e.d n
def Pr.may (p : Pr) : Bool := codeMay p.vars p.ks && decide ((p.vals.length : Int) = p.vars)
def firstB (n : Int) (e : Ev) (i : Nat) : Bool := e.may n && decide (e.k.O = 0) && decide (e.k.S = (i : Int))
/-- May a model be? -/
structure Mdl.May (m : Mdl) : Prop where
  n1 : 1 ≤ m.procs.length
  n16 : m.procs.length ≤ 16
  f64 : m.first.length ≤ 64
  pr : ∀ p ∈ m.procs, p.may = true
  ev : ∀ i (h : i < m.first.length), firstB m.procs.length m.first[i] i = true
def Mdl.start (m : Mdl) : Sq := ⟨m.procs.map fun p => ⟨p.vals, 0, 0⟩, m.first, [], 0, ⟨-1, 0, 0⟩⟩
/-- What an event does. -/
def Mdl.run (m : Mdl) (s : Sq) (e : Ev) : Vm × Int :=
  runB (m.procs.getD (e.p - 1).toNat Pr.z).vars e.p m.procs.length (m.procs.getD (e.p - 1).toNat Pr.z).seed (nk (m.procs.getD (e.p - 1).toNat Pr.z).ks) e.k.T e.k.O e.k.S e.p e.q e.d
    (s.sts.getD (e.p - 1).toNat St.z).vars (s.sts.getD (e.p - 1).toNat St.z).sent (s.sts.getD (e.p - 1).toNat St.z).drawn
def Mdl.after (m : Mdl) (s : Sq) (e : Ev) (rest : List Ev) : Sq :=
  ⟨s.sts.set (e.p - 1).toNat ⟨(m.run s e).1.vars, (m.run s e).1.sent, (m.run s e).1.drawn⟩, rest ++ (m.run s e).1.sends.map evOf, s.put, s.done + 1, e.k⟩
/-- An event is put in: an error, or it waits. -/
def Mdl.putErr (m : Mdl) (s : Sq) (e : Ev) : Int :=
  if e.may m.procs.length && decide (e.k.O = 17) then (if s.put.contains e.k.S then 7 else if e.k.T ≤ s.last.T then 8 else 0) else 2
def Sq.add (s : Sq) (e : Ev) : Sq := { s with w := s.w ++ [e], put := s.put ++ [e.k.S] }
/-- What holds of a sequence. -/
structure Ok (m : Mdl) (s : Sq) : Prop where
  may : m.May
  len : s.sts.length = m.procs.length
  st : ∀ i, i < m.procs.length → stOk (m.procs.getD i Pr.z).vars (s.sts.getD i St.z).vars.length (s.sts.getD i St.z).sent (s.sts.getD i St.z).drawn = true ∧ (s.sts.getD i St.z).sent ≤ 4 * (s.done : Int) ∧ (s.sts.getD i St.z).drawn ≤ 256 * (s.done : Int)
  ev : ∀ e ∈ s.w, e.may m.procs.length = true
  uniq : s.w.Pairwise fun a b => a.k ≠ b.k
  o17 : ∀ e ∈ s.w, e.k.O = 17 → e.k.S ∈ s.put
  op : ∀ e ∈ s.w, 1 ≤ e.k.O → e.k.O ≤ m.procs.length → e.k.S < (s.sts.getD (e.k.O - 1).toNat St.z).sent
  rise : ∀ e ∈ s.w, s.last.less e.k = true
theorem Ev.may_out {e : Ev} {n : Int} (h : e.may n = true) : 0 ≤ e.k.T ∧ e.k.T ≤ 1099511627776 ∧ 0 ≤ e.k.O ∧ e.k.O ≤ 17 ∧ 0 ≤ e.k.S ∧ e.k.S ≤ 4611686018427387904 ∧ 1 ≤ e.p ∧ e.p ≤ n ∧ 0 ≤ e.q ∧ e.q ≤ 7 := by
  unfold Ev.may MayB at h; simp only [Bool.and_eq_true, decide_eq_true_eq] at h; omega
theorem Ev.may_in {e : Ev} {n : Int} (h : 0 ≤ e.k.T ∧ e.k.T ≤ 1099511627776 ∧ 0 ≤ e.k.O ∧ e.k.O ≤ 17 ∧ 0 ≤ e.k.S ∧ e.k.S ≤ 4611686018427387904 ∧ 1 ≤ e.p ∧ e.p ≤ n ∧ 0 ≤ e.q ∧ e.q ≤ 7) : e.may n = true := by
  unfold Ev.may MayB; simp only [Bool.and_eq_true, decide_eq_true_eq]; omega
theorem getD_mem {α : Type} (l : List α) (i : Nat) (z : α) (h : i < l.length) : l.getD i z ∈ l := by
  rw [List.getD_eq_getElem?_getD, List.getElem?_eq_getElem h]; exact List.getElem_mem h
theorem getD_set {α : Type} (l : List α) (i j : Nat) (x z : α) (h : i < l.length) : (l.set i x).getD j z = if i = j then x else l.getD j z := by
  rw [List.getD_eq_getElem?_getD, List.getD_eq_getElem?_getD, List.getElem?_set]
  by_cases e : i = j
  · subst e; simp [h]
  · simp [e]
theorem Mdl.May.proc {m : Mdl} (h : m.May) {i : Nat} (hi : i < m.procs.length) : codeMay (m.procs.getD i Pr.z).vars (m.procs.getD i Pr.z).ks = true ∧ ((m.procs.getD i Pr.z).vals.length : Int) = (m.procs.getD i Pr.z).vars := by
  have := h.pr _ (getD_mem m.procs i Pr.z hi)
  unfold Pr.may at this
  simpa using this
theorem start_ok {m : Mdl} (h : m.May) : Ok m m.start := by
  have hs : ∀ i, i < m.procs.length → m.start.sts.getD i St.z = ⟨(m.procs.getD i Pr.z).vals, 0, 0⟩ := fun i hi => by
    show (m.procs.map _).getD i St.z = _
    rw [List.getD_eq_getElem?_getD, List.getElem?_map, List.getD_eq_getElem?_getD, List.getElem?_eq_getElem hi]; rfl
  have he : ∀ i (hi : i < m.first.length), m.first[i].may m.procs.length = true ∧ m.first[i].k.O = 0 ∧ m.first[i].k.S = (i : Int) := fun i hi => by
    have := h.ev i hi
    unfold firstB at this
    simp only [Bool.and_eq_true, decide_eq_true_eq] at this
    exact ⟨this.1.1, this.1.2, this.2⟩
  have hm : ∀ e ∈ m.first, e.may m.procs.length = true ∧ e.k.O = 0 := fun e hm => by
    obtain ⟨i, hi, rfl⟩ := List.getElem_of_mem hm
    exact ⟨(he i hi).1, (he i hi).2.1⟩
  refine ⟨h, by simp [Mdl.start], fun i hi => ?_, fun e g => (hm e g).1, ?_, fun e g h17 => ?_, fun e g h1 => ?_, fun e g => ?_⟩
  · rw [hs i hi]
    have := h.proc hi
    refine ⟨?_, by simp [Mdl.start], by simp [Mdl.start]⟩
    unfold stOk
    simp only [Bool.and_eq_true, decide_eq_true_eq]
    exact ⟨⟨this.2, Int.le_refl 0⟩, Int.le_refl 0⟩
  · show m.first.Pairwise _
    rw [List.pairwise_iff_getElem]
    intro i j hi hj hij e
    have h1 := (he i hi).2.2
    have h2 := (he j hj).2.2
    rw [e, h2] at h1
    omega
  · rw [(hm e g).2] at h17; omega
  · rw [(hm e g).2] at h1; omega
  · have := (Ev.may_out (hm e g).1).1
    rw [Ky.less_iff]
    show (-1 : Int) < e.k.T ∨ _
    omega
/-- What an event does, where all is well. -/
theorem run_means {m : Mdl} {s : Sq} (h : Ok m s) {e : Ev} (he : e ∈ s.w) (hd : s.done ≤ 100000) :
    (m.run s e).2 = 0 ∧ (m.run s e).1.vars.length = (s.sts.getD (e.p - 1).toNat St.z).vars.length ∧ (m.run s e).1.sends.length ≤ 4 ∧ (m.run s e).1.tells.length ≤ 4 ∧ (m.run s e).1.sent = (s.sts.getD (e.p - 1).toNat St.z).sent + ((m.run s e).1.sends.length : Int) ∧
      ((s.sts.getD (e.p - 1).toNat St.z).drawn ≤ (m.run s e).1.drawn ∧ (m.run s e).1.drawn ≤ (s.sts.getD (e.p - 1).toNat St.z).drawn + 256) ∧
      (∀ j (hj : j < (m.run s e).1.sends.length), ∃ x : Ev, (m.run s e).1.sends[j] = x.row ∧ e.k.T < x.k.T ∧ x.k.T ≤ 1099511627776 ∧ x.k.O = e.p ∧ x.k.S = (s.sts.getD (e.p - 1).toNat St.z).sent + (j : Int) ∧ 1 ≤ x.p ∧ x.p ≤ m.procs.length ∧ 0 ≤ x.q ∧ x.q ≤ 7) ∧
      (∀ j (hj : j < (m.run s e).1.tells.length), ∃ v, (m.run s e).1.tells[j] = [e.k.T, e.k.O, e.k.S, e.p, (j : Int), v]) := by
  have hm := h.ev e he
  have ho := Ev.may_out hm
  have hi : (e.p - 1).toNat < m.procs.length := by omega
  obtain ⟨hst, hs4, hd4⟩ := h.st _ hi
  have hso := hst
  unfold stOk at hso
  simp only [Bool.and_eq_true, decide_eq_true_eq] at hso
  obtain ⟨hcm, _⟩ := h.may.proc hi
  have hkd := runB_kinds (m.procs.getD (e.p - 1).toNat Pr.z).vars e.p m.procs.length (m.procs.getD (e.p - 1).toNat Pr.z).seed (m.procs.getD (e.p - 1).toNat Pr.z).ks e.k.T e.k.O e.k.S e.p e.q e.d
    (s.sts.getD (e.p - 1).toNat St.z).vars (s.sts.getD (e.p - 1).toNat St.z).sent (s.sts.getD (e.p - 1).toNat St.z).drawn hcm
  have hkd' : KindB 8 (m.run s e).1 := hkd
  have hrun : m.run s e = runA e.p m.procs.length (m.procs.getD (e.p - 1).toNat Pr.z).seed (nk (m.procs.getD (e.p - 1).toNat Pr.z).ks) e.k.T e.k.O e.k.S e.p e.q e.d (s.sts.getD (e.p - 1).toNat St.z).vars (s.sts.getD (e.p - 1).toNat St.z).sent (s.sts.getD (e.p - 1).toNat St.z).drawn := by
    unfold Mdl.run runB; rw [if_pos hst]
  have h0 : (m.run s e).2 = 0 := by
    rw [hrun]; unfold runA
    rw [if_pos (by rw [show MayB e.k.T e.k.O e.k.S e.p e.q e.d m.procs.length = true from hm]; simp)]
  have h1 : 1 ≤ (m.procs.length : Int) := by omega
  obtain ⟨c, ec1, ec2, ec3, ec4, ec5, hmn, hvl⟩ := runA_means e.p m.procs.length (m.procs.getD (e.p - 1).toNat Pr.z).seed (nk (m.procs.getD (e.p - 1).toNat Pr.z).ks) e.k.T e.k.O e.k.S e.p e.q e.d (s.sts.getD (e.p - 1).toNat St.z).vars (s.sts.getD (e.p - 1).toNat St.z).sent (s.sts.getD (e.p - 1).toNat St.z).drawn h1 (by omega) (by omega) (by rw [← hrun]; exact h0)
  rw [← hrun] at hmn hvl
  obtain ⟨g1, g2, g3, g4, g5, g6⟩ := hmn
  refine ⟨h0, hvl, g1, g2, g3, ⟨g4.1, g4.2⟩, fun j hj => ?_, fun j hj => ?_⟩
  · obtain ⟨t, dst, kd, d, er, r1, r2, r3, r4⟩ := g5 j hj
    have hk := hkd' _ (List.getElem_mem hj)
    rw [er] at hk
    have hk1 : 0 ≤ kd := hk.1
    have hk2 : kd < 8 := hk.2
    refine ⟨⟨⟨t, e.p, (s.sts.getD (e.p - 1).toNat St.z).sent + (j : Int)⟩, dst, kd, d⟩, ?_, by rw [← ec1]; exact r1, r2, rfl, rfl, r3, by rw [← ec5]; exact r4, hk1, by show kd ≤ 7; omega⟩
    rw [er, ec4]; rfl
  · obtain ⟨v, er⟩ := g6 j hj
    exact ⟨v, by rw [er, ec1, ec2, ec3, ec4]⟩
theorem uniq_perm {l l' : List Ev} (h : l.Pairwise fun a b => a.k ≠ b.k) (hp : l.Perm l') : l'.Pairwise fun a b => a.k ≠ b.k :=
  (hp.pairwise_iff (fun {x y} hxy e => hxy e.symm)).1 h
/-- A step keeps what holds. -/
theorem step_ok {m : Mdl} {s : Sq} (h : Ok m s) {e : Ev} {rest : List Ev} (hp : s.w.Perm (e :: rest)) (hmin : ∀ x ∈ rest, e.k.less x.k = true) (hd : s.done ≤ 100000) : Ok m (m.after s e rest) := by
  have he : e ∈ s.w := hp.symm.subset (List.mem_cons_self)
  have hr : ∀ x ∈ rest, x ∈ s.w := fun x hx => hp.symm.subset (List.mem_cons_of_mem _ hx)
  obtain ⟨h0, hvl, hs4, ht4, hsent, hdr, hsnd, _⟩ := run_means h he hd
  have ho := Ev.may_out (h.ev e he)
  have hi : (e.p - 1).toNat < m.procs.length := by omega
  have hi' : (e.p - 1).toNat < s.sts.length := by rw [h.len]; exact hi
  have hn := h.may.n16
  obtain ⟨hst, hss, hdd⟩ := h.st _ hi
  have hso := hst
  unfold stOk at hso
  simp only [Bool.and_eq_true, decide_eq_true_eq] at hso
  have hnew : ∀ x ∈ (m.run s e).1.sends.map evOf, ∃ j, j < (m.run s e).1.sends.length ∧ e.k.T < x.k.T ∧ x.k.T ≤ 1099511627776 ∧ x.k.O = e.p ∧ x.k.S = (s.sts.getD (e.p - 1).toNat St.z).sent + (j : Int) ∧ 1 ≤ x.p ∧ x.p ≤ m.procs.length ∧ 0 ≤ x.q ∧ x.q ≤ 7 := fun x hx => by
    obtain ⟨r, hr, rfl⟩ := List.mem_map.1 hx
    obtain ⟨j, hj, rfl⟩ := List.getElem_of_mem hr
    obtain ⟨x, ex, q⟩ := hsnd j hj
    rw [ex, evOf_row]
    exact ⟨j, hj, q⟩
  have hget : ∀ i, (m.after s e rest).sts.getD i St.z = if (e.p - 1).toNat = i then ⟨(m.run s e).1.vars, (m.run s e).1.sent, (m.run s e).1.drawn⟩ else s.sts.getD i St.z := fun i => getD_set _ _ _ _ _ hi'
  have hu := uniq_perm h.uniq hp
  rw [List.pairwise_cons] at hu
  refine ⟨h.may, by show (s.sts.set _ _).length = _; rw [List.length_set]; exact h.len, fun i hi2 => ?_, fun x hx => ?_, ?_, fun x hx h17 => ?_, fun x hx g1 g2 => ?_, fun x hx => ?_⟩
  · rw [hget i]
    show _ ∧ _ ≤ 4 * ((s.done + 1 : Nat) : Int) ∧ _ ≤ 256 * ((s.done + 1 : Nat) : Int)
    by_cases e1 : (e.p - 1).toNat = i
    · rw [if_pos e1]
      subst e1
      refine ⟨?_, by show (m.run s e).1.sent ≤ _; omega, by show (m.run s e).1.drawn ≤ _; omega⟩
      unfold stOk
      simp only [Bool.and_eq_true, decide_eq_true_eq]
      exact ⟨⟨by rw [hvl]; exact hso.1.1, by omega⟩, by omega⟩
    · rw [if_neg e1]
      obtain ⟨q1, q2, q3⟩ := h.st i hi2
      exact ⟨q1, by omega, by omega⟩
  · have hx2 : x ∈ rest ++ (m.run s e).1.sends.map evOf := hx
    rw [List.mem_append] at hx2
    rcases hx2 with hx2 | hx2
    · exact h.ev x (hr x hx2)
    · obtain ⟨j, hj, q1, q2, q3, q4, q5, q6, q7, q8⟩ := hnew x hx2
      exact Ev.may_in (by omega)
  · show (rest ++ (m.run s e).1.sends.map evOf).Pairwise _
    rw [List.pairwise_append]
    refine ⟨hu.2, ?_, fun x hx y hy exy => ?_⟩
    · rw [List.pairwise_iff_getElem]
      intro i j hi3 hj3 hij exy
      simp only [List.length_map] at hi3 hj3
      simp only [List.getElem_map] at exy
      obtain ⟨x, ex, _, _, _, qx, _⟩ := hsnd i hi3
      obtain ⟨y, ey, _, _, _, qy, _⟩ := hsnd j hj3
      rw [ex, ey, evOf_row, evOf_row] at exy
      rw [exy, qy] at qx
      omega
    · obtain ⟨j, hj, q1, q2, q3, q4, _⟩ := hnew y hy
      have := h.op x (hr x hx) (by rw [exy, q3]; omega) (by rw [exy, q3]; omega)
      rw [exy, q3, q4] at this
      omega
  · have hx2 : x ∈ rest ++ (m.run s e).1.sends.map evOf := hx
    rw [List.mem_append] at hx2
    rcases hx2 with hx2 | hx2
    · exact h.o17 x (hr x hx2) h17
    · obtain ⟨j, hj, q1, q2, q3, _⟩ := hnew x hx2
      omega
  · rw [hget]
    have hx2 : x ∈ rest ++ (m.run s e).1.sends.map evOf := hx
    rw [List.mem_append] at hx2
    rcases hx2 with hx2 | hx2
    · have := h.op x (hr x hx2) g1 g2
      by_cases e1 : (e.p - 1).toNat = (x.k.O - 1).toNat
      · rw [if_pos e1]
        rw [← e1] at this
        show x.k.S < (m.run s e).1.sent
        omega
      · rw [if_neg e1]; exact this
    · obtain ⟨j, hj, q1, q2, q3, q4, _⟩ := hnew x hx2
      rw [if_pos (by rw [q3])]
      show x.k.S < (m.run s e).1.sent
      omega
  · show e.k.less x.k = true
    have hx2 : x ∈ rest ++ (m.run s e).1.sends.map evOf := hx
    rw [List.mem_append] at hx2
    rcases hx2 with hx2 | hx2
    · exact hmin x hx2
    · obtain ⟨j, hj, q1, _⟩ := hnew x hx2
      rw [Ky.less_iff]; exact .inl q1
theorem put_ok {m : Mdl} {s : Sq} (h : Ok m s) {e : Ev} (hp : m.putErr s e = 0) : Ok m (s.add e) := by
  unfold Mdl.putErr at hp
  split at hp
  · rename_i hm
    simp only [Bool.and_eq_true, decide_eq_true_eq] at hm
    split at hp
    · omega
    · rename_i hc
      split at hp
      · omega
      · rename_i ht
        have hnc : e.k.S ∉ s.put := by simpa using hc
        have hsub : ∀ x ∈ (s.add e).w, x ∈ s.w ∨ x = e := fun x hx => by
          have hx2 : x ∈ s.w ++ [e] := hx
          simpa using hx2
        refine ⟨h.may, h.len, h.st, fun x hx => ?_, ?_, fun x hx h17 => ?_, fun x hx g1 g2 => ?_, fun x hx => ?_⟩
        · rcases hsub x hx with g | rfl
          · exact h.ev x g
          · exact hm.1
        · show (s.w ++ [e]).Pairwise _
          rw [List.pairwise_append]
          refine ⟨h.uniq, List.pairwise_singleton _ _, fun x hx y hy exy => ?_⟩
          rw [List.mem_singleton] at hy
          subst hy
          have := h.o17 x hx (by rw [exy]; exact hm.2)
          rw [exy] at this
          exact hnc this
        · show x.k.S ∈ s.put ++ [e.k.S]
          rcases hsub x hx with g | rfl
          · exact List.mem_append_left _ (h.o17 x g h17)
          · simp
        · rcases hsub x hx with g | rfl
          · exact h.op x g g1 g2
          · have := h.may.n16; rw [hm.2] at g2; omega
        · rcases hsub x hx with g | rfl
          · exact h.rise x g
          · show s.last.less x.k = true
            rw [Ky.less_iff]; exact .inl (by omega)
  · omega
/-- Sorted. -/
def Srt (l : List Ev) : Prop := l.Pairwise fun a b => a.k.less b.k = true
def insE (l : List Ev) (e : Ev) : List Ev := l.takeWhile (fun x => x.k.less e.k) ++ e :: l.dropWhile (fun x => x.k.less e.k)
theorem insE_perm (l : List Ev) (e : Ev) : (insE l e).Perm (l ++ [e]) := by
  unfold insE
  refine (List.perm_middle).trans ?_
  rw [List.takeWhile_append_dropWhile]
  exact (List.perm_append_singleton e l).symm
theorem Ky.less_or {a b : Ky} (h : a.less b = false) (hne : a ≠ b) : b.less a = true := by
  cases h2 : b.less a with
  | true => rfl
  | false => exact absurd (Ky.eq_of h h2) hne
theorem dropWhile_not : ∀ (l : List Ev) (e : Ev), Srt l → ∀ x ∈ l.dropWhile (fun x => x.k.less e.k), x.k.less e.k = false
  | [], _, _, x, hx => by simp at hx
  | a :: l, e, hs, x, hx => by
    rw [List.dropWhile_cons] at hx
    split at hx
    · exact dropWhile_not l e (List.pairwise_cons.1 hs).2 x hx
    · rename_i hn
      rcases List.mem_cons.1 hx with rfl | hx
      · simpa using hn
      · have h1 := (List.pairwise_cons.1 hs).1 x hx
        have h2 : a.k.less e.k = false := by simpa using hn
        exact Ky.le_trans h2 (Ky.less_asymm h1)
theorem mem_takeWhile_of {α : Type} (p : α → Bool) : ∀ (l : List α) (x : α), x ∈ l.takeWhile p → p x = true
  | [], x, h => by simp at h
  | a :: l, x, h => by
    rw [List.takeWhile_cons] at h
    split at h
    · rename_i hp
      rcases List.mem_cons.1 h with rfl | h
      · exact hp
      · exact mem_takeWhile_of p l x h
    · simp at h
theorem cons_eraseIdx_perm {α : Type} : ∀ (l : List α) (i : Nat) (h : i < l.length), (l[i] :: l.eraseIdx i).Perm l
  | a :: l, 0, _ => by simp
  | a :: l, i + 1, h => by
    have h' : i < l.length := by simpa using h
    show (l[i] :: a :: l.eraseIdx i).Perm (a :: l)
    exact (List.Perm.swap a l[i] _).trans ((cons_eraseIdx_perm l i h').cons a)
theorem insE_srt {l : List Ev} {e : Ev} (hs : Srt l) (hne : ∀ x ∈ l, x.k ≠ e.k) : Srt (insE l e) := by
  have htk : ∀ x ∈ l.takeWhile (fun x => x.k.less e.k), x.k.less e.k = true := fun x hx => by
    exact mem_takeWhile_of _ l x hx
  have hdr := dropWhile_not l e hs
  have hl := List.takeWhile_append_dropWhile (p := fun x : Ev => x.k.less e.k) (l := l)
  unfold Srt at hs
  rw [← hl, List.pairwise_append] at hs
  unfold insE Srt
  rw [List.pairwise_append]
  refine ⟨hs.1, List.pairwise_cons.2 ⟨fun x hx => ?_, hs.2.1⟩, fun x hx y hy => ?_⟩
  · exact Ky.less_or (hdr x hx) (hne x (by rw [← hl]; exact List.mem_append_right _ hx))
  · rcases List.mem_cons.1 hy with rfl | hy
    · exact htk x hx
    · exact hs.2.2 x hx y hy
/-- The least of a list in any order is the head of the sorted one. -/
theorem head_least {w : List Ev} {x : Ev} {t : List Ev} (hs : Srt (x :: t)) (hp : (x :: t).Perm w) {j : Nat} (hj : j < w.length) (hmin : ∀ y ∈ w, y.k.less w[j].k = false) : w[j] = x ∧ t.Perm (w.eraseIdx j) := by
  have hm : w[j] ∈ x :: t := hp.symm.subset (List.getElem_mem hj)
  have hx : w[j] = x := by
    rcases List.mem_cons.1 hm with h | h
    · exact h
    · have h1 := (List.pairwise_cons.1 hs).1 _ h
      have h2 := hmin x (hp.subset List.mem_cons_self)
      rw [h1] at h2; cases h2
  refine ⟨hx, ?_⟩
  have h3 : (w[j] :: w.eraseIdx j).Perm w := cons_eraseIdx_perm w j hj
  rw [hx] at h3
  exact (hp.trans h3.symm).cons_inv
theorem srt_min {x : Ev} {t : List Ev} (hs : Srt (x :: t)) : ∀ y ∈ t, x.k.less y.k = true := (List.pairwise_cons.1 hs).1
/-- Both hold the same. -/
structure Twin (ws : List Ev) (s : Sq) : Prop where
  srt : Srt ws
  perm : ws.Perm s.w
def insAll (ws : List Ev) (l : List Ev) : List Ev := l.foldl insE ws
theorem insAll_twin : ∀ (l : List Ev) (ws u : List Ev), Srt ws → ws.Perm u → (u ++ l).Pairwise (fun a b => a.k ≠ b.k) → Srt (insAll ws l) ∧ (insAll ws l).Perm (u ++ l)
  | [], ws, u, hs, hp, _ => by simpa [insAll] using ⟨hs, hp⟩
  | e :: l, ws, u, hs, hp, hu => by
    have hu2 : ((u ++ [e]) ++ l).Pairwise (fun a b => a.k ≠ b.k) := by simpa using hu
    have hne : ∀ x ∈ ws, x.k ≠ e.k := fun x hx => by
      have h1 := (List.pairwise_append.1 hu).2.2 x (hp.subset hx) e List.mem_cons_self
      exact h1
    have h2 := insAll_twin l (insE ws e) (u ++ [e]) (insE_srt hs hne) ((insE_perm ws e).trans (hp.append_right [e])) hu2
    refine ⟨h2.1, ?_⟩
    have h3 := h2.2
    rw [List.append_assoc] at h3
    exact h3
end Go.Proofs.Ytgijkgngldfdiaa
/- Laws for copy and clear on a block that is known whole, at elements of several cells; lists laid over lists. -/
namespace Go.Proofs.Ytgijkgngldfdiaa
open Go.RowKit
set_option linter.unusedVariables false
set_option linter.unusedSimpArgs false
/-- The list l with s laid over it from p on. -/
def lay {α : Type} (l : List α) (p : Nat) (s : List α) : List α := l.take p ++ s ++ l.drop (p + s.length)
theorem lay_length {α : Type} (l : List α) (p : Nat) (s : List α) (h : p + s.length ≤ l.length) : (lay l p s).length = l.length := by
  unfold lay; simp only [List.length_append, List.length_take, List.length_drop]; omega
theorem lay_get {α : Type} (l : List α) (p : Nat) (s : List α) (h : p + s.length ≤ l.length) (j : Nat) : (lay l p s)[j]? = if j < p then l[j]? else if j < p + s.length then s[j - p]? else l[j]? := by
  unfold lay
  by_cases h1 : j < p
  · rw [if_pos h1, List.append_assoc, List.getElem?_append_left (by rw [List.length_take]; omega), List.getElem?_take_of_lt h1]
  · rw [if_neg h1]
    by_cases h2 : j < p + s.length
    · rw [if_pos h2, List.append_assoc, List.getElem?_append_right (by rw [List.length_take]; omega), List.length_take, show min p l.length = p by omega, List.getElem?_append_left (by omega)]
    · rw [if_neg h2, List.getElem?_append_right (by rw [List.length_append, List.length_take]; omega), List.length_append, List.length_take, List.getElem?_drop, show p + s.length + (j - (min p l.length + s.length)) = j by omega]
section
variable {P : Program} (w : World)
/-- 'copy' onto a block that is known whole. -/
theorem run_copy_at (dT sT ty e tb : TypeId) (i : TypeInfo) (size : Nat) (hu : P.underlying dT = some (.slice e)) (hi : P.info? e = some i) (hsize : i.size = size) (g pos : Nat) (cur : Array Value) (hg : Blk w g tb cur) (dLen dCap : Nat) (ad : Addr) (m c : Nat)
    (news : List Value) (hl : news.length = Nat.min m dLen * size) (hr : ∀ j u, news[j]? = some u → w.cell? (ad.add j) = some u) (hfit : pos + news.length ≤ cur.size) (h1 : ∀ u ∈ news, u.oneCell' = true) :
    (Builtin.copy_ #[dT, sT] ty #[.slice (some ⟨g, pos, none⟩) dLen dCap, .slice (some ad) m c]).run P w = .ok (goInt (Nat.min m dLen)) (w.setRow g (lay cur.toList pos news).toArray) := by
  subst hsize
  have hf := run_firstCells_some (P := P) w i.size (Nat.min m dLen) ad m c news hl hr
  have hst := run_storeCells_at P g pos tb news 0 cur w hg (by simpa using hfit) h1
  simp only [Nat.add_zero] at hst
  simp [Builtin.copy_, run_underlying hu, Builtin.lenOf, sizeOf, typeInfo, hi, hf, hst, lay]
/-- 'clear' on a block that is known whole. -/
theorem run_clear_at (t e ty tb : TypeId) (z : Value) (size : Nat) (zs : List Value) (ht : P.underlying t = some (.slice e)) (hv : (zeroValue e).run P w = .ok z w) (g pos n c : Nat) (hn : 0 < n) (hzs : (Builtin.zeroCells z.cells n).toList = zs)
    (cur : Array Value) (hg : Blk w g tb cur) (hfit : pos + zs.length ≤ cur.size) (h1 : ∀ u ∈ zs, u.oneCell' = true) :
    (Builtin.clear_ #[t] ty #[.slice (some ⟨g, pos, none⟩) n c]).run P w = .ok (.tuple #[]) (w.setRow g (lay cur.toList pos zs).toArray) := by
  have hst := run_storeCells_at P g pos tb zs 0 cur w hg (by simpa using hfit) h1
  simp only [Nat.add_zero] at hst
  obtain ⟨m, rfl⟩ : ∃ m, n = m + 1 := ⟨n - 1, by omega⟩
  simp [Builtin.clear_, run_underlying ht, hv, hzs, hst, lay]
theorem wp_copy_run {o : Oper} {a : Act} {K : Act → World → Prop} {Q : Exit → Act → World → Prop} (d s : Operand) (t t' : TypeId) (ho : o.op = .call { callee := .builtin .copy, args := #[d, s], argTypes := #[t, t'] })
    (v u : Value) (hd : a.eval d = v) (hs : a.eval s = u) {v' : Value} {w' : World} (hr : (Builtin.copy_ #[t, t'] o.type #[v, u]).run P w = .ok v' w') (h : K (a.put o.dst v') w') : o.wp P a w K Q := by
  unfold Oper.wp execOp
  simp only [ho, resolve, invoke, builtin, Sem.run_bind, Sem.run_pure, Result.andThen_ok, List.map_toArray, List.map_cons, List.map_nil, hd, hs, hr]
  exact h
theorem wpList_copy_run {ops : Array Oper} {rest : List Oper} {o : Oper} {a : Act} {Q : Exit → Act → World → Prop} (hgd : o.guard = none) (d s : Operand) (t t' : TypeId) (ho : o.op = .call { callee := .builtin .copy, args := #[d, s], argTypes := #[t, t'] })
    (v u : Value) (hd : a.eval d = v) (hs : a.eval s = u) {v' : Value} {w' : World} (hr : (Builtin.copy_ #[t, t'] o.type #[v, u]).run P w = .ok v' w') (h : wpList P ops Q rest (a.put o.dst v') w') : wpList P ops Q (o :: rest) a w :=
  wpList_plain hgd fun K hK => wp_copy_run w d s t t' ho v u hd hs hr (hK _ _ h)
theorem step_copy_run {ops : Array Oper} {o : Oper} {a : Act} {K : Act → World → Prop} {Q : Exit → Act → World → Prop} {E : Prop} (hgd : o.guard = none) (d s : Operand) (t t' : TypeId) (ho : o.op = .call { callee := .builtin .copy, args := #[d, s], argTypes := #[t, t'] })
    (v u : Value) (hd : a.eval d = v) (hs : a.eval s = u) {v' : Value} {w' : World} (hr : (Builtin.copy_ #[t, t'] o.type #[v, u]).run P w = .ok v' w') (h : K (a.put o.dst v') w') : if Region.wanted o (yielded ops a.tmps) = true then Oper.wp P o a w K Q else E := by
  have hw : Region.wanted o (yielded ops a.tmps) = true := by simp [Region.wanted, hgd]
  rw [if_pos hw]
  exact wp_copy_run w d s t t' ho v u hd hs hr h
theorem wp_append_run {o : Oper} {a : Act} {K : Act → World → Prop} {Q : Exit → Act → World → Prop} (d s : Operand) (t t' : TypeId) (ho : o.op = .call { callee := .builtin .append, args := #[d, s], argTypes := #[t, t'] })
    (v u : Value) (hd : a.eval d = v) (hs : a.eval s = u) {v' : Value} {w' : World} (hr : (Builtin.append_ #[t, t'] o.type #[v, u]).run P w = .ok v' w') (h : K (a.put o.dst v') w') : o.wp P a w K Q := by
  unfold Oper.wp execOp
  simp only [ho, resolve, invoke, builtin, Sem.run_bind, Sem.run_pure, Result.andThen_ok, List.map_toArray, List.map_cons, List.map_nil, hd, hs, hr]
  exact h
theorem wpList_append_run {ops : Array Oper} {rest : List Oper} {o : Oper} {a : Act} {Q : Exit → Act → World → Prop} (hgd : o.guard = none) (d s : Operand) (t t' : TypeId) (ho : o.op = .call { callee := .builtin .append, args := #[d, s], argTypes := #[t, t'] })
    (v u : Value) (hd : a.eval d = v) (hs : a.eval s = u) {v' : Value} {w' : World} (hr : (Builtin.append_ #[t, t'] o.type #[v, u]).run P w = .ok v' w') (h : wpList P ops Q rest (a.put o.dst v') w') : wpList P ops Q (o :: rest) a w :=
  wpList_plain hgd fun K hK => wp_append_run w d s t t' ho v u hd hs hr (hK _ _ h)
theorem step_append_run {ops : Array Oper} {o : Oper} {a : Act} {K : Act → World → Prop} {Q : Exit → Act → World → Prop} {E : Prop} (hgd : o.guard = none) (d s : Operand) (t t' : TypeId) (ho : o.op = .call { callee := .builtin .append, args := #[d, s], argTypes := #[t, t'] })
    (v u : Value) (hd : a.eval d = v) (hs : a.eval s = u) {v' : Value} {w' : World} (hr : (Builtin.append_ #[t, t'] o.type #[v, u]).run P w = .ok v' w') (h : K (a.put o.dst v') w') : if Region.wanted o (yielded ops a.tmps) = true then Oper.wp P o a w K Q else E := by
  have hw : Region.wanted o (yielded ops a.tmps) = true := by simp [Region.wanted, hgd]
  rw [if_pos hw]
  exact wp_append_run w d s t t' ho v u hd hs hr h
theorem wpList_clear_run {ops : Array Oper} {rest : List Oper} {o : Oper} {a : Act} {Q : Exit → Act → World → Prop} (hgd : o.guard = none) (d : Operand) (t : TypeId) (ho : o.op = .call { callee := .builtin .clear, args := #[d], argTypes := #[t] })
    (v : Value) (hd : a.eval d = v) {v' : Value} {w' : World} (hr : (Builtin.clear_ #[t] o.type #[v]).run P w = .ok v' w') (h : wpList P ops Q rest (a.put o.dst v') w') : wpList P ops Q (o :: rest) a w :=
  wpList_plain hgd fun K hK => by
    unfold Oper.wp execOp
    simp only [ho, resolve, invoke, builtin, Sem.run_bind, Sem.run_pure, Result.andThen_ok, List.map_toArray, List.map_cons, List.map_nil, hd, hr]
    exact hK _ _ h
end
end Go.Proofs.Ytgijkgngldfdiaa
/- slices.Insert of an event. Helper. -/
namespace Go.Proofs.Ytgijkgngldfdiaa
open Go.RowKit
set_option linter.unusedVariables false
set_option linter.unusedSimpArgs false
theorem infoE6 : (Try.prog.info? 44).map (fun i => (i.zero, i.size, i.bytes)) = some (some (.agg #[.int .i64 0, .int .i64 0, .int .i64 0, .int .i64 0, .int .i64 0, .int .i64 0]), 6, 48) := by kernel_rfl
/-- A list with another one laid in at i. -/
def insAt (xs row : List Value) (i : Nat) : List Value := xs.take i ++ row ++ xs.drop i
theorem insAt_length (xs row : List Value) (i : Nat) (h : i ≤ xs.length) : (insAt xs row i).length = xs.length + row.length := by
  unfold insAt; simp only [List.length_append, List.length_take, List.length_drop]; omega
theorem insAt_get (xs row : List Value) (i : Nat) (h : i ≤ xs.length) (j : Nat) : (insAt xs row i)[j]? = if j < i then xs[j]? else if j < i + row.length then row[j - i]? else xs[j - row.length]? := by
  unfold insAt
  have ht : (xs.take i).length = i := by rw [List.length_take]; omega
  by_cases h1 : j < i
  · rw [if_pos h1, List.append_assoc, List.getElem?_append_left (by omega), List.getElem?_take_of_lt h1]
  · rw [if_neg h1]
    by_cases h2 : j < i + row.length
    · rw [if_pos h2, List.append_assoc, List.getElem?_append_right (by omega), ht, List.getElem?_append_left (by omega)]
    · rw [if_neg h2, List.getElem?_append_right (by rw [List.length_append]; omega), List.length_append, ht, List.getElem?_drop, show i + (j - (i + row.length)) = j - row.length by omega]
/-- What stands in an array behind both copies. -/
theorem ins_room (cur : List Value) (off n i c : Nat) (xs row : List Value) (hl : xs.length = n * 6) (hrow : row.length = 6) (hi : i < n) (hc : n + 1 ≤ c) (hfit : off + c * 6 ≤ cur.length) (ht : (cur.drop off).take (n * 6) = xs) :
    ((lay (lay cur (off + (i + 1) * 6) (xs.drop (i * 6))) (off + i * 6) row).drop off).take ((n + 1) * 6) = insAt xs row (i * 6) := by
  have hx : ∀ j, j < n * 6 → cur[off + j]? = xs[j]? := fun j hj => by rw [← ht, List.getElem?_take_of_lt hj, List.getElem?_drop]
  have hd : (xs.drop (i * 6)).length = n * 6 - i * 6 := by rw [List.length_drop, hl]
  have f1 : off + (i + 1) * 6 + (xs.drop (i * 6)).length ≤ cur.length := by rw [hd]; omega
  have f2 : off + i * 6 + row.length ≤ (lay cur (off + (i + 1) * 6) (xs.drop (i * 6))).length := by rw [lay_length _ _ _ f1, hrow]; omega
  apply List.ext_getElem?
  intro j
  rw [insAt_get xs row (i * 6) (by omega), List.getElem?_take, List.getElem?_drop, lay_get _ _ _ f2, lay_get _ _ _ f1, hd, hrow, List.getElem?_drop]
  by_cases h1 : j < i * 6
  · rw [if_pos (show j < (n + 1) * 6 by omega), if_pos (show off + j < off + i * 6 by omega), if_pos (show off + j < off + (i + 1) * 6 by omega), if_pos h1]
    exact hx j (by omega)
  · by_cases h2 : j < i * 6 + 6
    · rw [if_pos (show j < (n + 1) * 6 by omega), if_neg (show ¬ off + j < off + i * 6 by omega), if_pos (show off + j < off + i * 6 + 6 by omega), if_neg h1, if_pos h2, show off + j - (off + i * 6) = j - i * 6 by omega]
    · rw [if_neg h1, if_neg h2]
      by_cases h3 : j < (n + 1) * 6
      · rw [if_pos h3, if_neg (show ¬ off + j < off + i * 6 by omega), if_neg (show ¬ off + j < off + i * 6 + 6 by omega), if_neg (show ¬ off + j < off + (i + 1) * 6 by omega), if_pos (show off + j < off + (i + 1) * 6 + (n * 6 - i * 6) by omega),
          show i * 6 + (off + j - (off + (i + 1) * 6)) = j - 6 by omega]
      · rw [if_neg h3, List.getElem?_eq_none (by omega)]
theorem ins_grow (rest : List Value) (n i : Nat) (xs row : List Value) (hl : xs.length = n * 6) (hrow : row.length = 6) (hi : i < n) (hfit : n * 6 + 6 ≤ i * 6 + rest.length) :
    (lay (lay (xs.take (i * 6) ++ rest) (i * 6) row) ((i + 1) * 6) (xs.drop (i * 6))).take ((n + 1) * 6) = insAt xs row (i * 6) := by
  have hd : (xs.drop (i * 6)).length = n * 6 - i * 6 := by rw [List.length_drop, hl]
  have htk : (xs.take (i * 6)).length = i * 6 := by rw [List.length_take, hl]; omega
  have f0 : i * 6 + row.length ≤ (xs.take (i * 6) ++ rest).length := by rw [List.length_append, htk, hrow]; omega
  have f1 : (i + 1) * 6 + (xs.drop (i * 6)).length ≤ (lay (xs.take (i * 6) ++ rest) (i * 6) row).length := by rw [lay_length _ _ _ f0, List.length_append, htk, hd]; omega
  apply List.ext_getElem?
  intro j
  rw [insAt_get xs row (i * 6) (by omega), List.getElem?_take, lay_get _ _ _ f1, lay_get _ _ _ f0, hd, hrow, List.getElem?_drop]
  by_cases h1 : j < i * 6
  · rw [if_pos (show j < (n + 1) * 6 by omega), if_pos (show j < (i + 1) * 6 by omega)]; simp only [if_pos h1]; rw [List.getElem?_append_left (by omega), List.getElem?_take_of_lt h1]
  · by_cases h2 : j < i * 6 + 6
    · rw [if_pos (show j < (n + 1) * 6 by omega), if_pos (show j < (i + 1) * 6 by omega)]; simp only [if_neg h1, if_pos h2]
    · simp only [if_neg h1, if_neg h2]
      by_cases h3 : j < (n + 1) * 6
      · rw [if_pos h3, if_neg (show ¬ j < (i + 1) * 6 by omega), if_pos (show j < (i + 1) * 6 + (n * 6 - i * 6) by omega), show i * 6 + (j - (i + 1) * 6) = j - 6 by omega]
      · rw [if_neg h3, List.getElem?_eq_none (by omega)]
/-- An event is laid in. -/
def InsOut (w : World) (n i : Nat) (xs row : List Value) (blk : Option Nat) (e : Ending) (w' : World) : Prop :=
  ∃ A' c' blk', e = .returned (.slice A' (n + 1) c') ∧ Own w' 44 6 (.slice A' (n + 1) c') (n + 1) (insAt xs row (i * 6)) blk' ∧ Chg (fun k => some k = blk) w w' ∧ ∀ g, blk' = some g → blk = some g ∨ w.heap.size ≤ g
section
variable (A : Option Addr) (n i c V : Nat) (xs row : List Value) (blk : Option Nat) (w : World)
set_option maxRecDepth 100000
set_option maxHeartbeats 1600000
theorem insert_end (h : Own w 44 6 (.slice A n c) n xs blk) (hn : n ≤ 100000) (hrow : row.length = 6) (h1 : ∀ u ∈ row, u.oneCell' = true) (hV : Rd w (some ⟨V, 0, none⟩) row) :
    Calls Try.prog 59 #[.slice A n c, .int .i64 (n : Int), .slice (some ⟨V, 0, none⟩) 1 1] w (InsOut w n n xs row blk) := by
  obtain ⟨i0, hi0, hz0, hz1, hz2⟩ := info_parts infoE6
  have HL1 := Lib.hid hi0
  have HL2 := Lib.hid hz0
  have HL3 := Lib.hid hz1
  have HL4 := Lib.hid hz2
  have HO := Lib.hid h
  have hnc : n ≤ c := by obtain ⟨_, _, e, _, h2, _⟩ := h.rd; injection e with _ _ e3; rw [e3]; exact h2
  have hcm : c ≤ 9223372036854775807 := by obtain ⟨_, _, e, _, _, h3⟩ := h.rd; injection e with _ _ e3; rw [e3]; simpa [maxLen] using h3
  have HV := Lib.hid hV
  have H1 := Lib.hid h1
  have HR := Lib.hid hrow
  clear h hV h1 hrow hi0 hz0 hz1 hz2
  by_cases hc : c = n
  · subst hc
    go_enter Try.func59, Try.ntmps59
    go_wp2_with (at_builtin; refine wpList_append_at _ rfl _ _ _ rfl 44 i0 _ 6 48 Try.underlying23 HL1.out HL2.out HL3.out HL4.out rfl (by omega) _ c xs blk rfl HO.out _ 1 1 row rfl HR.out HV.out H1.out (by simp only [maxLen]; omega) (by omega) ?_; intro A' c' w' blk' hown hchg hat)
    go_ret
    refine ⟨A', c', blk', rfl, ?_, hchg, fun g e => ?_⟩
    · have hl := HO.out.1
      unfold insAt
      rw [List.take_of_length_le (by omega), List.drop_eq_nil_of_le (by omega), List.append_nil]
      exact hown
    · rcases hat with q | q
      · exact .inl (by rw [← q]; exact e)
      · rw [q] at e; injection e with e; exact .inr (by omega)
  · go_enter Try.func59, Try.ntmps59
    go_wp2_with (at_builtin; refine wpList_append_at _ rfl _ _ _ rfl 44 i0 _ 6 48 Try.underlying23 HL1.out HL2.out HL3.out HL4.out rfl (by omega) _ n xs blk rfl HO.out _ 1 1 row rfl HR.out HV.out H1.out (by simp only [maxLen]; omega) (by omega) ?_; intro A' c' w' blk' hown hchg hat)
    go_ret
    refine ⟨A', c', blk', rfl, ?_, hchg, fun g e => ?_⟩
    · have hl := HO.out.1
      unfold insAt
      rw [List.take_of_length_le (by omega), List.drop_eq_nil_of_le (by omega), List.append_nil]
      exact hown
    · rcases hat with q | q
      · exact .inl (by rw [← q]; exact e)
      · rw [q] at e; injection e with e; exact .inr (by omega)
/-- A new array: what stood ahead, the row, what stood behind. -/
theorem insert_grow (hc : c = n) (h : Own w 44 6 (.slice A n c) n xs blk) (hi : i < n) (hn : n ≤ 100000) (hrow : row.length = 6) (h1 : ∀ u ∈ row, u.oneCell' = true) (hx1 : ∀ u ∈ xs, u.oneCell' = true) (hV : Rd w (some ⟨V, 0, none⟩) row) :
    Calls Try.prog 59 #[.slice A n c, .int .i64 (i : Int), .slice (some ⟨V, 0, none⟩) 1 1] w (InsOut w n i xs row blk) := by
  subst hc
  obtain ⟨i0, hi0, hz0, hz1, hz2⟩ := info_parts infoE6
  have hxl := h.1
  obtain ⟨A', c', e, hrd, hnc, hcm⟩ := h.rd
  injection e with e1 _ e3
  subst e1 e3
  obtain ⟨g, o, rfl, _, hcell⟩ := hrd.get (k := 0) (by rw [hxl]; omega)
  have hold : (Builtin.firstCells i0.size i (.slice (some ⟨g, o, none⟩) i c)).run Try.prog w.drew = .ok (xs.take (i * 6)).toArray w.drew := by
    rw [hz1]
    refine run_firstCells_some (P := Try.prog) w.drew 6 i ⟨g, o, none⟩ i c (xs.take (i * 6)) (by rw [List.length_take, hxl]; omega) fun j u hu => ?_
    rw [add_plain]
    rw [List.getElem?_take] at hu
    split at hu
    · exact hcell j u hu
    · cases hu
  have hap := Lib.run_append_grow_zeros (P := Try.prog) w 23 3 23 44 i0 _ .i64 .i64 Try.underlying23 Try.underlying3 hi0 hz0 (some ⟨g, o, none⟩) i c (xs.take (i * 6)) hold (c + 1 - i) (by omega) (by rw [hz1]; omega) (by omega) (by omega) (by rw [hz2]; omega) (by rw [hz2]; exact growslice_fits (by omega) (by omega))
  rw [show i + (c + 1 - i) = c + 1 by omega] at hap
  have hge := grownCap_ge w (c + 1) c 44
  have hle : grownCap w (c + 1) c 44 ≤ maxLen := grownCap_le_maxLen w (c + 1) c 44 (by simp only [maxLen]; omega)
  obtain ⟨K, hK⟩ : ∃ K, grownCap w (c + 1) c 44 = K := ⟨_, rfl⟩
  rw [hK] at hap hge hle
  obtain ⟨rest, hrest⟩ : ∃ rest : List Value, rest = (Builtin.zeroCells (Value.agg #[.int .i64 0, .int .i64 0, .int .i64 0, .int .i64 0, .int .i64 0, .int .i64 0]).cells (c + 1 - i)).toList ++ (Builtin.zeroCells (Value.agg #[.int .i64 0, .int .i64 0, .int .i64 0, .int .i64 0, .int .i64 0, .int .i64 0]).cells (K - (c + 1))).toList := ⟨_, rfl⟩
  have hrl : rest.length = (K - i) * 6 := by
    have hz : (Value.agg #[.int .i64 0, .int .i64 0, .int .i64 0, .int .i64 0, .int .i64 0, .int .i64 0]).cells.size = 6 := rfl
    rw [hrest, List.length_append, Array.length_toList, Array.length_toList, size_zeroCells, size_zeroCells, hz]
    omega
  obtain ⟨w2, hw2⟩ : ∃ w2, w.drew.alloc (.cells (xs.take (i * 6) ++ rest).toArray 44) = w2 := ⟨_, rfl⟩
  have hap2 : (Builtin.append_ #[23, 3] 23 #[.slice (some ⟨g, o, none⟩) i c, .int .i64 ((c : Int) + 1 - (i : Int))]).run Try.prog w = .ok (.slice (some ⟨w.heap.size, 0, none⟩) (c + 1) K) w2 := by
    rw [show ((c : Int) + 1 - (i : Int)) = ((c + 1 - i : Nat) : Int) by omega, hap, ← hw2]
    congr 2
    rw [hrest]
    simp
  have hb2 : Blk w2 w.heap.size 44 (xs.take (i * 6) ++ rest).toArray := by rw [← hw2]; exact Blk.last w.drew _ _ rfl
  have hn2 : Nw w w2 := by rw [← hw2]; exact ((Nw.refl w).drew).alloc _
  have HAP := Lib.hid hap2
  have HB2 := Lib.hid hb2
  have N2 := Lib.hid hn2
  have HR := Lib.hid hrow
  have HXL := Lib.hid hxl
  have HRL := Lib.hid hrl
  have HRD := Lib.hid hrd
  have HV := Lib.hid hV
  have H1 := Lib.hid h1
  have HX1 := Lib.hid hx1
  have HI := Lib.hid (⟨hi0, hz1⟩ : Try.prog.info? 44 = some i0 ∧ i0.size = 6)
  obtain ⟨G, hG⟩ : ∃ G, w.heap.size = G := ⟨_, rfl⟩
  have HG := Lib.hid hG
  rw [hG] at HAP HB2
  have e1 : ¬ K = i := by omega
  have e2 : (i : Int) ≤ (c : Int) + 1 := by omega
  have e3 : ¬ c = i := by omega
  have hKm : K ≤ 9223372036854775807 := by simpa [maxLen] using hle
  obtain ⟨w3, hw3⟩ : ∃ w3, w2.setRow G (lay (xs.take (i * 6) ++ rest) (i * 6) row).toArray = w3 := ⟨_, rfl⟩
  have htl : (xs.take (i * 6)).length = i * 6 := by rw [List.length_take, hxl]; omega
  have hcl : (xs.take (i * 6) ++ rest).length = K * 6 := by rw [List.length_append, htl, hrl]; omega
  have hc1 : (Builtin.copy_ #[23, 23] 3 #[.slice (some ⟨G, i * 6, none⟩) (c + 1 - i) (K - i), .slice (some ⟨V, 0, none⟩) 1 1]).run Try.prog w2 = .ok (goInt (Nat.min 1 (c + 1 - i))) w3 := by
    rw [← hw3]
    have h := run_copy_at (P := Try.prog) w2 23 23 3 44 44 i0 6 Try.underlying23 hi0 hz1 G (i * 6) (xs.take (i * 6) ++ rest).toArray HB2.out (c + 1 - i) (K - i) ⟨V, 0, none⟩ 1 1 row
      (by rw [hrow, show Nat.min 1 (c + 1 - i) = 1 from Nat.min_eq_left (by omega)]) (fun j u hu => by
        rw [add_plain]
        obtain ⟨b, o', e, _, hcc⟩ := hV.get (k := 0) (by rw [hrow]; omega)
        injection e with e
        injection e with ea eb _
        subst ea eb
        exact hn2.cell (hcc j u hu)) (by rw [List.size_toArray, hcl, hrow]; omega) h1
    exact h
  have hb3 : Blk w3 G 44 (lay (xs.take (i * 6) ++ rest) (i * 6) row).toArray := by rw [← hw3]; exact setRow_heap w2 G _ _ _ _ HB2.out
  have hn3 : Nw w w3 := by rw [← hw3]; exact Chg.below (M := fun _ => False) ((Chg.of_below hn2 (Nat.le_refl _) _).setRow (.inr (by omega)) _) (fun i _ h => h.elim) (Nat.le_refl _)
  have hll : (lay (xs.take (i * 6) ++ rest) (i * 6) row).length = K * 6 := by rw [lay_length _ _ _ (by rw [hcl, hrow]; omega), hcl]
  obtain ⟨w4, hw4⟩ : ∃ w4, w3.drew.setRow G (lay (lay (xs.take (i * 6) ++ rest) (i * 6) row) ((i + 1) * 6) (xs.drop (i * 6))).toArray = w4 := ⟨_, rfl⟩
  have hdl : (xs.drop (i * 6)).length = (c - i) * 6 := by rw [List.length_drop, hxl]; omega
  have hc2 : (Builtin.copy_ #[23, 23] 3 #[.slice (some ⟨G, (i + 1) * 6, none⟩) (c - i) (K - (i + 1)), .slice (some ⟨g, o + i * 6, none⟩) (c - i) (c - i)]).run Try.prog w3.drew = .ok (goInt (Nat.min (c - i) (c - i))) w4 := by
    rw [← hw4]
    have h := run_copy_at (P := Try.prog) w3.drew 23 23 3 44 44 i0 6 Try.underlying23 hi0 hz1 G ((i + 1) * 6) _ hb3.drew (c - i) (K - (i + 1)) ⟨g, o + i * 6, none⟩ (c - i) (c - i) (xs.drop (i * 6))
      (by rw [hdl, show Nat.min (c - i) (c - i) = c - i from Nat.min_eq_left (Nat.le_refl _)]) (fun j u hu => by
        rw [add_plain, Nat.add_assoc]
        rw [List.getElem?_drop] at hu
        exact hn3.drew.cell (hcell _ u hu)) (by rw [List.size_toArray, hll, hdl]; omega) (fun u hu => hx1 u (List.mem_of_mem_drop hu))
    exact h
  have hb4 : Blk w4 G 44 (lay (lay (xs.take (i * 6) ++ rest) (i * 6) row) ((i + 1) * 6) (xs.drop (i * 6))).toArray := by rw [← hw4]; exact setRow_heap w3.drew G _ _ _ _ hb3.drew
  have hn4 : Nw w w4 := by rw [← hw4]; exact Chg.below (M := fun _ => False) ((Chg.of_below hn3.drew (Nat.le_refl _) _).setRow (.inr (by omega)) _) (fun i _ h => h.elim) (Nat.le_refl _)
  have hown : Own w4 44 6 (.slice (some ⟨G, 0, none⟩) (c + 1) K) (c + 1) (insAt xs row (i * 6)) (some G) := by
    refine ⟨by rw [insAt_length _ _ _ (by omega), hxl, hrow]; omega, _, K, rfl, by omega, hle, .inr ⟨G, 0, _, rfl, rfl, hb4, ?_, ?_⟩⟩
    · rw [List.size_toArray, lay_length _ _ _ (by rw [hll, hdl]; omega), hll]; omega
    · rw [List.drop_zero]
      exact ins_grow rest c i xs row hxl hrow hi (by rw [hrl]; omega)
  have HC1 := Lib.hid hc1
  have HC2 := Lib.hid hc2
  have HOWN := Lib.hid hown
  have N4 := Lib.hid hn4
  have e4 : ¬ K = i + 1 := by omega
  have e5 : (i : Int) + 1 ≤ (c : Int) + 1 := by omega
  have e6 : (0 : Int) ≤ (i : Int) := by omega
  have e7 : (i : Int) ≤ (c : Int) := by omega
  clear hap hap2 hb2 hn2 hw2 hrest hK hG hold hcell hi0 hz0 hz1 hz2 hxl hrow hrl hrd hV h1 hx1 hle hcm h hw3 hw4 hc1 hc2 hb3 hb4 hn3 hn4 hown htl hcl hll hdl
  go_enter Try.func59, Try.ntmps59
  go_wp2_with (at_builtin; refine wpList_append_run _ rfl _ _ _ _ rfl _ _ rfl rfl HAP.out ?_)
  rw [HC1.out]
  go_wp2_with fail
  have k1 : IntKind.i64.wrap ((i : Int) + 1) = (i : Int) + 1 := IntWalk.i64_in _ (by constructor <;> omega)
  have k2 : (0 : Int) ≤ (i : Int) + 1 := by omega
  have k3 : ((i : Int) + 1).toNat = i + 1 := by omega
  have hc2 := HC2.out
  go_region_law (fail)
  clear hc2
  go_wp2_with fail
  go_ret
  exact ⟨_, K, some G, rfl, HOWN.out, Chg.of_below N4.out (Nat.le_refl _) _, fun g' e => .inr (by injection e with e; have := HG.out; omega)⟩
/-- In place: what stood behind moves on, the row is laid in. -/
theorem insert_room (hc : n + 1 ≤ c) (h : Own w 44 6 (.slice A n c) n xs blk) (hi : i < n) (hn : n ≤ 100000) (hrow : row.length = 6) (h1 : ∀ u ∈ row, u.oneCell' = true) (hx1 : ∀ u ∈ xs, u.oneCell' = true) (hV : Blk w V 44 row.toArray) (hVb : blk ≠ some V) :
    Calls Try.prog 59 #[.slice A n c, .int .i64 (i : Int), .slice (some ⟨V, 0, none⟩) 1 1] w (InsOut w n i xs row blk) := by
  obtain ⟨i0, hi0, hz0, hz1, hz2⟩ := info_parts infoE6
  obtain ⟨hxl, A', c', e, hnc, hcm, h3 | ⟨g, off, cur, rfl, rfl, hg, hfit, htake⟩⟩ := h
  · injection e with _ _ e3
    have := h3.1
    omega
  injection e with e1 _ e3
  subst e1 e3
  have hne : V ≠ g := fun e => hVb (by rw [e])
  have hdl : (xs.drop (i * 6)).length = (n - i) * 6 := by rw [List.length_drop, hxl]; omega
  have hcl : off + c * 6 ≤ cur.toList.length := by rw [Array.length_toList]; exact hfit
  have hsrc : ∀ j u, (xs.drop (i * 6))[j]? = some u → w.cell? ⟨g, off + i * 6 + j, none⟩ = some u := fun j u hu => by
    rw [hg.cell, ← Array.getElem?_toList]
    rw [List.getElem?_drop, ← htake, List.getElem?_take] at hu
    split at hu
    · rw [List.getElem?_drop] at hu; rw [Nat.add_assoc]; exact hu
    · cases hu
  obtain ⟨w3, hw3⟩ : ∃ w3, w.drew.setRow g (lay cur.toList (off + (i + 1) * 6) (xs.drop (i * 6))).toArray = w3 := ⟨_, rfl⟩
  have hc1 : (Builtin.copy_ #[23, 23] 3 #[.slice (some ⟨g, off + (i + 1) * 6, none⟩) (n - i) (c - (i + 1)), .slice (some ⟨g, off + i * 6, none⟩) (n + 1 - i) (c - i)]).run Try.prog w.drew = .ok (goInt (Nat.min (n + 1 - i) (n - i))) w3 := by
    rw [← hw3]
    exact run_copy_at (P := Try.prog) w.drew 23 23 3 44 44 i0 6 Try.underlying23 hi0 hz1 g (off + (i + 1) * 6) cur hg.drew (n - i) (c - (i + 1)) ⟨g, off + i * 6, none⟩ (n + 1 - i) (c - i) (xs.drop (i * 6))
      (by rw [hdl, show Nat.min (n + 1 - i) (n - i) = n - i from Nat.min_eq_right (by omega)]) (fun j u hu => by rw [add_plain]; exact hsrc j u hu) (by rw [hdl]; omega) (fun u hu => hx1 u (List.mem_of_mem_drop hu))
  have hb3 : Blk w3 g 44 (lay cur.toList (off + (i + 1) * 6) (xs.drop (i * 6))).toArray := by rw [← hw3]; exact setRow_heap w.drew g _ _ _ _ hg.drew
  have hch3 : Chg (fun k => some k = some g) w w3 := by rw [← hw3]; exact Chg.setRow (M := fun k => some k = some g) ((Chg.refl (fun k => some k = some g) w).drew) (.inl rfl) _
  have hV3 : Blk w3 V 44 row.toArray := hV.chg hch3 (fun e => hne (by injection e))
  have hll : (lay cur.toList (off + (i + 1) * 6) (xs.drop (i * 6))).length = cur.toList.length := lay_length _ _ _ (by rw [hdl]; omega)
  obtain ⟨w4, hw4⟩ : ∃ w4, w3.setRow g (lay (lay cur.toList (off + (i + 1) * 6) (xs.drop (i * 6))) (off + i * 6) row).toArray = w4 := ⟨_, rfl⟩
  have hc2 : (Builtin.copy_ #[23, 23] 3 #[.slice (some ⟨g, off + i * 6, none⟩) (n + 1 - i) (c - i), .slice (some ⟨V, 0, none⟩) 1 1]).run Try.prog w3 = .ok (goInt (Nat.min 1 (n + 1 - i))) w4 := by
    rw [← hw4]
    exact run_copy_at (P := Try.prog) w3 23 23 3 44 44 i0 6 Try.underlying23 hi0 hz1 g (off + i * 6) _ hb3 (n + 1 - i) (c - i) ⟨V, 0, none⟩ 1 1 row
      (by rw [hrow, show Nat.min 1 (n + 1 - i) = 1 from Nat.min_eq_left (by omega)]) (fun j u hu => by rw [add_plain, Nat.zero_add, hV3.cell]; simpa using hu) (by rw [List.size_toArray, hll, hrow]; omega) h1
  have hb4 : Blk w4 g 44 (lay (lay cur.toList (off + (i + 1) * 6) (xs.drop (i * 6))) (off + i * 6) row).toArray := by rw [← hw4]; exact setRow_heap w3 g _ _ _ _ hb3
  have hch4 : Chg (fun k => some k = some g) w w4 := by rw [← hw4]; exact Chg.setRow (M := fun k => some k = some g) hch3 (.inl rfl) _
  have hown : Own w4 44 6 (.slice (some ⟨g, off, none⟩) (n + 1) c) (n + 1) (insAt xs row (i * 6)) (some g) := by
    refine ⟨by rw [insAt_length _ _ _ (by omega), hxl, hrow]; omega, _, c, rfl, by omega, hcm, .inr ⟨g, off, _, rfl, rfl, hb4, ?_, ?_⟩⟩
    · rw [List.size_toArray, lay_length _ _ _ (by rw [hll, hrow]; omega), hll]; exact hcl
    · exact ins_room cur.toList off n i c xs row hxl hrow hi hc hcl htake
  have hov : ∀ lb cb, (callFunc 75 #[.slice (some ⟨V, 0, none⟩) 1 1, .slice (some ⟨g, off + (i + 1) * 6, none⟩) lb cb]).run Try.prog w = .ok (.value (.bool false)) w := fun lb cb => by
    rw [run_callFunc_extern Try.func75 (by kernel_rfl) (by kernel_rfl) (by kernel_rfl) (e := Extern.SlicesOverlaps.overlaps #[23, 23] #[4]) (by kernel_rfl),
      Lib.run_overlaps_apart w 23 4 44 Try.underlying23 6 (fun w => by kernel_rfl) ⟨V, 0, none⟩ ⟨g, off + (i + 1) * 6, none⟩ 1 1 lb cb hne 44 44 6 cur.size (by
        have h := hV
        unfold Blk at h
        simp [World.shape?, h, hrow]) (by
        have h := hg
        unfold Blk at h
        simp [World.shape?, h]) (by omega) (hV.frozen _) (hV.frozen _)]
    rfl
  have hcm' : c ≤ 9223372036854775807 := by simpa [maxLen] using hcm
  have HC1 := Lib.hid hc1
  have HC2 := Lib.hid hc2
  have HOWN := Lib.hid hown
  have HCH := Lib.hid hch4
  have HOV := Lib.hid hov
  have e1 : ¬ c = i + 1 := by omega
  have e2 : (i : Int) + 1 ≤ (n : Int) + 1 := by omega
  have e3 : ¬ c = i := by omega
  have e4 : (n : Int) + 1 ≤ (c : Int) := by omega
  have e5 : (i : Int) ≤ (n : Int) + 1 := by omega
  have e6 : (0 : Int) ≤ (i : Int) := by omega
  clear hi0 hz0 hz1 hz2 hcm htake hfit hg hne hdl hcl hsrc hw3 hw4 hc1 hc2 hb3 hch3 hV3 hll hb4 hch4 hown hov hV hVb h1 hx1 hrow hxl
  go_enter Try.func59, Try.ntmps59
  go_wp2_with fail
  rw [HOV.out]
  go_wp2_with fail
  have k1 : IntKind.i64.wrap ((i : Int) + 1) = (i : Int) + 1 := IntWalk.i64_in _ (by constructor <;> omega)
  have k2 : (0 : Int) ≤ (i : Int) + 1 := by omega
  have k3 : ((i : Int) + 1).toNat = i + 1 := by omega
  have hc1 := HC1.out
  go_region_law (fail)
  clear hc1 k1 k2 k3
  go_wp2_with fail
  rw [HC2.out]
  go_wp2_with fail
  go_ret
  exact ⟨_, c, some g, rfl, HOWN.out, HCH.out, fun g' e => .inl e⟩
/-- slices.Insert of an event, at whatever place. -/
theorem insert_any (h : Own w 44 6 (.slice A n c) n xs blk) (hi : i ≤ n) (hn : n ≤ 100000) (hrow : row.length = 6) (h1 : ∀ u ∈ row, u.oneCell' = true) (hx1 : ∀ u ∈ xs, u.oneCell' = true) (hV : Blk w V 44 row.toArray) (hVb : blk ≠ some V) :
    Calls Try.prog 59 #[.slice A n c, .int .i64 (i : Int), .slice (some ⟨V, 0, none⟩) 1 1] w (InsOut w n i xs row blk) := by
  have hr : Rd w (some ⟨V, 0, none⟩) row := .inr ⟨V, 0, rfl, fun j u hu => by rw [Nat.zero_add, hV.cell]; simpa using hu⟩
  have hnc : n ≤ c := by obtain ⟨_, _, e, _, h2, _⟩ := h.rd; injection e with _ _ e3; rw [e3]; exact h2
  by_cases e : i = n
  · subst e
    exact insert_end A i c V xs row blk w h hn hrow h1 hr
  · by_cases e2 : n + 1 ≤ c
    · exact insert_room A n i c V xs row blk w e2 h (by omega) hn hrow h1 hx1 hV hVb
    · exact insert_grow A n i c V xs row blk w (by omega) h (by omega) hn hrow h1 hx1 hr
end
end Go.Proofs.Ytgijkgngldfdiaa
/- slices.Delete of the first event. Helper. -/
namespace Go.Proofs.Ytgijkgngldfdiaa
open Go.RowKit
set_option linter.unusedVariables false
set_option linter.unusedSimpArgs false
/-- 'append(v, x...)' where there is room, in a block that is known whole: x may lie in the same block. -/
theorem run_append_over {P : Program} (w : World) (t ty e tb : TypeId) (i : TypeInfo) (size : Nat) (ht : P.underlying t = some (.slice e)) (hi : P.info? e = some i) (hsize : i.size = size) (g off k cap : Nat) (cur : Array Value) (hg : Blk w g tb cur) (ad : Addr) (m c : Nat) (news : List Value)
    (hl : news.length = m * size) (hr : ∀ j u, news[j]? = some u → w.cell? (ad.add j) = some u) (h1 : ∀ u ∈ news, u.oneCell' = true) (hroom : k + m ≤ cap) (hfit : off + k * size + news.length ≤ cur.size) :
    (Builtin.append_ #[t, t] ty #[.slice (some ⟨g, off, none⟩) k cap, .slice (some ad) m c]).run P w = .ok (.slice (some ⟨g, off, none⟩) (k + m) cap) (w.setRow g (lay cur.toList (off + k * size) news).toArray) := by
  subst hsize
  have hf := run_firstCells_some (P := P) w i.size m ad m c news hl hr
  have hst := run_storeCells_at P g (off + k * i.size) tb news 0 cur w hg (by simpa using hfit) h1
  simp only [Nat.add_zero] at hst
  simp [Builtin.append_, run_underlying ht, sizeOf, typeInfo, hi, Builtin.lenOf, hroom, hf, add_plain, hst, lay]
def zero6 : List Value := [.int .i64 0, .int .i64 0, .int .i64 0, .int .i64 0, .int .i64 0, .int .i64 0]
theorem del_first (cur : List Value) (off n c : Nat) (xs : List Value) (hl : xs.length = n * 6) (hn : 1 ≤ n) (hc : n ≤ c) (hfit : off + c * 6 ≤ cur.length) (ht : (cur.drop off).take (n * 6) = xs) :
    ((lay (lay cur off (xs.drop 6)) (off + (n - 1) * 6) zero6).drop off).take ((n - 1) * 6) = xs.drop 6 := by
  have hd : (xs.drop 6).length = n * 6 - 6 := by rw [List.length_drop, hl]
  have hz : zero6.length = 6 := rfl
  have f1 : off + (xs.drop 6).length ≤ cur.length := by rw [hd]; omega
  have f2 : off + (n - 1) * 6 + zero6.length ≤ (lay cur off (xs.drop 6)).length := by rw [lay_length _ _ _ f1, hz]; omega
  apply List.ext_getElem?
  intro j
  rw [List.getElem?_take, List.getElem?_drop, lay_get _ _ _ f2, lay_get _ _ _ f1, hd]
  by_cases h : j < (n - 1) * 6
  · rw [if_pos h, if_pos (show off + j < off + (n - 1) * 6 by omega), if_neg (show ¬ off + j < off by omega), if_pos (show off + j < off + (n * 6 - 6) by omega), show off + j - off = j by omega]
  · rw [if_neg h, List.getElem?_eq_none (by rw [hd]; omega)]
section
variable (A : Option Addr) (n c : Nat) (xs : List Value) (blk : Option Nat) (w : World)
set_option maxRecDepth 100000
set_option maxHeartbeats 1600000
theorem delete_first (h : Own w 44 6 (.slice A n c) n xs blk) (hn1 : 1 ≤ n) (hn : n ≤ 100000) (hx1 : ∀ u ∈ xs, u.oneCell' = true) :
    Calls Try.prog 41 #[.slice A n c, .int .i64 0, .int .i64 1] w fun e w' =>
      ∃ c', e = .returned (.slice A (n - 1) c') ∧ Own w' 44 6 (.slice A (n - 1) c') (n - 1) (xs.drop 6) blk ∧ Chg (fun k => some k = blk) w w' := by
  obtain ⟨i0, hi0, hz0, hz1, hz2⟩ := info_parts infoE6
  obtain ⟨hxl, A', c', e, hnc, hcm, h3 | ⟨g, off, cur, rfl, rfl, hg, hfit, htake⟩⟩ := h
  · injection e with _ _ e3
    have := h3.1
    omega
  injection e with e1 _ e3
  subst e1 e3
  have hdl : (xs.drop 6).length = (n - 1) * 6 := by rw [List.length_drop, hxl]; omega
  have hcl : off + c * 6 ≤ cur.toList.length := by rw [Array.length_toList]; exact hfit
  have hll : (lay cur.toList off (xs.drop 6)).length = cur.toList.length := lay_length _ _ _ (by rw [hdl]; omega)
  have hsrc : ∀ j u, (xs.drop 6)[j]? = some u → w.cell? ⟨g, off + 6 + j, none⟩ = some u := fun j u hu => by
    rw [hg.cell, ← Array.getElem?_toList]
    rw [List.getElem?_drop, ← htake, List.getElem?_take] at hu
    split at hu
    · rw [List.getElem?_drop] at hu; rw [Nat.add_assoc]; exact hu
    · cases hu
  obtain ⟨w3, hw3⟩ : ∃ w3, w.drew.setRow g (lay cur.toList off (xs.drop 6)).toArray = w3 := ⟨_, rfl⟩
  have hap : ∀ ad c2, (∀ j u, (xs.drop 6)[j]? = some u → w.drew.cell? ((ad : Addr).add j) = some u) → (Builtin.append_ #[23, 23] 23 #[.slice (some ⟨g, off, none⟩) 0 c, .slice (some ad) (n - 1) c2]).run Try.prog w.drew = .ok (.slice (some ⟨g, off, none⟩) (n - 1) c) w3 := fun ad c2 had => by
    have k := run_append_over (P := Try.prog) w.drew 23 23 44 44 i0 6 Try.underlying23 hi0 hz1 g off 0 c cur hg.drew ad (n - 1) c2 (xs.drop 6) hdl had (fun u hu => hx1 u (List.mem_of_mem_drop hu)) (by omega) (by rw [hdl]; omega)
    simp only [Nat.zero_mul, Nat.add_zero, Nat.zero_add] at k
    rw [k, hw3]
  have hb3 : Blk w3 g 44 (lay cur.toList off (xs.drop 6)).toArray := by rw [← hw3]; exact setRow_heap w.drew g _ _ _ _ hg.drew
  have hch3 : Chg (fun k => some k = some g) w w3 := by rw [← hw3]; exact Chg.setRow (M := fun k => some k = some g) ((Chg.refl (fun k => some k = some g) w).drew) (.inl rfl) _
  obtain ⟨w4, hw4⟩ : ∃ w4, w3.setRow g (lay (lay cur.toList off (xs.drop 6)) (off + (n - 1) * 6) zero6).toArray = w4 := ⟨_, rfl⟩
  have hcr : ∀ c2, (Builtin.clear_ #[23] 0 #[.slice (some ⟨g, off + (n - 1) * 6, none⟩) 1 c2]).run Try.prog w3 = .ok (.tuple #[]) w4 := fun c2 => by
    rw [← hw4]
    have k := run_clear_at (P := Try.prog) w3 23 44 0 44 (.agg #[.int .i64 0, .int .i64 0, .int .i64 0, .int .i64 0, .int .i64 0, .int .i64 0]) 6 zero6 Try.underlying23 (by kernel_rfl) g (off + (n - 1) * 6) 1 c2 (by omega) (by kernel_rfl) (lay cur.toList off (xs.drop 6)).toArray hb3 (by rw [List.size_toArray, hll]; show _ + 6 ≤ _; omega) (by intro u hu; simp [zero6] at hu; subst hu; rfl)
    exact k
  have hb4 : Blk w4 g 44 (lay (lay cur.toList off (xs.drop 6)) (off + (n - 1) * 6) zero6).toArray := by rw [← hw4]; exact setRow_heap w3 g _ _ _ _ hb3
  have hch4 : Chg (fun k => some k = some g) w w4 := by rw [← hw4]; exact Chg.setRow (M := fun k => some k = some g) hch3 (.inl rfl) _
  have hown : Own w4 44 6 (.slice (some ⟨g, off, none⟩) (n - 1) c) (n - 1) (xs.drop 6) (some g) := by
    refine ⟨hdl, _, c, rfl, by omega, hcm, .inr ⟨g, off, _, rfl, rfl, hb4, ?_, ?_⟩⟩
    · rw [List.size_toArray, lay_length _ _ _ (by rw [hll]; show _ + 6 ≤ _; omega), hll]; exact hcl
    · exact del_first cur.toList off n c xs hxl hn1 hnc hcl htake
  have hcm' : c ≤ 9223372036854775807 := by simpa [maxLen] using hcm
  have HCR := Lib.hid hcr
  have HOWN := Lib.hid hown
  have HCH := Lib.hid hch4
  have k1 : (1 : Int) ≤ (n : Int) := by omega
  have k2 : (n : Int) ≤ (c : Int) := by omega
  have k3 : ¬ c = n - 1 := by omega
  by_cases hc1 : n = 1
  · subst hc1
    have hl2 : off + 6 ≤ cur.toList.length := by omega
    obtain ⟨w5, hw5⟩ : ∃ w5, w.drew.setRow g (lay cur.toList off zero6).toArray = w5 := ⟨_, rfl⟩
    have hcr5 : ∀ c2, (Builtin.clear_ #[23] 0 #[.slice (some ⟨g, off, none⟩) 1 c2]).run Try.prog w.drew = .ok (.tuple #[]) w5 := fun c2 => by
      rw [← hw5]
      exact run_clear_at (P := Try.prog) w.drew 23 44 0 44 (.agg #[.int .i64 0, .int .i64 0, .int .i64 0, .int .i64 0, .int .i64 0, .int .i64 0]) 6 zero6 Try.underlying23 (by kernel_rfl) g off 1 c2 (by omega) (by kernel_rfl) cur hg.drew (by rw [← Array.length_toList]; exact hl2) (by intro u hu; simp [zero6] at hu; subst hu; rfl)
    have hb5 : Blk w5 g 44 (lay cur.toList off zero6).toArray := by rw [← hw5]; exact setRow_heap w.drew g _ _ _ _ hg.drew
    have hch5 : Chg (fun k => some k = some g) w w5 := by rw [← hw5]; exact Chg.setRow (M := fun k => some k = some g) ((Chg.refl (fun k => some k = some g) w).drew) (.inl rfl) _
    have hnil : xs.drop 6 = [] := List.eq_nil_of_length_eq_zero (by rw [hdl])
    have hown5 : Own w5 44 6 (.slice (some ⟨g, off, none⟩) (1 - 1) c) (1 - 1) (xs.drop 6) (some g) :=
      ⟨hdl, _, c, rfl, by omega, hcm, .inr ⟨g, off, _, rfl, rfl, hb5, by rw [List.size_toArray, lay_length _ _ _ hl2]; exact hcl, by rw [hnil]; simp⟩⟩
    have HCR5 := Lib.hid hcr5
    have HOWN5 := Lib.hid hown5
    have HCH5 := Lib.hid hch5
    clear hap hcr hown hch4 hw4 hb4 hch3 hb3 hw3 hsrc hll hcl hdl htake hfit hg hx1 hi0 hz0 hz1 hz2 hxl hcm hw5 hcr5 hb5 hch5 hnil hown5 hl2 HCR HOWN HCH k3
    by_cases hc2 : c = 1
    · subst hc2
      go_enter Try.func41, Try.ntmps41
      go_wp2_with fail
      go_region_law (fail)
      go_wp2_with fail
      rw [HCR5.out]
      go_wp2_with fail
      go_ret
      exact ⟨1, rfl, HOWN5.out, HCH5.out⟩
    · have k5 : (1 : Int) ≤ (c : Int) := by omega
      have k6 : ¬ c = 0 := by omega
      go_enter Try.func41, Try.ntmps41
      go_wp2_with fail
      go_region_law (fail)
      go_wp2_with fail
      rw [HCR5.out]
      go_wp2_with fail
      go_ret
      exact ⟨c, rfl, HOWN5.out, HCH5.out⟩
  · have hap1 := hap ⟨g, off + 6, none⟩ (c - 1) (fun j u hu => by rw [add_plain]; exact hsrc j u hu)
    have HAP := Lib.hid hap1
    have k5 : ¬ c = 1 := by omega
    have k6 : (1 : Int) ≤ (c : Int) := by omega
    clear hap hap1 hcr hown hch4 hw4 hb4 hch3 hb3 hw3 hsrc hll hcl hdl htake hfit hg hx1 hi0 hz0 hz1 hz2 hxl hcm
    go_enter Try.func41, Try.ntmps41
    go_wp2_with fail
    go_region_law ((refine step_append_run _ (by rfl) _ _ _ _ (by rfl) _ _ (by rfl) (by rfl) HAP.out ?_))
    go_wp2_with fail
    rw [show n - (n - 1) = 1 by omega, HCR.out]
    go_wp2_with fail
    go_ret
    exact ⟨c, rfl, HOWN.out, HCH.out⟩
end
end Go.Proofs.Ytgijkgngldfdiaa
/- slices.BinarySearchFunc among events in order. Helper. -/
namespace Go.Proofs.Ytgijkgngldfdiaa
open Go.RowKit
set_option linter.unusedVariables false
set_option linter.unusedSimpArgs false
theorem byKey_any (a b : Ky) (t k d t' k' d' : Int) (w : World) :
    Calls Try.prog 58 #[.agg #[.int .i64 a.T, .int .i64 a.O, .int .i64 a.S, .int .i64 t, .int .i64 k, .int .i64 d], .agg #[.int .i64 b.T, .int .i64 b.O, .int .i64 b.S, .int .i64 t', .int .i64 k', .int .i64 d']] w fun e w' => e = .returned (.int .i64 (a.cmp b)) ∧ Below w.heap.size w w' := by
  have k := Lib.hid (fun w => compare_any a b w)
  go_enter Try.func58, Try.ntmps58
  go_wp2_with fail
  refine (k.out _).mono ?_
  rintro e w1 ⟨rfl, b1⟩
  have bb : Below w.heap.size w w1 := (((Nw.refl w).alloc _).alloc _).step b1
  clear b1
  go_wp2_with fail
  go_ret
  exact ⟨rfl, bb⟩
/-- How many come ahead of an event. -/
def pos (ws : List Ev) (e : Ev) : Nat := (ws.takeWhile fun x => x.k.less e.k).length
theorem pos_le (ws : List Ev) (e : Ev) : pos ws e ≤ ws.length := by
  have h := congrArg List.length (List.takeWhile_append_dropWhile (p := fun x : Ev => x.k.less e.k) (l := ws))
  rw [List.length_append] at h
  unfold pos; omega
theorem pos_iff : ∀ (ws : List Ev) (e : Ev), Srt ws → ∀ h (hh : h < ws.length), ws[h].k.less e.k = decide (h < pos ws e)
  | a :: l, e, hs, h, hh => by
    have hc := List.pairwise_cons.1 hs
    unfold pos
    rw [List.takeWhile_cons]
    cases ha : a.k.less e.k with
    | true =>
      simp only [if_true, List.length_cons]
      cases h with
      | zero => simp [ha]
      | succ h =>
        have hh' : h < l.length := by simpa using hh
        have := pos_iff l e hc.2 h hh'
        unfold pos at this
        rw [show (a :: l)[h + 1] = l[h] from rfl, this]
        congr 1
        simp
    | false =>
      rw [if_neg (by simp)]
      cases h with
      | zero => simp [ha]
      | succ h =>
        have hh' : h < l.length := by simpa using hh
        have h1 := hc.1 _ (List.getElem_mem hh')
        have h2 : l[h].k.less e.k = false := Ky.le_trans ha (Ky.less_asymm h1)
        rw [show (a :: l)[h + 1] = l[h] from rfl, h2]
        simp
theorem insE_eq (ws : List Ev) (e : Ev) : insE ws e = ws.take (pos ws e) ++ e :: ws.drop (pos ws e) := by
  have h := List.takeWhile_append_dropWhile (p := fun x : Ev => x.k.less e.k) (l := ws)
  unfold insE pos
  generalize ws.takeWhile (fun x => x.k.less e.k) = a at *
  generalize ws.dropWhile (fun x => x.k.less e.k) = b at *
  rw [← h, List.take_left, List.drop_left]
def rows (ws : List Ev) : List Int := (ws.map Ev.row).flatten
theorem rows_length : ∀ ws : List Ev, (rows ws).length = ws.length * 6
  | [] => rfl
  | e :: l => by
    have h := rows_length l
    unfold rows at *
    rw [List.map_cons, List.flatten_cons, List.length_append, h, List.length_cons]
    show 6 + _ = _
    omega
theorem rows_get : ∀ (ws : List Ev) (h : Nat) (hh : h < ws.length) (i : Nat), i < 6 → (rows ws)[h * 6 + i]? = (ws[h].row)[i]?
  | e :: l, 0, _, i, hi => by
    unfold rows
    rw [List.map_cons, List.flatten_cons, Nat.zero_mul, Nat.zero_add, List.getElem?_append_left (by show i < 6; exact hi)]; rfl
  | e :: l, h + 1, hh, i, hi => by
    have hh' : h < l.length := by simpa using hh
    have := rows_get l h hh' i hi
    unfold rows at *
    rw [List.map_cons, List.flatten_cons, List.getElem?_append_right (by show 6 ≤ _; omega), show (h + 1) * 6 + i - e.row.length = h * 6 + i by show (h + 1) * 6 + i - 6 = _; omega, this]; rfl
/-- The place is found. -/
def SearchOut (w : World) (p : Nat) (r : Ending) (w' : World) : Prop := ∃ b, r = .returned (.tuple #[.int .i64 (p : Int), .bool b]) ∧ Below w.heap.size w w'
/-- An event's cells among others. -/
theorem ev_at {w : World} {A : Option Addr} {ws : List Ev} (hr : Rd w A (ints (rows ws))) {h : Nat} (hh : h < ws.length) :
    ∃ b o, A = some ⟨b, o, none⟩ ∧ w.cell? ⟨b, o + h * 6, none⟩ = some (.int .i64 ws[h].k.T) ∧ w.cell? ⟨b, o + h * 6 + 1, none⟩ = some (.int .i64 ws[h].k.O) ∧ w.cell? ⟨b, o + h * 6 + 2, none⟩ = some (.int .i64 ws[h].k.S) ∧
      w.cell? ⟨b, o + h * 6 + 3, none⟩ = some (.int .i64 ws[h].p) ∧ w.cell? ⟨b, o + h * 6 + 4, none⟩ = some (.int .i64 ws[h].q) ∧ w.cell? ⟨b, o + h * 6 + 5, none⟩ = some (.int .i64 ws[h].d) := by
  have hl := rows_length ws
  obtain ⟨b, o, e, _, hc⟩ := hr.get (k := h * 6) (by rw [ints_length, hl]; omega)
  have c : ∀ i v, i < 6 → (ws[h].row)[i]? = some v → w.cell? ⟨b, o + h * 6 + i, none⟩ = some (.int .i64 v) := fun i v hi hv => by
    rw [Nat.add_assoc]
    exact hc (h * 6 + i) _ (by rw [ints_get, rows_get ws h hh i hi, hv]; rfl)
  exact ⟨b, o, e, c 0 _ (by omega) rfl, c 1 _ (by omega) rfl, c 2 _ (by omega) rfl, c 3 _ (by omega) rfl, c 4 _ (by omega) rfl, c 5 _ (by omega) rfl⟩
section
variable (A : Option Addr) (c : Nat) (ws : List Ev) (e : Ev) (w : World)
set_option maxRecDepth 100000
set_option maxHeartbeats 3200000
theorem search_any (hA : Rd w A (ints (rows ws))) (hs : Srt ws) (hn : ws.length ≤ 100000) :
    Calls Try.prog 57 #[.slice A ws.length c, .agg #[.int .i64 e.k.T, .int .i64 e.k.O, .int .i64 e.k.S, .int .i64 e.p, .int .i64 e.q, .int .i64 e.d], .func (.func 58) #[] #[]] w (SearchOut w (pos ws e)) := by
  obtain ⟨w1, hw1⟩ : ∃ w1, w.alloc (.cells #[.int .i64 e.k.T, .int .i64 e.k.O, .int .i64 e.k.S, .int .i64 e.p, .int .i64 e.q, .int .i64 e.d] 44) = w1 := ⟨_, rfl⟩
  have n1 : Nw w w1 := by rw [← hw1]; exact (Nw.refl w).alloc _
  have hbE : Blk w1 w.heap.size 44 #[.int .i64 e.k.T, .int .i64 e.k.O, .int .i64 e.k.S, .int .i64 e.p, .int .i64 e.q, .int .i64 e.d] := by rw [← hw1]; exact Blk.last w _ _ rfl
  obtain ⟨EB, hEB⟩ : ∃ EB, w.heap.size = EB := ⟨_, rfl⟩
  rw [hEB] at hbE
  have HA := Lib.hid hA
  have HS := Lib.hid hs
  have HW := Lib.hid hw1
  have HEB := Lib.hid hEB
  have N1 := Lib.hid n1
  have HBE := Lib.hid hbE
  have HPL := Lib.hid (pos_le ws e)
  obtain ⟨n, hnn⟩ : ∃ n, ws.length = n := ⟨_, rfl⟩
  have HN := Lib.hid hnn
  rw [hnn] at hn ⊢
  obtain ⟨p, hp⟩ : ∃ p, pos ws e = p := ⟨_, rfl⟩
  have HP := Lib.hid hp
  rw [hp]
  clear hA hs hw1 hEB n1 hbE hnn hp
  go_enter Try.func57, Try.ntmps57
  go_upto_region 1 with (fail)
  rw [HW.out, HEB.out]
  go_wp2_with fail
  go_loopw [9, 10] (fun a b wr => ∃ i j : Nat, i ≤ p ∧ p ≤ j ∧ j ≤ n ∧ a = .int .i64 i ∧ b = .int .i64 j ∧ Hid (Nw w1 wr)) (fun a b _ => (intOf b).toNat - (intOf a).toNat)
  case atStart => exact ⟨0, n, Nat.zero_le _, by have := HPL.out; rw [HP.out, HN.out] at this; exact this, Nat.le_refl _, rfl, rfl, Lib.hid (Nw.refl _)⟩
  case round =>
    obtain ⟨i, j, hip, hpj, hjn, rfl, rfl, HR⟩ := hrel
    by_cases hlt : i < j
    · have g1 : (i : Int) < (j : Int) := by omega
      obtain ⟨h, hh⟩ : ∃ h, (i + j) / 2 = h := ⟨_, rfl⟩
      have hhi : ((i : Int) + (j : Int)) / 2 = (h : Int) := by omega
      have HH := Lib.hid hhi
      have hih : i ≤ h := by omega
      have hhj : h < j := by omega
      have hhn : h < n := by omega
      clear hhi hh
      go_upto_region 5 with (fail)
      rw [HH.out]
      have g2 : (0 : Int) ≤ (h : Int) := by omega
      have g3 : (h : Int) < (n : Int) := by omega
      obtain ⟨b, o, rfl, ex0, ex1, ex2, ex3, ex4, ex5⟩ := ev_at HA.out (h := h) (by rw [HN.out]; exact hhn)
      obtain ⟨x, hx⟩ : ∃ x, ws[h]'(by rw [HN.out]; exact hhn) = x := ⟨_, rfl⟩
      rw [hx] at ex0 ex1 ex2 ex3 ex4 ex5
      have HX := Lib.hid hx
      have HSS := Lib.hid (fun W (hW : Nw w1 W) => (⟨hW, (N1.out.step hW).cell ex0, (N1.out.step hW).cell ex1, (N1.out.step hW).cell ex2, (N1.out.step hW).cell ex3, (N1.out.step hW).cell ex4, (N1.out.step hW).cell ex5, hW.cell (HBE.out.cell 0), hW.cell (HBE.out.cell 1), hW.cell (HBE.out.cell 2), hW.cell (HBE.out.cell 3), hW.cell (HBE.out.cell 4), hW.cell (HBE.out.cell 5)⟩ : Nw w1 W ∧ W.cell? ⟨b, o + h * 6, none⟩ = some (.int .i64 x.k.T) ∧ W.cell? ⟨b, o + h * 6 + 1, none⟩ = some (.int .i64 x.k.O) ∧ W.cell? ⟨b, o + h * 6 + 2, none⟩ = some (.int .i64 x.k.S) ∧ W.cell? ⟨b, o + h * 6 + 3, none⟩ = some (.int .i64 x.p) ∧ W.cell? ⟨b, o + h * 6 + 4, none⟩ = some (.int .i64 x.q) ∧ W.cell? ⟨b, o + h * 6 + 5, none⟩ = some (.int .i64 x.d) ∧ W.cell? ⟨EB, 0, none⟩ = some (.int .i64 e.k.T) ∧ W.cell? ⟨EB, 1, none⟩ = some (.int .i64 e.k.O) ∧ W.cell? ⟨EB, 2, none⟩ = some (.int .i64 e.k.S) ∧ W.cell? ⟨EB, 3, none⟩ = some (.int .i64 e.p) ∧ W.cell? ⟨EB, 4, none⟩ = some (.int .i64 e.q) ∧ W.cell? ⟨EB, 5, none⟩ = some (.int .i64 e.d)))
      have NR := Lib.hid (show Nw w1 wr from HR.out)
      clear ex0 ex1 ex2 ex3 ex4 ex5 hx
      have HPI := Lib.hid (show x.k.less e.k = decide (h < p) from by rw [← HX.out, ← HP.out]; exact pos_iff ws e HS.out h _)
      go_cut [31] (fun v wx => v = .bool (decide (h < p)) ∧ Hid (Nw w1 wx))
      case first =>
        go_region_held3 (fun W => Nw w1 W ∧ W.cell? ⟨b, o + h * 6, none⟩ = some (.int .i64 x.k.T) ∧ W.cell? ⟨b, o + h * 6 + 1, none⟩ = some (.int .i64 x.k.O) ∧ W.cell? ⟨b, o + h * 6 + 2, none⟩ = some (.int .i64 x.k.S) ∧ W.cell? ⟨b, o + h * 6 + 3, none⟩ = some (.int .i64 x.p) ∧ W.cell? ⟨b, o + h * 6 + 4, none⟩ = some (.int .i64 x.q) ∧ W.cell? ⟨b, o + h * 6 + 5, none⟩ = some (.int .i64 x.d) ∧ W.cell? ⟨EB, 0, none⟩ = some (.int .i64 e.k.T) ∧ W.cell? ⟨EB, 1, none⟩ = some (.int .i64 e.k.O) ∧ W.cell? ⟨EB, 2, none⟩ = some (.int .i64 e.k.S) ∧ W.cell? ⟨EB, 3, none⟩ = some (.int .i64 e.p) ∧ W.cell? ⟨EB, 4, none⟩ = some (.int .i64 e.q) ∧ W.cell? ⟨EB, 5, none⟩ = some (.int .i64 e.d)) ((refine HSS.out _ ?_; repeat (first | assumption | exact NR.out | refine Nw.drew ?_))) ((go_at_call 58; refine (byKey_any x.k e.k x.p x.q x.d e.p e.q e.d _).mono ?_; rintro r wz ⟨rfl, bz⟩; have iz := Nw.step (by first | assumption | exact NR.out.drew) bz))
        all_goals
          go_wp2_with fail
          go_meet
          refine ⟨?_, Lib.hid iz⟩
          congr 1
          rw [← HPI.out]
          have := Ky.cmp_neg x.k e.k
          cases hl : x.k.less e.k with
          | true => exact decide_eq_true (this.2 hl)
          | false => exact decide_eq_false (fun g => by rw [this.1 g] at hl; cases hl)
      case rest =>
        obtain ⟨rfl, HC⟩ := hcut
        clear HR NR HSS
        by_cases hp : h < p
        · have d1 : decide (h < p) = true := decide_eq_true hp
          go_wp2_with fail
          go_roundw
          case rel => exact ⟨h + 1, j, by omega, hpj, hjn, by go_num, rfl, HC⟩
          case measure => simp [intOf]; omega
        · have d1 : decide (h < p) = false := decide_eq_false hp
          go_wp2_with fail
          go_roundw
          case rel => exact ⟨i, h, hip, by omega, by omega, rfl, rfl, HC⟩
          case measure => simp [intOf]; omega
    · have g1 : ¬ (i : Int) < (j : Int) := by omega
      obtain rfl : i = p := by omega
      by_cases hin : i < n
      · have g2 : (i : Int) < (n : Int) := by omega
        have d2 : decide ((i : Int) < (n : Int)) = true := decide_eq_true g2
        have g3 : (0 : Int) ≤ (i : Int) := by omega
        obtain ⟨h, hh⟩ : ∃ h, i = h := ⟨_, rfl⟩
        subst hh
        go_upto_region 8 with (fail)
        obtain ⟨h, hh⟩ : ∃ h, h = i := ⟨_, rfl⟩
        subst hh
        have hhn := hin
        obtain ⟨b, o, rfl, ex0, ex1, ex2, ex3, ex4, ex5⟩ := ev_at HA.out (h := h) (by rw [HN.out]; exact hhn)
        obtain ⟨x, hx⟩ : ∃ x, ws[h]'(by rw [HN.out]; exact hhn) = x := ⟨_, rfl⟩
        rw [hx] at ex0 ex1 ex2 ex3 ex4 ex5
        have HX := Lib.hid hx
        have HSS := Lib.hid (fun W (hW : Nw w1 W) => (⟨hW, (N1.out.step hW).cell ex0, (N1.out.step hW).cell ex1, (N1.out.step hW).cell ex2, (N1.out.step hW).cell ex3, (N1.out.step hW).cell ex4, (N1.out.step hW).cell ex5, hW.cell (HBE.out.cell 0), hW.cell (HBE.out.cell 1), hW.cell (HBE.out.cell 2), hW.cell (HBE.out.cell 3), hW.cell (HBE.out.cell 4), hW.cell (HBE.out.cell 5)⟩ : Nw w1 W ∧ W.cell? ⟨b, o + h * 6, none⟩ = some (.int .i64 x.k.T) ∧ W.cell? ⟨b, o + h * 6 + 1, none⟩ = some (.int .i64 x.k.O) ∧ W.cell? ⟨b, o + h * 6 + 2, none⟩ = some (.int .i64 x.k.S) ∧ W.cell? ⟨b, o + h * 6 + 3, none⟩ = some (.int .i64 x.p) ∧ W.cell? ⟨b, o + h * 6 + 4, none⟩ = some (.int .i64 x.q) ∧ W.cell? ⟨b, o + h * 6 + 5, none⟩ = some (.int .i64 x.d) ∧ W.cell? ⟨EB, 0, none⟩ = some (.int .i64 e.k.T) ∧ W.cell? ⟨EB, 1, none⟩ = some (.int .i64 e.k.O) ∧ W.cell? ⟨EB, 2, none⟩ = some (.int .i64 e.k.S) ∧ W.cell? ⟨EB, 3, none⟩ = some (.int .i64 e.p) ∧ W.cell? ⟨EB, 4, none⟩ = some (.int .i64 e.q) ∧ W.cell? ⟨EB, 5, none⟩ = some (.int .i64 e.d)))
        have NR := Lib.hid (show Nw w1 wr from HR.out)
        clear ex0 ex1 ex2 ex3 ex4 ex5 hx
        go_region_held3 (fun W => Nw w1 W ∧ W.cell? ⟨b, o + h * 6, none⟩ = some (.int .i64 x.k.T) ∧ W.cell? ⟨b, o + h * 6 + 1, none⟩ = some (.int .i64 x.k.O) ∧ W.cell? ⟨b, o + h * 6 + 2, none⟩ = some (.int .i64 x.k.S) ∧ W.cell? ⟨b, o + h * 6 + 3, none⟩ = some (.int .i64 x.p) ∧ W.cell? ⟨b, o + h * 6 + 4, none⟩ = some (.int .i64 x.q) ∧ W.cell? ⟨b, o + h * 6 + 5, none⟩ = some (.int .i64 x.d) ∧ W.cell? ⟨EB, 0, none⟩ = some (.int .i64 e.k.T) ∧ W.cell? ⟨EB, 1, none⟩ = some (.int .i64 e.k.O) ∧ W.cell? ⟨EB, 2, none⟩ = some (.int .i64 e.k.S) ∧ W.cell? ⟨EB, 3, none⟩ = some (.int .i64 e.p) ∧ W.cell? ⟨EB, 4, none⟩ = some (.int .i64 e.q) ∧ W.cell? ⟨EB, 5, none⟩ = some (.int .i64 e.d)) ((refine HSS.out _ ?_; repeat (first | assumption | exact NR.out | refine Nw.drew ?_))) ((go_at_call 58; refine (byKey_any x.k e.k x.p x.q x.d e.p e.q e.d _).mono ?_; rintro r wz ⟨rfl, bz⟩; have iz := Nw.step (by first | assumption | exact NR.out.drew) bz))
        all_goals
          go_wp2_with fail
          go_ret2
          exact ⟨_, rfl, N1.out.step iz⟩
      · have g2 : ¬ (i : Int) < (n : Int) := by omega
        have d2 : decide ((i : Int) < (n : Int)) = false := decide_eq_false g2
        go_upto_region 8 with (fail)
        go_quiet (fail)
        go_wp2_with fail
        go_ret2
        exact ⟨_, rfl, N1.out.step (Below.many HR.out _)⟩
end
end Go.Proofs.Ytgijkgngldfdiaa
/- An event waits. Helper. -/
namespace Go.Proofs.Ytgijkgngldfdiaa
open Go.RowKit
set_option linter.unusedVariables false
set_option linter.unusedSimpArgs false
theorem rows_append (a b : List Ev) : rows (a ++ b) = rows a ++ rows b := by unfold rows; simp
theorem rows_take (ws : List Ev) (p : Nat) (h : p ≤ ws.length) : (rows ws).take (p * 6) = rows (ws.take p) ∧ (rows ws).drop (p * 6) = rows (ws.drop p) := by
  have hl : (rows (ws.take p)).length = p * 6 := by rw [rows_length, List.length_take]; congr 1; omega
  have h1 : rows ws = rows (ws.take p) ++ rows (ws.drop p) := by rw [← rows_append, List.take_append_drop]
  constructor
  · rw [h1, ← hl, List.take_left]
  · rw [h1, ← hl, List.drop_left]
theorem ints_take (l : List Int) (n : Nat) : (ints l).take n = ints (l.take n) := by unfold ints; rw [List.map_take]
theorem ints_drop (l : List Int) (n : Nat) : (ints l).drop n = ints (l.drop n) := by unfold ints; rw [List.map_drop]
theorem ins_rows (ws : List Ev) (e : Ev) : insAt (ints (rows ws)) (ints e.row) (pos ws e * 6) = ints (rows (insE ws e)) := by
  obtain ⟨h1, h2⟩ := rows_take ws (pos ws e) (pos_le ws e)
  unfold insAt
  rw [ints_take, ints_drop, h1, h2, insE_eq, rows_append, ints_append, List.append_assoc]
  congr 1
theorem insE_length (ws : List Ev) (e : Ev) : (insE ws e).length = ws.length + 1 := by
  rw [(insE_perm ws e).length_eq]; simp
/-- What waits: the sequence's block, the events in order. -/
structure Waits (w : World) (SB : Nat) (a b : Value) (ws : List Ev) (m n f : Value) (A : Option Addr) (c : Nat) (blk : Option Nat) : Prop where
  box : Blk w SB 63 #[a, b, .slice A ws.length c, m, n, f]
  own : Own w 44 6 (.slice A ws.length c) ws.length (ints (rows ws)) blk
def WaitOut (w : World) (SB : Nat) (a b : Value) (ws : List Ev) (m n f : Value) (blk : Option Nat) (e : Ev) (r : Ending) (w' : World) : Prop :=
  r = .returned (.tuple #[]) ∧ ∃ A' c' blk', Waits w' SB a b (insE ws e) m n f A' c' blk' ∧ Chg (fun k => k = SB ∨ some k = blk) w w' ∧ ∀ g, blk' = some g → blk = some g ∨ w.heap.size ≤ g
section
variable (SB : Nat) (va vb : Value) (ws : List Ev) (vm vn vf : Value) (A : Option Addr) (c : Nat) (blk : Option Nat) (e : Ev) (w : World)
set_option maxRecDepth 100000
set_option maxHeartbeats 3200000
theorem wait_any (h : Waits w SB va vb ws vm vn vf A c blk) (hs : Srt ws) (hn : ws.length ≤ 90000) :
    Calls Try.prog 33 #[.pointer (some ⟨SB, 0, none⟩), .agg #[.int .i64 e.k.T, .int .i64 e.k.O, .int .i64 e.k.S, .int .i64 e.p, .int .i64 e.q, .int .i64 e.d]] w (WaitOut w SB va vb ws vm vn vf blk e) := by
  obtain ⟨w1, hw1⟩ : ∃ w1, w.alloc (.cells #[.int .i64 e.k.T, .int .i64 e.k.O, .int .i64 e.k.S, .int .i64 e.p, .int .i64 e.q, .int .i64 e.d] 44) = w1 := ⟨_, rfl⟩
  have n1 : Nw w w1 := by rw [← hw1]; exact (Nw.refl w).alloc _
  have hbE : Blk w1 w.heap.size 44 #[.int .i64 e.k.T, .int .i64 e.k.O, .int .i64 e.k.S, .int .i64 e.p, .int .i64 e.q, .int .i64 e.d] := by rw [← hw1]; exact Blk.last w _ _ rfl
  have hne : ¬ some w.heap.size = blk := fun e => Nat.lt_irrefl _ (h.own.lt _ e.symm)
  obtain ⟨EB, hEB⟩ : ∃ EB, w.heap.size = EB := ⟨_, rfl⟩
  rw [hEB] at hbE hne
  have hsb : blk ≠ some SB := fun e => by obtain ⟨cur, hc⟩ := h.own.tyB SB e; exact absurd rfl (hc.ne_ h.box (by decide))
  have HSB := Lib.hid hsb
  have HNE := Lib.hid hne
  have HW := Lib.hid hw1
  have HEB := Lib.hid hEB
  have N1 := Lib.hid n1
  have HBE := Lib.hid hbE
  have HB := Lib.hid (h.box.below n1 h.box.lt)
  have HO := Lib.hid (h.own.kept fun g hg => n1.block g (h.own.lt g hg))
  have hrd1 : Rd w1 A (ints (rows ws)) := by
    obtain ⟨_, _, ea, hrd, _, _⟩ := (h.own.kept fun g hg => n1.block g (h.own.lt g hg)).rd
    injection ea with e1 _ e3
    subst e1
    exact hrd
  have hK := fun W (g : Nw w1 W) => search_any A c ws e W (hrd1.keep fun p hp => Below.cell g hp) hs (by omega)
  have HPL := Lib.hid (pos_le ws e)
  have HIR := Lib.hid (ins_rows ws e)
  have HIL := Lib.hid (insE_length ws e)
  obtain ⟨p, hp⟩ : ∃ p, pos ws e = p := ⟨_, rfl⟩
  obtain ⟨n, hnn⟩ : ∃ n, ws.length = n := ⟨_, rfl⟩
  rw [hp] at HPL HIR hK
  rw [hnn] at hK HB HO HPL hn HIL
  have KS := Lib.hid hK
  have HPN := HPL
  have HN := Lib.hid hnn
  clear h hs hw1 n1 hbE hne hEB hsb hK hp hnn hrd1
  go_enter Try.func33, Try.ntmps33
  go_upto_region 1 with (fail)
  rw [HW.out, HEB.out]
  have s2 : w1.cell? ⟨SB, 2, none⟩ = some (.slice A n c) := HB.out.cell 2
  have HSS := Lib.hid (fun W (hW : Nw w1 W) => (⟨hW, hW.cell s2, hW.cell (HBE.out.cell 0), hW.cell (HBE.out.cell 1), hW.cell (HBE.out.cell 2), hW.cell (HBE.out.cell 3), hW.cell (HBE.out.cell 4), hW.cell (HBE.out.cell 5)⟩ : Nw w1 W ∧ W.cell? ⟨SB, 2, none⟩ = some (.slice A n c) ∧ W.cell? ⟨EB, 0, none⟩ = some (.int .i64 e.k.T) ∧ W.cell? ⟨EB, 1, none⟩ = some (.int .i64 e.k.O) ∧ W.cell? ⟨EB, 2, none⟩ = some (.int .i64 e.k.S) ∧ W.cell? ⟨EB, 3, none⟩ = some (.int .i64 e.p) ∧ W.cell? ⟨EB, 4, none⟩ = some (.int .i64 e.q) ∧ W.cell? ⟨EB, 5, none⟩ = some (.int .i64 e.d)))
  clear s2
  go_cut [4] (fun v wx => v = .int .i64 (p : Int) ∧ Hid (Nw w1 wx))
  case first =>
    go_region_held3 (fun W => Nw w1 W ∧ W.cell? ⟨SB, 2, none⟩ = some (.slice A n c) ∧ W.cell? ⟨EB, 0, none⟩ = some (.int .i64 e.k.T) ∧ W.cell? ⟨EB, 1, none⟩ = some (.int .i64 e.k.O) ∧ W.cell? ⟨EB, 2, none⟩ = some (.int .i64 e.k.S) ∧ W.cell? ⟨EB, 3, none⟩ = some (.int .i64 e.p) ∧ W.cell? ⟨EB, 4, none⟩ = some (.int .i64 e.q) ∧ W.cell? ⟨EB, 5, none⟩ = some (.int .i64 e.d)) ((refine HSS.out _ ?_; repeat (first | assumption | exact Nw.refl w1 | refine Nw.drew ?_))) ((go_at_call 57; refine (KS.out _ (by first | assumption | exact (Nw.refl w1).drew)).mono ?_; rintro r wz ⟨bb, rfl, bz⟩; have iz := Nw.step (by first | assumption | exact (Nw.refl w1).drew) bz))
    all_goals
      go_wp2_with fail
      go_meet
      exact ⟨rfl, Lib.hid iz⟩
  case rest =>
    obtain ⟨rfl, HC⟩ := hcut
    obtain ⟨w2, hw2⟩ : ∃ w2, w2 = wc := ⟨_, rfl⟩
    subst hw2
    have n2 := HC.out
    have HB2 := Lib.hid (HB.out.below n2 HB.out.lt)
    have HO2 := Lib.hid (HO.out.kept fun g hg => n2.block g (HO.out.lt g hg))
    have HBE2 := Lib.hid (HBE.out.below n2 HBE.out.lt)
    have HS2 : Hid (∀ W, Chg (fun k => some k = blk) w2 W → W.cell? ⟨SB, 2, none⟩ = some (.slice A n c) ∧ W.cell? ⟨EB, 0, none⟩ = some (.int .i64 e.k.T) ∧ W.cell? ⟨EB, 1, none⟩ = some (.int .i64 e.k.O) ∧ W.cell? ⟨EB, 2, none⟩ = some (.int .i64 e.k.S) ∧ W.cell? ⟨EB, 3, none⟩ = some (.int .i64 e.p) ∧ W.cell? ⟨EB, 4, none⟩ = some (.int .i64 e.q) ∧ W.cell? ⟨EB, 5, none⟩ = some (.int .i64 e.d)) := Lib.hid fun W hc => by
      have q1 := HB2.out.chg hc (fun e => HSB.out e.symm)
      have q2 := HBE2.out.chg hc HNE.out
      exact ⟨q1.cell 2, q2.cell 0, q2.cell 1, q2.cell 2, q2.cell 3, q2.cell 4, q2.cell 5⟩
    have N2 := Lib.hid n2
    clear n2 HC HSS KS
    go_upto_region 2 with (fail)
    refine wp_region_E (fun W => W.cell? ⟨SB, 2, none⟩ = some (.slice A n c) ∧ W.cell? ⟨EB, 0, none⟩ = some (.int .i64 e.k.T) ∧ W.cell? ⟨EB, 1, none⟩ = some (.int .i64 e.k.O) ∧ W.cell? ⟨EB, 2, none⟩ = some (.int .i64 e.k.S) ∧ W.cell? ⟨EB, 3, none⟩ = some (.int .i64 e.p) ∧ W.cell? ⟨EB, 4, none⟩ = some (.int .i64 e.q) ∧ W.cell? ⟨EB, 5, none⟩ = some (.int .i64 e.d)) 11 (by kernel_rfl) ?_
    have hS := HS2.out w2.drew (Chg.refl _ w2).drew
    refine wpAnyE_takeT (i := 0) (v := ?_) rfl (by kernel_rfl) (by kernel_rfl) (by kernel_rfl) (by kernel_rfl) (by kernel_rfl) (fun _ _ _ h => h) (by rfl) ?_ hS ?_
    rotate_left
    · intro u hu
      try dsimp only at hu
      go_simp
      try with_reducible rfl
    try simp only [Act.put, List.setIfInBounds_toArray, List.set_cons_zero, List.set_cons_succ]
    refine wpAnyE_takeT (i := 1) (v := ?_) rfl (by kernel_rfl) (by kernel_rfl) (by kernel_rfl) (by kernel_rfl) (by kernel_rfl) (fun _ _ _ h => h) (by rfl) ?_ hS ?_
    rotate_left
    · intro u hu
      try dsimp only at hu
      go_simp
      try with_reducible rfl
    try simp only [Act.put, List.setIfInBounds_toArray, List.set_cons_zero, List.set_cons_succ]
    refine wpAnyE_takeT (i := 2) (v := ?_) rfl (by kernel_rfl) (by kernel_rfl) (by kernel_rfl) (by kernel_rfl) (by kernel_rfl) (fun _ _ _ h => h) (by rfl) ?_ hS ?_
    rotate_left
    · intro u hu
      try dsimp only at hu
      go_simp
      try with_reducible rfl
    try simp only [Act.put, List.setIfInBounds_toArray, List.set_cons_zero, List.set_cons_succ]
    refine wpAnyE_takeT (i := 3) (v := ?_) rfl (by kernel_rfl) (by kernel_rfl) (by kernel_rfl) (by kernel_rfl) (by kernel_rfl) (fun _ _ _ h => h) (by rfl) ?_ hS ?_
    rotate_left
    · intro u hu
      try dsimp only at hu
      go_simp
      try with_reducible rfl
    try simp only [Act.put, List.setIfInBounds_toArray, List.set_cons_zero, List.set_cons_succ]
    refine wpAnyE_takeT (i := 4) (v := ?_) rfl (by kernel_rfl) (by kernel_rfl) (by kernel_rfl) (by kernel_rfl) (by kernel_rfl) (fun _ _ _ h => h) (by rfl) ?_ hS ?_
    rotate_left
    · intro u hu
      try dsimp only at hu
      go_simp
      try with_reducible rfl
    try simp only [Act.put, List.setIfInBounds_toArray, List.set_cons_zero, List.set_cons_succ]
    refine wpAnyE_takeT (i := 5) (v := ?_) rfl (by kernel_rfl) (by kernel_rfl) (by kernel_rfl) (by kernel_rfl) (by kernel_rfl) (fun _ _ _ h => h) (by rfl) ?_ hS ?_
    rotate_left
    · intro u hu
      try dsimp only at hu
      go_simp
      try with_reducible rfl
    try simp only [Act.put, List.setIfInBounds_toArray, List.set_cons_zero, List.set_cons_succ]
    refine wpAnyE_takeT (i := 6) (v := ?_) rfl (by kernel_rfl) (by kernel_rfl) (by kernel_rfl) (by kernel_rfl) (by kernel_rfl) (fun _ _ _ h => h) (by rfl) ?_ hS ?_
    rotate_left
    · intro u hu
      try dsimp only at hu
      go_simp
      try with_reducible rfl
    try simp only [Act.put, List.setIfInBounds_toArray, List.set_cons_zero, List.set_cons_succ]
    refine wpAnyE_step (i := 7) (by kernel_rfl) rfl (by rfl) fun K hK => ?_
    go_simp
    refine hK _ _ (.inr (HS2.out _ ((Chg.refl _ w2).drew.alloc _))) ?_
    clear hK K
    try simp only [Act.put, List.setIfInBounds_toArray, List.set_cons_zero, List.set_cons_succ]
    refine wpAnyE_step (i := 8) (by kernel_rfl) rfl (by rfl) fun K hK => ?_
    go_simp
    go_at_call 59
    refine (insert_any A n p c w2.heap.size (ints (rows ws)) (ints e.row) blk (w2.alloc (.cells (ints e.row).toArray 44)).drew ((HO2.out.kept (fun g hg => Below.heap_alloc _ _ _ (HO2.out.lt g hg)))) HPN.out (by omega) rfl (ints_one _) (ints_one _) (Blk.last w2 _ _ rfl).drew (fun h => Nat.lt_irrefl _ (HO2.out.lt _ h))).mono ?_
    rintro r w3 ⟨A', c', blk', rfl, hown, hchg, hat⟩
    have hc3 : Chg (fun k => some k = blk) w2 w3 := ((Chg.refl (fun k => some k = blk) w2).drew.alloc _).trans hchg (fun i hi e => e)
    have HC3 := Lib.hid hc3
    have HOW := Lib.hid hown
    have HAT := Lib.hid (show ∀ g, blk' = some g → blk = some g ∨ w2.heap.size ≤ g from fun g e => (hat g e).imp id (fun h => by simp at h; omega))
    have hb3 := HB2.out.chg hc3 (fun e => HSB.out e.symm)
    have HB3 := Lib.hid hb3
    clear hown hchg hat
    have hS := HS2.out w3 hc3
    refine hK _ _ (.inr (HS2.out w3 hc3)) ?_
    clear hK K
    try simp only [Act.put, List.setIfInBounds_toArray, List.set_cons_zero, List.set_cons_succ]
    refine wpAnyE_step (i := 9) (by kernel_rfl) rfl (by rfl) fun K hK => ?_
    go_simp
    refine hK _ _ (.inr hS) ?_
    clear hK K
    try simp only [Act.put, List.setIfInBounds_toArray, List.set_cons_zero, List.set_cons_succ]
    refine wpAnyE_step (i := 10) (by kernel_rfl) rfl (by rfl) fun K hK => ?_
    go_simp
    refine hK _ _ (.inr hS) ?_
    clear hK K
    try simp only [Act.put, List.setIfInBounds_toArray, List.set_cons_zero, List.set_cons_succ]
    have f2 := hb3.frozen 2
    have d2 : w3.cell? ⟨SB, 2, none⟩ = some (.slice A n c) := hb3.cell 2
    clear hc3 hb3
    refine wpAnyE_step (i := 11) (by kernel_rfl) rfl (by rfl) fun K hK => ?_
    go_simp
    refine hK _ _ (.inl rfl) ?_
    clear hK K
    try simp only [Act.put, List.setIfInBounds_toArray, List.set_cons_zero, List.set_cons_succ]
    refine wpAnyE_done (by kernel_rfl) ?_ _
    go_wp2_with fail
    go_end0
    refine ⟨rfl, A', c', blk', ⟨?_, ?_⟩, ?_, fun g hg => ?_⟩
    · rw [HIL.out]; exact HB3.out.set_ 2 _
    · rw [HIL.out, ← HIR.out]
      exact HOW.out.kept fun g hg => Below.heap_setCell _ _ _ _ (fun e => by
        obtain ⟨cur, hcc⟩ := HOW.out.tyB g hg
        exact absurd e (hcc.ne_ HB3.out (by decide)))
    · exact (((Chg.of_below (N1.out.step N2.out) (Nat.le_refl _) (fun k => k = SB ∨ some k = blk))).trans HC3.out (fun i hi e => .inr e)).setCell (p := ⟨SB, 2, none⟩) (.inl (.inl rfl)) _
    · exact (HAT.out g hg).imp id (fun h => Nat.le_trans (Below.size (N1.out.step N2.out)) h)
end
end Go.Proofs.Ytgijkgngldfdiaa
/- Which numbers were put in: a map in memory. Helper. -/
namespace Go.Proofs.Ytgijkgngldfdiaa
open Go.RowKit Go.Maps Go.ChangeMaps Go.MapKept
set_option maxRecDepth 100000
set_option linter.unusedVariables false
set_option linter.unusedSimpArgs false
theorem kInt : Keyed Try.prog 2 := int_keyed Try.underlying2
/-- Those seen, the last one first, as the map's datum. -/
def seenD : List Int → DataW Unit
  | [] => .map []
  | p :: l => (seenD l).put (.int .i64 p) (.lit (.bool true))
/-- Block S is the map of who was seen. -/
def Sn (w : World) (S : Nat) (l : List Int) : Prop := w.ownsMap (H := Unit) Try.prog 2 (plainElem Try.prog 4) S l.length (seenD l) ∧ l.Nodup ∧ l.length ≤ 100000 ∧ ∀ p ∈ l, (Lit.int .i64 p).wf = true
theorem isKey (p : Int) : WideAt.IsKeyLit (.int .i64 p) := by simp [WideAt.IsKeyLit]
theorem tidy_seen (l : List Int) : Tidy (seenD l) := by
  induction l with
  | nil => exact tidy_empty
  | cons p l ih => exact ih.put (isKey p) _
theorem key_small {p : Int} (h : (Lit.int .i64 p).wf = true) : keyOf Try.prog 2 (.int .i64 p) = some (.int .i64 p) := keyOf_int_mk Try.underlying2 h
theorem key_ne {p q : Int} (h : p ≠ q) : Lit.int .i64 p ≠ .int .i64 q := fun e => by
  injection e with _ e
  exact h e
theorem has_seen (l : List Int) (p : Int) : has (seenD l) (.int .i64 p) = decide (p ∈ l) := by
  induction l with
  | nil => simp [seenD, has]
  | cons q l ih =>
    show has ((seenD l).put _ _) _ = _
    by_cases h : p = q
    · subst h
      rw [has_put_same (tidy_seen l).isMap (isKey _)]
      simp
    · rw [has_put_other (key_ne h), ih]
      simp [h]
theorem at_seen (l : List Int) (p : Int) : (seenD l).atKey (.int .i64 p) (.lit (.bool false)) = .lit (.bool (decide (p ∈ l))) := by
  induction l with
  | nil => simp [seenD, DataW.atKey]
  | cons q l ih =>
    show ((seenD l).put _ _).atKey _ _ = _
    by_cases h : p = q
    · subst h
      rw [atKey_put_same (tidy_seen l).isMap (isKey _)]
      simp
    · rw [atKey_put_other (key_ne h), ih]
      simp [h]
theorem size_seen {l : List Int} (h : l.Nodup) : size (seenD l) = l.length := by
  induction l with
  | nil => rfl
  | cons q l ih =>
    have h1 := List.nodup_cons.1 h
    show size ((seenD l).put _ _) = _
    rw [size_put (tidy_seen l), has_seen, ih h1.2]
    simp [h1.1]
theorem zero_bool (w : World) : (zeroValue 4).run Try.prog w = .ok (.bool false) w := by kernel_rfl
theorem plainElem_bool_inv {H : Type} {P : Program} {e : TypeId} (he : P.underlying e = some .bool) {v : Value} {z : DataW H × List MemPlace} (h : plainElem P e v = some z) : ∃ x, v = .bool x ∧ z = (.lit (.bool x), []) := by
  unfold plainElem at h
  rw [he] at h
  cases v with
  | bool x => exact ⟨x, rfl, by injection h with h; exact h.symm⟩
  | _ => cases h
theorem Sn.lookup {w : World} {S : Nat} {l : List Int} (h : Sn w S l) {p : Int} (hp : (Lit.int .i64 p).wf = true) : (Instr.lookup 61 (.map (some S)) (.int .i64 p) false).run Try.prog w = .ok (.bool (decide (p ∈ l))) w := by
  obtain ⟨v, ps, hrun, hv⟩ := h.1.lookup kInt Try.underlying61 (zero_bool w) (plainElem_bool Try.underlying4 false) (key_small hp)
  obtain ⟨x, rfl, hx⟩ := plainElem_bool_inv Try.underlying4 hv
  rw [at_seen] at hx
  injection hx with hx _
  injection hx with hx
  injection hx with hx
  rw [hrun, hx]
theorem Sn.len {w : World} {S : Nat} {l : List Int} (h : Sn w S l) (ty : TypeId) : (Builtin.len_ #[61] ty #[.map (some S)]).run Try.prog w = .ok (.int .i64 (l.length : Int)) w := by
  rw [h.1.len Try.underlying61 ty, size_seen h.2.1]
theorem Sn.obj {w : World} {S : Nat} {l : List Int} (h : Sn w S l) : ∃ es clock, w.heap[S]? = some (.map es clock) ∧ es.size = l.length := by
  obtain ⟨es, clock, hb, _, _, e⟩ := h.1
  refine ⟨es, clock, hb, ?_⟩
  have := size_seen h.2.1
  rw [e, size_eq, length_sorted] at this
  simpa using this
theorem Sn.same {w w' : World} {S : Nat} {l : List Int} (h : Sn w S l) (e : w'.heap[S]? = w.heap[S]?) : Sn w' S l := by
  obtain ⟨⟨es, clock, hb, r⟩, h2⟩ := h
  exact ⟨⟨es, clock, e.trans hb, r⟩, h2⟩
theorem Sn.made (w : World) : Sn (w.alloc (.map #[] 0)) w.heap.size [] := ⟨World.ownsMap_made w Try.prog _ _, List.nodup_nil, by simp, by simp⟩
theorem Sn.put {w : World} {S : Nat} {l : List Int} (h : Sn w S l) {p : Int} (hp : (Lit.int .i64 p).wf = true) (hn : p ∉ l) (hl : l.length < 100000) : ∃ w', (Instr.mapUpdate 61 (.map (some S)) (.int .i64 p) (.bool true)).run Try.prog w = .ok () w' ∧ Sn w' S (p :: l) ∧ Chg (fun k => k = S) w w' := by
  obtain ⟨w', hrun, h1, h2⟩ := h.1.update kInt Try.underlying61 (by have := h.2.2.1; unfold maxLen; omega) (key_small hp) (plainElem_bool Try.underlying4 true)
  refine ⟨w', hrun, ⟨h1, List.nodup_cons.2 ⟨hn, h.2.1⟩, by simp; omega, fun q hq => ?_⟩, ⟨h2.os, h2.tape, h2.output, h2.size, fun k hk hne => h2.block k hk (fun e => hne (by injection e))⟩⟩
  rcases List.mem_cons.1 hq with rfl | hq
  · exact hp
  · exact h.2.2.2 q hq
end Go.Proofs.Ytgijkgngldfdiaa
/- A sequence of the program in memory. Helper. -/
namespace Go.Proofs.Ytgijkgngldfdiaa
open Go.RowKit
set_option linter.unusedVariables false
set_option linter.unusedSimpArgs false
/-- P holds wherever the blocks from lo on, below hi, are as they are. -/
def Safe (w : World) (lo hi : Nat) (P : World → Prop) : Prop := hi ≤ w.heap.size ∧ ∀ W : World, (∀ g, lo ≤ g → g < hi → W.heap[g]? = w.heap[g]?) → P W
theorem Safe.here {w : World} {lo hi : Nat} {P : World → Prop} (h : Safe w lo hi P) : P w := h.2 w fun _ _ _ => rfl
theorem Safe.keep {w w' : World} {lo hi : Nat} {P : World → Prop} (h : Safe w lo hi P) (hs : w.heap.size ≤ w'.heap.size) (hk : ∀ g, lo ≤ g → g < hi → w'.heap[g]? = w.heap[g]?) : Safe w' lo hi P :=
  ⟨Nat.le_trans h.1 hs, fun W hW => h.2 W fun g h1 h2 => (hW g h1 h2).trans (hk g h1 h2)⟩
theorem Safe.imp {w : World} {lo hi : Nat} {P Q : World → Prop} (h : Safe w lo hi P) (hpq : ∀ W, P W → Q W) : Safe w lo hi Q := ⟨h.1, fun W hW => hpq W (h.2 W hW)⟩
/-- A list that lies in blocks from lo on stays. -/
theorem Safe.rd {w : World} {A : Option Addr} {xs : List Value} {lo : Nat} (h : Rd w A xs) (hn : ∀ b o, A = some ⟨b, o, none⟩ → lo ≤ b ∨ xs = []) : Safe w lo w.heap.size (fun W => Rd W A xs) :=
  ⟨Nat.le_refl _, fun W hW => h.far hn hW⟩
/-- Where a sequence's parts lie. -/
structure PMem where
  SB : Nat
  stB : Nat
  so : Nat
  PB : Nat
  blk : Option Nat
  pA : Option Addr
  pc : Nat
  sc : Nat
  A : Option Addr
  c : Nat
  U : Nat → Prop
/-- What turns by its own acts (U: what others turn). -/
def PMem.T (p : PMem) (k : Nat) : Prop := k = p.SB ∨ k = p.stB ∨ some k = p.blk ∨ k = p.PB
def PMem.V (p : PMem) (k : Nat) : Prop := p.T k ∨ p.U k
theorem PMem.keepV {p p' : PMem} {w : World} (hU : p'.U = p.U) (hT : ∀ g, p'.T g → p.T g ∨ w.heap.size ≤ g) : ∀ g, p'.V g → p.V g ∨ w.heap.size ≤ g := fun g q => by
  rcases q with q | q
  · exact (hT g q).imp .inl id
  · exact .inl (.inr (hU ▸ q))
theorem Chg.own {p : PMem} {w w' : World} (h : Chg p.T w w') : Chg p.V w w' := h.mono fun _ _ => .inl
def Off (T : Nat → Prop) (lo hi : Nat) : Prop := ∀ g, lo ≤ g → g < hi → ¬ T g
/-- One process's machine. -/
def ProcAt (m : Mdl) (pA : Option Addr) (i : Nat) (W : World) : Prop :=
  ∃ pb po MB kB kd, pA = some ⟨pb, po, none⟩ ∧ W.cell? ⟨pb, po + i, none⟩ = some (.pointer (some ⟨MB, 0, none⟩)) ∧ MachAt W MB (m.procs.getD i Pr.z).vars kB (m.procs.getD i Pr.z).ks.length kd ((i : Int) + 1) m.procs.length (m.procs.getD i Pr.z).seed ∧ RKinds W kB (m.procs.getD i Pr.z).ks
/-- A property of a world that some ranges of blocks keep, none of which turns. -/
def Stays (w : World) (T : Nat → Prop) (P : World → Prop) : Prop := ∃ R : Nat → Prop, (∀ g, R g → g < w.heap.size ∧ ¬ T g) ∧ ∀ W : World, w.heap.size ≤ W.heap.size → (∀ g, R g → W.heap[g]? = w.heap[g]?) → P W
theorem Stays.here {w : World} {T : Nat → Prop} {P : World → Prop} (h : Stays w T P) : P w := by obtain ⟨R, _, h2⟩ := h; exact h2 w (Nat.le_refl _) fun _ _ => rfl
theorem Stays.keep {w w' : World} {T T' : Nat → Prop} {P : World → Prop} (h : Stays w T P) (hc : Chg T w w') (hT : ∀ g, T' g → T g ∨ w.heap.size ≤ g) : Stays w' T' P := by
  obtain ⟨R, h1, h2⟩ := h
  have hs := hc.size
  refine ⟨R, fun g hg => ⟨by have := (h1 g hg).1; omega, fun ht => ?_⟩, fun W hW hk => h2 W (by omega) fun g hg => (hk g hg).trans (hc.block g (h1 g hg).1 (h1 g hg).2)⟩
  rcases hT g ht with h | h
  · exact (h1 g hg).2 h
  · have := (h1 g hg).1; omega
theorem Stays.of_safe {w : World} {T : Nat → Prop} {P : World → Prop} {lo hi : Nat} (h : Safe w lo hi P) (ho : Off T lo hi) : Stays w T P :=
  ⟨fun g => lo ≤ g ∧ g < hi, fun g hg => ⟨by have := h.1; omega, ho g hg.1 hg.2⟩, fun W _ hk => h.2 W fun g h1 h2 => hk g ⟨h1, h2⟩⟩
/-- A state's cells in the states' block. -/
def StCells (cur : Array Value) (so i : Nat) (a : Option Addr) (n c : Nat) (sent drawn : Int) : Prop :=
  cur[so + i * 3]? = some (.slice a n c) ∧ cur[so + i * 3 + 1]? = some (.int .i64 sent) ∧ cur[so + i * 3 + 2]? = some (.int .i64 drawn)
/-- A sequence in memory. -/
structure PSeq (w : World) (p : PMem) (m : Mdl) (s : Sq) (ws : List Ev) : Prop where
  waits : Waits w p.SB (.slice p.pA m.procs.length p.pc) (.slice (some ⟨p.stB, p.so, none⟩) m.procs.length p.sc) ws (.map (some p.PB)) (.int .i64 (s.done : Int)) (.int .i64 s.last.T) p.A p.c p.blk
  procs : ∀ i, i < m.procs.length → Stays w p.V (ProcAt m p.pA i)
  sts : ∃ cur, Blk w p.stB 65 cur ∧ ∀ i, i < m.procs.length → ∃ a c, StCells cur p.so i a (s.sts.getD i St.z).vars.length c (s.sts.getD i St.z).sent (s.sts.getD i St.z).drawn ∧ Stays w p.V (fun W => Rd W a (ints (s.sts.getD i St.z).vars))
  put : Sn w p.PB s.put.reverse
  ok : Ok m s
  twin : Twin ws s
  few : s.done ≤ 1000 ∧ s.w.length ≤ 10000 ∧ s.put.length ≤ 10000
  low : ∀ g, p.U g → g < w.heap.size
  dis : ∀ g, p.T g → ¬ p.U g
theorem PSeq.lt {w : World} {p : PMem} {m : Mdl} {s : Sq} {ws : List Ev} (h : PSeq w p m s ws) : ∀ g, p.T g → g < w.heap.size := fun g q => by
  rcases q with rfl | rfl | q | rfl
  · exact h.waits.box.lt
  · obtain ⟨cur, hst, _⟩ := h.sts; exact hst.lt
  · exact h.waits.own.lt g q.symm
  · exact h.put.1.lt
theorem PSeq.ne {w : World} {p : PMem} {m : Mdl} {s : Sq} {ws : List Ev} (h : PSeq w p m s ws) : p.SB ≠ p.stB ∧ some p.SB ≠ p.blk ∧ some p.stB ≠ p.blk ∧ p.SB ≠ p.PB ∧ p.stB ≠ p.PB ∧ some p.PB ≠ p.blk := by
  obtain ⟨cur, hst, _⟩ := h.sts
  obtain ⟨es, clock, hb, _⟩ := h.put.obj
  have hbx := h.waits.box
  have nm : ∀ g t cs, Blk w g t cs → g ≠ p.PB := fun g t cs hg e => by
    subst e
    unfold Blk at hg
    rw [hb] at hg
    cases hg
  refine ⟨hbx.ne_ hst (by decide), fun e => ?_, fun e => ?_, nm _ _ _ hbx, nm _ _ _ hst, fun e => ?_⟩
  · obtain ⟨cur', hc⟩ := h.waits.own.tyB _ e.symm; exact absurd rfl (hbx.ne_ hc (by decide))
  · obtain ⟨cur', hc⟩ := h.waits.own.tyB _ e.symm; exact absurd rfl (hst.ne_ hc (by decide))
  · obtain ⟨cur', hc⟩ := h.waits.own.tyB _ e.symm; exact nm _ _ _ hc rfl
/-- New blocks alone. -/
theorem PSeq.new {w w' : World} {p : PMem} {m : Mdl} {s : Sq} {ws : List Ev} (h : PSeq w p m s ws) (hN : Nw w w') : PSeq w' p m s ws := by
  have hc : Chg p.V w w' := Chg.of_below hN (Nat.le_refl _) _
  obtain ⟨cur, hst, hc2⟩ := h.sts
  refine ⟨⟨h.waits.box.below hN h.waits.box.lt, h.waits.own.kept fun g hg => hN.block g (h.waits.own.lt g hg)⟩, fun i hi => (h.procs i hi).keep hc fun g e => .inl e, ⟨cur, hst.below hN hst.lt, fun i hi => ?_⟩, ?_, h.ok, h.twin, h.few, fun g q => Nat.lt_of_lt_of_le (h.low g q) hN.size, h.dis⟩
  · obtain ⟨a, c, g1, g2⟩ := hc2 i hi
    exact ⟨a, c, g1, g2.keep hc fun g e => .inl e⟩
  · exact h.put.same (hN.block _ h.put.1.lt)
/-- Others have acted. -/
theorem PSeq.frame {w w' : World} {p : PMem} {m : Mdl} {s : Sq} {ws : List Ev} (h : PSeq w p m s ws) {M : Nat → Prop} (hc : Chg M w w') (hM : ∀ g, M g → p.U g) (U' : Nat → Prop) (hU : ∀ g, U' g → p.U g ∨ w.heap.size ≤ g) (hl : ∀ g, U' g → g < w'.heap.size) :
    PSeq w' { p with U := U' } m s ws := by
  have hcV : Chg p.V w w' := hc.mono fun g _ q => .inr (hM g q)
  have hV : ∀ g, ({ p with U := U' } : PMem).V g → p.V g ∨ w.heap.size ≤ g := fun g q => by
    rcases q with q | q
    · exact .inl (.inl q)
    · exact (hU g q).imp .inr id
  have no : ∀ g, p.T g → ¬ M g := fun g q e => h.dis g q (hM g e)
  obtain ⟨cur, hst, hc2⟩ := h.sts
  refine ⟨⟨h.waits.box.chg hc (no _ (.inl rfl)), h.waits.own.chg hc fun g hg => no _ (.inr (.inr (.inl hg.symm)))⟩, fun i hi => (h.procs i hi).keep hcV hV, ⟨cur, hst.chg hc (no _ (.inr (.inl rfl))), fun i hi => ?_⟩, ?_, h.ok, h.twin, h.few, hl, fun g q e => ?_⟩
  · obtain ⟨a, c, g1, g2⟩ := hc2 i hi
    exact ⟨a, c, g1, g2.keep hcV hV⟩
  · exact h.put.same (hc.block _ h.put.1.lt (no _ (.inr (.inr (.inr rfl)))))
  · rcases hU g e with e | e
    · exact h.dis g q e
    · have := h.lt g q; omega
end Go.Proofs.Ytgijkgngldfdiaa
/- A model in memory. Helper. -/
namespace Go.Proofs.Ytgijkgngldfdiaa
open Go.RowKit
set_option linter.unusedVariables false
set_option linter.unusedSimpArgs false
/-- A process of a model in memory. -/
structure ProcIn (w : World) (b o : Nat) (p : Pr) : Prop where
  c0 : w.cell? ⟨b, o, none⟩ = some (.int .i64 p.vars)
  c1 : ∃ kA kc, w.cell? ⟨b, o + 1, none⟩ = some (.slice kA p.ks.length kc) ∧ RKinds w kA p.ks
  c2 : ∃ vA vc, w.cell? ⟨b, o + 2, none⟩ = some (.slice vA p.vals.length vc) ∧ Rd w vA (ints p.vals)
  c3 : w.cell? ⟨b, o + 3, none⟩ = some (.int .i64 p.seed)
  kn : p.ks.length ≤ maxLen
  vn : p.vals.length ≤ maxLen
theorem ProcIn.keep {w w' : World} {b o : Nat} {p : Pr} (h : ProcIn w b o p) (hN : Nw w w') : ProcIn w' b o p := by
  obtain ⟨c0, ⟨kA, kc, c1, r1⟩, ⟨vA, vc, c2, r2⟩, c3, h1, h2⟩ := h
  exact ⟨hN.cell c0, ⟨kA, kc, hN.cell c1, r1.keep hN⟩, ⟨vA, vc, hN.cell c2, r2.keep fun p hp => Below.cell hN hp⟩, hN.cell c3, h1, h2⟩
/-- A model in memory. -/
structure MAt (w : World) (m : Mdl) (pA fA : Option Addr) : Prop where
  procs : m.procs = [] ∨ ∃ b o, pA = some ⟨b, o, none⟩ ∧ ∀ i (h : i < m.procs.length), ProcIn w b (o + i * 4) m.procs[i]
  first : Rd w fA (ints (rows m.first))
  pn : m.procs.length ≤ maxLen
  fn : m.first.length ≤ maxLen
theorem MAt.keep {w w' : World} {m : Mdl} {pA fA : Option Addr} (h : MAt w m pA fA) (hN : Nw w w') : MAt w' m pA fA := by
  obtain ⟨h1, h2, h3, h4⟩ := h
  refine ⟨?_, h2.keep fun p hp => Below.cell hN hp, h3, h4⟩
  rcases h1 with h1 | ⟨b, o, e, h1⟩
  · exact .inl h1
  · exact .inr ⟨b, o, e, fun i hi => (h1 i hi).keep hN⟩
theorem MAt.proc {w : World} {m : Mdl} {pA fA : Option Addr} (h : MAt w m pA fA) {i : Nat} (hi : i < m.procs.length) : ∃ b o, pA = some ⟨b, o, none⟩ ∧ ProcIn w b (o + i * 4) m.procs[i] := by
  rcases h.procs with h1 | ⟨b, o, e, h1⟩
  · rw [h1] at hi; simp at hi
  · exact ⟨b, o, e, h1 i hi⟩
theorem MAt.ev {w : World} {m : Mdl} {pA fA : Option Addr} (h : MAt w m pA fA) {i : Nat} (hi : i < m.first.length) : ∃ b o, fA = some ⟨b, o, none⟩ ∧
    (w.cell? ⟨b, o + i * 6, none⟩ = some (.int .i64 m.first[i].k.T) ∧ w.cell? ⟨b, o + i * 6 + 1, none⟩ = some (.int .i64 m.first[i].k.O) ∧ w.cell? ⟨b, o + i * 6 + 2, none⟩ = some (.int .i64 m.first[i].k.S) ∧
     w.cell? ⟨b, o + i * 6 + 3, none⟩ = some (.int .i64 m.first[i].p) ∧ w.cell? ⟨b, o + i * 6 + 4, none⟩ = some (.int .i64 m.first[i].q) ∧ w.cell? ⟨b, o + i * 6 + 5, none⟩ = some (.int .i64 m.first[i].d)) := by
  exact ev_at h.first hi
end Go.Proofs.Ytgijkgngldfdiaa
/- What a sequence's next step does; what it tells of itself. Helper. -/
namespace Go.Proofs.Ytgijkgngldfdiaa
open Go.RowKit
set_option linter.unusedVariables false
set_option linter.unusedSimpArgs false
def ev6 (e : Ev) : Value := .agg #[.int .i64 e.k.T, .int .i64 e.k.O, .int .i64 e.k.S, .int .i64 e.p, .int .i64 e.q, .int .i64 e.d]
def evZ : Ev := ⟨⟨0, 0, 0⟩, 0, 0, 0⟩
theorem frz6 {w : World} {B : Nat} {t : TypeId} {cs : Array Value} (h : Blk w B t cs) : w.frozen? ⟨B, 0, none⟩ = false ∧ w.frozen? ⟨B, 1, none⟩ = false ∧ w.frozen? ⟨B, 2, none⟩ = false ∧ w.frozen? ⟨B, 3, none⟩ = false ∧ w.frozen? ⟨B, 4, none⟩ = false ∧ w.frozen? ⟨B, 5, none⟩ = false :=
  ⟨h.frozen 0, h.frozen 1, h.frozen 2, h.frozen 3, h.frozen 4, h.frozen 5⟩
section
variable (p : PMem) (m : Mdl) (s : Sq) (ws : List Ev) (w : World)
set_option maxRecDepth 100000
set_option maxHeartbeats 1600000
theorem seqNone_any (h : PSeq w p m s ws) : Calls Try.prog 37 #[.pointer (some ⟨p.SB, 0, none⟩)] w fun e w' => e = .returned (.bool false) ∧ w' = w := by
  have c0 : w.cell? ⟨p.SB, 0, none⟩ = some (.slice p.pA m.procs.length p.pc) := h.waits.box.cell 0
  have hn := h.ok.may.n1
  have g0 : ((m.procs.length : Int) == 0) = false := by simp; intro e; rw [e] at hn; simp at hn
  clear h hn
  go_enter Try.func37, Try.ntmps37
  go_wp2_with fail
  go_ret
  exact ⟨rfl, rfl⟩
/-- The next event, or none. -/
def NextOut (w : World) (ws : List Ev) (r : Ending) (w' : World) : Prop := r = .returned (.tuple #[ev6 (ws.headD evZ), .bool !ws.isEmpty]) ∧ Below w.heap.size w w'
theorem next_any (h : PSeq w p m s ws) : Calls Try.prog 12 #[.pointer (some ⟨p.SB, 0, none⟩)] w (NextOut w ws) := by
  have hown := h.waits.own
  have hw5 : ws.length ≤ 10000 := by rw [h.twin.perm.length_eq]; exact h.few.2.1
  obtain ⟨w1, hw1⟩ : ∃ w1, w.alloc (.cells #[.int .i64 0, .int .i64 0, .int .i64 0, .int .i64 0, .int .i64 0, .int .i64 0] 44) = w1 := ⟨_, rfl⟩
  have n1 : Nw w w1 := by rw [← hw1]; exact (Nw.refl w).alloc _
  have h1 := h.new n1
  have c2 : w1.cell? ⟨p.SB, 2, none⟩ = some (.slice p.A ws.length p.c) := h1.waits.box.cell 2
  have hbO : Blk w1 w.heap.size 44 #[.int .i64 0, .int .i64 0, .int .i64 0, .int .i64 0, .int .i64 0, .int .i64 0] := by rw [← hw1]; exact Blk.last w _ _ rfl
  obtain ⟨OB, hOB⟩ : ∃ OB, w.heap.size = OB := ⟨_, rfl⟩
  rw [hOB] at hbO
  have hk := seqNone_any p m s ws w1 h1
  have o0 : w1.cell? ⟨OB, 0, none⟩ = some (.int .i64 0) := hbO.cell 0
  have o1 : w1.cell? ⟨OB, 1, none⟩ = some (.int .i64 0) := hbO.cell 1
  have o2 : w1.cell? ⟨OB, 2, none⟩ = some (.int .i64 0) := hbO.cell 2
  have o3 : w1.cell? ⟨OB, 3, none⟩ = some (.int .i64 0) := hbO.cell 3
  have o4 : w1.cell? ⟨OB, 4, none⟩ = some (.int .i64 0) := hbO.cell 4
  have o5 : w1.cell? ⟨OB, 5, none⟩ = some (.int .i64 0) := hbO.cell 5
  obtain ⟨z0, z1, z2, z3, z4, z5⟩ := frz6 hbO
  have HW := Lib.hid hw1
  have HOB := Lib.hid hOB
  have N1 := Lib.hid n1
  have HK := Lib.hid hk
  have hsets : ∀ a0 a1 a2 a3 a4 a5, Nw w ((((((w1.setCell ⟨OB, 0, none⟩ a0).setCell ⟨OB, 1, none⟩ a1).setCell ⟨OB, 2, none⟩ a2).setCell ⟨OB, 3, none⟩ a3).setCell ⟨OB, 4, none⟩ a4).setCell ⟨OB, 5, none⟩ a5) := fun a0 a1 a2 a3 a4 a5 =>
    (((((n1.set (p := ⟨OB, 0, none⟩) (by rw [← hOB]; exact Nat.le_refl _) _).set (p := ⟨OB, 1, none⟩) (by rw [← hOB]; exact Nat.le_refl _) _).set (p := ⟨OB, 2, none⟩) (by rw [← hOB]; exact Nat.le_refl _) _).set (p := ⟨OB, 3, none⟩) (by rw [← hOB]; exact Nat.le_refl _) _).set (p := ⟨OB, 4, none⟩) (by rw [← hOB]; exact Nat.le_refl _) _).set (p := ⟨OB, 5, none⟩) (by rw [← hOB]; exact Nat.le_refl _) _
  have HSETS := Lib.hid hsets
  cases ws with
  | nil =>
    clear h h1 hw1 n1 hOB hk hown hbO hsets
    go_enter Try.func12, Try.ntmps12
    go_upto_region 1 with (fail)
    rw [HW.out, HOB.out]
    go_wp2_with fail
    refine HK.out.mono ?_
    rintro e w2 ⟨rfl, h2⟩
    rw [h2]
    clear h2 w2
    go_wp2_with fail
    refine bodyPost_ret (v := .tuple #[ev6 evZ, .bool false]) (by simp [results, Try.results12, go_sem, o0, o1, o2, o3, o4, o5, ev6, evZ]) rfl ?_
    exact ⟨rfl, HSETS.out _ _ _ _ _ _⟩
  | cons e t =>
    obtain ⟨_, _, ea, hrd, _, _⟩ := h1.waits.own.rd
    injection ea with e1 _ e3
    subst e1
    obtain ⟨b, o, hA, ex0, ex1, ex2, ex3, ex4, ex5⟩ := ev_at hrd (h := 0) (by simp)
    rw [hA] at c2
    simp only [Nat.zero_mul, Nat.add_zero, List.getElem_cons_zero] at ex0 ex1 ex2 ex3 ex4 ex5
    have hl : (e :: t).length = t.length + 1 := rfl
    rw [hl] at c2 hw5
    obtain ⟨n, hn⟩ : ∃ n, t.length = n := ⟨_, rfl⟩
    rw [hn] at c2 hw5
    clear h h1 hw1 n1 hOB hk hown hbO hsets hrd hA hl hn
    have g0 : ((n : Int) + 1 == 0) = false := by simp; omega
    go_enter Try.func12, Try.ntmps12
    go_upto_region 1 with (fail)
    rw [HW.out, HOB.out]
    go_wp2_with fail
    refine HK.out.mono ?_
    rintro e w2 ⟨rfl, h2⟩
    rw [h2]
    clear h2 w2
    go_wp2_with fail
    refine bodyPost_ret (v := .tuple #[ev6 e, .bool true]) (by simp [results, Try.results12, go_sem, o0, o1, o2, o3, o4, o5, ev6]) rfl ?_
    exact ⟨rfl, HSETS.out _ _ _ _ _ _⟩
end
end Go.Proofs.Ytgijkgngldfdiaa
/- A run's answer in a box. Helper. -/
namespace Go.Proofs.Ytgijkgngldfdiaa
open Go.RowKit
set_option linter.unusedVariables false
set_option linter.unusedSimpArgs false
theorem insAll_snoc (t : List Ev) (l : List Ev) (j : Nat) (h : j < l.length) : insAll t (l.take (j + 1)) = insE (insAll t (l.take j)) l[j] := by
  unfold insAll
  rw [List.take_succ_eq_append_getElem h, List.foldl_append]; rfl
theorem insAll_length : ∀ (l t : List Ev), (insAll t l).length = t.length + l.length
  | [], t => rfl
  | e :: l, t => by
    show (insAll (insE t e) l).length = _
    rw [insAll_length l, insE_length, List.length_cons]; omega
theorem insAll_srt {t rest l : List Ev} (hs : Srt t) (hp : t.Perm rest) (hu : (rest ++ l).Pairwise fun a b => a.k ≠ b.k) (j : Nat) : Srt (insAll t (l.take j)) :=
  (insAll_twin (l.take j) t rest hs hp (hu.sublist (List.Sublist.append_left (List.take_sublist j l) rest))).1
theorem rows_flat : ∀ (L : List (List Int)), (∀ r ∈ L, r.length = 6) → L.flatten = rows (L.map evOf)
  | [], _ => rfl
  | r :: L, h => by
    have ih := rows_flat L fun x hx => h x (List.mem_cons_of_mem _ hx)
    unfold rows at *
    rw [List.flatten_cons, List.map_cons, List.map_cons, List.flatten_cons, ih, row_evOf (h r List.mem_cons_self)]
/-- A run's answer in a box. -/
def StepBox (base : Nat) (w : World) (B : Nat) (s : Vm) (xA yA tA : Option Addr) (xc yc tc : Nat) : Prop :=
  Blk w B 94 #[.slice xA s.vars.length xc, .int .i64 s.sent, .int .i64 s.drawn, .slice yA s.sends.length yc, .slice tA s.tells.length tc] ∧ StepAt base w s xA yA tA xc yc tc ∧ base ≤ B
theorem StepBox.keep {base : Nat} {w w' : World} {B : Nat} {s : Vm} {xA yA tA : Option Addr} {xc yc tc : Nat} (h : StepBox base w B s xA yA tA xc yc tc) (hN : Nw w w') : StepBox base w' B s xA yA tA xc yc tc :=
  ⟨h.1.below hN h.1.lt, h.2.1.keep hN, h.2.2⟩
theorem StepBox.late {base : Nat} {w : World} {s : Vm} {xA yA tA : Option Addr} {xc yc tc : Nat} (h : StepAt base w s xA yA tA xc yc tc) (hb : base ≤ w.heap.size) :
    StepBox base (w.alloc (.cells #[.slice xA s.vars.length xc, .int .i64 s.sent, .int .i64 s.drawn, .slice yA s.sends.length yc, .slice tA s.tells.length tc] 94)) w.heap.size s xA yA tA xc yc tc :=
  ⟨Blk.last w _ _ rfl, h.keep ((Nw.refl w).alloc _), hb⟩
theorem Nw.row {w W : World} (h : Nw w W) {g : Nat} (hg : w.heap.size ≤ g) (cs : Array Value) : Nw w (W.setRow g cs) :=
  Chg.below (M := fun _ => False) ((Chg.of_below h (Nat.le_refl _) _).setRow (.inr hg) cs) (fun i _ h => h.elim) (Nat.le_refl _)
def stepZ : Array Value := #[.slice none 0 0, .int .i64 0, .int .i64 0, .slice none 0 0, .slice none 0 0]
theorem stepZ_cells {w : World} {X : Nat} {t : TypeId} (h : Blk w X t stepZ) : (w.cell? ⟨X, 0, none⟩ = some (.slice none 0 0) ∧ w.cell? ⟨X, 1, none⟩ = some (.int .i64 0) ∧ w.cell? ⟨X, 2, none⟩ = some (.int .i64 0) ∧ w.cell? ⟨X, 3, none⟩ = some (.slice none 0 0) ∧ w.cell? ⟨X, 4, none⟩ = some (.slice none 0 0)) ∧
    (w.frozen? ⟨X, 0, none⟩ = false ∧ w.frozen? ⟨X, 1, none⟩ = false ∧ w.frozen? ⟨X, 2, none⟩ = false ∧ w.frozen? ⟨X, 3, none⟩ = false ∧ w.frozen? ⟨X, 4, none⟩ = false) :=
  ⟨⟨h.cell 0, h.cell 1, h.cell 2, h.cell 3, h.cell 4⟩, h.frozen 0, h.frozen 1, h.frozen 2, h.frozen 3, h.frozen 4⟩
theorem StepBox.early {base base' : Nat} {w : World} {X : Nat} {s : Vm} {xA yA tA : Option Addr} {xc yc tc : Nat} (h : StepAt base' w s xA yA tA xc yc tc) (hX : Blk w X 94 stepZ) (hb : base ≤ X) (hb' : X < base') :
    StepBox base (((((w.setCell ⟨X, 0, none⟩ (.slice xA s.vars.length xc)).setCell ⟨X, 1, none⟩ (.int .i64 s.sent)).setCell ⟨X, 2, none⟩ (.int .i64 s.drawn)).setCell ⟨X, 3, none⟩ (.slice yA s.sends.length yc)).setCell ⟨X, 4, none⟩ (.slice tA s.tells.length tc)) X s xA yA tA xc yc tc := by
  refine ⟨((((hX.set_ 0 _).set_ 1 _).set_ 2 _).set_ 3 _).set_ 4 _, (h.far fun g hg hl => ?_).mono (by omega), hb⟩
  have hne : g ≠ X := by omega
  rw [Below.heap_setCell _ _ _ _ hne, Below.heap_setCell _ _ _ _ hne, Below.heap_setCell _ _ _ _ hne, Below.heap_setCell _ _ _ _ hne, Below.heap_setCell _ _ _ _ hne]

theorem tail_rows (e : Ev) (t : List Ev) : (ints (rows (e :: t))).drop 6 = ints (rows t) := by
  rw [ints_drop]
  have h := (rows_take (e :: t) 1 (by simp)).2
  simpa using congrArg ints h
end Go.Proofs.Ytgijkgngldfdiaa
