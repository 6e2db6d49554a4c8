/- The machine's run: what it does, plainly; where it lies in memory. Helper. -/
import Derived.Test.YtgijkgngldfdiaaVmMem
namespace Go.Proofs.Ytgijkgngldfdiaa
open Go.RowKit
set_option linter.unusedVariables false
set_option linter.unusedSimpArgs false
/-- What a run has: variables, numbers, events that were sent and records that were told (as rows), the stack, the next instruction's place. -/
structure Vm where
  vars : List Int
  sent : Int
  drawn : Int
  sends : List (List Int)
  tells : List (List Int)
  stack : List Int
  pc : Nat
/-- What stays: the event (its six numbers), the process, how many, the seed. -/
structure Cfg where
  time : Int
  origin : Int
  seq : Int
  dest : Int
  kind : Int
  data : Int
  self : Int
  procs : Int
  seed : Int
  vA : Option Addr
  vc : Nat
  VB : Option Nat
def Vm.push (s : Vm) (n : Int) : Vm := if s.stack.length < 16 then { s with stack := s.stack ++ [n] } else s
def Vm.top (s : Vm) : Int := s.stack.getLast?.getD 0
def Vm.pop (s : Vm) : Vm := { s with stack := s.stack.dropLast }
def ints (l : List Int) : List Value := l.map (Value.int .i64)
theorem ints_length (l : List Int) : (ints l).length = l.length := by simp [ints]
theorem ints_get (l : List Int) (i : Nat) : (ints l)[i]? = (l[i]?).map (Value.int .i64) := by simp [ints]
theorem ints_append (a b : List Int) : ints (a ++ b) = ints a ++ ints b := by simp [ints]
theorem ints_one (l : List Int) : ∀ u ∈ ints l, u.oneCell' = true := by
  intro u hu; simp [ints] at hu; obtain ⟨x, _, rfl⟩ := hu; rfl
def T64 : TypeId := 2
def TEv : TypeId := 44
def TRec : TypeId := 98
def TRun : TypeId := 132
def TMach : TypeId := 115
/-- A step's three slices. -/
structure Held (w : World) (Hm : Nat → Prop) (c : Cfg) (sv tv : Value) (vars : List Int) (sends tells : List (List Int)) (SB TB : Option Nat) : Prop where
  v : Own w 2 1 (.slice c.vA vars.length c.vc) vars.length (ints vars) c.VB
  s : Own w 44 6 sv sends.length (ints sends.flatten) SB
  t : Own w 98 6 tv tells.length (ints tells.flatten) TB
  hv : ∀ g, c.VB = some g → Hm g
  hs : ∀ g, SB = some g → Hm g
  ht : ∀ g, TB = some g → Hm g
/-- The machine's cells. -/
structure Mach (w : World) (MB : Nat) (c : Cfg) : Prop where
  m2 : w.cell? ⟨MB, 2, none⟩ = some (.int .i64 c.self)
  m3 : w.cell? ⟨MB, 3, none⟩ = some (.int .i64 c.procs)
  m4 : w.cell? ⟨MB, 4, none⟩ = some (.int .i64 c.seed)
/-- The run's own block. -/
structure RunB (cs : Array Value) (R MB : Nat) (c : Cfg) (sv tv : Value) (s : Vm) : Prop where
  size : cs.size = 30
  c0 : cs[0]? = some (.pointer (some ⟨MB, 0, none⟩))
  c1 : cs[1]? = some (.int .i64 c.time)
  c2 : cs[2]? = some (.int .i64 c.origin)
  c3 : cs[3]? = some (.int .i64 c.seq)
  c4 : cs[4]? = some (.int .i64 c.dest)
  c5 : cs[5]? = some (.int .i64 c.kind)
  c6 : cs[6]? = some (.int .i64 c.data)
  c7 : cs[7]? = some (.slice c.vA s.vars.length c.vc)
  c8 : cs[8]? = some (.int .i64 s.sent)
  c9 : cs[9]? = some (.int .i64 s.drawn)
  c10 : cs[10]? = some sv
  c11 : cs[11]? = some tv
  room : ∀ j (h : j < s.stack.length), cs[12 + j]? = some (.int .i64 s.stack[j])
  c28 : cs[28]? = some (.slice (some ⟨R, 12, none⟩) s.stack.length 16)
  c29 : cs[29]? = some (.int .i64 (s.pc : Int))
  deep : s.stack.length ≤ 16
structure RunH (w : World) (Hm : Nat → Prop) (R MB : Nat) (c : Cfg) (s : Vm) : Prop where
  ex : ∃ cs sv tv SB TB, Blk w R 132 cs ∧ RunB cs R MB c sv tv s ∧ Held w Hm c sv tv s.vars s.sends s.tells SB TB
  mach : Mach w MB c
  hR : Hm R
  hM : ¬ Hm MB
  hMlt : MB < w.heap.size
theorem Own.tyB {w : World} {e : TypeId} {size : Nat} {v : Value} {n : Nat} {xs : List Value} {blk : Option Nat} (h : Own w e size v n xs blk) : ∀ g, blk = some g → ∃ cur, Blk w g e cur := by
  rintro g rfl
  obtain ⟨_, A, c, _, _, _, h | ⟨g', off, cur, _, hb, hg, _⟩⟩ := h
  · cases h.2
  · injection hb with hb; subst hb; exact ⟨cur, hg⟩
theorem Held.kept {w w' : World} {Hm Hm' : Nat → Prop} {c : Cfg} {sv tv : Value} {vars : List Int} {sends tells : List (List Int)} {SB TB : Option Nat} (h : Held w Hm c sv tv vars sends tells SB TB)
    (hk : ∀ g t cs, (t = 2 ∨ t = 44 ∨ t = 98) → Blk w g t cs → w'.heap[g]? = w.heap[g]?) (hm : ∀ k, k < w.heap.size → Hm k → Hm' k) : Held w' Hm' c sv tv vars sends tells SB TB :=
  ⟨h.v.kept fun g hg => by obtain ⟨cur, hc⟩ := h.v.tyB g hg; exact hk g _ cur (.inl rfl) hc,
   h.s.kept fun g hg => by obtain ⟨cur, hc⟩ := h.s.tyB g hg; exact hk g _ cur (.inr (.inl rfl)) hc,
   h.t.kept fun g hg => by obtain ⟨cur, hc⟩ := h.t.tyB g hg; exact hk g _ cur (.inr (.inr rfl)) hc,
   fun g hg => hm g (h.v.lt g hg) (h.hv g hg), fun g hg => hm g (h.s.lt g hg) (h.hs g hg), fun g hg => hm g (h.t.lt g hg) (h.ht g hg)⟩
theorem Mach.kept {w w' : World} {MB : Nat} {c : Cfg} (h : Mach w MB c) (hk : w'.heap[MB]? = w.heap[MB]?) : Mach w' MB c := by
  have e : ∀ o, w'.cell? ⟨MB, o, none⟩ = w.cell? ⟨MB, o, none⟩ := fun o => by simp only [World.cell?, hk]
  exact ⟨(e 2).trans h.m2, (e 3).trans h.m3, (e 4).trans h.m4⟩
/-- Nothing of the run's has turned. -/
theorem RunH.new {w w' : World} {Hm : Nat → Prop} {R MB : Nat} {c : Cfg} {s : Vm} (h : RunH w Hm R MB c s) (hB : Below w.heap.size w w') : RunH w' Hm R MB c s := by
  obtain ⟨cs, sv, tv, SB, TB, hb, hr, hh⟩ := h.ex
  exact ⟨⟨cs, sv, tv, SB, TB, hb.below hB hb.lt, hr, hh.kept (fun g t cs _ hg => hB.block g hg.lt) (fun _ _ h => h)⟩, h.mach.kept (hB.block MB h.hMlt), h.hR, h.hM, Nat.lt_of_lt_of_le h.hMlt hB.size⟩
theorem RunH.mono {w : World} {Hm Hm' : Nat → Prop} {R MB : Nat} {c : Cfg} {s : Vm} (h : RunH w Hm R MB c s) (hm : ∀ k, k < w.heap.size → Hm k → Hm' k) (hM : ¬ Hm' MB) : RunH w Hm' R MB c s := by
  obtain ⟨cs, sv, tv, SB, TB, hb, hr, hh⟩ := h.ex
  exact ⟨⟨cs, sv, tv, SB, TB, hb, hr, hh.kept (fun g t cs _ hg => rfl) hm⟩, h.mach, hm R hb.lt h.hR, hM, h.hMlt⟩
/-- An operation is done: the run says so, and of what was there only its own blocks may have turned. -/
structure Done (w w' : World) (Hm : Nat → Prop) (R MB : Nat) (c : Cfg) (s : Vm) : Prop where
  run : RunH w' (fun k => Hm k ∨ w.heap.size ≤ k) R MB c s
  chg : Chg Hm w w'
theorem Done.same {w w' : World} {Hm : Nat → Prop} {R MB : Nat} {c : Cfg} {s : Vm} (h : RunH w Hm R MB c s) (hB : Below w.heap.size w w') : Done w w' Hm R MB c s :=
  ⟨(h.mono (Hm' := fun k => Hm k ∨ w.heap.size ≤ k) (fun _ _ h => .inl h) (fun g => by rcases g with g | g; exact h.hM g; have := h.hMlt; omega)).new hB, Chg.of_below hB (Nat.le_refl _) _⟩
theorem Done.then {w w1 w2 : World} {Hm : Nat → Prop} {R MB : Nat} {c : Cfg} {s1 s2 : Vm} (h : Done w w1 Hm R MB c s1) (k : Done w1 w2 (fun k => Hm k ∨ w.heap.size ≤ k) R MB c s2) : Done w w2 Hm R MB c s2 := by
  have hs := h.chg.size
  refine ⟨k.run.mono (fun j _ hj => ?_) (fun g => ?_), h.chg.trans k.chg fun i hi hm => ?_⟩
  · rcases hj with hj | hj
    · exact hj
    · exact .inr (by omega)
  · exact h.run.hM g
  · rcases hm with hm | hm
    · exact hm
    · omega
/-- The run's own block turns. -/
theorem RunH.turn {w w' : World} {Hm : Nat → Prop} {R MB : Nat} {c : Cfg} {s' : Vm} {cs' : Array Value} {sv tv : Value} {SB TB : Option Nat} (hM : ¬ Hm MB) (hMlt : MB < w.heap.size) (hR : Hm R) (hm : Mach w MB c)
    (hb : Blk w' R 132 cs') (hr : RunB cs' R MB c sv tv s') (hh : Held w' (fun k => Hm k ∨ w.heap.size ≤ k) c sv tv s'.vars s'.sends s'.tells SB TB) (hc : Chg Hm w w') : Done w w' Hm R MB c s' :=
  ⟨⟨⟨cs', sv, tv, SB, TB, hb, hr, hh⟩, hm.kept (hc.block MB hMlt hM), .inl hR, fun g => (by rcases g with g | g; exact hM g; omega), Nat.lt_of_lt_of_le hMlt hc.size⟩, hc⟩
theorem set_other {cs : Array Value} {k j : Nat} (u : Value) (h : j ≠ k) : (cs.setIfInBounds k u)[j]? = cs[j]? := by
  rw [Array.getElem?_setIfInBounds, if_neg (fun e => h e.symm)]
theorem set_same {cs : Array Value} {k : Nat} (u : Value) (h : k < cs.size) : (cs.setIfInBounds k u)[k]? = some u := by
  rw [Array.getElem?_setIfInBounds, if_pos rfl, if_pos h]
section
variable {cs : Array Value} {R MB : Nat} {c : Cfg} {sv tv : Value} {s : Vm}
theorem RunB.popped (h : RunB cs R MB c sv tv s) : RunB (cs.setIfInBounds 28 (.slice (some ⟨R, 12, none⟩) (s.stack.length - 1) 16)) R MB c sv tv s.pop := by
  obtain ⟨q, h0, h1, h2, h3, h4, h5, h6, h7, h8, h9, h10, h11, hr, h28, h29, hd⟩ := h
  have hl : s.pop.stack.length = s.stack.length - 1 := by simp [Vm.pop]
  refine ⟨by simpa using q, ?_, ?_, ?_, ?_, ?_, ?_, ?_, ?_, ?_, ?_, ?_, ?_, fun j hj => ?_, by rw [hl]; exact set_same _ (by omega), ?_, by omega⟩
  all_goals first | (rw [set_other _ (by decide)]; assumption) | skip
  have hj' : j < s.stack.length := by omega
  rw [set_other _ (by omega), hr j hj']
  simp [Vm.pop]
theorem RunB.setPc (h : RunB cs R MB c sv tv s) (p : Nat) : RunB (cs.setIfInBounds 29 (.int .i64 (p : Int))) R MB c sv tv { s with pc := p } := by
  obtain ⟨q, h0, h1, h2, h3, h4, h5, h6, h7, h8, h9, h10, h11, hr, h28, h29, hd⟩ := h
  refine ⟨by simpa using q, ?_, ?_, ?_, ?_, ?_, ?_, ?_, ?_, ?_, ?_, ?_, ?_, fun j hj => ?_, ?_, set_same _ (by omega), hd⟩
  all_goals first | (rw [set_other _ (by decide)]; assumption) | skip
  have hj' : j < s.stack.length := hj
  rw [set_other _ (by omega)]; exact hr j hj'
theorem RunB.setSent (h : RunB cs R MB c sv tv s) (x : Int) : RunB (cs.setIfInBounds 8 (.int .i64 x)) R MB c sv tv { s with sent := x } := by
  obtain ⟨q, h0, h1, h2, h3, h4, h5, h6, h7, h8, h9, h10, h11, hr, h28, h29, hd⟩ := h
  refine ⟨by simpa using q, ?_, ?_, ?_, ?_, ?_, ?_, ?_, ?_, set_same _ (by omega), ?_, ?_, ?_, fun j hj => ?_, ?_, ?_, hd⟩
  all_goals first | (rw [set_other _ (by decide)]; assumption) | skip
  have hj' : j < s.stack.length := hj
  rw [set_other _ (by omega)]; exact hr j hj'
theorem RunB.setDrawn (h : RunB cs R MB c sv tv s) (x : Int) : RunB (cs.setIfInBounds 9 (.int .i64 x)) R MB c sv tv { s with drawn := x } := by
  obtain ⟨q, h0, h1, h2, h3, h4, h5, h6, h7, h8, h9, h10, h11, hr, h28, h29, hd⟩ := h
  refine ⟨by simpa using q, ?_, ?_, ?_, ?_, ?_, ?_, ?_, ?_, ?_, set_same _ (by omega), ?_, ?_, fun j hj => ?_, ?_, ?_, hd⟩
  all_goals first | (rw [set_other _ (by decide)]; assumption) | skip
  have hj' : j < s.stack.length := hj
  rw [set_other _ (by omega)]; exact hr j hj'
theorem RunB.setSends (h : RunB cs R MB c sv tv s) (v : Value) (l : List (List Int)) : RunB (cs.setIfInBounds 10 v) R MB c v tv { s with sends := l } := by
  obtain ⟨q, h0, h1, h2, h3, h4, h5, h6, h7, h8, h9, h10, h11, hr, h28, h29, hd⟩ := h
  refine ⟨by simpa using q, ?_, ?_, ?_, ?_, ?_, ?_, ?_, ?_, ?_, ?_, set_same _ (by omega), ?_, fun j hj => ?_, ?_, ?_, hd⟩
  all_goals first | (rw [set_other _ (by decide)]; assumption) | skip
  have hj' : j < s.stack.length := hj
  rw [set_other _ (by omega)]; exact hr j hj'
theorem RunB.setTells (h : RunB cs R MB c sv tv s) (v : Value) (l : List (List Int)) : RunB (cs.setIfInBounds 11 v) R MB c sv v { s with tells := l } := by
  obtain ⟨q, h0, h1, h2, h3, h4, h5, h6, h7, h8, h9, h10, h11, hr, h28, h29, hd⟩ := h
  refine ⟨by simpa using q, ?_, ?_, ?_, ?_, ?_, ?_, ?_, ?_, ?_, ?_, ?_, set_same _ (by omega), fun j hj => ?_, ?_, ?_, hd⟩
  all_goals first | (rw [set_other _ (by decide)]; assumption) | skip
  have hj' : j < s.stack.length := hj
  rw [set_other _ (by omega)]; exact hr j hj'
/-- The variables turn (their count does not). -/
theorem RunB.setVars (h : RunB cs R MB c sv tv s) (l : List Int) (hl : l.length = s.vars.length) : RunB cs R MB c sv tv { s with vars := l } := by
  obtain ⟨q, h0, h1, h2, h3, h4, h5, h6, h7, h8, h9, h10, h11, hr, h28, h29, hd⟩ := h
  exact ⟨q, h0, h1, h2, h3, h4, h5, h6, by rw [show ({ s with vars := l } : Vm).vars.length = s.vars.length from hl]; exact h7, h8, h9, h10, h11, hr, h28, h29, hd⟩
end
end Go.Proofs.Ytgijkgngldfdiaa
