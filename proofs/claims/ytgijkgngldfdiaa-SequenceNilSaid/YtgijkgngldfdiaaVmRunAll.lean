/- The machine's run at any event. Helper. -/
import Derived.Test.YtgijkgngldfdiaaVmMean
import Derived.Test.YtgijkgngldfdiaaVmSame
namespace Go.Proofs.Ytgijkgngldfdiaa
open Go.RowKit
set_option linter.unusedVariables false
set_option linter.unusedSimpArgs false
def vmZ : Vm := ⟨[], 0, 0, [], [], [], 0⟩
/-- What a machine answers: a run's end, an error. -/
def runA (me procs seed : Int) (ks : List (List (Nat × Int))) (T O S p q d : Int) (l : List Int) (sent drawn : Int) : Vm × Int :=
  if MayB T O S p q d procs && decide (p = me) then (runV me procs seed ks T O S d q.toNat l sent drawn, 0) else (vmZ, 2)
/-- A step in memory, new. -/
def StepAt (base : Nat) (w' : World) (s : Vm) (vA sA tA : Option Addr) (vc sc tc : Nat) : Prop :=
  Rd w' vA (ints s.vars) ∧ Rd w' sA (ints s.sends.flatten) ∧ Rd w' tA (ints s.tells.flatten) ∧ s.sends.flatten.length = s.sends.length * 6 ∧ s.tells.flatten.length = s.tells.length * 6 ∧
    (∀ b o, vA = some ⟨b, o, none⟩ → base ≤ b ∨ s.vars = []) ∧ (∀ b o, sA = some ⟨b, o, none⟩ → base ≤ b ∨ s.sends = []) ∧ (∀ b o, tA = some ⟨b, o, none⟩ → base ≤ b ∨ s.tells = [])
theorem StepAt.mono {base base' : Nat} {w : World} {s : Vm} {vA sA tA : Option Addr} {vc sc tc : Nat} (h : StepAt base w s vA sA tA vc sc tc) (hb : base' ≤ base) : StepAt base' w s vA sA tA vc sc tc :=
  ⟨h.1, h.2.1, h.2.2.1, h.2.2.2.1, h.2.2.2.2.1, fun b o e => (h.2.2.2.2.2.1 b o e).imp (fun g => Nat.le_trans hb g) id, fun b o e => (h.2.2.2.2.2.2.1 b o e).imp (fun g => Nat.le_trans hb g) id, fun b o e => (h.2.2.2.2.2.2.2 b o e).imp (fun g => Nat.le_trans hb g) id⟩
theorem Rd.far {w w' : World} {A : Option Addr} {xs : List Value} {base : Nat} (h : Rd w A xs) (hn : ∀ b o, A = some ⟨b, o, none⟩ → base ≤ b ∨ xs = []) (hk : ∀ g, base ≤ g → g < w.heap.size → w'.heap[g]? = w.heap[g]?) : Rd w' A xs := by
  rcases h with rfl | ⟨b, o, rfl, h⟩
  · exact .inl rfl
  · rcases hn b o rfl with g | g
    · refine .inr ⟨b, o, rfl, fun j u hu => ?_⟩
      have c := h j u hu
      have e := hk b g (World.block_lt_of_cell? w _ c)
      rw [← c]; simp only [World.cell?, e]
    · exact .inl g
/-- Only blocks below the step's turn. -/
theorem StepAt.far {base : Nat} {w w' : World} {s : Vm} {vA sA tA : Option Addr} {vc sc tc : Nat} (h : StepAt base w s vA sA tA vc sc tc) (hk : ∀ g, base ≤ g → g < w.heap.size → w'.heap[g]? = w.heap[g]?) : StepAt base w' s vA sA tA vc sc tc :=
  ⟨h.1.far (fun b o e => (h.2.2.2.2.2.1 b o e).imp id (fun g => by rw [g]; rfl)) hk, h.2.1.far (fun b o e => (h.2.2.2.2.2.2.1 b o e).imp id (fun g => by rw [g]; rfl)) hk, h.2.2.1.far (fun b o e => (h.2.2.2.2.2.2.2 b o e).imp id (fun g => by rw [g]; rfl)) hk, h.2.2.2⟩
theorem StepAt.keep {base : Nat} {w w' : World} {s : Vm} {vA sA tA : Option Addr} {vc sc tc : Nat} (h : StepAt base w s vA sA tA vc sc tc) (hN : Nw w w') : StepAt base w' s vA sA tA vc sc tc :=
  ⟨h.1.keep fun p hp => Below.cell hN hp, h.2.1.keep fun p hp => Below.cell hN hp, h.2.2.1.keep fun p hp => Below.cell hN hp, h.2.2.2⟩
def RunAll (w : World) (r : Vm × Int) (e : Ending) (w' : World) : Prop :=
  ∃ vA vc sA sc tA tc, e = .returned (.tuple #[.agg #[.slice vA r.1.vars.length vc, .int .i64 r.1.sent, .int .i64 r.1.drawn, .slice sA r.1.sends.length sc, .slice tA r.1.tells.length tc], .int .i64 r.2]) ∧
    StepAt w.heap.size w' r.1 vA sA tA vc sc tc ∧ Below w.heap.size w w'
theorem own_base {w : World} {e : TypeId} {size : Nat} {A : Option Addr} {n c : Nat} {xs : List Value} {blk : Option Nat} (h : Own w e size (.slice A n c) n xs blk) {base : Nat} (hb : ∀ g, blk = some g → base ≤ g) : ∀ b o, A = some ⟨b, o, none⟩ → base ≤ b ∨ n = 0 := by
  intro b o hA
  obtain ⟨hl, A', cc, hv, h1, h2, h3 | ⟨g, off, cur, e1, hg', hg, h4, h5⟩⟩ := h
  · injection hv with e1 e2 e3
    exact .inr (by omega)
  · injection hv with e1' e2 e3
    rw [hA] at e1'
    rw [e1] at e1'
    injection e1' with e1'
    injection e1' with e1'
    exact .inl (by rw [e1']; exact hb g hg')
theorem runAll_of {w : World} {s : Vm} {e : Ending} {w' : World} (h : RunOut w s e w') : RunAll w (s, 0) e w' := by
  obtain ⟨c, sv, tv, SB, TB, rfl, hh, hB⟩ := h
  obtain ⟨sA, sc, rfl, hs, _⟩ := hh.s.rd
  obtain ⟨tA, tc, rfl, ht, _⟩ := hh.t.rd
  obtain ⟨vA, vc, ev, hv, _⟩ := hh.v.rd
  injection ev with e1 e2 e3
  have l1 := hh.s.1
  have l2 := hh.t.1
  rw [ints_length] at l1 l2
  refine ⟨c.vA, c.vc, sA, sc, tA, tc, rfl, ⟨by rw [e1]; exact hv, hs, ht, l1, l2, fun b o hA => ?_, fun b o hA => ?_, fun b o hA => ?_⟩, hB⟩
  · exact (own_base hh.v hh.hv b o hA).imp id List.eq_nil_of_length_eq_zero
  · exact (own_base hh.s hh.hs b o hA).imp id List.eq_nil_of_length_eq_zero
  · exact (own_base hh.t hh.ht b o hA).imp id List.eq_nil_of_length_eq_zero
theorem run_all (MB : Nat) (vars : Int) (kA : Option Addr) (ks : List (List (Int × Int))) (kc : Nat) (me procs seed : Int) (A : Option Addr) (l : List Int) (c : Nat) (sent drawn T O S p q d : Int) (w : World)
    (hM : MachAt w MB vars kA ks.length kc me procs seed) (hK : RKinds w kA ks) (hmay : codeMay vars ks = true) (hargs : argsOk me procs = true) (hA : Rd w A (ints l)) (hst : stOk vars l.length sent drawn = true) :
    Calls Try.prog 42 #[.pointer (some ⟨MB, 0, none⟩), .agg #[.slice A l.length c, .int .i64 sent, .int .i64 drawn], .agg #[.int .i64 T, .int .i64 O, .int .i64 S, .int .i64 p, .int .i64 q, .int .i64 d]] w
      (RunAll w (runA me procs seed (nk ks) T O S p q d l sent drawn)) := by
  have ha : 1 ≤ me ∧ 1 ≤ procs ∧ procs ≤ 16 := by unfold argsOk at hargs; simp only [Bool.and_eq_true, decide_eq_true_eq] at hargs; omega
  unfold runA
  cases hb : (MayB T O S p q d procs && decide (p = me)) with
  | false =>
    refine (run_no MB vars kA ks.length kc me procs seed A l.length c sent drawn T O S p q d w true _ _ hM ha.1 hst rfl rfl (by rw [Bool.true_and]; exact hb)).mono fun e w' h => ?_
    obtain ⟨rfl, hB⟩ := h
    exact ⟨none, 0, none, 0, none, 0, rfl, ⟨.inl rfl, .inl rfl, .inl rfl, rfl, rfl, fun b o h => (by cases h), fun b o h => (by cases h), fun b o h => by cases h⟩, hB⟩
  | true =>
    rw [Bool.and_eq_true, decide_eq_true_eq] at hb
    obtain ⟨hm, rfl⟩ := hb
    have hq : 0 ≤ q := by unfold MayB at hm; simp only [Bool.and_eq_true, decide_eq_true_eq] at hm; exact hm.2.1
    obtain ⟨kq, rfl⟩ := Int.eq_ofNat_of_zero_le hq
    rw [Int.toNat_natCast]
    exact (run_yes MB vars kA ks kc p procs seed A l c sent drawn T O S d kq w hM hK hmay hargs hA hst hm).mono fun e w' h => runAll_of h
/-- What is answered of a machine that may be, of a state of it: bounds. -/
theorem runA_means (me procs seed : Int) (ks : List (List (Nat × Int))) (T O S p q d : Int) (l : List Int) (sent drawn : Int) (hp : 1 ≤ procs) (ha : 0 ≤ sent ∧ sent ≤ 2199023255552) (hb : 0 ≤ drawn ∧ drawn ≤ 2199023255552)
    (h0 : (runA me procs seed ks T O S p q d l sent drawn).2 = 0) :
    ∃ c : Cfg, c.time = T ∧ c.origin = O ∧ c.seq = S ∧ c.self = me ∧ c.procs = procs ∧ Means c sent drawn 256 (runA me procs seed ks T O S p q d l sent drawn).1 ∧ (runA me procs seed ks T O S p q d l sent drawn).1.vars.length = l.length := by
  unfold runA at h0 ⊢
  split at h0
  · rename_i hc
    rw [if_pos hc]
    obtain ⟨g1, g2⟩ := means_run me procs seed ks T O S d q.toNat l sent drawn hp ha hb
    exact ⟨_, rfl, rfl, rfl, rfl, rfl, g1, g2⟩
  · cases h0
theorem runA_small (me procs seed : Int) (ks : List (List (Nat × Int))) (T O S p q d : Int) (l : List Int) (sent drawn : Int) (hp : 1 ≤ procs) (ha : 0 ≤ sent ∧ sent ≤ 2199023255552) (hb : 0 ≤ drawn ∧ drawn ≤ 2199023255552) (hl : l.length ≤ 4294967295) :
    (runA me procs seed ks T O S p q d l sent drawn).1.vars.length ≤ 4294967295 ∧ (runA me procs seed ks T O S p q d l sent drawn).1.sends.length ≤ 4 ∧ (runA me procs seed ks T O S p q d l sent drawn).1.tells.length ≤ 4 := by
  unfold runA
  split
  · obtain ⟨g1, g2⟩ := means_run me procs seed ks T O S d q.toNat l sent drawn hp ha hb
    exact ⟨by rw [g2]; exact hl, g1.ns, g1.nt⟩
  · exact ⟨Nat.zero_le _, Nat.zero_le _, Nat.zero_le _⟩
/-- A row of six in a list of rows laid one behind the other. -/
theorem flat_get : ∀ (L : List (List Int)) (j : Nat) (h : j < L.length), (∀ i (h : i < L.length), L[i].length = 6) → ∀ i, i < 6 → L.flatten.getD (j * 6 + i) 0 = L[j].getD i 0
  | x :: L, 0, h, ha, i, hi => by
    have h0 : x.length = 6 := ha 0 (by simp)
    rw [List.flatten_cons, List.getD_eq_getElem?_getD, List.getElem?_append_left (by omega)]
    simp
  | x :: L, j + 1, h, ha, i, hi => by
    have h0 : x.length = 6 := ha 0 (by simp)
    have := flat_get L j (by simpa using h) (fun i hi => ha (i + 1) (by simpa using hi)) i hi
    rw [List.flatten_cons, List.getD_eq_getElem?_getD, List.getElem?_append_right (by omega), h0, show (j + 1) * 6 + i - 6 = j * 6 + i by omega, ← List.getD_eq_getElem?_getD, this]
    simp
end Go.Proofs.Ytgijkgngldfdiaa
