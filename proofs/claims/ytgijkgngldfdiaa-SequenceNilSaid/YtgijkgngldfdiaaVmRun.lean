/- The machine's Run: what is done at an event. Helper. -/
import Derived.Test.YtgijkgngldfdiaaVmDeeds
import Derived.Deep.RegionHeld3
namespace Go.Proofs.Ytgijkgngldfdiaa
open Go.RowKit
set_option linter.unusedVariables false
set_option linter.unusedSimpArgs false
/-- Instructions in memory. -/
def InsAt (w : World) (A : Option Addr) (l : List (Nat × Int)) : Prop :=
  l = [] ∨ ∃ b o, A = some ⟨b, o, none⟩ ∧ ∀ j (h : j < l.length), w.cell? ⟨b, o + j * 2, none⟩ = some (.int .i64 ((l[j]).1 : Int)) ∧ w.cell? ⟨b, o + j * 2 + 1, none⟩ = some (.int .i64 (l[j]).2)
theorem InsAt.keep {w w' : World} {A : Option Addr} {l : List (Nat × Int)} (h : InsAt w A l) (hN : Nw w w') : InsAt w' A l := by
  rcases h with rfl | ⟨b, o, rfl, h⟩
  · exact .inl rfl
  · exact .inr ⟨b, o, rfl, fun j hj => ⟨hN.cell (h j hj).1, hN.cell (h j hj).2⟩⟩
theorem InsAt.get {w : World} {A : Option Addr} {l : List (Nat × Int)} (h : InsAt w A l) {j : Nat} (hj : j < l.length) :
    ∃ b o, A = some ⟨b, o, none⟩ ∧ w.cell? ⟨b, o + j * 2, none⟩ = some (.int .i64 ((l[j]).1 : Int)) ∧ w.cell? ⟨b, o + j * 2 + 1, none⟩ = some (.int .i64 (l[j]).2) := by
  rcases h with rfl | ⟨b, o, rfl, h⟩
  · simp at hj
  · exact ⟨b, o, rfl, h j hj⟩
/-- A program's kinds in memory. -/
def KindsAt (w : World) (A : Option Addr) (ks : List (List (Nat × Int))) : Prop :=
  ks = [] ∨ ∃ b o, A = some ⟨b, o, none⟩ ∧ ∀ i (h : i < ks.length), ∃ lA lc, w.cell? ⟨b, o + i, none⟩ = some (.slice lA ks[i].length lc) ∧ InsAt w lA ks[i]
theorem KindsAt.keep {w w' : World} {A : Option Addr} {ks : List (List (Nat × Int))} (h : KindsAt w A ks) (hN : Nw w w') : KindsAt w' A ks := by
  rcases h with rfl | ⟨b, o, rfl, h⟩
  · exact .inl rfl
  · refine .inr ⟨b, o, rfl, fun i hi => ?_⟩
    obtain ⟨lA, lc, h1, h2⟩ := h i hi
    exact ⟨lA, lc, hN.cell h1, h2.keep hN⟩
theorem KindsAt.get {w : World} {A : Option Addr} {ks : List (List (Nat × Int))} (h : KindsAt w A ks) {i : Nat} (hi : i < ks.length) :
    ∃ b o lA lc, A = some ⟨b, o, none⟩ ∧ w.cell? ⟨b, o + i, none⟩ = some (.slice lA ks[i].length lc) ∧ InsAt w lA ks[i] := by
  rcases h with rfl | ⟨b, o, rfl, h⟩
  · simp at hi
  · obtain ⟨lA, lc, h1, h2⟩ := h i hi
    exact ⟨b, o, lA, lc, rfl, h1, h2⟩
theorem step_store_row {P : Program} {ops : Array Oper} {o : Oper} {a : Act} {w : World} {K : Act → World → Prop} {Q : Exit → Act → World → Prop} {E : Prop} (hgd : o.guard = none) (ty : TypeId) (x y : Operand) (ho : o.op = .store ty x y)
    (g : Nat) (cells : Array Value) (hx : a.eval x = .pointer (some ⟨g, 0, none⟩)) (hy : a.eval y = .agg cells)
    (t : TypeId) (old : Array Value) (hg : w.heap[g]? = some (.cells old t (0, 0))) (hi : (P.info? ty).map (·.size) = some cells.size)
    (hold : old.size = cells.size) (h1 : cells.all (·.oneCell') = true) (h : K (a.put o.dst undef) (w.setRow g cells)) : if Region.wanted o (yielded ops a.tmps) = true then Oper.wp P o a w K Q else E := by
  rw [if_pos (by simp [Region.wanted, hgd])]
  exact wp_store_row ty x y ho g cells hx hy t old hg hi hold h1 h
theorem go_mem (c : Cfg) (vA : Option Addr) (vc : Nat) (VB : Option Nat) (l : List (Nat × Int)) : ∀ (f : Nat) (s : Vm), Vm.go { c with vA := vA, vc := vc, VB := VB } l f s = Vm.go c l f s
  | 0, s => rfl
  | f + 1, s => by
    unfold Vm.go
    split
    · exact go_mem c vA vc VB l f _
    · rfl
/-- A step is laid into its box. -/
def put5 (w : World) (RB : Nat) (a b c d e : Value) : World := ((((w.setCell ⟨RB, 0, none⟩ a).setCell ⟨RB, 1, none⟩ b).setCell ⟨RB, 2, none⟩ c).setCell ⟨RB, 3, none⟩ d).setCell ⟨RB, 4, none⟩ e
theorem put5_far (w : World) (RB : Nat) (a b c d e : Value) (g : Nat) (h : g ≠ RB) : (put5 w RB a b c d e).heap[g]? = w.heap[g]? := by
  unfold put5
  rw [Below.heap_setCell _ _ _ _ h, Below.heap_setCell _ _ _ _ h, Below.heap_setCell _ _ _ _ h, Below.heap_setCell _ _ _ _ h, Below.heap_setCell _ _ _ _ h]
theorem put5_below {w0 w : World} {B RB : Nat} (h : Below B w0 w) (hB : B ≤ RB) (a b c d e : Value) : Below B w0 (put5 w RB a b c d e) :=
  ((((h.setCell (p := ⟨RB, 0, none⟩) hB _).setCell (p := ⟨RB, 1, none⟩) hB _).setCell (p := ⟨RB, 2, none⟩) hB _).setCell (p := ⟨RB, 3, none⟩) hB _).setCell (p := ⟨RB, 4, none⟩) hB _
def NILS : Array Value := Array.replicate 18 .nilFunc
theorem NILS_size : NILS.size = DEEDS.size := by unfold NILS DEEDS; rfl
/-- The deeds are laid into their box. -/
theorem storeDeeds (w : World) (g : Nat) (hg : w.heap[g]? = some (.cells NILS 134 (0, 0))) :
    (storeVar 134 ⟨g, 0, none⟩ (.agg DEEDS)).run Try.prog w = .ok () (w.setRow g DEEDS) := run_storeVar_row w g _ _ NILS DEEDS hg DEEDS_size NILS_size DEEDS_one
theorem storeCells_deeds (w : World) (g : Nat) (hg : w.heap[g]? = some (.cells NILS 134 (0, 0))) :
    (storeCells ⟨g, 0, none⟩ DEEDS.toList).run Try.prog w = .ok () (w.setRow g DEEDS) := by
  have h := storeDeeds w g hg
  obtain ⟨i, hi⟩ : ∃ i, Try.prog.info? 134 = some i := by
    have := DEEDS_size
    cases hq : Try.prog.info? 134 with
    | none => rw [hq] at this; cases this
    | some i => exact ⟨i, rfl⟩
  have hs : DEEDS.size = i.size := by have := DEEDS_size; rw [hi] at this; simpa using this.symm
  simpa [storeVar, sizeOf, typeInfo, hi, Value.cells, hs] using h
theorem setRow_cell {w : World} {g : Nat} {b o : Nat} {v : Value} (hne : b ≠ g) (h : w.cell? ⟨b, o, none⟩ = some v) (cs : Array Value) : (w.setRow g cs).cell? ⟨b, o, none⟩ = some v := by
  have hlt := World.block_lt_of_cell? w _ h
  have e : (w.setRow g cs).heap[b]? = w.heap[b]? := (Chg.setRow (M := fun k => k = g) (Chg.refl _ w) (.inl rfl) cs).block b hlt hne
  rw [← h]
  simp only [World.cell?, e]
theorem nw_setRow {w W : World} (h : Nw w W) {g : Nat} (hg : w.heap.size ≤ g) (cs : Array Value) : Nw w (W.setRow g cs) :=
  Below.trans h ((Chg.setRow (M := fun k => k = g) (Chg.refl _ W) (.inl rfl) cs).below (fun i _ e => by rw [e]; exact hg) (Below.size h))
theorem callDeed (op : Nat) (h1 : 1 ≤ op) (h2 : op ≤ 17) (args : Array Value) (w : World) : (callFunc (deed op) args).run Try.prog w = .ok (.enter (deed op) args) w := by
  have hc : op = 1 ∨ op = 2 ∨ op = 3 ∨ op = 4 ∨ op = 5 ∨ op = 6 ∨ op = 7 ∨ op = 8 ∨ op = 9 ∨ op = 10 ∨ op = 11 ∨ op = 12 ∨ op = 13 ∨ op = 14 ∨ op = 15 ∨ op = 16 ∨ op = 17 := by omega
  rcases hc with rfl | rfl | rfl | rfl | rfl | rfl | rfl | rfl | rfl | rfl | rfl | rfl | rfl | rfl | rfl | rfl | rfl <;> (simp only [deed]; go_simp)
theorem storeDeeds_new (w : World) : (storeCells ⟨w.heap.size, 0, none⟩ DEEDS.toList).run Try.prog (w.alloc (.cells NILS 134)) = .ok () (w.alloc (.cells DEEDS 134)) := by
  rw [storeCells_deeds _ _ (heap_last w _ rfl), World.setRow_alloc_new]
/-- The state at first. -/
def vm0 (l : List Int) (sent drawn : Int) : Vm := ⟨l, sent, drawn, [], [], [], 0⟩
/-- A run's answer: a step, none of which lay there before. -/
def RunOut (w : World) (s : Vm) (e : Ending) (w' : World) : Prop :=
  ∃ c sv tv SB TB, e = .returned (.tuple #[.agg #[.slice c.vA s.vars.length c.vc, .int .i64 s.sent, .int .i64 s.drawn, sv, tv], .int .i64 0]) ∧ Held w' (fun k => w.heap.size ≤ k) c sv tv s.vars s.sends s.tells SB TB ∧ Below w.heap.size w w'
theorem run_end {w w9 : World} {RB : Nat} {Hm : Nat → Prop} {c : Cfg} {sv tv : Value} {s : Vm} {SB TB : Option Nat} {cs5 : Array Value} (hh : Held w9 Hm c sv tv s.vars s.sends s.tells SB TB) (hbx : Blk w9 RB 94 cs5)
    (hm : ∀ k, k < w9.heap.size → Hm k → w.heap.size ≤ k) (hRB : w.heap.size ≤ RB) (hB : Below w.heap.size w w9) :
    RunOut w s (.returned (.tuple #[.agg #[.slice c.vA s.vars.length c.vc, .int .i64 s.sent, .int .i64 s.drawn, sv, tv], .int .i64 0])) (put5 w9 RB (.slice c.vA s.vars.length c.vc) (.int .i64 s.sent) (.int .i64 s.drawn) sv tv) :=
  ⟨c, sv, tv, SB, TB, rfl, hh.kept (fun g t cs' ht hg => put5_far w9 RB _ _ _ _ _ g (hg.ne_ hbx (by rcases ht with rfl | rfl | rfl <;> decide))) hm, put5_below hB hRB _ _ _ _ _⟩
section
variable (MB : Nat) (vars : Int) (kA : Option Addr) (ks : List (List (Nat × Int))) (kc : Nat) (me procs seed : Int) (A : Option Addr) (l : List Int) (c : Nat) (sent drawn T O S d : Int) (kq : Nat) (fin : Vm) (w : World)
set_option maxRecDepth 100000
set_option maxHeartbeats 1600000
theorem run_ok (hM : MachAt w MB vars kA ks.length kc me procs seed) (hK : KindsAt w kA ks) (hks : ∀ i (h : i < ks.length), ks[i].length ≤ 128 ∧ ∀ x ∈ ks[i], InsOk l.length ks.length ks[i].length x.1 x.2)
    (hkl : ks.length ≤ 8) (hme : 1 ≤ me) (hp : 1 ≤ procs ∧ procs ≤ 16) (hA : Rd w A (ints l)) (hll : l.length ≤ 8) (hst : stOk vars l.length sent drawn = true) (hmay : MayB T O S me (kq : Int) d procs = true)
    (hfin : fin = if h : kq < ks.length then Vm.go ⟨T, O, S, me, kq, d, me, procs, seed, none, 0, none⟩ ks[kq] 256 (vm0 l sent drawn) else vm0 l sent drawn) :
    Calls Try.prog 42 #[.pointer (some ⟨MB, 0, none⟩), .agg #[.slice A l.length c, .int .i64 sent, .int .i64 drawn], .agg #[.int .i64 T, .int .i64 O, .int .i64 S, .int .i64 me, .int .i64 (kq : Int), .int .i64 d]] w
      (RunOut w fin) := by
  have HFIN := Lib.hid hfin
  clear hfin
  obtain ⟨w3, hw3⟩ : ∃ w3, ((w.alloc (.cells #[.slice A l.length c, .int .i64 sent, .int .i64 drawn] 65)).alloc (.cells #[.int .i64 T, .int .i64 O, .int .i64 S, .int .i64 me, .int .i64 (kq : Int), .int .i64 d] 44)).alloc (.cells #[.slice none 0 0, .int .i64 0, .int .i64 0, .slice none 0 0, .slice none 0 0] 94) = w3 := ⟨_, rfl⟩
  have b3 : Nw w w3 := by rw [← hw3]; exact (((Nw.refl w).alloc _).alloc _).alloc _
  obtain ⟨SB, hSB⟩ : ∃ SB, w.heap.size = SB := ⟨_, rfl⟩
  obtain ⟨EB, hEB⟩ : ∃ EB, w.heap.size + 1 = EB := ⟨_, rfl⟩
  obtain ⟨RB, hRB⟩ : ∃ RB, w.heap.size + 1 + 1 = RB := ⟨_, rfl⟩
  have hbS : Blk w3 SB 65 #[.slice A l.length c, .int .i64 sent, .int .i64 drawn] := by rw [← hw3]; exact (((Blk.last w _ _ hSB).alloc _).alloc _)
  have hbE : Blk w3 EB 44 #[.int .i64 T, .int .i64 O, .int .i64 S, .int .i64 me, .int .i64 (kq : Int), .int .i64 d] := by rw [← hw3]; exact ((Blk.last _ _ _ (by simpa using hEB)).alloc _)
  have hbR : Blk w3 RB 94 #[.slice none 0 0, .int .i64 0, .int .i64 0, .slice none 0 0, .slice none 0 0] := by rw [← hw3]; exact Blk.last _ _ _ (by simpa using hRB)
  have sS : w.heap.size ≤ SB ∧ w.heap.size ≤ EB ∧ w.heap.size ≤ RB := by omega
  have B3 := Lib.hid b3
  have HW := Lib.hid hw3
  have HM := Lib.hid hM
  have HK := Lib.hid hK
  have HKS := Lib.hid hks
  have HA := Lib.hid hA
  have HST := Lib.hid hst
  have HMAY := Lib.hid hmay
  have KN := Lib.hid (none_any MB vars kA ks.length kc me procs seed w3 (hM.keep b3) (by omega))
  have HBS := Lib.hid hbS
  have HBE := Lib.hid hbE
  have HBR := Lib.hid hbR
  have SS := Lib.hid sS
  have ks1 := fun W (g : Nw w3 W) => mayState_any MB vars kA ks.length kc me procs seed W A l.length c sent drawn ((hM.keep b3).keep g) (by omega)
  rw [hst] at ks1
  have KS := Lib.hid ks1
  have ke1 := fun W => may_any T O S me (kq : Int) d procs W
  rw [hmay] at ke1
  have KE := Lib.hid ke1
  have m2 := (hM.keep b3).m2
  have m3 := (hM.keep b3).m3
  have HHS := Lib.hid (⟨hSB, hEB, hRB⟩ : w.heap.size = SB ∧ w.heap.size + 1 = EB ∧ w.heap.size + 1 + 1 = RB)
  clear hSB hEB hRB hM hK hks hA hst hmay hw3 b3 hbS hbE hbR sS ks1 ke1
  go_enter Try.func42, Try.ntmps42
  go_upto_region 1 with (fail)
  rw [HW.out, HHS.out.2.2, HHS.out.2.1, HHS.out.1]
  go_wp2_with fail
  refine KN.out.mono ?_
  rintro e w' ⟨rfl, hw⟩
  obtain rfl := hw.symm
  clear KN
  have q0 : w3.cell? ⟨SB, 0, none⟩ = some (.slice A l.length c) := HBS.out.cell 0
  have q1 : w3.cell? ⟨SB, 1, none⟩ = some (.int .i64 sent) := HBS.out.cell 1
  have q2 : w3.cell? ⟨SB, 2, none⟩ = some (.int .i64 drawn) := HBS.out.cell 2
  have e0 : w3.cell? ⟨EB, 0, none⟩ = some (.int .i64 T) := HBE.out.cell 0
  have e1 : w3.cell? ⟨EB, 1, none⟩ = some (.int .i64 O) := HBE.out.cell 1
  have e2 : w3.cell? ⟨EB, 2, none⟩ = some (.int .i64 S) := HBE.out.cell 2
  have e3 : w3.cell? ⟨EB, 3, none⟩ = some (.int .i64 me) := HBE.out.cell 3
  have e4 : w3.cell? ⟨EB, 4, none⟩ = some (.int .i64 (kq : Int)) := HBE.out.cell 4
  have e5 : w3.cell? ⟨EB, 5, none⟩ = some (.int .i64 d) := HBE.out.cell 5
  have i0 : Nw w3 w3.drew := (Nw.refl w3).drew
  go_wp2_with fail
  go_region_held3 (fun W => Nw w3 W ∧ W.cell? ⟨SB, 0, none⟩ = some (.slice A l.length c) ∧ W.cell? ⟨SB, 1, none⟩ = some (.int .i64 sent) ∧ W.cell? ⟨SB, 2, none⟩ = some (.int .i64 drawn) ∧ W.cell? ⟨EB, 0, none⟩ = some (.int .i64 T) ∧ W.cell? ⟨EB, 1, none⟩ = some (.int .i64 O) ∧ W.cell? ⟨EB, 2, none⟩ = some (.int .i64 S) ∧ W.cell? ⟨EB, 3, none⟩ = some (.int .i64 me) ∧ W.cell? ⟨EB, 4, none⟩ = some (.int .i64 (kq : Int)) ∧ W.cell? ⟨EB, 5, none⟩ = some (.int .i64 d) ∧ W.cell? ⟨MB, 2, none⟩ = some (.int .i64 me) ∧ W.cell? ⟨MB, 3, none⟩ = some (.int .i64 procs)) (first | exact ⟨i0, q0, q1, q2, e0, e1, e2, e3, e4, e5, m2, m3⟩ | exact ⟨by assumption, Nw.cell (by assumption) q0, Nw.cell (by assumption) q1, Nw.cell (by assumption) q2, Nw.cell (by assumption) e0, Nw.cell (by assumption) e1, Nw.cell (by assumption) e2, Nw.cell (by assumption) e3, Nw.cell (by assumption) e4, Nw.cell (by assumption) e5, Nw.cell (by assumption) m2, Nw.cell (by assumption) m3⟩) (first
    | (go_at_call 66; (with_reducible refine (KS.out _ (by assumption)).mono ?_); rintro e wx ⟨rfl, bx⟩; have ix := Nw.step (by assumption) bx)
    | (go_at_call 40; (with_reducible refine (KE.out _).mono ?_); rintro e wy ⟨rfl, by_⟩; have iy := Nw.step (by assumption) by_))
  all_goals
    have IY := Lib.hid iy
    clear ix bx by_ iy i0 m2 m3
    have fS0 : wy.cell? ⟨SB, 0, none⟩ = some (.slice A l.length c) := IY.out.cell q0
    have fS1 : wy.cell? ⟨SB, 1, none⟩ = some (.int .i64 sent) := IY.out.cell q1
    have fS2 : wy.cell? ⟨SB, 2, none⟩ = some (.int .i64 drawn) := IY.out.cell q2
    have fE0 : wy.cell? ⟨EB, 0, none⟩ = some (.int .i64 T) := IY.out.cell e0
    have fE1 : wy.cell? ⟨EB, 1, none⟩ = some (.int .i64 O) := IY.out.cell e1
    have fE2 : wy.cell? ⟨EB, 2, none⟩ = some (.int .i64 S) := IY.out.cell e2
    have fE3 : wy.cell? ⟨EB, 3, none⟩ = some (.int .i64 me) := IY.out.cell e3
    have fE4 : wy.cell? ⟨EB, 4, none⟩ = some (.int .i64 (kq : Int)) := IY.out.cell e4
    have fE5 : wy.cell? ⟨EB, 5, none⟩ = some (.int .i64 d) := IY.out.cell e5
    have hss : ∀ W, Nw wy W → (Nw wy W ∧ W.cell? ⟨SB, 0, none⟩ = some (.slice A l.length c) ∧ W.cell? ⟨SB, 1, none⟩ = some (.int .i64 sent) ∧ W.cell? ⟨SB, 2, none⟩ = some (.int .i64 drawn) ∧ W.cell? ⟨EB, 0, none⟩ = some (.int .i64 T) ∧ W.cell? ⟨EB, 1, none⟩ = some (.int .i64 O) ∧ W.cell? ⟨EB, 2, none⟩ = some (.int .i64 S) ∧ W.cell? ⟨EB, 3, none⟩ = some (.int .i64 me) ∧ W.cell? ⟨EB, 4, none⟩ = some (.int .i64 (kq : Int)) ∧ W.cell? ⟨EB, 5, none⟩ = some (.int .i64 d)) := fun W hW => ⟨hW, Nw.cell hW fS0, Nw.cell hW fS1, Nw.cell hW fS2, Nw.cell hW fE0, Nw.cell hW fE1, Nw.cell hW fE2, Nw.cell hW fE3, Nw.cell hW fE4, Nw.cell hW fE5⟩
    have HSS := Lib.hid hss
    have kcl := fun W (g : Nw wy W) => clone64_any W A l c ((HA.out.keep (fun p hp => Below.cell (show Below w.heap.size w W from (B3.out.step (IY.out.step g |> fun t => (show Below w3.heap.size w3 W from t)))) hp))) (by omega)
    have KCL := Lib.hid kcl
    clear q0 q1 q2 e0 e1 e2 e3 e4 e5 hss kcl
    go_upto_region 5 with (fail)
    go_region_held3 (fun W => Nw wy W ∧ W.cell? ⟨SB, 0, none⟩ = some (.slice A l.length c) ∧ W.cell? ⟨SB, 1, none⟩ = some (.int .i64 sent) ∧ W.cell? ⟨SB, 2, none⟩ = some (.int .i64 drawn) ∧ W.cell? ⟨EB, 0, none⟩ = some (.int .i64 T) ∧ W.cell? ⟨EB, 1, none⟩ = some (.int .i64 O) ∧ W.cell? ⟨EB, 2, none⟩ = some (.int .i64 S) ∧ W.cell? ⟨EB, 3, none⟩ = some (.int .i64 me) ∧ W.cell? ⟨EB, 4, none⟩ = some (.int .i64 (kq : Int)) ∧ W.cell? ⟨EB, 5, none⟩ = some (.int .i64 d)) ((refine HSS.out _ ?_; repeat (first | assumption | exact Nw.refl wy | refine Nw.drew ?_ | refine Nw.alloc ?_ _))) (first
      | (go_at_call 56; refine (KCL.out _ (by first | assumption | exact Nw.refl wy | exact (Nw.refl wy).drew)).mono ?_; rintro e wz ⟨vA, vc, VB, rfl, hown, bz, hnew⟩; have iz := Nw.step (by first | assumption | exact Nw.refl wy | exact (Nw.refl wy).drew) bz))
    all_goals
      go_upto_region 7 with (fail)
      obtain ⟨w8, hw8⟩ : ∃ w8, wz.alloc (.cells #[.pointer (some ⟨MB, 0, none⟩), .int .i64 T, .int .i64 O, .int .i64 S, .int .i64 me, .int .i64 (kq : Int), .int .i64 d, .slice vA l.length vc, .int .i64 sent, .int .i64 drawn, .slice none 0 0, .slice none 0 0, .int .i64 0, .int .i64 0, .int .i64 0, .int .i64 0, .int .i64 0, .int .i64 0, .int .i64 0, .int .i64 0, .int .i64 0, .int .i64 0, .int .i64 0, .int .i64 0, .int .i64 0, .int .i64 0, .int .i64 0, .int .i64 0, .slice (some ⟨wz.heap.size, 12, none⟩) 0 16, .int .i64 0] 132) = w8 := ⟨_, rfl⟩
      have hbR8 : Blk w8 wz.heap.size 132 #[.pointer (some ⟨MB, 0, none⟩), .int .i64 T, .int .i64 O, .int .i64 S, .int .i64 me, .int .i64 (kq : Int), .int .i64 d, .slice vA l.length vc, .int .i64 sent, .int .i64 drawn, .slice none 0 0, .slice none 0 0, .int .i64 0, .int .i64 0, .int .i64 0, .int .i64 0, .int .i64 0, .int .i64 0, .int .i64 0, .int .i64 0, .int .i64 0, .int .i64 0, .int .i64 0, .int .i64 0, .int .i64 0, .int .i64 0, .int .i64 0, .int .i64 0, .slice (some ⟨wz.heap.size, 12, none⟩) 0 16, .int .i64 0] := by rw [← hw8]; exact Blk.last wz _ _ rfl
      have b8 : Nw wy w8 := by rw [← hw8]; exact iz.alloc _
      have hown8 : Own w8 2 1 (.slice vA l.length vc) l.length (ints l) VB := by rw [← hw8]; exact hown.kept (fun g hg => Below.heap_alloc _ _ _ (hown.lt g hg))
      rw [hw8]
      have hMA := HM.out.keep (B3.out.step (IY.out.step b8))
      have hMlt : MB < w.heap.size := World.block_lt_of_cell? w _ HM.out.m0
      have hws : w.heap.size ≤ w3.heap.size := Below.size B3.out
      have hys : w3.heap.size ≤ wy.heap.size := Below.size IY.out
      have hzs : wy.heap.size ≤ wz.heap.size := Below.size iz
      have hnew : ∀ g, VB = some g → wy.heap.size ≤ g := hnew
      have hnM : ¬ (MB = wz.heap.size ∨ some MB = VB) := fun h => by
        rcases h with h | h
        · omega
        · have := hnew MB h.symm; omega
      have hrun : RunH w8 (fun k => k = wz.heap.size ∨ some k = VB) wz.heap.size MB ⟨T, O, S, me, kq, d, me, procs, seed, vA, vc, VB⟩ (vm0 l sent drawn) :=
        ⟨⟨_, _, _, none, none, hbR8, ⟨rfl, rfl, rfl, rfl, rfl, rfl, rfl, rfl, rfl, rfl, rfl, rfl, rfl, fun j hj => absurd hj (by simp [vm0]), rfl, rfl, by simp [vm0]⟩, ⟨hown8, Own.nil _ _ _, Own.nil _ _ _, fun g hg => .inr hg.symm, fun g hg => (by cases hg), fun g hg => (by cases hg)⟩⟩, ⟨hMA.m2, hMA.m3, hMA.m4⟩, .inl rfl, hnM, Nat.lt_of_lt_of_le hMlt (by have := Below.size b8; omega)⟩
      have k1 := hMA.m1
      have x4 : w8.cell? ⟨EB, 4, none⟩ = some (.int .i64 (kq : Int)) := Nw.cell b8 fE4
      have HRUN := Lib.hid hrun
      have B8 := Lib.hid b8
      have hz8 : wz.heap.size < w8.heap.size := hbR8.lt
      have HZ := Lib.hid (⟨hws, hys, hzs, hz8⟩ : w.heap.size ≤ w3.heap.size ∧ w3.heap.size ≤ wy.heap.size ∧ wy.heap.size ≤ wz.heap.size ∧ wz.heap.size < w8.heap.size)
      have HNEW := Lib.hid hnew
      obtain ⟨R, hR⟩ : ∃ R, wz.heap.size = R := ⟨_, rfl⟩
      have HR := Lib.hid hR
      rw [hR] at HRUN ⊢
      clear hMA hMlt hws hys hzs hnM hrun hbR8 b8 hown8 hw8 hz8 hnew hown bz iz hR fS0 fS1 fS2 fE0 fE1 fE2 fE3 fE4 fE5 HSS KCL
      by_cases hk : kq < ks.length
      · have hf := HFIN.out
        rw [dif_pos hk] at hf
        have HF := Lib.hid hf
        clear hf HFIN
        have g1 : ¬ (ks.length : Int) ≤ (kq : Int) := by omega
        have g2 : decide ((ks.length : Int) ≤ (kq : Int)) = false := decide_eq_false g1
        have g3 : decide (ks.length ≤ kq) = false := decide_eq_false (by omega)
        have g4 : (kq : Int) < (ks.length : Int) := by omega
        go_quiet (fail)
        obtain ⟨w9, hw9⟩ : ∃ w9, w8.drewN nq = w9 := ⟨_, rfl⟩
        have b89 : Below w8.heap.size w8 w9 := by rw [← hw9]; exact ⟨rfl, rfl, rfl, Nat.le_refl _, fun _ _ => rfl⟩
        have hrun9 := HRUN.out.new b89
        rw [hw9]
        have n09 : Nw w w9 := B3.out.step ((IY.out.step B8.out).step b89)
        have n39 : Nw w3 w9 := (IY.out.step B8.out).step b89
        obtain ⟨kb, ko, lA, lc, rfl, hkc, hins⟩ := HK.out.get hk
        have kc9 := n09.cell hkc
        have k9 := (HM.out.keep n09).m1
        have e9 : w9.cell? ⟨EB, 4, none⟩ = some (.int .i64 (kq : Int)) := Nw.cell n39 (HBE.out.cell 4)
        have HRUN9 := Lib.hid hrun9
        have B89 := Lib.hid b89
        have N09 := Lib.hid n09
        have N39 := Lib.hid n39
        have HINS := Lib.hid hins
        obtain ⟨m, hm⟩ : ∃ m, ks[kq].length = m := ⟨_, rfl⟩
        have HMl := Lib.hid hm
        rw [hm] at kc9 hkc
        have bk := World.block_lt_of_cell? w9 _ kc9
        have bm := World.block_lt_of_cell? w9 _ k9
        have be := World.block_lt_of_cell? w9 _ e9
        dsimp only at bk bm be
        clear hw9 b89 hrun9 n09 n39 hkc hins hm k1 x4 HRUN
        go_wp2_with fail
        go_cut [9, 10] (fun s9 s10 wx => ∃ AB, s9 = .pointer (some ⟨AB, 0, none⟩) ∧ s10 = .slice lA m lc ∧ Nw w9 wx ∧ Blk wx AB 134 DEEDS ∧ w9.heap.size ≤ AB)
        case first =>
          have kst := fun W : World => storeDeeds_new W
          have k18 := DEEDS_18
          unfold NILS at kst
          simp only [Array.replicate_succ, Array.replicate_zero, List.push_toArray, List.nil_append, List.cons_append] at kst
          go_region_law ((go_simp; go_at_call 67; refine (deeds_any _).mono ?_; rintro e wd ⟨rfl, bd⟩; have nd : Nw w9 wd := (by first | exact ((Nw.refl w9).drew).step bd | exact (((Nw.refl w9).alloc _).drew).step bd); have d1 := nd.cell kc9; have d2 := nd.cell k9; have d3 := nd.cell e9; have dk := Nat.lt_of_lt_of_le bk (Below.size nd); have dm := Nat.lt_of_lt_of_le bm (Below.size nd); have de := Nat.lt_of_lt_of_le be (Below.size nd); try (have hgB : wd.heap[w9.heap.size]? = some (.cells NILS 134 (0, 0)) := (bd.block w9.heap.size (by simp)).trans (heap_last w9 _ rfl); have kB := storeCells_deeds wd w9.heap.size hgB); have c1 := setRow_cell (Nat.ne_of_lt bk) d1 DEEDS; have c2 := setRow_cell (Nat.ne_of_lt bm) d2 DEEDS; have c3 := setRow_cell (Nat.ne_of_lt be) d3 DEEDS))
          all_goals
            go_wp2_with fail
            go_meet
            first
              | exact ⟨_, rfl, rfl, nd.alloc _, Blk.last wd _ _ rfl, Below.size nd⟩
              | exact ⟨w9.heap.size, rfl, rfl, nw_setRow nd (Nat.le_refl _) _, setRow_heap wd _ _ _ _ _ hgB, Nat.le_refl _⟩
        case rest =>
          obtain ⟨AB, rfl, rfl, nx, hab, hABge⟩ := hcut
          have z := HZ.out
          have h89 : w8.heap.size ≤ w9.heap.size := Below.size (show Below w8.heap.size w8 w9 from by have := N39.out; exact B89.out)
          have hHm : ∀ k, (k = R ∨ some k = VB) → w.heap.size ≤ k ∧ k < w9.heap.size := fun k hk => by
            rcases hk with rfl | hk
            · rw [← HR.out]; omega
            · have h1 := HNEW.out k hk.symm
              obtain ⟨cs, sv, tv, SB', TB', hb, hr, hh⟩ := HRUN9.out.ex
              exact ⟨by omega, hh.v.lt k hk.symm⟩
          have hrx := HRUN9.out.new nx
          have hlx := Below.size nx
          have hG : RunH wc (fun k => (k = R ∨ some k = VB) ∨ wc.heap.size ≤ k) R MB ⟨T, O, S, me, kq, d, me, procs, seed, vA, vc, VB⟩ (vm0 l sent drawn) :=
            hrx.mono (fun _ _ h => .inl h) (fun g => by rcases g with g | g; exact hrx.hM g; have := hrx.hMlt; omega)
          have hABlt := hab.lt
          have hABn : ¬ (AB = R ∨ some AB = VB) := fun g => by have := (hHm AB g).2; omega
          have hgo : Vm.go ⟨T, O, S, me, kq, d, me, procs, seed, vA, vc, VB⟩ ks[kq] 256 (vm0 l sent drawn) = fin := by
            rw [HF.out]; exact go_mem ⟨T, O, S, me, kq, d, me, procs, seed, none, 0, none⟩ vA vc VB ks[kq] 256 (vm0 l sent drawn)
          have HG := Lib.hid hG
          have HAB := Lib.hid hab
          have HHM := Lib.hid hHm
          have HABN := Lib.hid hABn
          have NX := Lib.hid (N09.out.step nx)
          have NX3 := Lib.hid (N39.out.step nx)
          have HGO := Lib.hid hgo
          clear hG hab hHm hABn hgo hrx nx hABge h89 hABlt z hlx kc9 k9 e9
          go_wp2_with fail
          go_loopw [11] (fun fu wr => ∃ (f : Nat) (s : Vm), f ≤ 256 ∧ fu = .int .i64 f ∧ Hid (RunH wr (fun k => (k = R ∨ some k = VB) ∨ wc.heap.size ≤ k) R MB ⟨T, O, S, me, kq, d, me, procs, seed, vA, vc, VB⟩ s ∧ Chg (fun k => k = R ∨ some k = VB) wc wr ∧ s.vars.length = l.length ∧ s.tells.length ≤ 4 ∧ Vm.go ⟨T, O, S, me, kq, d, me, procs, seed, vA, vc, VB⟩ ks[kq] (256 - f) s = fin)) (fun fu _ => 256 - (intOf fu).toNat)
          case atStart => exact ⟨0, _, by omega, rfl, Lib.hid ⟨HG.out, Chg.refl _ _, rfl, Nat.zero_le _, HGO.out⟩⟩
          case round =>
            obtain ⟨f, s, hf256, rfl, HI⟩ := hrel
            clear HG HGO
            obtain ⟨hr, hc, hv, htl, hg⟩ := HI.out
            have c29 := hr.cells.2.2.2.2.2.2
            have HRr := Lib.hid hr
            have HC := Lib.hid hc
            have HV := Lib.hid hv
            have HTL := Lib.hid htl
            have HGo := Lib.hid hg
            clear hr hc hv htl hg HI
            by_cases hcont : f < 256 ∧ s.pc < m
            · obtain ⟨h1, h2⟩ := hcont
              have hpl : s.pc < ks[kq].length := by rw [HMl.out]; exact h2
              obtain ⟨lb, lo, rfl, i1, i2⟩ := HINS.out.get hpl
              have hok := (HKS.out kq hk).2 _ (List.getElem_mem hpl)
              obtain ⟨x, hx⟩ : ∃ x, (ks[kq])[s.pc] = x := ⟨_, rfl⟩
              have hgn : Vm.go ⟨T, O, S, me, kq, d, me, procs, seed, vA, vc, VB⟩ ks[kq] (256 - (f + 1)) (({ s with pc := s.pc + 1 } : Vm).step ⟨T, O, S, me, kq, d, me, procs, seed, vA, vc, VB⟩ x.1 x.2) = fin := by
                have h := HGo.out
                rw [show 256 - f = 256 - (f + 1) + 1 by omega, go_next _ _ _ _ hpl, hx] at h
                exact h
              rw [hx] at i1 i2 hok
              obtain ⟨op, n⟩ := x
              dsimp only at i1 i2 hok hgn
              have cellr : ∀ b o v, w.cell? ⟨b, o, none⟩ = some v → wr.cell? ⟨b, o, none⟩ = some v := fun b o v h => by
                have hb := World.block_lt_of_cell? w _ h
                have h1 := NX.out.cell h
                have hlt := World.block_lt_of_cell? wc _ h1
                have e := HC.out.block b hlt (fun g => by have := (HHM.out b g).1; dsimp only at hb; omega)
                rw [← h1]; simp only [World.cell?, e]
              have q1 := cellr _ _ _ i1
              have q2 := cellr _ _ _ i2
              have d1 : decide ((f : Int) < 256) = true := decide_eq_true (by omega)
              have d2 : decide ((s.pc : Int) < (m : Int)) = true := decide_eq_true (by omega)
              have d3 : decide (s.pc < m) = true := decide_eq_true h2
              have d4 : (f : Int) < 256 := by omega
              have d5 : (s.pc : Int) < (m : Int) := by omega
              have m128 : m ≤ 128 := by have := (HKS.out kq hk).1; rw [HMl.out] at this; exact this
              have f29 := HRr.out.free 29
              have hRlt : R < wr.heap.size := by obtain ⟨cs, _, _, _, _, hb, _⟩ := HRr.out.ex; exact hb.lt
              have HOK := Lib.hid hok
              have HGN := Lib.hid hgn
              clear hok hgn hx cellr i1 i2 HGo hpl
              have hpoke := HRr.out.poke 29 (.int .i64 ((s.pc + 1 : Nat) : Int)) (s' := { s with pc := s.pc + 1 }) (fun cs sv tv hr => hr.setPc _) rfl rfl rfl
              rw [show ((s.pc + 1 : Nat) : Int) = (s.pc : Int) + 1 by simp] at hpoke
              obtain ⟨w5, hw5⟩ : ∃ w5, (wr.setCell ⟨R, 29, none⟩ (.int .i64 ((s.pc : Int) + 1))).alloc (.cells #[.int .i64 (op : Int), .int .i64 n] 110) = w5 := ⟨_, rfl⟩
              have hd5 : Done wr w5 (fun k => (k = R ∨ some k = VB) ∨ wc.heap.size ≤ k) R MB ⟨T, O, S, me, kq, d, me, procs, seed, vA, vc, VB⟩ { s with pc := s.pc + 1 } := by
                rw [← hw5]; exact hpoke.then (Done.same hpoke.run ((Below.refl _ _).alloc (Nat.le_refl _) _))
              have hxb : Blk w5 wr.heap.size 110 #[.int .i64 (op : Int), .int .i64 n] := by rw [← hw5]; exact Blk.last _ _ _ (by simp [World.setCell])
              have habr : Blk wr AB 134 DEEDS := HAB.out.chg HC.out HABN.out
              have hab5 : Blk w5 AB 134 DEEDS := by rw [← hw5]; exact (habr.far (p := ⟨R, 29, none⟩) (fun e => HABN.out (.inl e)) _).alloc _
              have b0 : w5.cell? ⟨wr.heap.size, 0, none⟩ = some (.int .i64 (op : Int)) := hxb.cell 0
              have b1 : w5.cell? ⟨wr.heap.size, 1, none⟩ = some (.int .i64 n) := hxb.cell 1
              have b2 : w5.cell? ⟨AB, op, none⟩ = some (.func (.func (deed op)) #[] #[]) := (hab5.cell op).trans (DEEDS_get op HOK.out.lo HOK.out.hi)
              have u1 : (op : Int) < 18 := by have := HOK.out.hi; omega
              have u2 : op < 18 := by have := HOK.out.hi; omega
              have kcd := callDeed op HOK.out.lo HOK.out.hi
              have HD5 := Lib.hid hd5
              have HW5 := Lib.hid hw5
              have htime : 0 ≤ T ∧ T ≤ 1099511627776 := by have := HMAY.out; unfold MayB at this; simp only [Bool.and_eq_true, decide_eq_true_eq] at this; exact ⟨this.1.1.1.1.1, this.1.1.1.1.2⟩
              have kst := step_any _ R MB ⟨T, O, S, me, kq, d, me, procs, seed, vA, vc, VB⟩ { s with pc := s.pc + 1 } op n ks.length ks[kq].length w5.drew (hd5.run.new ((Below.refl _ _).drew)) (by rw [show ({ s with pc := s.pc + 1 } : Vm).vars.length = l.length from HV.out]; exact HOK.out) (by rw [show ({ s with pc := s.pc + 1 } : Vm).vars.length = l.length from HV.out]; omega) (by have := HTL.out; show s.tells.length ≤ _; omega) hp htime
              have KST := Lib.hid kst
              clear hpoke hd5 hxb habr hab5 hw5 kst htime
              go_upto_region 15 with (fail)
              rw [HW5.out]
              clear c29 q1 q2 f29 d1 d2 d3 d5
              go_still_tail 7, (by kernel_rfl)
              change wpList _ _ _ _ _ w5.drew
              go_wp2_with fail
              refine KST.out.mono ?_
              rintro e w7 ⟨rfl, d7⟩
              have HD7 := Lib.hid (HD5.out.drew.then d7)
              clear d7 b0 b1 b2
              go_wp2_with fail
              go_roundw
              case rel =>
                have hkeep := keeps_step ⟨T, O, S, me, kq, d, me, procs, seed, vA, vc, VB⟩ op n { s with pc := s.pc + 1 }
                refine ⟨f + 1, _, by omega, by go_num, Lib.hid ⟨HD7.out.run.mono (fun k _ hk => ?_) HRr.out.hM, HC.out.trans HD7.out.chg (fun i hi hm => ?_), hkeep.1.trans HV.out, hkeep.2.1 HTL.out, HGN.out⟩⟩
                · rcases hk with hk | hk
                  · exact hk
                  · have := HC.out.size; exact .inr (by omega)
                · rcases hm with hm | hm
                  · exact hm
                  · omega
              case measure => simp [intOf]; omega
            · have hfs : s = fin := by
                have h := HGo.out
                by_cases h1 : f < 256
                · rw [go_stop _ _ _ _ (by rw [HMl.out]; exact fun g => hcont ⟨h1, g⟩)] at h
                  exact h
                · rw [show 256 - f = 0 by omega] at h
                  exact h
              have HFS := Lib.hid hfs
              clear hfs HGo
              by_cases h1 : f < 256
              · have h2 : ¬ s.pc < m := fun g => hcont ⟨h1, g⟩
                have d1 : decide ((f : Int) < 256) = true := decide_eq_true (by omega)
                have d2 : decide ((s.pc : Int) < (m : Int)) = false := decide_eq_false (by omega)
                have d3 : decide (s.pc < m) = false := decide_eq_false h2
                have d4 : (f : Int) < 256 := by omega
                clear hcont h2
                obtain ⟨cs, sv, tv, SB', TB', hb, hr', hh⟩ := HRr.out.ex
                obtain ⟨sA, sc, rfl, _⟩ := hh.s.rd
                obtain ⟨tA, tc, rfl, _⟩ := hh.t.rd
                have r7 : wr.cell? ⟨R, 7, none⟩ = some (.slice vA s.vars.length vc) := (hb.cell 7).trans hr'.c7
                have r8 : wr.cell? ⟨R, 8, none⟩ = some (.int .i64 s.sent) := (hb.cell 8).trans hr'.c8
                have r9 : wr.cell? ⟨R, 9, none⟩ = some (.int .i64 s.drawn) := (hb.cell 9).trans hr'.c9
                have r10 : wr.cell? ⟨R, 10, none⟩ = some (.slice sA s.sends.length sc) := (hb.cell 10).trans hr'.c10
                have r11 : wr.cell? ⟨R, 11, none⟩ = some (.slice tA s.tells.length tc) := (hb.cell 11).trans hr'.c11
                have hbx0 : Blk wc RB 94 _ := HBR.out.below NX3.out HBR.out.lt
                have hbx : Blk wr RB 94 _ := (HC.out.block RB hbx0.lt (fun g => by
                  have h1 := HBR.out.lt
                  have z := HZ.out
                  rcases g with g | g
                  · rw [← HR.out] at g; omega
                  · have := HNEW.out RB g.symm; omega)).trans hbx0
                have o0 : wr.cell? ⟨RB, 0, none⟩ = some (.slice none 0 0) := hbx.cell 0
                have o1 : wr.cell? ⟨RB, 1, none⟩ = some (.int .i64 0) := hbx.cell 1
                have o2 : wr.cell? ⟨RB, 2, none⟩ = some (.int .i64 0) := hbx.cell 2
                have o3 : wr.cell? ⟨RB, 3, none⟩ = some (.slice none 0 0) := hbx.cell 3
                have o4 : wr.cell? ⟨RB, 4, none⟩ = some (.slice none 0 0) := hbx.cell 4
                have z0 := hbx.frozen 0
                have z1 := hbx.frozen 1
                have z2 := hbx.frozen 2
                have z3 := hbx.frozen 3
                have z4 := hbx.frozen 4
                have HH := Lib.hid hh
                have HBX := Lib.hid hbx
                clear hb hr' hh hbx hbx0
                go_wp2_with fail
                refine bodyPost_ret (v := .tuple #[.agg #[.slice vA s.vars.length vc, .int .i64 s.sent, .int .i64 s.drawn, .slice sA s.sends.length sc, .slice tA s.tells.length tc], .int .i64 0]) (by simp [results, Try.results42, go_sem, o0, o1, o2, o3, o4]) rfl ?_
                rw [← HFS.out]
                exact run_end (s := s) (c := ⟨T, O, S, me, kq, d, me, procs, seed, vA, vc, VB⟩) HH.out HBX.out (fun k _ hk => by
                  have h1 := Below.size NX.out
                  rcases hk with hk | hk
                  · exact (HHM.out k hk).1
                  · omega) SS.out.2.2 (Below.trans NX.out (HC.out.below (fun k _ hk => (HHM.out k hk).1) (Below.size NX.out)))
              · have d1 : decide ((f : Int) < 256) = false := decide_eq_false (by omega)
                have d4 : ¬ (f : Int) < 256 := by omega
                clear hcont
                obtain ⟨cs, sv, tv, SB', TB', hb, hr', hh⟩ := HRr.out.ex
                obtain ⟨sA, sc, rfl, _⟩ := hh.s.rd
                obtain ⟨tA, tc, rfl, _⟩ := hh.t.rd
                have r7 : wr.cell? ⟨R, 7, none⟩ = some (.slice vA s.vars.length vc) := (hb.cell 7).trans hr'.c7
                have r8 : wr.cell? ⟨R, 8, none⟩ = some (.int .i64 s.sent) := (hb.cell 8).trans hr'.c8
                have r9 : wr.cell? ⟨R, 9, none⟩ = some (.int .i64 s.drawn) := (hb.cell 9).trans hr'.c9
                have r10 : wr.cell? ⟨R, 10, none⟩ = some (.slice sA s.sends.length sc) := (hb.cell 10).trans hr'.c10
                have r11 : wr.cell? ⟨R, 11, none⟩ = some (.slice tA s.tells.length tc) := (hb.cell 11).trans hr'.c11
                have hbx0 : Blk wc RB 94 _ := HBR.out.below NX3.out HBR.out.lt
                have hbx : Blk wr RB 94 _ := (HC.out.block RB hbx0.lt (fun g => by
                  have h1 := HBR.out.lt
                  have z := HZ.out
                  rcases g with g | g
                  · rw [← HR.out] at g; omega
                  · have := HNEW.out RB g.symm; omega)).trans hbx0
                have o0 : wr.cell? ⟨RB, 0, none⟩ = some (.slice none 0 0) := hbx.cell 0
                have o1 : wr.cell? ⟨RB, 1, none⟩ = some (.int .i64 0) := hbx.cell 1
                have o2 : wr.cell? ⟨RB, 2, none⟩ = some (.int .i64 0) := hbx.cell 2
                have o3 : wr.cell? ⟨RB, 3, none⟩ = some (.slice none 0 0) := hbx.cell 3
                have o4 : wr.cell? ⟨RB, 4, none⟩ = some (.slice none 0 0) := hbx.cell 4
                have z0 := hbx.frozen 0
                have z1 := hbx.frozen 1
                have z2 := hbx.frozen 2
                have z3 := hbx.frozen 3
                have z4 := hbx.frozen 4
                have HH := Lib.hid hh
                have HBX := Lib.hid hbx
                clear hb hr' hh hbx hbx0
                go_wp2_with fail
                refine bodyPost_ret (v := .tuple #[.agg #[.slice vA s.vars.length vc, .int .i64 s.sent, .int .i64 s.drawn, .slice sA s.sends.length sc, .slice tA s.tells.length tc], .int .i64 0]) (by simp [results, Try.results42, go_sem, o0, o1, o2, o3, o4]) rfl ?_
                rw [← HFS.out]
                exact run_end (s := s) (c := ⟨T, O, S, me, kq, d, me, procs, seed, vA, vc, VB⟩) HH.out HBX.out (fun k _ hk => by
                  have h1 := Below.size NX.out
                  rcases hk with hk | hk
                  · exact (HHM.out k hk).1
                  · omega) SS.out.2.2 (Below.trans NX.out (HC.out.below (fun k _ hk => (HHM.out k hk).1) (Below.size NX.out)))
      · have hf := HFIN.out
        rw [dif_neg hk] at hf
        have HF := Lib.hid hf
        clear hf HFIN
        have g1 : (ks.length : Int) ≤ (kq : Int) := by omega
        have g2 : decide ((ks.length : Int) ≤ (kq : Int)) = true := decide_eq_true g1
        have g3 : decide (ks.length ≤ kq) = true := decide_eq_true (by omega)
        clear hk
        go_quiet (fail)
        obtain ⟨w9, hw9⟩ : ∃ w9, w8.drewN nq = w9 := ⟨_, rfl⟩
        have b89 : Below w8.heap.size w8 w9 := by rw [← hw9]; exact ⟨rfl, rfl, rfl, Nat.le_refl _, fun _ _ => rfl⟩
        have hrun9 := HRUN.out.new b89
        rw [hw9]
        obtain ⟨cs, sv, tv, SB', TB', hb, hr, hh⟩ := hrun9.ex
        obtain ⟨sA, sc, rfl, _⟩ := hh.s.rd
        obtain ⟨tA, tc, rfl, _⟩ := hh.t.rd
        have r7 : w9.cell? ⟨R, 7, none⟩ = some (.slice vA l.length vc) := (hb.cell 7).trans hr.c7
        have r8 : w9.cell? ⟨R, 8, none⟩ = some (.int .i64 sent) := (hb.cell 8).trans hr.c8
        have r9 : w9.cell? ⟨R, 9, none⟩ = some (.int .i64 drawn) := (hb.cell 9).trans hr.c9
        have r10 : w9.cell? ⟨R, 10, none⟩ = some (.slice sA 0 sc) := (hb.cell 10).trans hr.c10
        have r11 : w9.cell? ⟨R, 11, none⟩ = some (.slice tA 0 tc) := (hb.cell 11).trans hr.c11
        have n39 : Nw w3 w9 := (IY.out.step B8.out).step b89
        have hbx : Blk w9 RB 94 _ := HBR.out.below n39 HBR.out.lt
        have o0 : w9.cell? ⟨RB, 0, none⟩ = some (.slice none 0 0) := hbx.cell 0
        have o1 : w9.cell? ⟨RB, 1, none⟩ = some (.int .i64 0) := hbx.cell 1
        have o2 : w9.cell? ⟨RB, 2, none⟩ = some (.int .i64 0) := hbx.cell 2
        have o3 : w9.cell? ⟨RB, 3, none⟩ = some (.slice none 0 0) := hbx.cell 3
        have o4 : w9.cell? ⟨RB, 4, none⟩ = some (.slice none 0 0) := hbx.cell 4
        have z0 := hbx.frozen 0
        have z1 := hbx.frozen 1
        have z2 := hbx.frozen 2
        have z3 := hbx.frozen 3
        have z4 := hbx.frozen 4
        have HH := Lib.hid hh
        have HBX := Lib.hid hbx
        have N39 := Lib.hid n39
        clear hb hr hh hw9 b89 hrun9 n39 hbx k1 x4
        go_wp2_with fail
        refine bodyPost_ret (v := .tuple #[.agg #[.slice vA l.length vc, .int .i64 sent, .int .i64 drawn, .slice sA 0 sc, .slice tA 0 tc], .int .i64 0]) (by simp [results, Try.results42, go_sem, o0, o1, o2, o3, o4]) rfl ?_
        rw [HF.out]
        exact run_end (s := vm0 l sent drawn) (c := ⟨T, O, S, me, kq, d, me, procs, seed, vA, vc, VB⟩) HH.out HBX.out (fun k _ hk => by
          have z := HZ.out
          rcases hk with rfl | hk
          · rw [← HR.out]; omega
          · have := HNEW.out k hk.symm; omega) SS.out.2.2 (B3.out.step N39.out)
end
end Go.Proofs.Ytgijkgngldfdiaa
