/- VmMeans: where a machine runs. Helper. -/
import Derived.Test.YtpbapemgonidbaaVmMeansA
import Derived.Test.YtpbapemgonidbaaHeld
namespace Go.Proofs.Ytpbapemgonidbaa
open Go.RowKit
set_option linter.unusedVariables false
set_option linter.unusedSimpArgs false
theorem Chg.cellAt {M : Nat → Prop} {w w' : World} (h : Chg M w w') {p : Addr} {v : Value} (c : w.cell? p = some v) (hM : ¬ M p.block) : w'.cell? p = some v := by
  have e := h.block p.block (World.block_lt_of_cell? w p c) hM
  rw [← c]; simp only [World.cell?, e]
theorem Chg.nw {M : Nat → Prop} {a w w' : World} (h : Chg M a w) (hN : Nw w w') : Chg M a w' := h.trans (Chg.of_below hN (Nat.le_refl _) (fun _ => False)) (fun i hi hm => absurd hm (fun g => g))
/-- The law's state at an event. -/
structure MI (w5 : World) (SB : Nat) (vars : Int) (k : Nat) (wr : World) (A : Option Addr) (l : List Int) (c : Nat) (sent drawn : Int) : Prop where
  box : Blk wr SB 27 #[.slice A l.length c, .int .i64 sent, .int .i64 drawn]
  rd : Rd wr A (ints l)
  ne : ∀ b o, A = some ⟨b, o, none⟩ → b ≠ SB ∨ l = []
  len : (l.length : Int) = vars
  s0 : 0 ≤ sent
  s1 : sent ≤ 1099511627776 + 4 * (k : Int)
  d0 : 0 ≤ drawn
  d1 : drawn ≤ 1099511627776 + 256 * (k : Int)
  chg : Chg (fun j => j = SB) w5 wr
theorem MI.st {w5 : World} {SB : Nat} {vars : Int} {k : Nat} {wr : World} {A : Option Addr} {l : List Int} {c : Nat} {sent drawn : Int} (h : MI w5 SB vars k wr A l c sent drawn) : stOk vars l.length sent drawn = true := by
  unfold stOk; rw [decide_eq_true h.len, decide_eq_true h.s0, decide_eq_true h.d0]; rfl
theorem MI.new {w5 : World} {SB : Nat} {vars : Int} {k k' : Nat} {wr w' : World} {A : Option Addr} {l : List Int} {c : Nat} {sent drawn : Int} (h : MI w5 SB vars k wr A l c sent drawn) (hN : Nw wr w') (hk : k ≤ k') : MI w5 SB vars k' w' A l c sent drawn :=
  ⟨h.box.below hN h.box.lt, h.rd.keep fun p hp => Below.cell hN hp, h.ne, h.len, h.s0, by have := h.s1; omega, h.d0, by have := h.d1; omega, h.chg.nw hN⟩
/-- A state is laid into the box. -/
theorem MI.set {w5 : World} {SB : Nat} {vars : Int} {k : Nat} {wr : World} {A : Option Addr} {l : List Int} {c : Nat} {sent drawn : Int} (h : MI w5 SB vars k wr A l c sent drawn) (hSB : SB < w5.heap.size) {s : Vm} {vA : Option Addr} {vc : Nat} {base : Nat} (hb : SB < base)
    (hr : Rd wr vA (ints s.vars)) (hn : ∀ b o, vA = some ⟨b, o, none⟩ → base ≤ b ∨ s.vars = []) (hl : s.vars.length = l.length) (e1 : s.sent = sent + (s.sends.length : Int)) (e2 : s.sends.length ≤ 4) (e3 : drawn ≤ s.drawn ∧ s.drawn ≤ drawn + 256) :
    MI w5 SB vars (k + 1) (((wr.setCell ⟨SB, 0, none⟩ (.slice vA s.vars.length vc)).setCell ⟨SB, 1, none⟩ (.int .i64 s.sent)).setCell ⟨SB, 2, none⟩ (.int .i64 s.drawn)) vA s.vars vc s.sent s.drawn := by
  have hbx := (((h.box.set_ 0 (.slice vA s.vars.length vc)).set_ 1 (.int .i64 s.sent)).set_ 2 (.int .i64 s.drawn))
  have hc : Chg (fun j => j = SB) wr (((wr.setCell ⟨SB, 0, none⟩ (.slice vA s.vars.length vc)).setCell ⟨SB, 1, none⟩ (.int .i64 s.sent)).setCell ⟨SB, 2, none⟩ (.int .i64 s.drawn)) :=
    (((Chg.refl (fun j => j = SB) wr).setCell (p := ⟨SB, 0, none⟩) (.inl rfl) _).setCell (p := ⟨SB, 1, none⟩) (.inl rfl) _).setCell (p := ⟨SB, 2, none⟩) (.inl rfl) _
  have h0 := h.s0
  have h1 := h.s1
  have h2 := h.d0
  have h3 := h.d1
  refine ⟨hbx, ?_, fun b o e => ?_, by rw [hl]; exact h.len, by omega, by omega, by omega, by omega, h.chg.trans hc fun i hi hm => hm⟩
  · rcases hr with hr | ⟨b, o, rfl, hr⟩
    · exact .inl hr
    · rcases hn b o rfl with g | g
      · exact .inr ⟨b, o, rfl, fun j u hu => hc.cellAt (hr j u hu) (show ¬ b = SB by omega)⟩
      · rw [g]; exact .inl rfl
  · rcases hn b o e with g | g
    · exact .inl (by omega)
    · exact .inr g
/-- A row of six. -/
theorem ev_cells {w : World} {lA : Option Addr} {zs : List (List Int)} (h : Rows w lA 6 zs) {k : Nat} (hk : k < zs.length) :
    ∃ b o T O S p q d, lA = some ⟨b, o, none⟩ ∧ w.cell? ⟨b, o + k * 6, none⟩ = some (.int .i64 T) ∧ w.cell? ⟨b, o + k * 6 + 1, none⟩ = some (.int .i64 O) ∧ w.cell? ⟨b, o + k * 6 + 2, none⟩ = some (.int .i64 S) ∧
      w.cell? ⟨b, o + k * 6 + 3, none⟩ = some (.int .i64 p) ∧ w.cell? ⟨b, o + k * 6 + 4, none⟩ = some (.int .i64 q) ∧ w.cell? ⟨b, o + k * 6 + 5, none⟩ = some (.int .i64 d) := by
  obtain ⟨b, o, e, hl, hc⟩ := h.get hk
  exact ⟨b, o, _, _, _, _, _, _, e, hc 0 (by omega), hc 1 (by omega), hc 2 (by omega), hc 3 (by omega), hc 4 (by omega), hc 5 (by omega)⟩
/-- A run, as a call's promise. -/
def RunTo (w : World) (s : Vm) (err : Int) (e : Ending) (w' : World) : Prop :=
  ∃ xA xc yA yc tA tc, e = .returned (.tuple #[.agg #[.slice xA s.vars.length xc, .int .i64 s.sent, .int .i64 s.drawn, .slice yA s.sends.length yc, .slice tA s.tells.length tc], .int .i64 err]) ∧ StepAt w.heap.size w' s xA yA tA xc yc tc ∧ Below w.heap.size w w'
/-- A run's answer in a box. -/
def StepBox (base : Nat) (w : World) (B : Nat) (s : Vm) (xA yA tA : Option Addr) (xc yc tc : Nat) : Prop :=
  Blk w B 41 #[.slice xA s.vars.length xc, .int .i64 s.sent, .int .i64 s.drawn, .slice yA s.sends.length yc, .slice tA s.tells.length tc] ∧ StepAt base w s xA yA tA xc yc tc ∧ base ≤ B
theorem StepBox.keep {base : Nat} {w w' : World} {B : Nat} {s : Vm} {xA yA tA : Option Addr} {xc yc tc : Nat} (h : StepBox base w B s xA yA tA xc yc tc) (hN : Nw w w') : StepBox base w' B s xA yA tA xc yc tc :=
  ⟨h.1.below hN h.1.lt, h.2.1.keep hN, h.2.2⟩
theorem StepBox.late {base : Nat} {w : World} {s : Vm} {xA yA tA : Option Addr} {xc yc tc : Nat} (h : StepAt base w s xA yA tA xc yc tc) (hb : base ≤ w.heap.size) :
    StepBox base (w.alloc (.cells #[.slice xA s.vars.length xc, .int .i64 s.sent, .int .i64 s.drawn, .slice yA s.sends.length yc, .slice tA s.tells.length tc] 41)) w.heap.size s xA yA tA xc yc tc :=
  ⟨Blk.last w _ _ rfl, h.keep ((Nw.refl w).alloc _), hb⟩
theorem Nw.row {w W : World} (h : Nw w W) {g : Nat} (hg : w.heap.size ≤ g) (cs : Array Value) : Nw w (W.setRow g cs) :=
  Chg.below (M := fun _ => False) ((Chg.of_below h (Nat.le_refl _) _).setRow (.inr hg) cs) (fun i _ h => h.elim) (Nat.le_refl _)
def stepZ : Array Value := #[.slice none 0 0, .int .i64 0, .int .i64 0, .slice none 0 0, .slice none 0 0]
theorem stepZ_cells {w : World} {X : Nat} {t : TypeId} (h : Blk w X t stepZ) : (w.cell? ⟨X, 0, none⟩ = some (.slice none 0 0) ∧ w.cell? ⟨X, 1, none⟩ = some (.int .i64 0) ∧ w.cell? ⟨X, 2, none⟩ = some (.int .i64 0) ∧ w.cell? ⟨X, 3, none⟩ = some (.slice none 0 0) ∧ w.cell? ⟨X, 4, none⟩ = some (.slice none 0 0)) ∧
    (w.frozen? ⟨X, 0, none⟩ = false ∧ w.frozen? ⟨X, 1, none⟩ = false ∧ w.frozen? ⟨X, 2, none⟩ = false ∧ w.frozen? ⟨X, 3, none⟩ = false ∧ w.frozen? ⟨X, 4, none⟩ = false) :=
  ⟨⟨h.cell 0, h.cell 1, h.cell 2, h.cell 3, h.cell 4⟩, h.frozen 0, h.frozen 1, h.frozen 2, h.frozen 3, h.frozen 4⟩
theorem StepBox.early {base base' : Nat} {w : World} {X : Nat} {s : Vm} {xA yA tA : Option Addr} {xc yc tc : Nat} (h : StepAt base' w s xA yA tA xc yc tc) (hX : Blk w X 41 stepZ) (hb : base ≤ X) (hb' : X < base') :
    StepBox base (((((w.setCell ⟨X, 0, none⟩ (.slice xA s.vars.length xc)).setCell ⟨X, 1, none⟩ (.int .i64 s.sent)).setCell ⟨X, 2, none⟩ (.int .i64 s.drawn)).setCell ⟨X, 3, none⟩ (.slice yA s.sends.length yc)).setCell ⟨X, 4, none⟩ (.slice tA s.tells.length tc)) X s xA yA tA xc yc tc := by
  refine ⟨((((hX.set_ 0 _).set_ 1 _).set_ 2 _).set_ 3 _).set_ 4 _, (h.far fun g hg hl => ?_).mono (by omega), hb⟩
  have hne : g ≠ X := by omega
  rw [Below.heap_setCell _ _ _ _ hne, Below.heap_setCell _ _ _ _ hne, Below.heap_setCell _ _ _ _ hne, Below.heap_setCell _ _ _ _ hne, Below.heap_setCell _ _ _ _ hne]
/-- A row of six in memory, of rows laid one behind the other. -/
theorem row_cells {w : World} {A : Option Addr} {L : List Int} (hr : Rd w A (ints L)) {j n : Nat} (hl : L.length = n * 6) (hj : j < n) {a0 a1 a2 a3 a4 a5 : Int} (h : ∀ i, i < 6 → L.getD (j * 6 + i) 0 = [a0, a1, a2, a3, a4, a5].getD i 0) :
    ∃ b o, A = some ⟨b, o, none⟩ ∧ w.cell? ⟨b, o + j * 6, none⟩ = some (.int .i64 a0) ∧ w.cell? ⟨b, o + j * 6 + 1, none⟩ = some (.int .i64 a1) ∧ w.cell? ⟨b, o + j * 6 + 2, none⟩ = some (.int .i64 a2) ∧
      w.cell? ⟨b, o + j * 6 + 3, none⟩ = some (.int .i64 a3) ∧ w.cell? ⟨b, o + j * 6 + 4, none⟩ = some (.int .i64 a4) ∧ w.cell? ⟨b, o + j * 6 + 5, none⟩ = some (.int .i64 a5) := by
  obtain ⟨b, o, e, hc⟩ := ints_at hr (k := j * 6) (by omega)
  have c : ∀ i, i < 6 → w.cell? ⟨b, o + j * 6 + i, none⟩ = some (.int .i64 ([a0, a1, a2, a3, a4, a5].getD i 0)) := fun i hi => by
    rw [← h i hi, Nat.add_assoc]; exact hc _ (by omega)
  exact ⟨b, o, e, c 0 (by omega), c 1 (by omega), c 2 (by omega), c 3 (by omega), c 4 (by omega), c 5 (by omega)⟩
/-- A run's answer, as the law asks. -/
structure Asked (s : Vm) (me procs T O S sent0 drawn0 : Int) (n : Nat) : Prop where
  ns : s.sends.length ≤ 4
  nt : s.tells.length ≤ 4
  sent : s.sent = sent0 + (s.sends.length : Int)
  drawn : drawn0 ≤ s.drawn ∧ s.drawn ≤ drawn0 + 256
  vars : s.vars.length = n
  snd : ∀ j, j < s.sends.length → ∃ t dst kd d, (∀ i, i < 6 → s.sends.flatten.getD (j * 6 + i) 0 = [t, me, sent0 + (j : Int), dst, kd, d].getD i 0) ∧ T < t ∧ t ≤ 1099511627776 ∧ 1 ≤ dst ∧ dst ≤ procs
  tel : ∀ j, j < s.tells.length → ∃ v, ∀ i, i < 6 → s.tells.flatten.getD (j * 6 + i) 0 = [T, O, S, me, (j : Int), v].getD i 0
theorem asked {me procs seed : Int} {ks : List (List (Nat × Int))} {T O S p q d : Int} {l : List Int} {sent drawn : Int} {s : Vm} (h : runA me procs seed ks T O S p q d l sent drawn = (s, 0)) (hp : 1 ≤ procs) (ha : 0 ≤ sent ∧ sent ≤ 2199023255552) (hb : 0 ≤ drawn ∧ drawn ≤ 2199023255552) :
    Asked s me procs T O S sent drawn l.length := by
  obtain ⟨c, rfl, rfl, rfl, rfl, rfl, hm, hv⟩ := runA_means me procs seed ks T O S p q d l sent drawn hp ha hb (by rw [h])
  rw [h] at hm hv
  obtain ⟨h1, h2, h3, h4, h5, h6⟩ := hm
  refine ⟨h1, h2, h3, h4, hv, fun j hj => ?_, fun j hj => ?_⟩
  · obtain ⟨t, dst, kd, dd, e, g1, g2, g3, g4⟩ := h5 j hj
    refine ⟨t, dst, kd, dd, fun i hi => ?_, g1, g2, g3, g4⟩
    rw [flat_get s.sends j hj (fun i hi => by obtain ⟨_, _, _, _, e, _⟩ := h5 i hi; rw [e]; rfl) i hi, e]
  · obtain ⟨v, e⟩ := h6 j hj
    refine ⟨v, fun i hi => ?_⟩
    rw [flat_get s.tells j hj (fun i hi => by obtain ⟨_, e⟩ := h6 i hi; rw [e]; rfl) i hi, e]
section
variable (vars : Int) (kA : Option Addr) (ks : List (List (Int × Int))) (kc : Nat) (me procs seed : Int) (A : Option Addr) (l : List Int) (c : Nat) (sent drawn : Int) (lA : Option Addr) (zs : List (List Int)) (lc : Nat) (w : World)
set_option maxRecDepth 100000
set_option maxHeartbeats 40000000
theorem means_yes (hk : RKinds w kA ks) (hn : ks.length ≤ maxLen) (hA : Rd w A (ints l)) (hz : Rows w lA 6 zs) (hin : meansIn vars ks me procs l.length sent drawn zs.length = true) :
    Calls Try.prog 3 #[.agg #[.int .i64 vars, .slice kA ks.length kc], .int .i64 me, .int .i64 procs, .int .i64 seed, .agg #[.slice A l.length c, .int .i64 sent, .int .i64 drawn], .slice lA zs.length lc] w fun e w' => e = .returned (.bool true) ∧ Below w.heap.size w w' := by
  unfold meansIn at hin
  simp only [Bool.and_eq_true, decide_eq_true_eq, Bool.not_eq_true'] at hin
  obtain ⟨⟨⟨⟨⟨⟨hmb, h20⟩, h30⟩, her⟩, hst⟩, hs40⟩, hd40⟩ := hin
  have hmay : codeMay vars ks = true := by
    cases h : codeMay vars ks with
    | true => rfl
    | false => unfold newErr at her; rw [h] at her; cases her
  have hargs : argsOk me procs = true := by
    cases h : argsOk me procs with
    | true => rfl
    | false => unfold newErr at her; rw [hmay, h] at her; cases her
  have ha : 1 ≤ me ∧ me ≤ procs ∧ 1 ≤ procs ∧ procs ≤ 16 := by have := hargs; unfold argsOk at this; simp only [Bool.and_eq_true, decide_eq_true_eq] at this; omega
  have hsx : (l.length : Int) = vars ∧ 0 ≤ sent ∧ 0 ≤ drawn := by have := hst; unfold stOk at this; simp only [Bool.and_eq_true, decide_eq_true_eq] at this; exact ⟨this.1.1, this.1.2, this.2⟩
  obtain ⟨w1, hw1⟩ : ∃ w1, ((w.alloc (.cells #[.int .i64 vars, .slice kA ks.length kc] 24)).alloc (.cells #[.slice A l.length c, .int .i64 sent, .int .i64 drawn] 27)).alloc (.cells #[.int .i64 vars, .slice kA ks.length kc, .int .i64 me, .int .i64 procs, .int .i64 seed] 30) = w1 := ⟨_, rfl⟩
  have n1 : Nw w w1 := by rw [← hw1]; exact (((Nw.refl w).alloc _).alloc _).alloc _
  have hsz1 : w1.heap.size = w.heap.size + 1 + 1 + 1 := by rw [← hw1]; simp
  have hbP : Blk w1 w.heap.size 24 #[.int .i64 vars, .slice kA ks.length kc] := by rw [← hw1]; exact ((Blk.last w _ _ rfl).alloc _).alloc _
  have hbS : Blk w1 (w.heap.size + 1) 27 #[.slice A l.length c, .int .i64 sent, .int .i64 drawn] := by rw [← hw1]; exact (Blk.last _ _ _ (by simp)).alloc _
  have hbM : Blk w1 (w.heap.size + 1 + 1) 30 #[.int .i64 vars, .slice kA ks.length kc, .int .i64 me, .int .i64 procs, .int .i64 seed] := by rw [← hw1]; exact Blk.last _ _ _ (by simp)
  obtain ⟨PB, hPB⟩ : ∃ PB, w.heap.size = PB := ⟨_, rfl⟩
  obtain ⟨SB, hSB⟩ : ∃ SB, w.heap.size + 1 = SB := ⟨_, rfl⟩
  obtain ⟨QB, hQB⟩ : ∃ QB, w.heap.size + 1 + 1 = QB := ⟨_, rfl⟩
  have HBX := Lib.hid (⟨hPB, hSB, hQB⟩ : w.heap.size = PB ∧ w.heap.size + 1 = SB ∧ w.heap.size + 1 + 1 = QB)
  have HSZ := Lib.hid (⟨by omega, by omega, by omega⟩ : w.heap.size ≤ PB ∧ w.heap.size ≤ SB ∧ SB < w1.heap.size)
  rw [hPB] at hbP
  rw [hSB] at hbS
  rw [hQB] at hbM
  have K1 := fun W (g : Nw w1 W) => much_any vars kA ks kc W (hk.keep (n1.step g)) hn
  have K2 := fun W (g : Nw w1 W) => refMach_any vars kA ks kc me procs seed W (hk.keep (n1.step g)) hn
  have K3 := fun W => refIs_any vars kA kc me procs seed W ks.length A l.length c sent drawn
  have K4 := fun W (g : Nw w1 W) => new_ok vars kA ks kc me procs seed W (hk.keep (n1.step g)) hmay ⟨ha.2.2.1, ha.2.2.2⟩ ⟨ha.1, ha.2.1⟩
  rw [hmb] at K1
  rw [her] at K2
  rw [hst] at K3
  have K1 := Lib.hid K1
  have K2 := Lib.hid K2
  have K3 := Lib.hid K3
  have K4 := Lib.hid K4
  have P := Lib.hid (⟨hbP.cell 0, hbP.cell 1⟩ : w1.cell? ⟨PB, 0, none⟩ = some (.int .i64 vars) ∧ w1.cell? ⟨PB, 1, none⟩ = some (.slice kA ks.length kc))
  have S := Lib.hid (⟨hbS.cell 0, hbS.cell 1, hbS.cell 2⟩ : w1.cell? ⟨SB, 0, none⟩ = some (.slice A l.length c) ∧ w1.cell? ⟨SB, 1, none⟩ = some (.int .i64 sent) ∧ w1.cell? ⟨SB, 2, none⟩ = some (.int .i64 drawn))
  have M := Lib.hid (⟨hbM.cell 0, hbM.cell 1, hbM.cell 2, hbM.cell 3, hbM.cell 4⟩ : w1.cell? ⟨QB, 0, none⟩ = some (.int .i64 vars) ∧ w1.cell? ⟨QB, 1, none⟩ = some (.slice kA ks.length kc) ∧ w1.cell? ⟨QB, 2, none⟩ = some (.int .i64 me) ∧ w1.cell? ⟨QB, 3, none⟩ = some (.int .i64 procs) ∧ w1.cell? ⟨QB, 4, none⟩ = some (.int .i64 seed))
  have HW := Lib.hid hw1
  have N1 := Lib.hid n1
  have HBS := Lib.hid hbS
  have HA := Lib.hid hA
  have HZ := Lib.hid hz
  have HMAY := Lib.hid hmay
  have HARGS := Lib.hid hargs
  have HAA := Lib.hid ha
  have HLV := Lib.hid (by omega : vars ≤ 20)
  have HSX := Lib.hid hsx
  have g1 : ¬ (20 : Int) < (l.length : Int) := by omega
  have g2 : ¬ (30 : Int) < (zs.length : Int) := by omega
  have g5 : ¬ (1099511627776 : Int) < sent := by omega
  have g6 : ¬ (1099511627776 : Int) < drawn := by omega
  obtain ⟨m, hm⟩ : ∃ m, zs.length = m := ⟨_, rfl⟩
  have HM := Lib.hid hm
  rw [hm] at g2 h30 ⊢
  have HM30 := Lib.hid h30
  obtain ⟨p0, p1⟩ := P.out
  clear hmb her hst hk hn hw1 n1 hsz1 hbP hbS hbM hPB hSB hQB hA hz hmay hargs ha hsx hm
  go_enter Try.func3, Try.ntmps3
  go_upto_region 2 with (fail)
  rw [HW.out, HBX.out.2.2, HBX.out.2.1, HBX.out.1]
  go_wp2_with fail
  refine (K1.out _ (Nw.refl _)).mono ?_
  rintro e w2 ⟨rfl, b2⟩
  have N2 := Lib.hid (show Nw w1 w2 from b2)
  obtain ⟨s0, s1, s2⟩ := S.out
  have s0 := N2.out.cell s0
  have s1 := N2.out.cell s1
  have s2 := N2.out.cell s2
  obtain ⟨m0, m1, m2, m3, m4⟩ := M.out
  have m0 := N2.out.cell m0
  have m1 := N2.out.cell m1
  have m2 := N2.out.cell m2
  have m3 := N2.out.cell m3
  have m4 := N2.out.cell m4
  clear b2 p0 p1
  go_wp2_with fail
  refine (K2.out _ N2.out).mono ?_
  rintro e w3 ⟨rfl, b3⟩
  have N3 := Lib.hid (N2.out.step b3)
  have s0 := Nw.cell b3 s0
  have s1 := Nw.cell b3 s1
  have s2 := Nw.cell b3 s2
  have m0 := Nw.cell b3 m0
  have m1 := Nw.cell b3 m1
  have m2 := Nw.cell b3 m2
  have m3 := Nw.cell b3 m3
  have m4 := Nw.cell b3 m4
  clear b3
  go_wp2_with fail
  refine (K3.out _).mono ?_
  rintro e w4 ⟨rfl, b4⟩
  have N4 := Lib.hid (N3.out.step b4)
  have s0 := Nw.cell b4 s0
  have s1 := Nw.cell b4 s1
  have s2 := Nw.cell b4 s2
  obtain ⟨p0, p1⟩ := P.out
  have p0 := N4.out.cell p0
  have p1 := N4.out.cell p1
  clear b4 m0 m1 m2 m3 m4
  go_wp2_with fail
  refine (K4.out _ N4.out).mono ?_
  rintro e w5 ⟨MB, kB, kd, rfl, hM, hK, b5, hMB, hKF⟩
  have N5 := Lib.hid (N4.out.step b5)
  have hMI : MI w5 SB vars 0 w5 A l c sent drawn :=
    ⟨HBS.out.below N5.out HBS.out.lt, HA.out.keep fun p hp => Below.cell (N1.out.step N5.out) hp, fun b o e => (by
      rcases HA.out with h | ⟨b', o', e', h⟩
      · exact .inr (by simpa [ints] using h)
      · rw [e] at e'
        injection e' with e'
        injection e' with e1 e2 e3
        cases l with
        | nil => exact .inr rfl
        | cons x l =>
          have h0 := World.block_lt_of_cell? w _ (h 0 _ (by rfl))
          dsimp only at h0
          have := HSZ.out
          exact .inl (by omega)), HSX.out.1, HSX.out.2.1, by omega, HSX.out.2.2, by omega, Chg.refl _ _⟩
  have hMB2 : SB < MB := by have := HSZ.out; have := Below.size N4.out; omega
  have hSB2 : SB < w4.heap.size := by have := HSZ.out; have := Below.size N4.out; omega
  have HMI := Lib.hid hMI
  have HMA := Lib.hid hM
  have HKF := Lib.hid hKF
  have HMB := Lib.hid (⟨hMB2, hSB2, b5⟩ : SB < MB ∧ SB < w4.heap.size ∧ Below w4.heap.size w4 w5)
  clear hMI hM hK hKF hMB hMB2 hSB2 b5 s0 s1 s2 p0 p1 K1 K2 K3 K4 P S M HBS HA HSX
  clear K1 K2 K3 K4
  go_wp2_with fail
  go_loopw [16] (fun i wr => ∃ k : Nat, k ≤ m ∧ i = .int .i64 k ∧ Hid (∃ A' l' c' s' d', MI w5 SB vars k wr A' l' c' s' d')) (fun i _ => m - (intOf i).toNat)
  case atStart => exact ⟨0, Nat.zero_le _, rfl, Lib.hid ⟨A, l, c, sent, drawn, HMI.out⟩⟩
  case round =>
    as_aux_lemma =>
      obtain ⟨k, hk, rfl, HI⟩ := hrel
      obtain ⟨wo, hwo⟩ : ∃ wo, wo = wr := ⟨_, rfl⟩
      subst hwo
      by_cases hlt : k < m
      · have g1 : (k : Int) < (m : Int) := by omega
        obtain ⟨A', l', c', s', d', hI⟩ := HI.out
        obtain ⟨b, o, T, O, S, p, q, d, rfl, ev0, ev1, ev2, ev3, ev4, ev5⟩ := ev_cells HZ.out (k := k) (by rw [HM.out]; exact hlt)
        have n5 : Nw w w5 := N1.out.step N5.out
        have cw : ∀ j v, w.cell? ⟨b, j, none⟩ = some v → wo.cell? ⟨b, j, none⟩ = some v := fun j v h => hI.chg.cellAt (n5.cell h) (by
          have h2 := World.block_lt_of_cell? w _ h
          have h3 := HSZ.out
          show ¬ b = SB
          have h4 : b < w.heap.size := h2
          omega)
        have e0 := cw _ _ ev0
        have e1 := cw _ _ ev1
        have e2 := cw _ _ ev2
        have e3 := cw _ _ ev3
        have e4 := cw _ _ ev4
        have e5 := cw _ _ ev5
        have hM : MachAt wo MB vars kB ks.length kd me procs seed := by
          have h2 := HMB.out.1
          have h3 : ¬ MB = SB := by omega
          exact ⟨hI.chg.cellAt HMA.out.m0 h3, hI.chg.cellAt HMA.out.m1 h3, hI.chg.cellAt HMA.out.m2 h3, hI.chg.cellAt HMA.out.m3 h3, hI.chg.cellAt HMA.out.m4 h3⟩
        have hK : RKinds wo kB ks := HKF.out wo fun g hg hs => hI.chg.block g hs (by have := HMB.out.2.1; show ¬ g = SB; omega)
        obtain ⟨⟨s, err⟩, hfin⟩ : ∃ fin, runA me procs seed (nk ks) T O S p q d l' s' d' = fin := ⟨_, rfl⟩
        have KR : Hid (∀ W, Nw wo W → Calls Try.prog 11 #[.pointer (some ⟨MB, 0, none⟩), .agg #[.slice A' l'.length c', .int .i64 s', .int .i64 d'], .agg #[.int .i64 T, .int .i64 O, .int .i64 S, .int .i64 p, .int .i64 q, .int .i64 d]] W (RunTo W s err)) := Lib.hid fun W g => by
          have h2 := run_all MB vars kB ks kd me procs seed A' l' c' s' d' T O S p q d W (hM.keep g) (hK.keep g) HMAY.out HARGS.out (hI.rd.keep fun p hp => Below.cell g hp) hI.st
          rw [hfin] at h2
          exact h2
        have c0 : wo.cell? ⟨SB, 0, none⟩ = some (.slice A' l'.length c') := hI.box.cell 0
        have c1 : wo.cell? ⟨SB, 1, none⟩ = some (.int .i64 s') := hI.box.cell 1
        have c2 : wo.cell? ⟨SB, 2, none⟩ = some (.int .i64 d') := hI.box.cell 2
        have HIN := Lib.hid hI
        have HMW := Lib.hid hM
        have HFIN := Lib.hid hfin
        have HSW := Lib.hid (fun W (hW : Nw wo W) => (⟨hW, hW.cell c0, hW.cell c1, hW.cell c2, hW.cell e0, hW.cell e1, hW.cell e2, hW.cell e3, hW.cell e4, hW.cell e5⟩ : Nw wo W ∧ W.cell? ⟨SB, 0, none⟩ = some (.slice A' l'.length c') ∧ W.cell? ⟨SB, 1, none⟩ = some (.int .i64 s') ∧ W.cell? ⟨SB, 2, none⟩ = some (.int .i64 d') ∧ W.cell? ⟨b, o + k * 6, none⟩ = some (.int .i64 T) ∧ W.cell? ⟨b, o + k * 6 + 1, none⟩ = some (.int .i64 O) ∧ W.cell? ⟨b, o + k * 6 + 2, none⟩ = some (.int .i64 S) ∧ W.cell? ⟨b, o + k * 6 + 3, none⟩ = some (.int .i64 p) ∧ W.cell? ⟨b, o + k * 6 + 4, none⟩ = some (.int .i64 q) ∧ W.cell? ⟨b, o + k * 6 + 5, none⟩ = some (.int .i64 d)))
        have g2 : (k : Int) < ((m : Nat) : Int) := g1
        clear hI hM hK hfin ev0 ev1 ev2 ev3 ev4 ev5 cw n5 HI
        go_upto_region 10 with (fail)
        go_cut [17, 18] (fun s17 s18 wx' => ∃ XB xA xc yA yc tA tc, s17 = .pointer (some ⟨XB, 0, none⟩) ∧ s18 = .int .i64 err ∧ Hid (StepBox wo.heap.size wx' XB s xA yA tA xc yc tc ∧ Nw wo wx'))
        case first =>
          as_aux_lemma =>
            go_region_held3 (fun W => Nw wo W ∧ W.cell? ⟨SB, 0, none⟩ = some (.slice A' l'.length c') ∧ W.cell? ⟨SB, 1, none⟩ = some (.int .i64 s') ∧ W.cell? ⟨SB, 2, none⟩ = some (.int .i64 d') ∧ W.cell? ⟨b, o + k * 6, none⟩ = some (.int .i64 T) ∧ W.cell? ⟨b, o + k * 6 + 1, none⟩ = some (.int .i64 O) ∧ W.cell? ⟨b, o + k * 6 + 2, none⟩ = some (.int .i64 S) ∧ W.cell? ⟨b, o + k * 6 + 3, none⟩ = some (.int .i64 p) ∧ W.cell? ⟨b, o + k * 6 + 4, none⟩ = some (.int .i64 q) ∧ W.cell? ⟨b, o + k * 6 + 5, none⟩ = some (.int .i64 d)) ((refine HSW.out _ ?_; repeat (first | assumption | exact Nw.refl wo | refine Nw.drew ?_ | refine Nw.alloc ?_ _ | refine Nw.set ?_ (by first | exact Nat.le_refl _ | omega) _))) (first
              | (go_at_call 11; refine (KR.out _ (by first | assumption | exact Nw.refl wo | exact (Nw.refl wo).drew | exact ((Nw.refl wo).alloc _).drew | exact ((Nw.refl wo).drew).alloc _)).mono ?_; rintro e wz ⟨xA, xc, yA, yc, tA, tc, rfl, hst, bz⟩; have iz := Nw.step (by first | assumption | exact Nw.refl wo | exact (Nw.refl wo).drew | exact ((Nw.refl wo).alloc _).drew | exact ((Nw.refl wo).drew).alloc _) bz; try have hbox : Blk wz wo.heap.size 41 stepZ := Blk.below (by first | exact Blk.last _ _ _ rfl | exact (Blk.last wo _ _ rfl).drew) bz (by simp); try obtain ⟨⟨y0, y1, y2, y3, y4⟩, v0, v1, v2, v3, v4⟩ := stepZ_cells hbox))
            · go_wp2_with fail
              go_meet
              exact ⟨_, xA, xc, yA, yc, tA, tc, rfl, rfl, Lib.hid ⟨StepBox.late (hst.mono (Nat.le_refl _)) (Below.size (show Below wo.heap.size wo wz from iz)), iz.alloc _⟩⟩
            · go_wp2_with fail
              go_meet
              exact ⟨_, xA, xc, yA, yc, tA, tc, rfl, rfl, Lib.hid ⟨StepBox.early hst hbox (Nat.le_refl _) (by simp), ((((iz.set (Nat.le_refl _) _).set (Nat.le_refl _) _).set (Nat.le_refl _) _).set (Nat.le_refl _) _).set (Nat.le_refl _) _⟩⟩
        case rest =>
          as_aux_lemma =>
            obtain ⟨XB, xA, xc, yA, yc, tA, tc, rfl, rfl, HX⟩ := hcut
            obtain ⟨wx, hwx⟩ : ∃ wx, wx = wc := ⟨_, rfl⟩
            subst hwx
            have nx := HX.out.2
            have c0 := nx.cell c0
            have c1 := nx.cell c1
            have c2 := nx.cell c2
            have e0 := nx.cell e0
            have e1 := nx.cell e1
            have e2 := nx.cell e2
            have e3 := nx.cell e3
            have e4 := nx.cell e4
            have e5 := nx.cell e5
            have KX := Lib.hid fun W (g : Nw wx W) => KR.out W (nx.step (g.mono (Nat.le_refl _)))
            have HSX := Lib.hid (fun W (hW : Nw wx W) => (⟨hW, hW.cell c0, hW.cell c1, hW.cell c2, hW.cell e0, hW.cell e1, hW.cell e2, hW.cell e3, hW.cell e4, hW.cell e5⟩ : Nw wx W ∧ W.cell? ⟨SB, 0, none⟩ = some (.slice A' l'.length c') ∧ W.cell? ⟨SB, 1, none⟩ = some (.int .i64 s') ∧ W.cell? ⟨SB, 2, none⟩ = some (.int .i64 d') ∧ W.cell? ⟨b, o + k * 6, none⟩ = some (.int .i64 T) ∧ W.cell? ⟨b, o + k * 6 + 1, none⟩ = some (.int .i64 O) ∧ W.cell? ⟨b, o + k * 6 + 2, none⟩ = some (.int .i64 S) ∧ W.cell? ⟨b, o + k * 6 + 3, none⟩ = some (.int .i64 p) ∧ W.cell? ⟨b, o + k * 6 + 4, none⟩ = some (.int .i64 q) ∧ W.cell? ⟨b, o + k * 6 + 5, none⟩ = some (.int .i64 d)))
            have NX := Lib.hid nx
            clear nx KR HSW
            go_upto_region 11 with (fail)
            go_cut [19, 20] (fun s19 s20 wx' => ∃ XB xA xc yA yc tA tc, s19 = .pointer (some ⟨XB, 0, none⟩) ∧ s20 = .int .i64 err ∧ Hid (StepBox wx.heap.size wx' XB s xA yA tA xc yc tc ∧ Nw wx wx'))
            case first =>
              as_aux_lemma =>
                go_region_held3 (fun W => Nw wx W ∧ W.cell? ⟨SB, 0, none⟩ = some (.slice A' l'.length c') ∧ W.cell? ⟨SB, 1, none⟩ = some (.int .i64 s') ∧ W.cell? ⟨SB, 2, none⟩ = some (.int .i64 d') ∧ W.cell? ⟨b, o + k * 6, none⟩ = some (.int .i64 T) ∧ W.cell? ⟨b, o + k * 6 + 1, none⟩ = some (.int .i64 O) ∧ W.cell? ⟨b, o + k * 6 + 2, none⟩ = some (.int .i64 S) ∧ W.cell? ⟨b, o + k * 6 + 3, none⟩ = some (.int .i64 p) ∧ W.cell? ⟨b, o + k * 6 + 4, none⟩ = some (.int .i64 q) ∧ W.cell? ⟨b, o + k * 6 + 5, none⟩ = some (.int .i64 d)) ((refine HSX.out _ ?_; repeat (first | assumption | exact Nw.refl wx | refine Nw.drew ?_ | refine Nw.alloc ?_ _ | refine Nw.set ?_ (by first | exact Nat.le_refl _ | omega) _))) (first
                  | (go_at_call 11; refine (KX.out _ (by first | assumption | exact Nw.refl wx | exact (Nw.refl wx).drew | exact ((Nw.refl wx).alloc _).drew | exact ((Nw.refl wx).drew).alloc _)).mono ?_; rintro e wz ⟨xA, xc, yA, yc, tA, tc, rfl, hst, bz⟩; have iz := Nw.step (by first | assumption | exact Nw.refl wx | exact (Nw.refl wx).drew | exact ((Nw.refl wx).alloc _).drew | exact ((Nw.refl wx).drew).alloc _) bz; try have hbox : Blk wz wx.heap.size 41 stepZ := Blk.below (by first | exact Blk.last _ _ _ rfl | exact (Blk.last wx _ _ rfl).drew) bz (by simp); try obtain ⟨⟨y0, y1, y2, y3, y4⟩, v0, v1, v2, v3, v4⟩ := stepZ_cells hbox))
                · go_wp2_with fail
                  go_meet
                  exact ⟨_, xA, xc, yA, yc, tA, tc, rfl, rfl, Lib.hid ⟨StepBox.late (hst.mono (Nat.le_refl _)) (Below.size (show Below wx.heap.size wx wz from iz)), iz.alloc _⟩⟩
                · go_wp2_with fail
                  go_meet
                  exact ⟨_, xA, xc, yA, yc, tA, tc, rfl, rfl, Lib.hid ⟨StepBox.early hst hbox (Nat.le_refl _) (by simp), ((((iz.set (Nat.le_refl _) _).set (Nat.le_refl _) _).set (Nat.le_refl _) _).set (Nat.le_refl _) _).set (Nat.le_refl _) _⟩⟩
            case rest =>
              as_aux_lemma =>
                obtain ⟨YB, xA2, xc2, yA2, yc2, tA2, tc2, rfl, rfl, HY⟩ := hcut
                obtain ⟨wy, hwy⟩ : ∃ wy, wy = wc := ⟨_, rfl⟩
                subst hwy
                have ny := HY.out.2
                have hx : StepBox wo.heap.size wy XB s xA yA tA xc yc tc := HX.out.1.keep ny
                have hy : StepBox wx.heap.size wy YB s xA2 yA2 tA2 xc2 yc2 tc2 := HY.out.1
                have nn : Nw wo wy := NX.out.step (ny.mono (Nat.le_refl _))
                have x0 : wy.cell? ⟨XB, 0, none⟩ = some (.slice xA s.vars.length xc) := hx.1.cell 0
                have x1 : wy.cell? ⟨XB, 1, none⟩ = some (.int .i64 s.sent) := hx.1.cell 1
                have x2 : wy.cell? ⟨XB, 2, none⟩ = some (.int .i64 s.drawn) := hx.1.cell 2
                have x3 : wy.cell? ⟨XB, 3, none⟩ = some (.slice yA s.sends.length yc) := hx.1.cell 3
                have x4 : wy.cell? ⟨XB, 4, none⟩ = some (.slice tA s.tells.length tc) := hx.1.cell 4
                have y0 : wy.cell? ⟨YB, 0, none⟩ = some (.slice xA2 s.vars.length xc2) := hy.1.cell 0
                have y1 : wy.cell? ⟨YB, 1, none⟩ = some (.int .i64 s.sent) := hy.1.cell 1
                have y2 : wy.cell? ⟨YB, 2, none⟩ = some (.int .i64 s.drawn) := hy.1.cell 2
                have y3 : wy.cell? ⟨YB, 3, none⟩ = some (.slice yA2 s.sends.length yc2) := hy.1.cell 3
                have y4 : wy.cell? ⟨YB, 4, none⟩ = some (.slice tA2 s.tells.length tc2) := hy.1.cell 4
                have hsm : s.vars.length ≤ 4294967295 ∧ s.sends.length ≤ 4 ∧ s.tells.length ≤ 4 := by
                  have h1 := HIN.out
                  have h2 := HAA.out
                  have h3 := runA_small me procs seed (nk ks) T O S p q d l' s' d' h2.2.2.1 ⟨h1.s0, by have := h1.s1; omega⟩ ⟨h1.d0, by have := h1.d1; omega⟩ (by have := h1.len; have := HLV.out; omega)
                  rw [HFIN.out] at h3
                  exact h3
                have KS := Lib.hid (same_yes wy xA xA2 yA yA2 tA tA2 xc xc2 yc yc2 tc tc2 s hx.2.1.1 hy.2.1.1 hx.2.1.2.1 hy.2.1.2.1 hx.2.1.2.2.1 hy.2.1.2.2.1 hx.2.1.2.2.2.1 hx.2.1.2.2.2.2.1 hsm.1 (by omega) (by omega))
                have NN := Lib.hid nn
                have HBX2 := Lib.hid hx
                have HSM := Lib.hid hsm
                have ge : (err != err) = false := by simp
                have CY := Lib.hid (⟨ny.cell c0, ny.cell c1, ny.cell c2, ny.cell e0, ny.cell e1, ny.cell e2, ny.cell e3, ny.cell e4, ny.cell e5⟩ : wy.cell? ⟨SB, 0, none⟩ = some (.slice A' l'.length c') ∧ wy.cell? ⟨SB, 1, none⟩ = some (.int .i64 s') ∧ wy.cell? ⟨SB, 2, none⟩ = some (.int .i64 d') ∧ wy.cell? ⟨b, o + k * 6, none⟩ = some (.int .i64 T) ∧ wy.cell? ⟨b, o + k * 6 + 1, none⟩ = some (.int .i64 O) ∧ wy.cell? ⟨b, o + k * 6 + 2, none⟩ = some (.int .i64 S) ∧ wy.cell? ⟨b, o + k * 6 + 3, none⟩ = some (.int .i64 p) ∧ wy.cell? ⟨b, o + k * 6 + 4, none⟩ = some (.int .i64 q) ∧ wy.cell? ⟨b, o + k * 6 + 5, none⟩ = some (.int .i64 d))
                clear ny hx hy nn hsm c0 c1 c2 e0 e1 e2 e3 e4 e5 KX HSX HX HY
                go_wp2_with fail
                refine KS.out.mono ?_
                rintro e wv ⟨rfl, bv⟩
                have NV := Lib.hid (NN.out.step bv)
                have hx := HBX2.out.keep bv
                have HBV := Lib.hid hx
                obtain ⟨c0, c1, c2, e0, e1, e2, e3, e4, e5⟩ := CY.out
                have c0 := Nw.cell bv c0
                have c1 := Nw.cell bv c1
                have c2 := Nw.cell bv c2
                have e0 := Nw.cell bv e0
                have e1 := Nw.cell bv e1
                have e2 := Nw.cell bv e2
                have e3 := Nw.cell bv e3
                have e4 := Nw.cell bv e4
                have e5 := Nw.cell bv e5
                have x0 := Nw.cell bv x0
                have x1 := Nw.cell bv x1
                have x2 := Nw.cell bv x2
                have x3 := Nw.cell bv x3
                have x4 := Nw.cell bv x4
                clear hx bv KS CY y0 y1 y2 y3 y4
                by_cases he : err = 0
                · subst he
                  have hq := asked HFIN.out HAA.out.2.2.1 ⟨HIN.out.s0, by have := HIN.out.s1; have := HM30.out; omega⟩ ⟨HIN.out.d0, by have := HIN.out.d1; have := HM30.out; omega⟩
                  have HQ := Lib.hid hq
                  clear hq
                  go_wp2_with fail
                  go_loopw [21] (fun i wr2 => ∃ j : Nat, j ≤ s.sends.length ∧ i = .int .i64 j ∧ Hid (Nw wv wr2)) (fun i _ => s.sends.length - (intOf i).toNat)
                  case atStart => exact ⟨0, Nat.zero_le _, rfl, Lib.hid (Nw.refl _)⟩
                  case round =>
                    as_aux_lemma =>
                      obtain ⟨j, hj, rfl, HJ⟩ := hrel
                      obtain ⟨wr2, hwr2⟩ : ∃ wr2, wr2 = wr := ⟨_, rfl⟩
                      subst hwr2
                      have nj := HJ.out
                      have c0 := nj.cell c0
                      have c1 := nj.cell c1
                      have c2 := nj.cell c2
                      have e0 := nj.cell e0
                      have e1 := nj.cell e1
                      have e2 := nj.cell e2
                      have x0 := nj.cell x0
                      have x1 := nj.cell x1
                      have x2 := nj.cell x2
                      have x3 := nj.cell x3
                      have x4 := nj.cell x4
                      by_cases hlt2 : j < s.sends.length
                      · have g3 : (j : Int) < (s.sends.length : Int) := by omega
                        have hn4 := HQ.out.ns
                        obtain ⟨t, dst, kd, dd, hrow, t1, t2, t3, t4⟩ := HQ.out.snd j hlt2
                        obtain ⟨b2, o2, rfl, r0, r1, r2, r3, r4, r5⟩ := row_cells HBV.out.2.1.2.1 HBV.out.2.1.2.2.2.1 hlt2 hrow
                        have r0 := nj.cell r0
                        have r1 := nj.cell r1
                        have r2 := nj.cell r2
                        have r3 := nj.cell r3
                        have r4 := nj.cell r4
                        have r5 := nj.cell r5
                        obtain ⟨wE, hwE⟩ : ∃ wE, wr2.alloc (.cells #[.int .i64 t, .int .i64 me, .int .i64 (s' + (j : Int)), .int .i64 dst, .int .i64 kd, .int .i64 dd] 47) = wE := ⟨_, rfl⟩
                        have nE : Nw wr2 wE := by rw [← hwE]; exact (Nw.refl _).alloc _
                        have hbE : Blk wE wr2.heap.size 47 #[.int .i64 t, .int .i64 me, .int .i64 (s' + (j : Int)), .int .i64 dst, .int .i64 kd, .int .i64 dd] := by rw [← hwE]; exact Blk.last _ _ _ rfl
                        have f0 : wE.cell? ⟨wr2.heap.size, 0, none⟩ = some (.int .i64 t) := hbE.cell 0
                        have f1 : wE.cell? ⟨wr2.heap.size, 1, none⟩ = some (.int .i64 me) := hbE.cell 1
                        have f2 : wE.cell? ⟨wr2.heap.size, 2, none⟩ = some (.int .i64 (s' + (j : Int))) := hbE.cell 2
                        have f3 : wE.cell? ⟨wr2.heap.size, 3, none⟩ = some (.int .i64 dst) := hbE.cell 3
                        have k1 := nE.cell c1
                        have k0 := nE.cell e0
                        have HWE := Lib.hid hwE
                        have HNE := Lib.hid (nj.step nE)
                        have u1 : decide (t ≤ T) = false := decide_eq_false (by omega)
                        have u2 : decide (1099511627776 < t) = false := decide_eq_false (by omega)
                        have u3 : (me != me) = false := by simp
                        have u4 : IntKind.i64.wrap (s' + (j : Int)) = s' + (j : Int) := by
                          have := HIN.out.s0
                          have := HIN.out.s1
                          have := HM30.out
                          exact IntWalk.i64_in _ (by constructor <;> omega)
                        have u5 : (s' + (j : Int) != s' + (j : Int)) = false := by simp
                        have u6 : decide (dst < 1) = false := decide_eq_false (by omega)
                        have u7 : decide (procs < dst) = false := decide_eq_false (by omega)
                        clear hwE nE hbE nj hrow t1 t2 t3 t4 HJ
                        go_upto_region 19 with (fail)
                        rw [HWE.out]
                        clear r0 r1 r2 r3 r4 r5 c0 c1 c2 e0 e1 e2 e3 e4 e5 x0 x1 x2 x3 x4
                        go_quiet (fail)
                        go_wp2_with fail
                        go_roundw
                        case rel => exact ⟨j + 1, by omega, by go_num, Lib.hid (Below.many HNE.out _)⟩
                        case measure => simp [intOf]; omega
                      · have g3 : ¬ (j : Int) < (s.sends.length : Int) := by omega
                        clear nj
                        go_wp2_with fail
                        go_loopw [23] (fun i wr3 => ∃ j : Nat, j ≤ s.tells.length ∧ i = .int .i64 j ∧ Hid (Nw wr2 wr3)) (fun i _ => s.tells.length - (intOf i).toNat)
                        case atStart => exact ⟨0, Nat.zero_le _, rfl, Lib.hid (Nw.refl _)⟩
                        case round =>
                          as_aux_lemma =>
                            obtain ⟨j3, hj3, rfl, HJ3⟩ := hrel
                            obtain ⟨wr3, hwr3⟩ : ∃ wr3, wr3 = wr := ⟨_, rfl⟩
                            subst hwr3
                            have nj := HJ3.out
                            have nv := HJ.out.step nj
                            have c0 := nj.cell c0
                            have c1 := nj.cell c1
                            have c2 := nj.cell c2
                            have e0 := nj.cell e0
                            have e1 := nj.cell e1
                            have e2 := nj.cell e2
                            have x0 := nj.cell x0
                            have x1 := nj.cell x1
                            have x2 := nj.cell x2
                            have x3 := nj.cell x3
                            have x4 := nj.cell x4
                            by_cases hlt3 : j3 < s.tells.length
                            · have g4 : (j3 : Int) < (s.tells.length : Int) := by omega
                              obtain ⟨v, hrow⟩ := HQ.out.tel j3 hlt3
                              have hn5 := HQ.out.nt
                              obtain ⟨b2, o2, rfl, r0, r1, r2, r3, r4, r5⟩ := row_cells HBV.out.2.1.2.2.1 HBV.out.2.1.2.2.2.2.1 hlt3 hrow
                              have r0 := nv.cell r0
                              have r1 := nv.cell r1
                              have r2 := nv.cell r2
                              have r3 := nv.cell r3
                              have r4 := nv.cell r4
                              have r5 := nv.cell r5
                              have u3 : (me != me) = false := by simp
                              have u4 : ((j3 : Int) != (j3 : Int)) = false := by simp
                              clear nj nv hrow
                              go_wp2_with fail
                              go_quiet (fail)
                              go_wp2_with fail
                              go_roundw
                              case rel => exact ⟨j3 + 1, by omega, by go_num, Lib.hid (Below.many HJ3.out _)⟩
                              case measure => simp [intOf]; omega
                            · have g4 : ¬ (j3 : Int) < (s.tells.length : Int) := by omega
                              have hq := HQ.out
                              have q1 : ¬ (4 : Int) < (s.sends.length : Int) := by have := hq.ns; omega
                              have q2 : ¬ (4 : Int) < (s.tells.length : Int) := by have := hq.nt; omega
                              have q3 : (s.sends.length : Int) ≤ 4 := by have := hq.ns; omega
                              have q4 : (0 : Int) ≤ (s.sends.length : Int) := by omega
                              have q5 : 0 ≤ s' := HIN.out.s0
                              have q6 : s' ≤ 1099511627896 := by have := HIN.out.s1; have := HM30.out; omega
                              have nw3 : Nw wo wr3 := NV.out.step nv
                              have hst : stOk vars s.vars.length (s' + (s.sends.length : Int)) s.drawn = true := by
                                have h1 := HIN.out.len
                                have h2 := HIN.out.d0
                                have h3 := hq.drawn
                                have h4 := hq.vars
                                unfold stOk
                                rw [decide_eq_true (show (s.vars.length : Int) = vars by omega), decide_eq_true (show 0 ≤ s' + (s.sends.length : Int) by omega), decide_eq_true (show 0 ≤ s.drawn by omega)]; rfl
                              have km := mayState_any MB vars kB ks.length kd me procs seed wr3 xA s.vars.length xc (s' + (s.sends.length : Int)) s.drawn (HMW.out.keep nw3) (by have := HAA.out; omega)
                              rw [hst] at km
                              have KM := Lib.hid km
                              have N3 := Lib.hid nw3
                              rw [hq.sent] at x1
                              have hbS := HIN.out.box.below nw3 HIN.out.box.lt
                              have HBS := Lib.hid hbS
                              have HNV := Lib.hid nv
                              clear hq nj nv nw3 hst km hbS
                              go_wp2_with fail
                              refine KM.out.mono ?_
                              rintro e wm ⟨rfl, bm⟩
                              have c0 := Nw.cell bm c0
                              have c1 := Nw.cell bm c1
                              have c2 := Nw.cell bm c2
                              have x0 := Nw.cell bm x0
                              have x1 := Nw.cell bm x1
                              have x2 := Nw.cell bm x2
                              have hbm := HBS.out.below bm HBS.out.lt
                              have z0 := hbm.frozen 0
                              have z1 := hbm.frozen 1
                              have z2 := hbm.frozen 2
                              have NM := Lib.hid (N3.out.step bm)
                              have NVM := Lib.hid ((HNV.out).step bm)
                              clear bm hbm
                              go_wp2_with fail
                              go_roundw
                              case rel =>
                                have hq := HQ.out
                                have hx := HBV.out.keep NVM.out
                                have hset := (HIN.out.new NM.out (Nat.le_refl _)).set (by have := HMB.out.2.1; have := Below.size HMB.out.2.2; omega) (s := s) (vA := xA) (vc := xc) (base := wo.heap.size) HIN.out.box.lt hx.2.1.1 hx.2.1.2.2.2.2.2.1 hq.vars hq.sent hq.ns hq.drawn
                                rw [hq.sent] at hset
                                exact ⟨k + 1, by omega, by go_num, Lib.hid ⟨xA, s.vars, xc, _, _, hset⟩⟩
                              case measure => simp [intOf]; omega
                · have he2 : (err != 0) = true := bne_iff_ne.2 he
                  have he3 : (err == 0) = false := beq_eq_false_iff_ne.2 he
                  go_wp2_with fail
                  go_roundw
                  case rel => exact ⟨k + 1, by omega, by go_num, Lib.hid ⟨A', l', c', s', d', HIN.out.new NV.out (by omega)⟩⟩
                  case measure => simp [intOf]; omega
      · have g1 : ¬ (k : Int) < (m : Int) := by omega
        obtain ⟨A', l', c', s', d', hI⟩ := HI.out
        have hb : Below w.heap.size w wo := Below.trans (show Below w.heap.size w w5 from N1.out.step N5.out) (hI.chg.below (fun i hi e => by have := HSZ.out; omega) (Below.size (show Below w.heap.size w w5 from N1.out.step N5.out)))
        have HB := Lib.hid hb
        have HKN := Lib.hid (known_any wo)
        clear hI hb HI
        go_wp2_with fail
        refine HKN.out.mono ?_
        rintro e wz ⟨rfl, bz⟩
        have BZ := Lib.hid bz
        clear bz
        go_wp2_with fail
        go_ret
        exact ⟨rfl, Nw.step HB.out BZ.out⟩
end
end Go.Proofs.Ytpbapemgonidbaa
