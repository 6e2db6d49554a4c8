/- An act upon both. Helper. -/
import Derived.Test.YtgijkgngldfdiaaSqF
import Derived.Test.YtgijkgngldfdiaaSqJ
import Derived.Test.YtgijkgngldfdiaaVmSame
namespace Go.Proofs.Ytgijkgngldfdiaa
open Go.RowKit
set_option linter.unusedVariables false
set_option linter.unusedSimpArgs false
/-- Both, and what others turn (X). -/
structure Both (X : Nat → Prop) (w0 w : World) (p : PMem) (r : RMem) (m : Mdl) (s : Sq) (ws : List Ev) (s' : Sq) : Prop where
  P : PSeq w p m s ws
  R : RSeq w r m s'
  pU : p.U = fun g => r.T g ∨ X g
  rU : r.U = fun g => p.T g ∨ X g
  nw : Nw w0 w
  lowP : ∀ g, p.T g → w0.heap.size ≤ g
  lowR : ∀ g, r.T g → w0.heap.size ≤ g
  lowX : ∀ g, X g → w0.heap.size ≤ g
variable {X : Nat → Prop} {w0 w w' : World} {p : PMem} {r : RMem} {m : Mdl} {s s' : Sq} {ws : List Ev}
theorem Both.new (h : Both X w0 w p r m s ws s') (hN : Nw w w') : Both X w0 w' p r m s ws s' :=
  ⟨h.P.new hN, h.R.new hN, h.pU, h.rU, h.nw.step hN, h.lowP, h.lowR, h.lowX⟩
theorem Both.ltX (h : Both X w0 w p r m s ws s') : ∀ g, X g → g < w.heap.size := fun g q => h.P.low g (by rw [h.pU]; exact .inr q)
theorem Both.offX (h : Both X w0 w p r m s ws s') : ∀ g, X g → ¬ p.T g ∧ ¬ r.T g := fun g q => ⟨fun e => h.P.dis g e (by rw [h.pU]; exact .inr q), fun e => h.R.dis g e (by rw [h.rU]; exact .inr q)⟩
/-- The program's has acted. -/
theorem Both.ours (h : Both X w0 w p r m s ws s') {p' : PMem} {s1 : Sq} {ws1 : List Ev} (hP : PSeq w' p' m s1 ws1) (hU : p'.U = p.U) (hc : Chg p.T w w') (hT : ∀ g, p'.T g → p.T g ∨ w.heap.size ≤ g) :
    Both X w0 w' p' { r with U := fun g => p'.T g ∨ X g } m s1 ws1 s' := by
  refine ⟨hP, h.R.frame hc (fun g q => by rw [h.rU]; exact .inl q) (fun g => p'.T g ∨ X g) (fun g q => ?_) (fun g q => q.elim (hP.lt g) fun q => Nat.lt_of_lt_of_le (h.ltX g q) hc.size), ?_, rfl, Below.trans h.nw (hc.below (fun i _ q => h.lowP i q) h.nw.size), fun g q => (hT g q).elim (h.lowP g) fun q => Nat.le_trans h.nw.size q, h.lowR, h.lowX⟩
  · rw [h.rU]
    rcases q with q | q
    · exact (hT g q).imp .inl id
    · exact .inl (.inr q)
  · rw [hU, h.pU]; rfl
/-- The document's has acted. -/
theorem Both.refs (h : Both X w0 w p r m s ws s') {r' : RMem} {s1 : Sq} (hR : RSeq w' r' m s1) (hU : r'.U = r.U) (hc : Chg r.T w w') (hT : ∀ g, r'.T g → r.T g ∨ w.heap.size ≤ g) :
    Both X w0 w' { p with U := fun g => r'.T g ∨ X g } r' m s ws s1 := by
  refine ⟨h.P.frame hc (fun g q => by rw [h.pU]; exact .inl q) (fun g => r'.T g ∨ X g) (fun g q => ?_) (fun g q => q.elim (hR.lt g) fun q => Nat.lt_of_lt_of_le (h.ltX g q) hc.size), hR, rfl, ?_, Below.trans h.nw (hc.below (fun i _ q => h.lowR i q) h.nw.size), h.lowP, fun g q => (hT g q).elim (h.lowR g) fun q => Nat.le_trans h.nw.size q, h.lowX⟩
  · rw [h.pU]
    rcases q with q | q
    · exact (hT g q).imp .inl id
    · exact .inl (.inr q)
  · rw [hU, h.rU]; rfl
/-- Others have acted. -/
theorem Both.others (h : Both X w0 w p r m s ws s') (hc : Chg X w w') : Both X w0 w' p r m s ws s' := by
  have hp := h.P.frame hc (fun g q => by rw [h.pU]; exact .inr q) p.U (fun g q => .inl q) fun g q => Nat.lt_of_lt_of_le (h.P.low g q) hc.size
  have hr := h.R.frame hc (fun g q => by rw [h.rU]; exact .inr q) r.U (fun g q => .inl q) fun g q => Nat.lt_of_lt_of_le (h.R.low g q) hc.size
  exact ⟨hp, hr, h.pU, h.rU, Below.trans h.nw (hc.below (fun i _ q => h.lowX i q) h.nw.size), h.lowP, h.lowR, h.lowX⟩
/-- Others come in. -/
theorem Both.join (h : Both (fun _ => False) w0 w p r m s ws s') (hN : Nw w w') (X : Nat → Prop) (hX : ∀ g, X g → w.heap.size ≤ g) (hl : ∀ g, X g → g < w'.heap.size) :
    Both X w0 w' { p with U := fun g => r.T g ∨ X g } { r with U := fun g => p.T g ∨ X g } m s ws s' := by
  refine ⟨h.P.frame (M := fun _ => False) (Chg.of_below hN (Nat.le_refl _) _) (fun g q => q.elim) _ (fun g q => ?_) (fun g q => q.elim (fun q => Nat.lt_of_lt_of_le (h.R.lt g q) hN.size) (hl g)),
    h.R.frame (M := fun _ => False) (Chg.of_below hN (Nat.le_refl _) _) (fun g q => q.elim) _ (fun g q => ?_) (fun g q => q.elim (fun q => Nat.lt_of_lt_of_le (h.P.lt g q) hN.size) (hl g)), rfl, rfl, h.nw.step hN, h.lowP, h.lowR, fun g q => Nat.le_trans h.nw.size (hX g q)⟩
  · rw [h.pU]
    rcases q with q | q
    · exact .inl (.inl q)
    · exact .inr (hX g q)
  · rw [h.rU]
    rcases q with q | q
    · exact .inl (.inl q)
    · exact .inr (hX g q)
/-- Both begin. -/
theorem Both.begin {w1 : World} {p : PMem} {r : RMem} {m : Mdl} {ws : List Ev} (hP : PSeq w p m m.start ws) (n0 : Nw w0 w) (lP : ∀ g, p.T g → w0.heap.size ≤ g)
    (hR : RSeq w1 r m m.start) (n1 : Nw w w1) (lR : ∀ g, r.T g → w.heap.size ≤ g) (rU : r.U = p.T) : Both (fun _ => False) w0 w1 { p with U := fun g => r.T g ∨ False } r m m.start ws m.start :=
  ⟨hP.frame (M := fun _ => False) (Chg.of_below n1 (Nat.le_refl _) _) (fun g q => q.elim) _ (fun g q => q.elim (fun q => .inr (lR g q)) fun q => q.elim) (fun g q => q.elim (hR.lt g) fun q => q.elim), hR, rfl, by rw [rU]; funext g; exact propext ⟨.inl, fun q => q.elim id fun q => q.elim⟩, n0.step n1, lP, fun g q => Nat.le_trans n0.size (lR g q), fun g q => q.elim⟩
end Go.Proofs.Ytgijkgngldfdiaa
/- An act upon both. Helper. -/
namespace Go.Proofs.Ytgijkgngldfdiaa
open Go.RowKit
set_option linter.unusedVariables false
set_option linter.unusedSimpArgs false
/-- What neither has stays as it is, and neither gets it. -/
def Kept (w : World) (p : PMem) (r : RMem) (w' : World) (p' : PMem) (r' : RMem) : Prop := w.heap.size ≤ w'.heap.size ∧ ∀ g, g < w.heap.size → ¬ p.T g → ¬ r.T g → w'.heap[g]? = w.heap[g]? ∧ ¬ p'.T g ∧ ¬ r'.T g
theorem Kept.new {w w' : World} (p : PMem) (r : RMem) (hN : Nw w w') (U : Nat → Prop) : Kept w p r w' p { r with U := U } := ⟨hN.size, fun g hg h1 h2 => ⟨hN.block g hg, h1, h2⟩⟩
theorem Kept.ours {w w' : World} {p p' : PMem} (r : RMem) (hc : Chg p.T w w') (hT : ∀ g, p'.T g → p.T g ∨ w.heap.size ≤ g) (U : Nat → Prop) : Kept w p r w' p' { r with U := U } :=
  ⟨hc.size, fun g hg h1 h2 => ⟨hc.block g hg h1, fun q => (hT g q).elim h1 fun q => by omega, h2⟩⟩
theorem Kept.refs {w w' : World} (p : PMem) {r r' : RMem} (hc : Chg r.T w w') (hT : ∀ g, r'.T g → r.T g ∨ w.heap.size ≤ g) (U : Nat → Prop) : Kept w p r w' { p with U := U } r' :=
  ⟨hc.size, fun g hg h1 h2 => ⟨hc.block g hg h2, h1, fun q => (hT g q).elim h2 fun q => by omega⟩⟩
theorem Kept.trans {a b c : World} {p1 p2 p3 : PMem} {r1 r2 r3 : RMem} (h : Kept a p1 r1 b p2 r2) (k : Kept b p2 r2 c p3 r3) : Kept a p1 r1 c p3 r3 :=
  ⟨Nat.le_trans h.1 k.1, fun g hg h1 h2 => by
    obtain ⟨q1, q2, q3⟩ := h.2 g hg h1 h2
    obtain ⟨q4, q5, q6⟩ := k.2 g (Nat.lt_of_lt_of_le hg h.1) q2 q3
    exact ⟨q4.trans q1, q5, q6⟩⟩
/-- What an act does. -/
def DoOut (X : Nat → Prop) (w0 w : World) (m : Mdl) (s : Sq) (ws : List Ev) (p : PMem) (r : RMem) (kind : Int) (e : Ev) (x : Ending) (w' : World) : Prop :=
  x = .returned (.bool true) ∧ ∃ p' r' s1 ws1, Both X w0 w' p' r' m s1 ws1 s1 ∧ p'.SB = p.SB ∧ r'.RB = r.RB ∧ (r'.pA = r.pA ∧ r'.pc = r.pc) ∧ Kept w p r w' p' r' ∧
    s1.w.length ≤ s.w.length + 4 ∧ s1.put.length ≤ s.put.length + 1 ∧ ((s1.done = s.done ∧ s1.last = s.last) ∨ (s1.done = s.done + 1 ∧ ∃ y t, ws = y :: t ∧ s1.last = y.k ∧ s.last.less y.k = true))
section
set_option maxRecDepth 100000
set_option maxHeartbeats 1600000
theorem refStepNo_any {w : World} {r : RMem} {m : Mdl} {s : Sq} (h : RSeq w r m s) (hz : s.w = []) :
    Calls Try.prog 38 #[.pointer (some ⟨r.RB, 0, none⟩)] w (fun x w' => x = .returned (.tuple #[ev6 evZ, .slice none 0 0, .int .i64 6]) ∧ Nw w w') := by
  obtain ⟨w1, hw1⟩ : ∃ w1, w.alloc (.cells #[.int .i64 0, .int .i64 0, .int .i64 0, .int .i64 0, .int .i64 0, .int .i64 0] 44) = w1 := ⟨_, rfl⟩
  have n1 : Nw w w1 := by rw [← hw1]; exact (Nw.refl w).alloc _
  obtain ⟨OB, hOB⟩ : ∃ OB, w.heap.size = OB := ⟨_, rfl⟩
  have hbO : Blk w1 OB 44 #[.int .i64 0, .int .i64 0, .int .i64 0, .int .i64 0, .int .i64 0, .int .i64 0] := by rw [← hw1]; exact Blk.last w _ _ hOB
  have HW1 := Lib.hid hw1
  have HOB := Lib.hid hOB
  have HBO := Lib.hid hbO
  have N1 := Lib.hid n1
  have K1 := Lib.hid (refLeast_any r m s w1 (h.new n1))
  clear h hw1 hOB hbO n1
  go_enter Try.func38, Try.ntmps38
  go_upto_region 1 with (fail)
  rw [HW1.out, HOB.out]
  go_wp2_with fail
  refine K1.out.mono ?_
  rintro x w2 ⟨n12, ⟨_, rfl⟩ | ⟨j, hj, _⟩⟩
  · have hb2 := HBO.out.below n12 HBO.out.lt
    have o0 : w2.cell? ⟨OB, 0, none⟩ = some (.int .i64 0) := hb2.cell 0
    have o1 : w2.cell? ⟨OB, 1, none⟩ = some (.int .i64 0) := hb2.cell 1
    have o2 : w2.cell? ⟨OB, 2, none⟩ = some (.int .i64 0) := hb2.cell 2
    have o3 : w2.cell? ⟨OB, 3, none⟩ = some (.int .i64 0) := hb2.cell 3
    have o4 : w2.cell? ⟨OB, 4, none⟩ = some (.int .i64 0) := hb2.cell 4
    have o5 : w2.cell? ⟨OB, 5, none⟩ = some (.int .i64 0) := hb2.cell 5
    obtain ⟨z0, z1, z2, z3, z4, z5⟩ := frz6 hb2
    have N2 := Lib.hid (N1.out.step n12)
    clear n12 hb2
    go_wp2_with fail
    refine bodyPost_ret (v := .tuple #[.agg #[.int .i64 0, .int .i64 0, .int .i64 0, .int .i64 0, .int .i64 0, .int .i64 0], .slice none 0 0, .int .i64 6]) (by simp [results, Try.results38, go_sem, o0, o1, o2, o3, o4, o5]) rfl ?_
    have hx : w.heap.size ≤ OB := Nat.le_of_eq HOB.out
    exact ⟨rfl, (((((N2.out.set (p := ⟨OB, 0, none⟩) hx _).set (p := ⟨OB, 1, none⟩) hx _).set (p := ⟨OB, 2, none⟩) hx _).set (p := ⟨OB, 3, none⟩) hx _).set (p := ⟨OB, 4, none⟩) hx _).set (p := ⟨OB, 5, none⟩) hx _⟩
  · rw [hz] at hj; simp at hj
variable (X : Nat → Prop) (p : PMem) (r : RMem) (m : Mdl) (s : Sq) (ws : List Ev) (fA : Option Addr) (w0 w : World)
set_option maxRecDepth 100000
set_option maxHeartbeats 6400000
theorem do_any (h : Both X w0 w p r m s ws s) (hM : MAt w0 m r.pA fA) (kind : Int) (e : Ev) (he : (Lit.int .i64 e.k.S).wf = true) (hd : s.done ≤ 900) (hw9 : s.w.length ≤ 8000) (hp9 : s.put.length ≤ 8000) :
    Calls Try.prog 13 #[.pointer (some ⟨p.SB, 0, none⟩), .pointer (some ⟨r.RB, 0, none⟩), .agg #[.int .i64 kind, .int .i64 e.k.T, .int .i64 e.k.O, .int .i64 e.k.S, .int .i64 e.p, .int .i64 e.q, .int .i64 e.d]] w
      (DoOut X w0 w m s ws p r kind e) := by
  obtain ⟨w1, hw1⟩ : ∃ w1, w.alloc (.cells #[.int .i64 kind, .int .i64 e.k.T, .int .i64 e.k.O, .int .i64 e.k.S, .int .i64 e.p, .int .i64 e.q, .int .i64 e.d] 49) = w1 := ⟨_, rfl⟩
  have n1 : Nw w w1 := by rw [← hw1]; exact (Nw.refl w).alloc _
  obtain ⟨XB, hXB⟩ : ∃ XB, w.heap.size = XB := ⟨_, rfl⟩
  have hb : Blk w1 XB 49 #[.int .i64 kind, .int .i64 e.k.T, .int .i64 e.k.O, .int .i64 e.k.S, .int .i64 e.p, .int .i64 e.q, .int .i64 e.d] := by rw [← hw1]; exact Blk.last w _ _ hXB
  have x0 : w1.cell? ⟨XB, 0, none⟩ = some (.int .i64 kind) := hb.cell 0
  have hpx : ∀ g, p.T g → g ≠ XB := fun g q e => by have := h.P.lt g q; omega
  have hrx : ∀ g, r.T g → g ≠ XB := fun g q e => by have := h.R.lt g q; omega
  have HB1 := Lib.hid (h.new n1)
  have HB0 := Lib.hid h
  have HX := Lib.hid hb
  have HPX := Lib.hid hpx
  have HRX := Lib.hid hrx
  have HW1 := Lib.hid hw1
  have HXB := Lib.hid hXB
  have N1 := Lib.hid n1
  have HM := Lib.hid hM
  have HWF := Lib.hid he
  have HD := Lib.hid hd
  have HW9 := Lib.hid hw9
  have HP9 := Lib.hid hp9
  clear h hM hw1 n1 hXB hb hpx hrx he hd hw9 hp9
  by_cases h1 : kind = 1
  · subst h1
    go_enter Try.func13, Try.ntmps13
    go_upto_region 1 with (fail)
    rw [HW1.out, HXB.out]
    go_upto_region 3 with (fail)
    have HS : Hid (∀ W : World, (∀ g, g = XB → W.heap[g]? = w1.heap[g]?) → W.cell? ⟨XB, 1, none⟩ = some (.int .i64 e.k.T) ∧ W.cell? ⟨XB, 2, none⟩ = some (.int .i64 e.k.O) ∧ W.cell? ⟨XB, 3, none⟩ = some (.int .i64 e.k.S) ∧ W.cell? ⟨XB, 4, none⟩ = some (.int .i64 e.p) ∧ W.cell? ⟨XB, 5, none⟩ = some (.int .i64 e.q) ∧ W.cell? ⟨XB, 6, none⟩ = some (.int .i64 e.d)) := Lib.hid fun W hW => by
      have hb : Blk W XB 49 #[.int .i64 1, .int .i64 e.k.T, .int .i64 e.k.O, .int .i64 e.k.S, .int .i64 e.p, .int .i64 e.q, .int .i64 e.d] := (hW XB rfl).trans HX.out
      exact ⟨hb.cell 1, hb.cell 2, hb.cell 3, hb.cell 4, hb.cell 5, hb.cell 6⟩
    clear x0
    refine wp_region_F (fun W => W.cell? ⟨XB, 1, none⟩ = some (.int .i64 e.k.T) ∧ W.cell? ⟨XB, 2, none⟩ = some (.int .i64 e.k.O) ∧ W.cell? ⟨XB, 3, none⟩ = some (.int .i64 e.k.S) ∧ W.cell? ⟨XB, 4, none⟩ = some (.int .i64 e.p) ∧ W.cell? ⟨XB, 5, none⟩ = some (.int .i64 e.q) ∧ W.cell? ⟨XB, 6, none⟩ = some (.int .i64 e.d)) [9] (by kernel_rfl) ?_
    have hS := HS.out w1.drew (fun g q => rfl)
    refine wpAnyF_takeT (i := 0) (v := ?_) rfl (by kernel_rfl) (by kernel_rfl) (by kernel_rfl) (by kernel_rfl) (by kernel_rfl) (by kernel_rfl) (fun _ _ _ h => h) (by rfl) ?_ hS ?_
    rotate_left
    · intro u hu
      try dsimp only at hu
      go_simp
      try with_reducible rfl
    try simp only [List.getElem_toArray, List.getElem_cons_succ, List.getElem_cons_zero, Act.put, List.setIfInBounds_toArray, List.set_cons_zero, List.set_cons_succ]
    refine wpAnyF_takeT (i := 1) (v := ?_) rfl (by kernel_rfl) (by kernel_rfl) (by kernel_rfl) (by kernel_rfl) (by kernel_rfl) (by kernel_rfl) (fun _ _ _ h => h) (by rfl) ?_ hS ?_
    rotate_left
    · intro u hu
      try dsimp only at hu
      go_simp
      try with_reducible rfl
    try simp only [List.getElem_toArray, List.getElem_cons_succ, List.getElem_cons_zero, Act.put, List.setIfInBounds_toArray, List.set_cons_zero, List.set_cons_succ]
    refine wpAnyF_takeT (i := 2) (v := ?_) rfl (by kernel_rfl) (by kernel_rfl) (by kernel_rfl) (by kernel_rfl) (by kernel_rfl) (by kernel_rfl) (fun _ _ _ h => h) (by rfl) ?_ hS ?_
    rotate_left
    · intro u hu
      try dsimp only at hu
      go_simp
      try with_reducible rfl
    try simp only [List.getElem_toArray, List.getElem_cons_succ, List.getElem_cons_zero, Act.put, List.setIfInBounds_toArray, List.set_cons_zero, List.set_cons_succ]
    refine wpAnyF_takeT (i := 4) (v := ?_) rfl (by kernel_rfl) (by kernel_rfl) (by kernel_rfl) (by kernel_rfl) (by kernel_rfl) (by kernel_rfl) (fun _ _ _ h => h) (by rfl) ?_ hS ?_
    rotate_left
    · intro u hu
      try dsimp only at hu
      go_simp
      try with_reducible rfl
    try simp only [List.getElem_toArray, List.getElem_cons_succ, List.getElem_cons_zero, Act.put, List.setIfInBounds_toArray, List.set_cons_zero, List.set_cons_succ]
    refine wpAnyF_takeT (i := 5) (v := ?_) rfl (by kernel_rfl) (by kernel_rfl) (by kernel_rfl) (by kernel_rfl) (by kernel_rfl) (by kernel_rfl) (fun _ _ _ h => h) (by rfl) ?_ hS ?_
    rotate_left
    · intro u hu
      try dsimp only at hu
      go_simp
      try with_reducible rfl
    try simp only [List.getElem_toArray, List.getElem_cons_succ, List.getElem_cons_zero, Act.put, List.setIfInBounds_toArray, List.set_cons_zero, List.set_cons_succ]
    refine wpAnyF_takeT (i := 6) (v := ?_) rfl (by kernel_rfl) (by kernel_rfl) (by kernel_rfl) (by kernel_rfl) (by kernel_rfl) (by kernel_rfl) (fun _ _ _ h => h) (by rfl) ?_ hS ?_
    rotate_left
    · intro u hu
      try dsimp only at hu
      go_simp
      try with_reducible rfl
    try simp only [List.getElem_toArray, List.getElem_cons_succ, List.getElem_cons_zero, Act.put, List.setIfInBounds_toArray, List.set_cons_zero, List.set_cons_succ]
    refine wpAnyF_step (i := 3) (by kernel_rfl) rfl (by rfl) fun K hK => ?_
    go_simp
    go_at_call 15
    refine (put_any p m s ws e w1.drew (HB1.out.new (Nw.refl w1).drew).P HWF.out (by have := HW9.out; omega) (by have := HP9.out; omega)).mono ?_
    rintro x w2 ⟨rfl, p', ws', hps, e1, e2, hch, hT⟩
    have hB2 := (HB1.out.new (Nw.refl w1).drew).ours hps e2 hch hT
    have hx2 : w2.heap[XB]? = w1.heap[XB]? := hch.block XB HX.out.lt (fun q => HPX.out XB q rfl)
    have HB2 := Lib.hid hB2
    have HK2 := Lib.hid (Kept.ours r hch hT (fun g => p'.T g ∨ X g))
    have HX2 := Lib.hid hx2
    have HE1 := Lib.hid e1
    clear hps hch hT hB2 hx2 e1 e2
    have hS := HS.out w2 (fun g q => by rw [q]; exact HX2.out)
    refine hK _ _ (.inr (HS.out w2 (fun g q => by rw [q]; exact HX2.out))) ?_
    clear hK K
    try simp only [List.getElem_toArray, List.getElem_cons_succ, List.getElem_cons_zero, Act.put, List.setIfInBounds_toArray, List.set_cons_zero, List.set_cons_succ]
    refine wpAnyF_step (i := 7) (by kernel_rfl) rfl (by rfl) fun K hK => ?_
    go_simp
    go_at_call 16
    refine (refIn_any { r with U := fun g => p'.T g ∨ X g } m s e w2 HB2.out.R (by have := HW9.out; omega) (by have := HP9.out; omega)).mono ?_
    rintro x w3 ⟨rfl, r', hrs, e3, e4, e5, hch, hT⟩
    have hB3 := HB2.out.refs hrs e5 hch hT
    have hx3 : w3.heap[XB]? = w1.heap[XB]? := (hch.block XB (show Blk w2 XB 49 _ from HX2.out.trans HX.out).lt (fun q => HRX.out XB q rfl)).trans HX2.out
    have HB3 := Lib.hid hB3
    have HK3 := Lib.hid (Kept.refs p' hch hT (fun g => r'.T g ∨ X g))
    have HX3 := Lib.hid hx3
    have HE3 := Lib.hid e3
    have HE4 := Lib.hid e4
    clear hrs hch hT hB3 hx3 e3 e4 e5
    have hS := HS.out w3 (fun g q => by rw [q]; exact HX3.out)
    refine hK _ _ (.inr (HS.out w3 (fun g q => by rw [q]; exact HX3.out))) ?_
    clear hK K
    try simp only [List.getElem_toArray, List.getElem_cons_succ, List.getElem_cons_zero, Act.put, List.setIfInBounds_toArray, List.set_cons_zero, List.set_cons_succ]
    refine wpAnyF_step (i := 8) (by kernel_rfl) rfl (by rfl) fun K hK => ?_
    go_simp
    refine hK _ _ (.inr hS) ?_
    clear hK K
    try simp only [List.getElem_toArray, List.getElem_cons_succ, List.getElem_cons_zero, Act.put, List.setIfInBounds_toArray, List.set_cons_zero, List.set_cons_succ]
    refine wpAnyF_step (i := 9) (by kernel_rfl) rfl (by rfl) fun K hK => ?_
    go_simp
    refine hK _ _ (.inl (by kernel_rfl)) ?_
    clear hK K
    try simp only [List.getElem_toArray, List.getElem_cons_succ, List.getElem_cons_zero, Act.put, List.setIfInBounds_toArray, List.set_cons_zero, List.set_cons_succ]
    refine wpAnyF_done (by kernel_rfl) ?_ _
    go_wp2_with fail
    go_ret
    refine ⟨rfl, _, r', _, ws', HB3.out, HE1.out, HE3.out, HE4.out, ((Kept.new p r (N1.out.step (Nw.refl w1).drew) r.U).trans HK2.out).trans HK3.out, ?_, ?_, .inl ?_⟩
    · split
      · show (s.w ++ [e]).length ≤ _; simp
      · omega
    · split
      · show (s.put ++ [e.k.S]).length ≤ _; simp
      · omega
    · split
      · exact ⟨rfl, rfl⟩
      · exact ⟨rfl, rfl⟩
  · by_cases h2 : kind = 2
    · subst h2
      obtain ⟨ey, heq⟩ : ∃ ey : Ev, ey = ws.headD evZ := ⟨_, rfl⟩
      have key : Calls Try.prog 17 #[.pointer (some ⟨p.SB, 0, none⟩)] w1 (fun x w2 => ∃ p' s1 ws1 nt tA tc er, x = .returned (.tuple #[ev6 ey, .slice tA nt tc, .int .i64 er]) ∧ Both X w0 w2 p' { r with U := fun g => p'.T g ∨ X g } m s1 ws1 s ∧ Kept w1 p r w2 p' { r with U := fun g => p'.T g ∨ X g } ∧ p'.SB = p.SB ∧
          ((ws = [] ∧ s1 = s ∧ nt = 0 ∧ tA = none ∧ tc = 0 ∧ er = 6) ∨ ∃ y t j0, ∃ hj0 : j0 < s.w.length, ws = y :: t ∧ s.w[j0] = y ∧ s1 = m.after s y (s.w.eraseIdx j0) ∧ nt = (m.run s y).1.tells.length ∧ er = 0 ∧ Rd w2 tA (ints (m.run s y).1.tells.flatten) ∧ (m.run s y).1.tells.flatten.length = (m.run s y).1.tells.length * 6 ∧ ∀ b o, tA = some ⟨b, o, none⟩ → w1.heap.size ≤ b ∨ (m.run s y).1.tells = [])) := by
        have hP := HB1.out.P
        cases hws : ws with
        | nil =>
          rw [hws] at hP
          refine (seqStepNo_any p m s w1 hP).mono ?_
          rintro x w2 ⟨rfl, n12⟩
          have hb := HB1.out.new n12
          rw [hws] at hb
          refine ⟨p, s, [], 0, none, 0, 6, by rw [heq, hws]; rfl, ?_, Kept.new p r n12 _, rfl, .inl ⟨rfl, rfl, rfl, rfl, rfl, rfl⟩⟩
          exact hb.ours hb.P rfl (Chg.refl _ _) (fun g q => .inl q)
        | cons y t =>
          rw [hws] at hP
          have hy : y ∈ s.w := hP.twin.perm.subset List.mem_cons_self
          obtain ⟨j0, hj0, hjy⟩ := List.getElem_of_mem hy
          have hpr : s.w.Perm (y :: s.w.eraseIdx j0) := by have := perm_erase s.w j0 hj0; rw [hjy] at this; exact this
          refine (seqStep_any p m s y t (s.w.eraseIdx j0) w1 hP hpr HD.out (by have := HW9.out; omega)).mono ?_
          rintro x w2 ⟨p', tA, tc, rfl, hps, e1, e2, hch, hT, hrd, hlen, hat⟩
          have hb := HB1.out
          rw [hws] at hb
          refine ⟨p', _, _, _, tA, tc, 0, by rw [heq, hws]; rfl, hb.ours hps e2 hch hT, Kept.ours r hch hT _, e1, .inr ⟨y, t, j0, hj0, rfl, hjy, rfl, rfl, rfl, hrd, hlen, hat⟩⟩
      have KEY := Lib.hid key
      clear key
      go_enter Try.func13, Try.ntmps13
      go_upto_region 1 with (fail)
      rw [HW1.out, HXB.out]
      go_wp2_with fail
      refine KEY.out.mono ?_
      rintro x w2 ⟨p', s1, ws1, nt, tA, tc, er, rfl, hB2, hk2, e1, hcase⟩
      unfold ev6
      obtain ⟨EB, hEB⟩ : ∃ EB, w2.heap.size = EB := ⟨_, rfl⟩
      obtain ⟨w3, hw3⟩ : ∃ w3, w2.alloc (.cells #[.int .i64 ey.k.T, .int .i64 ey.k.O, .int .i64 ey.k.S, .int .i64 ey.p, .int .i64 ey.q, .int .i64 ey.d] 44) = w3 := ⟨_, rfl⟩
      have hbE : Blk w3 EB 44 #[.int .i64 ey.k.T, .int .i64 ey.k.O, .int .i64 ey.k.S, .int .i64 ey.p, .int .i64 ey.q, .int .i64 ey.d] := by rw [← hw3]; exact Blk.last w2 _ _ hEB
      have n23 : Nw w2 w3 := by rw [← hw3]; exact (Nw.refl w2).alloc _
      have hB3 := hB2.new n23
      have hk3 := hk2.trans (Kept.new p' { r with U := fun g => p'.T g ∨ X g } n23 (fun g => p'.T g ∨ X g))
      have HK3 := Lib.hid hk3
      have hlo2 : ∀ g, r.T g → g < w1.heap.size := HB1.out.R.lt
      have hlo3 : ∀ g, r.T g → g < w2.heap.size := hB2.R.lt
      have key2 : Calls Try.prog 38 #[.pointer (some ⟨r.RB, 0, none⟩)] w3 (fun x w4 => ∃ p'' r' uA uc, x = .returned (.tuple #[ev6 ey, .slice uA nt uc, .int .i64 er]) ∧ Both X w0 w4 p'' r' m s1 ws1 s1 ∧ Kept w3 p' { r with U := fun g => p'.T g ∨ X g } w4 p'' r' ∧ p''.SB = p.SB ∧ r'.RB = r.RB ∧ (r'.pA = r.pA ∧ r'.pc = r.pc) ∧ Blk w4 EB 44 #[.int .i64 ey.k.T, .int .i64 ey.k.O, .int .i64 ey.k.S, .int .i64 ey.p, .int .i64 ey.q, .int .i64 ey.d] ∧
          (∃ L : List Int, L.length = nt * 6 ∧ nt ≤ 4 ∧ Rd w4 tA (ints L) ∧ Rd w4 uA (ints L)) ∧
          s1.w.length ≤ s.w.length + 4 ∧ s1.put.length ≤ s.put.length + 1 ∧ ((s1.done = s.done ∧ s1.last = s.last) ∨ (s1.done = s.done + 1 ∧ ∃ y t, ws = y :: t ∧ s1.last = y.k ∧ s.last.less y.k = true))) := by
        have hEBr : ¬ r.T EB := fun q => by have := hlo3 EB q; omega
        rcases hcase with ⟨h1, rfl, rfl, rfl, rfl, rfl⟩ | ⟨y, t, j0, hj0, hws, hjy, rfl, rfl, rfl, hrd, hlen, hat⟩
        · have hz : s1.w = [] := by
            have := HB0.out.P.twin.perm
            rw [h1] at this
            exact List.eq_nil_of_length_eq_zero (by rw [← this.length_eq]; rfl)
          refine (refStepNo_any hB3.R hz).mono ?_
          rintro x w4 ⟨rfl, n34⟩
          refine ⟨p', { r with U := fun g => p'.T g ∨ X g }, none, 0, by rw [heq, h1]; rfl, hB3.new n34, Kept.new p' { r with U := fun g => p'.T g ∨ X g } n34 (fun g => p'.T g ∨ X g), e1, rfl, ⟨rfl, rfl⟩, hbE.below n34 hbE.lt, ⟨[], rfl, by omega, .inl rfl, .inl rfl⟩, by omega, by omega, .inl ⟨rfl, rfl⟩⟩
        · have hey : ey = y := by rw [heq, hws]; rfl
          have hmem : y ∈ s.w := by rw [← hjy]; exact List.getElem_mem hj0
          have hmn := run_means HB0.out.P.ok hmem (by have := HD.out; omega)
          refine (refStep_any { r with U := fun g => p'.T g ∨ X g } m s fA w0 w3 hB3.R hB3.nw HM.out (HB0.out.lowR _ (.inl rfl)) (fun h => by rw [h] at hj0; simp at hj0) HD.out (by have := HW9.out; omega)).mono ?_
          rintro x w4 ⟨j, hj, hmin, r', uA, uc, rfl, hrs, e3, e4, e5, hch, hT, hrd2, hlen2⟩
          have hsy : s.w[j] = y := by
            have hsr := HB0.out.P.twin.srt
            have hpm := HB0.out.P.twin.perm
            rw [hws] at hsr hpm
            exact (head_least hsr hpm hj hmin).1
          have hjj : j = j0 := by
            have hu := List.pairwise_iff_getElem.1 HB0.out.P.ok.uniq
            rcases Nat.lt_trichotomy j j0 with h | h | h
            · exact absurd (by rw [hsy, hjy]) (hu j j0 hj hj0 h)
            · exact h
            · exact absurd (by rw [hsy, hjy]) (hu j0 j hj0 hj h)
          subst hjj
          simp only [hsy] at hrs hrd2 hlen2 ⊢
          have hB4 := hB3.refs hrs e5 hch hT
          have hne4 : ¬ ({ r with U := fun g => p'.T g ∨ X g } : RMem).T EB := hEBr
          refine ⟨_, r', uA, uc, by rw [hey], hB4, Kept.refs p' hch hT _, e1, e3, e4, hbE.chg hch hne4, ⟨(m.run s y).1.tells.flatten, hlen, hmn.2.2.2.1, ?_, hrd2⟩, ?_, ?_, .inr ⟨rfl, y, t, hws, rfl, ?_⟩⟩
          · refine (hrd.keep fun p hp => Below.cell n23 hp).far (base := w1.heap.size) (fun b o e => (hat b o e).imp id fun h => by rw [h]; rfl) fun g hg hl => hch.block g hl fun q => ?_
            have := hlo2 g q; omega
          · show (s.w.eraseIdx j ++ (m.run s y).1.sends.map evOf).length ≤ _
            rw [List.length_append, List.length_map, List.length_eraseIdx_of_lt hj]
            have := hmn.2.2.1
            omega
          · show s.put.length ≤ _; omega
          · exact HB0.out.P.ok.rise y hmem
      have KEY2 := Lib.hid key2
      have HW3 := Lib.hid hw3
      have HEB := Lib.hid hEB
      clear key2 hk2 hk3 hcase hw3 hEB hbE n23 hB2 hB3 hlo2 hlo3 KEY x0 heq e1
      go_upto_region 6 with (fail)
      rw [HW3.out, HEB.out]
      go_wp2_with fail
      refine KEY2.out.mono ?_
      rintro x w4 ⟨p'', r', uA, uc, rfl, hB4, hk4, f1, f2, f3, hbE4, ⟨L, hL, hn4, hra, hrb⟩, q1, q2, q3⟩
      unfold ev6
      obtain ⟨FB, hFB⟩ : ∃ FB, w4.heap.size = FB := ⟨_, rfl⟩
      obtain ⟨w5, hw5⟩ : ∃ w5, w4.alloc (.cells #[.int .i64 ey.k.T, .int .i64 ey.k.O, .int .i64 ey.k.S, .int .i64 ey.p, .int .i64 ey.q, .int .i64 ey.d] 44) = w5 := ⟨_, rfl⟩
      have hbF : Blk w5 FB 44 #[.int .i64 ey.k.T, .int .i64 ey.k.O, .int .i64 ey.k.S, .int .i64 ey.p, .int .i64 ey.q, .int .i64 ey.d] := by rw [← hw5]; exact Blk.last w4 _ _ hFB
      have n45 : Nw w4 w5 := by rw [← hw5]; exact (Nw.refl w4).alloc _
      have hbE5 := hbE4.below n45 hbE4.lt
      have KR := Lib.hid (sameRecords_yes w5 tA uA nt tc uc L (hra.keep fun p hp => Below.cell n45 hp) (hrb.keep fun p hp => Below.cell n45 hp) hL (by omega))
      have HB5 := Lib.hid (hB4.new n45)
      have HK5 := Lib.hid ((((Kept.new p r N1.out r.U).trans HK3.out).trans hk4).trans (Kept.new p'' r' n45 r'.U))
      have HQ := Lib.hid (⟨f1, f2, f3, q1, q2, q3⟩ : p''.SB = p.SB ∧ r'.RB = r.RB ∧ (r'.pA = r.pA ∧ r'.pc = r.pc) ∧ s1.w.length ≤ s.w.length + 4 ∧ s1.put.length ≤ s.put.length + 1 ∧ ((s1.done = s.done ∧ s1.last = s.last) ∨ (s1.done = s.done + 1 ∧ ∃ y t, ws = y :: t ∧ s1.last = y.k ∧ s.last.less y.k = true)))
      have HW5 := Lib.hid hw5
      have HFB := Lib.hid hFB
      have eb0 : w5.cell? ⟨EB, 0, none⟩ = some (.int .i64 ey.k.T) := hbE5.cell 0
      have eb1 : w5.cell? ⟨EB, 1, none⟩ = some (.int .i64 ey.k.O) := hbE5.cell 1
      have eb2 : w5.cell? ⟨EB, 2, none⟩ = some (.int .i64 ey.k.S) := hbE5.cell 2
      have eb3 : w5.cell? ⟨EB, 3, none⟩ = some (.int .i64 ey.p) := hbE5.cell 3
      have eb4 : w5.cell? ⟨EB, 4, none⟩ = some (.int .i64 ey.q) := hbE5.cell 4
      have eb5 : w5.cell? ⟨EB, 5, none⟩ = some (.int .i64 ey.d) := hbE5.cell 5
      have fb0 : w5.cell? ⟨FB, 0, none⟩ = some (.int .i64 ey.k.T) := hbF.cell 0
      have fb1 : w5.cell? ⟨FB, 1, none⟩ = some (.int .i64 ey.k.O) := hbF.cell 1
      have fb2 : w5.cell? ⟨FB, 2, none⟩ = some (.int .i64 ey.k.S) := hbF.cell 2
      have fb3 : w5.cell? ⟨FB, 3, none⟩ = some (.int .i64 ey.p) := hbF.cell 3
      have fb4 : w5.cell? ⟨FB, 4, none⟩ = some (.int .i64 ey.q) := hbF.cell 4
      have fb5 : w5.cell? ⟨FB, 5, none⟩ = some (.int .i64 ey.d) := hbF.cell 5
      clear hB4 hk4 f1 f2 f3 hbE4 hL hn4 hra hrb q1 q2 q3 hw5 hbF n45 hbE5 hFB KEY2
      go_upto_region 7 with (fail)
      rw [HW5.out, HFB.out]
      go_wp2_with fail
      refine KR.out.mono ?_
      rintro x w6 ⟨rfl, nq, rfl⟩
      go_wp2_with fail
      go_ret
      obtain ⟨f1, f2, f3, q1, q2, q3⟩ := HQ.out
      exact ⟨rfl, p'', r', s1, ws1, HB5.out.new (Below.many (Nw.refl w5) nq), f1, f2, f3, HK5.out.trans (Kept.new p'' r' (Below.many (Nw.refl w5) nq) r'.U), q1, q2, q3⟩
    · have g1 : (kind == 1) = false := beq_eq_false_iff_ne.2 h1
      have g2 : (kind == 2) = false := beq_eq_false_iff_ne.2 h2
      go_enter Try.func13, Try.ntmps13
      go_upto_region 1 with (fail)
      rw [HW1.out, HXB.out]
      go_wp2_with fail
      go_ret
      exact ⟨rfl, p, r, s, ws, HB1.out, rfl, rfl, ⟨rfl, rfl⟩, Kept.new p r N1.out r.U, by omega, by omega, .inl ⟨rfl, rfl⟩⟩
end
end Go.Proofs.Ytgijkgngldfdiaa
