/- The document's New. Helper. -/
import Derived.Test.YtgijkgngldfdiaaSqN
namespace Go.Proofs.Ytgijkgngldfdiaa
open Go.RowKit
set_option linter.unusedVariables false
set_option linter.unusedSimpArgs false
/-- Where the document's sequence lies. -/
structure RMem where
  RB : Nat
  pA : Option Addr
  pc : Nat
  fA : Option Addr
  fn : Nat
  fc : Nat
  sB : Nat
  so : Nat
  sc : Nat
  wA : Option Addr
  wc : Nat
  bW : Option Nat
  uA : Option Addr
  uc : Nat
  bU : Option Nat
  U : Nat → Prop
def RMem.T (r : RMem) (k : Nat) : Prop := k = r.RB ∨ k = r.sB ∨ some k = r.bW ∨ some k = r.bU
def RMem.V (r : RMem) (k : Nat) : Prop := r.T k ∨ r.U k
theorem RMem.keepV {r r' : RMem} {w : World} (hU : r'.U = r.U) (hT : ∀ g, r'.T g → r.T g ∨ w.heap.size ≤ g) : ∀ g, r'.V g → r.V g ∨ w.heap.size ≤ g := fun g q => by
  rcases q with q | q
  · exact (hT g q).imp .inl id
  · exact .inl (.inr (hU ▸ q))
theorem Chg.ownR {r : RMem} {w w' : World} (h : Chg r.T w w') : Chg r.V w w' := h.mono fun _ _ => .inl
/-- The document's sequence in memory. -/
structure RSeq (w : World) (r : RMem) (m : Mdl) (s : Sq) : Prop where
  box : Blk w r.RB 42 #[.slice r.pA m.procs.length r.pc, .slice r.fA r.fn r.fc, .slice (some ⟨r.sB, r.so, none⟩) m.procs.length r.sc, .slice r.wA s.w.length r.wc, .slice r.uA s.put.length r.uc, .int .i64 (s.done : Int), .int .i64 s.last.T]
  sts : ∃ cur, Blk w r.sB 65 cur ∧ ∀ i, i < m.procs.length → ∃ a c, StCells cur r.so i a (s.sts.getD i St.z).vars.length c (s.sts.getD i St.z).sent (s.sts.getD i St.z).drawn ∧ Stays w r.V (fun W => Rd W a (ints (s.sts.getD i St.z).vars))
  wown : Own w 44 6 (.slice r.wA s.w.length r.wc) s.w.length (ints (rows s.w)) r.bW
  uown : Own w 2 1 (.slice r.uA s.put.length r.uc) s.put.length (ints s.put) r.bU
  ok : Ok m s
  few : s.done ≤ 1000 ∧ s.w.length ≤ 10000 ∧ s.put.length ≤ 10000
  low : ∀ g, r.U g → g < w.heap.size
  dis : ∀ g, r.T g → ¬ r.U g
theorem RSeq.lt {w : World} {r : RMem} {m : Mdl} {s : Sq} (h : RSeq w r m s) : ∀ g, r.T g → g < w.heap.size := fun g q => by
  rcases q with rfl | rfl | q | q
  · exact h.box.lt
  · obtain ⟨cur, hst, _⟩ := h.sts; exact hst.lt
  · exact h.wown.lt g q.symm
  · exact h.uown.lt g q.symm
theorem RSeq.ne {w : World} {r : RMem} {m : Mdl} {s : Sq} (h : RSeq w r m s) : r.RB ≠ r.sB ∧ some r.RB ≠ r.bW ∧ some r.RB ≠ r.bU ∧ some r.sB ≠ r.bW ∧ some r.sB ≠ r.bU ∧ ∀ g, r.bW = some g → r.bU ≠ some g := by
  obtain ⟨cur, hst, _⟩ := h.sts
  refine ⟨h.box.ne_ hst (by decide), fun e => ?_, fun e => ?_, fun e => ?_, fun e => ?_, fun g e e' => ?_⟩
  · obtain ⟨cur', hc⟩ := h.wown.tyB _ e.symm; exact absurd rfl (h.box.ne_ hc (by decide))
  · obtain ⟨cur', hc⟩ := h.uown.tyB _ e.symm; exact absurd rfl (h.box.ne_ hc (by decide))
  · obtain ⟨cur', hc⟩ := h.wown.tyB _ e.symm; exact absurd rfl (hst.ne_ hc (by decide))
  · obtain ⟨cur', hc⟩ := h.uown.tyB _ e.symm; exact absurd rfl (hst.ne_ hc (by decide))
  · obtain ⟨c1, hc⟩ := h.wown.tyB _ e
    obtain ⟨c2, hc2⟩ := h.uown.tyB _ e'
    exact absurd rfl (hc.ne_ hc2 (by decide))
/-- Others have acted. -/
theorem RSeq.frame {w w' : World} {r : RMem} {m : Mdl} {s : Sq} (h : RSeq w r m s) {M : Nat → Prop} (hc : Chg M w w') (hM : ∀ g, M g → r.U g) (U' : Nat → Prop) (hU : ∀ g, U' g → r.U g ∨ w.heap.size ≤ g) (hl : ∀ g, U' g → g < w'.heap.size) :
    RSeq w' { r with U := U' } m s := by
  have hcV : Chg r.V w w' := hc.mono fun g _ q => .inr (hM g q)
  have hV : ∀ g, ({ r with U := U' } : RMem).V g → r.V g ∨ w.heap.size ≤ g := fun g q => by
    rcases q with q | q
    · exact .inl (.inl q)
    · exact (hU g q).imp .inr id
  have no : ∀ g, r.T g → ¬ M g := fun g q e => h.dis g q (hM g e)
  obtain ⟨cur, hst, hc2⟩ := h.sts
  refine ⟨h.box.chg hc (no _ (.inl rfl)), ⟨cur, hst.chg hc (no _ (.inr (.inl rfl))), fun i hi => ?_⟩, h.wown.chg hc fun g hg => no _ (.inr (.inr (.inl hg.symm))), h.uown.chg hc fun g hg => no _ (.inr (.inr (.inr hg.symm))), h.ok, h.few, hl, fun g q e => ?_⟩
  · obtain ⟨a, c, g1, g2⟩ := hc2 i hi
    exact ⟨a, c, g1, g2.keep hcV hV⟩
  · rcases hU g e with e | e
    · exact h.dis g q e
    · have := h.lt g q; omega
theorem RSeq.new {w w' : World} {r : RMem} {m : Mdl} {s : Sq} (h : RSeq w r m s) (hN : Nw w w') : RSeq w' r m s :=
  h.frame (M := fun _ => False) (Chg.of_below hN (Nat.le_refl _) _) (fun g q => q.elim) r.U (fun g q => .inl q) fun g q => Nat.lt_of_lt_of_le (h.low g q) hN.size
theorem infoEve : (Try.prog.info? 44).map (fun i => (i.zero, i.size, i.bytes)) = some (some (.agg #[.int .i64 0, .int .i64 0, .int .i64 0, .int .i64 0, .int .i64 0, .int .i64 0]), 6, 48) := by kernel_rfl
section
variable (m : Mdl) (pA fA : Option Addr) (pc fc : Nat) (w : World)
set_option maxRecDepth 100000
set_option maxHeartbeats 3200000
theorem refStart_any (i : Nat) (hi : i < m.procs.length) (h : MAt w m pA fA) (hv : (m.procs.getD i Pr.z).vals.length ≤ 100000) :
    Calls Try.prog 60 #[.agg #[.slice pA m.procs.length pc, .slice fA m.first.length fc], .int .i64 ((i : Int) + 1)] w (CopiedOut w (m.procs.getD i Pr.z).vals 0 0) := by
  obtain ⟨i0, hi0, hz0, hz1, hz2⟩ := info_parts info64
  have HL1 := Lib.hid hi0
  have HL2 := Lib.hid hz0
  have HL3 := Lib.hid hz1
  have HL4 := Lib.hid hz2
  clear hi0 hz0 hz1 hz2
  obtain ⟨w2, hw2⟩ : ∃ w2, (w.alloc (.cells #[.slice pA m.procs.length pc, .slice fA m.first.length fc] 25)).alloc (.cells #[.slice none 0 0, .int .i64 0, .int .i64 0] 65) = w2 := ⟨_, rfl⟩
  have n2 : Nw w w2 := by rw [← hw2]; exact ((Nw.refl w).alloc _).alloc _
  have hb : Blk w2 w.heap.size 25 #[.slice pA m.procs.length pc, .slice fA m.first.length fc] := by rw [← hw2]; exact (Blk.last w _ _ rfl).alloc _
  have hz : Blk w2 (w.heap.size + 1) 65 #[.slice none 0 0, .int .i64 0, .int .i64 0] := by rw [← hw2]; exact Blk.last _ _ _ (by simp)
  have hs2 : w2.heap.size = w.heap.size + 2 := by rw [← hw2]; simp
  obtain ⟨XB, hXB⟩ : ∃ XB, w.heap.size = XB := ⟨_, rfl⟩
  obtain ⟨b, o, ep, hp⟩ := (h.keep n2).proc hi
  rw [getD_at hi] at hv ⊢
  obtain ⟨P, hP⟩ : ∃ P, m.procs[i] = P := ⟨_, rfl⟩
  rw [hP] at hp hv ⊢
  obtain ⟨c0, ⟨kA, kc, c1, r1⟩, ⟨vA, vc, c2, r2⟩, c3, q1, q2⟩ := hp
  subst ep
  have HR2 := Lib.hid r2
  obtain ⟨N, hN⟩ : ∃ N, m.procs.length = N := ⟨_, rfl⟩
  obtain ⟨f, hf⟩ : ∃ f, m.first.length = f := ⟨_, rfl⟩
  obtain ⟨vl, hvl⟩ : ∃ vl, P.vals = vl := ⟨_, rfl⟩
  have hNm : N ≤ 9223372036854775807 := by have := h.pn; rw [hN] at this; simpa [maxLen] using this
  rw [hXB] at hb hz hs2
  rw [hN, hf] at hw2 hb ⊢
  rw [hN] at hi
  rw [hvl] at c2 HR2 hv ⊢
  have x0 : w2.cell? ⟨XB, 0, none⟩ = some (.slice (some ⟨b, o, none⟩) N pc) := hb.cell 0
  have HZ := Lib.hid hz
  have HS2 := Lib.hid hs2
  have HW2 := Lib.hid hw2
  have HXB := Lib.hid hXB
  have N2 := Lib.hid n2
  have HV := Lib.hid hv
  clear h hP hN hf hvl hw2 hb hz hs2 hXB n2 c0 c1 c3 r1 r2 hv q1 q2
  have wi : IntKind.i64.wrap (i : Int) = (i : Int) := by simp [IntKind.wrap, IntKind.bits, IntKind.signed]; omega
  have wj : IntKind.i64.wrap ((i : Int) + 1 - 1) = (i : Int) := by rw [Int.add_sub_cancel]; exact wi
  have l1 : ((i : Int) + 1 < 1) = False := by simp; omega
  have l2 : ((N : Int) < (i : Int) + 1) = False := by simp; omega
  have k2 : (0 : Int) ≤ (i : Int) := by omega
  have k3 : (i : Int) < (N : Int) := by omega
  clear hi hNm
  go_enter Try.func60, Try.ntmps60
  go_upto_region 1 with (fail)
  rw [HW2.out, HXB.out]
  go_upto_region 3 with (fail)
  go_wp2_with (at_builtin; refine wpList_append_at w2 rfl _ _ _ rfl 2 i0 _ 1 8 Try.underlying40 HL1.out HL2.out HL3.out HL4.out rfl (by omega) _ 0 [] none rfl (Own.nil _ _ _) _ vl.length vc (ints vl) rfl (by simp [ints]) HR2.out (ints_one vl) (by have := HV.out; simp only [maxLen]; omega) (by have := HV.out; omega) ?_; intro A' c' w3 blk hown hchg hat; simp only [Nat.zero_add, List.nil_append] at hown ⊢; have hz3 := HZ.out.chg hchg (fun e => by cases e); have y0 : w3.cell? ⟨XB + 1, 0, none⟩ = some (.slice none 0 0) := hz3.cell 0; have y1 : w3.cell? ⟨XB + 1, 1, none⟩ = some (.int .i64 0) := hz3.cell 1; have y2 : w3.cell? ⟨XB + 1, 2, none⟩ = some (.int .i64 0) := hz3.cell 2; have g0 := hz3.frozen 0; have g1 := hz3.frozen 1; have g2 := hz3.frozen 2; have HO := Lib.hid hown; have HAT := Lib.hid hat; have N3 := Lib.hid (N2.out.step (hchg.below (fun i _ e => by cases e) (Nat.le_refl _))); clear hown hat hchg hz3)
  refine bodyPost_ret (v := stV A' vl.length c' 0 0) (by simp [results, Try.results60, go_sem, y0, y1, y2, stV]) rfl ?_
  have hx : w.heap.size = XB := HXB.out
  have hs := HS2.out
  have hblk : ∀ g, blk = some g → XB + 2 ≤ g := fun g hg => by
    rcases HAT.out with h | h
    · rw [h] at hg; cases hg
    · rw [h] at hg; injection hg with hg; omega
  refine ⟨A', c', blk, rfl, ?_, ?_, fun g hg => by have := hblk g hg; omega⟩
  · exact HO.out.kept fun g hg => by
      have hg2 := hblk g hg
      rw [Below.heap_setCell _ _ _ _ (by show g ≠ XB + 1; omega), Below.heap_setCell _ _ _ _ (by show g ≠ XB + 1; omega), Below.heap_setCell _ _ _ _ (by show g ≠ XB + 1; omega)]
  · exact ((N3.out.set (p := ⟨XB + 1, 0, none⟩) (by show _ ≤ XB + 1; omega) _).set (p := ⟨XB + 1, 1, none⟩) (by show _ ≤ XB + 1; omega) _).set (p := ⟨XB + 1, 2, none⟩) (by show _ ≤ XB + 1; omega) _
def MachOut (w : World) (m : Mdl) (i : Nat) (r : Ending) (w' : World) : Prop :=
  ∃ kA kc, r = .returned (.agg #[.int .i64 (m.procs.getD i Pr.z).vars, .slice kA (m.procs.getD i Pr.z).ks.length kc, .int .i64 ((i : Int) + 1), .int .i64 (m.procs.length : Int), .int .i64 (m.procs.getD i Pr.z).seed]) ∧ RKinds w' kA (m.procs.getD i Pr.z).ks ∧ Nw w w'
/-- The document's sequence in the making. -/
structure RLaid (w0 w : World) (m : Mdl) (k RB : Nat) (pA : Option Addr) (pc : Nat) (fA : Option Addr) (fc : Nat) (sA : Option Addr) (sc : Nat) (bS : Option Nat) (sts : List Value) (U : Nat → Prop) : Prop where
  uU : ∀ g, U g → g < w0.heap.size
  new : Nw w0 w
  lo : w0.heap.size ≤ RB ∧ ∀ g, bS = some g → w0.heap.size ≤ g
  box : Blk w RB 42 #[.slice pA m.procs.length pc, .slice fA m.first.length fc, .slice sA k sc, .slice none 0 0, .slice none 0 0, .int .i64 0, .int .i64 (-1)]
  sown : Own w 65 3 (.slice sA k sc) k sts bS
  st : ∀ i, i < k → ∃ a c, sts[i * 3]? = some (.slice a (m.procs.getD i Pr.z).vals.length c) ∧ sts[i * 3 + 1]? = some (.int .i64 0) ∧ sts[i * 3 + 2]? = some (.int .i64 0) ∧ Stays w (fun g => g = RB ∨ some g = bS ∨ U g) (fun W => Rd W a (ints (m.procs.getD i Pr.z).vals))
theorem RLaid.next {w0 w w3 w4 : World} {m : Mdl} {k RB : Nat} {pA : Option Addr} {pc : Nat} {fA : Option Addr} {fc : Nat} {sA : Option Addr} {sc : Nat} {bS : Option Nat} {sts : List Value} {U : Nat → Prop} (h : RLaid w0 w m k RB pA pc fA fc sA sc bS sts U)
    {A : Option Addr} {c : Nat} {bV : Option Nat} {sA' : Option Addr} {sc' : Nat} {bS' : Option Nat}
    (o3 : Own w3 2 1 (.slice A (m.procs.getD k Pr.z).vals.length c) (m.procs.getD k Pr.z).vals.length (ints (m.procs.getD k Pr.z).vals) bV) (c3 : Nw w w3) (a3 : ∀ g, bV = some g → w.heap.size ≤ g)
    (o4 : Own w4 65 3 (.slice sA' (k + 1) sc') (k + 1) (sts ++ [.slice A (m.procs.getD k Pr.z).vals.length c, .int .i64 0, .int .i64 0]) bS') (c4 : Chg (fun g => some g = bS) w3 w4) (a4 : ∀ g, bS' = some g → bS = some g ∨ w3.heap.size ≤ g) :
    RLaid w0 (w4.setCell ⟨RB, 2, none⟩ (.slice sA' (k + 1) sc')) m (k + 1) RB pA pc fA fc sA' sc' bS' (sts ++ [.slice A (m.procs.getD k Pr.z).vals.length c, .int .i64 0, .int .i64 0]) U := by
  have s3 := c3.size
  have s4 := c4.size
  have s0 := h.new.size
  obtain ⟨l1, l4⟩ := h.lo
  have b3 := h.box.below c3 h.box.lt
  have nS : ¬ some RB = bS := fun e => by
    obtain ⟨cs, hc⟩ := h.sown.tyB RB e.symm
    exact absurd rfl (h.box.ne_ hc (by decide))
  have b4 := b3.chg c4 nS
  have hc1 : Chg (fun g => g = RB ∨ some g = bS) w w3 := Chg.of_below c3 (Nat.le_refl _) _
  have hc2 : Chg (fun g => g = RB ∨ some g = bS) w3 (w4.setCell ⟨RB, 2, none⟩ (.slice sA' (k + 1) sc')) := Chg.setCell (c4.mono fun i _ q => .inr q) (p := ⟨RB, 2, none⟩) (.inl (.inl rfl)) _
  have hc := hc1.trans hc2 fun i _ q => q
  have hcU : Chg (fun g => g = RB ∨ some g = bS ∨ U g) w (w4.setCell ⟨RB, 2, none⟩ (.slice sA' (k + 1) sc')) := hc.mono fun i _ q => q.imp id .inl
  have hcU2 : Chg (fun g => g = RB ∨ some g = bS ∨ U g) w3 (w4.setCell ⟨RB, 2, none⟩ (.slice sA' (k + 1) sc')) := hc2.mono fun i _ q => q.imp id .inl
  have hT3 : ∀ g, (g = RB ∨ some g = bS' ∨ U g) → (g = RB ∨ some g = bS ∨ U g) ∨ w3.heap.size ≤ g := fun g q => by
    rcases q with q | q | q
    · exact .inl (.inl q)
    · exact (a4 g q.symm).imp (fun e => .inr (.inl e.symm)) id
    · exact .inl (.inr (.inr q))
  have hT : ∀ g, (g = RB ∨ some g = bS' ∨ U g) → (g = RB ∨ some g = bS ∨ U g) ∨ w.heap.size ≤ g := fun g q => (hT3 g q).imp id fun e => by omega
  have lS : sts.length = k * 3 := h.sown.1
  have hlow : ∀ g, (g = RB ∨ some g = bS) → w0.heap.size ≤ g := fun g q => by
    rcases q with rfl | q
    · exact l1
    · exact l4 g q.symm
  refine ⟨h.uU, Below.trans h.new (hc.below (fun i _ q => hlow i q) s0), ⟨l1, fun g e => (a4 g e).elim (l4 g) fun e => by omega⟩, b4.set_ 2 _, ?_, fun i hi => ?_⟩
  · exact o4.kept fun g e => by
      obtain ⟨cs, hcs⟩ := o4.tyB g e
      have hne : g ≠ RB := hcs.ne_ b4 (by decide)
      rw [Below.heap_setCell _ _ _ _ (by exact hne)]
  · rcases Nat.lt_or_ge i k with hik | hik
    · obtain ⟨a, c', e0, e1, e2, hs⟩ := h.st i hik
      exact ⟨a, c', by rw [List.getElem?_append_left (by omega)]; exact e0, by rw [List.getElem?_append_left (by omega)]; exact e1, by rw [List.getElem?_append_left (by omega)]; exact e2, hs.keep hcU hT⟩
    · have : i = k := by omega
      subst this
      refine ⟨A, c, ?_, ?_, ?_, ?_⟩
      · rw [List.getElem?_append_right (by omega), lS]; simp
      · rw [List.getElem?_append_right (by omega), lS, show i * 3 + 1 - i * 3 = 1 by omega]; rfl
      · rw [List.getElem?_append_right (by omega), lS, show i * 3 + 2 - i * 3 = 2 by omega]; rfl
      · have hs3 : Stays w3 (fun g => g = RB ∨ some g = bS ∨ U g) (fun W => Rd W A (ints (m.procs.getD i Pr.z).vals)) := by
          refine ⟨fun g => bV = some g, fun g e => ⟨o3.lt g e, fun q => ?_⟩, fun W _ hk => ?_⟩
          · have hge := a3 g e
            rcases q with q | q | q
            · have := h.box.lt; omega
            · have := h.sown.lt g q.symm; omega
            · have := h.uU g q; omega
          · obtain ⟨_, _, ea, hrd, _⟩ := (o3.kept (w' := W) fun g e => hk g e).rd
            injection ea with e1 _ _
            subst e1
            exact hrd
        exact hs3.keep hcU2 hT3
theorem RLaid.rseq {w0 w w' : World} {m : Mdl} {RB : Nat} {pA : Option Addr} {pc : Nat} {fA : Option Addr} {fc : Nat} {sA : Option Addr} {sc : Nat} {bS : Option Nat} {sts : List Value} {A : Option Addr} {c : Nat} {blk : Option Nat} {U : Nat → Prop}
    (h : RLaid w0 w m m.procs.length RB pA pc fA fc sA sc bS sts U) (hm : m.May) (ho : Own w' 44 6 (.slice A m.first.length c) m.first.length (ints (rows m.first)) blk) (hc : Chg (fun _ => False) w w') (ha : ∀ g, blk = some g → w.heap.size ≤ g) :
    ∃ r : RMem, r.RB = RB ∧ (r.pA = pA ∧ r.pc = pc) ∧ RSeq (w'.setCell ⟨RB, 3, none⟩ (.slice A m.first.length c)) r m m.start ∧ Nw w0 (w'.setCell ⟨RB, 3, none⟩ (.slice A m.first.length c)) ∧ (∀ g, r.T g → w0.heap.size ≤ g) ∧ r.U = U := by
  have n1 := hm.n1
  obtain ⟨l1, l4⟩ := h.lo
  obtain ⟨gS, oS, cS, rfl, rfl, hgS, hcS⟩ := own_at h.sown n1
  have s0 := h.new.size
  have s1 := hc.size
  have k1 : gS ≠ RB := hgS.ne_ h.box (by decide)
  have b1 := h.box.chg hc (fun e => e)
  let r : RMem := ⟨RB, pA, pc, fA, m.first.length, fc, gS, oS, sc, A, c, blk, none, 0, none, U⟩
  have hcF : Chg (fun g => g = RB ∨ some g = some gS) w (w'.setCell ⟨RB, 3, none⟩ (.slice A m.first.length c)) := Chg.setCell (hc.mono fun i _ e => e.elim) (p := ⟨RB, 3, none⟩) (.inl (.inl rfl)) _
  have hcT : Chg (fun g => g = RB ∨ some g = some gS ∨ U g) w (w'.setCell ⟨RB, 3, none⟩ (.slice A m.first.length c)) := hcF.mono fun i _ q => q.imp id .inl
  have hrT' : ∀ g, r.T g → (g = RB ∨ some g = some gS) ∨ w.heap.size ≤ g := fun g q => by
    rcases q with q | q | q | q
    · exact .inl (.inl q)
    · exact .inl (.inr (by rw [show g = gS from q]))
    · exact .inr (ha g q.symm)
    · cases q
  have hrT : ∀ g, r.V g → (g = RB ∨ some g = some gS ∨ U g) ∨ w.heap.size ≤ g := fun g q => by
    rcases q with q | q
    · exact (hrT' g q).imp (fun q => q.imp id .inl) id
    · exact .inl (.inr (.inr q))
  have hlowT : ∀ g, r.T g → w0.heap.size ≤ g := fun g q => by
    rcases hrT' g q with (q | q) | q
    · rw [q]; exact l1
    · exact l4 g q.symm
    · omega
  refine ⟨r, rfl, ⟨rfl, rfl⟩, ⟨b1.set_ 3 _, ⟨cS, (hgS.chg hc (fun e => e)).far (show gS ≠ RB from k1) _, fun i hi => ?_⟩, ?_, Own.nil _ _ _, start_ok hm, ⟨Nat.zero_le _, ?_, Nat.zero_le _⟩, fun g q => Nat.lt_of_lt_of_le (h.uU g q) (Nat.le_trans s0 hcF.size), fun g q u => by have := hlowT g q; have := h.uU g u; omega⟩, ?_, hlowT, rfl⟩
  · obtain ⟨a, c', e0, e1, e2, hs⟩ := h.st i hi
    rw [start_st hi]
    refine ⟨a, c', ⟨?_, ?_, ?_⟩, hs.keep hcT hrT⟩
    · rw [hcS (i * 3) (by omega)]; exact e0
    · rw [Nat.add_assoc, hcS (i * 3 + 1) (by omega)]; exact e1
    · rw [Nat.add_assoc, hcS (i * 3 + 2) (by omega)]; exact e2
  · exact ho.kept fun g e => by
      obtain ⟨cs, hcs⟩ := ho.tyB g e
      have hne : g ≠ RB := hcs.ne_ b1 (by decide)
      rw [Below.heap_setCell _ _ _ _ (by exact hne)]
  · have := hm.f64
    show m.first.length ≤ 10000
    omega
  · exact Below.trans h.new (hcF.below (fun i _ q => by
      rcases q with q | q
      · rw [q]; exact l1
      · exact l4 i q.symm) s0)
end
end Go.Proofs.Ytgijkgngldfdiaa
/- The document's New. Helper. -/
namespace Go.Proofs.Ytgijkgngldfdiaa
open Go.RowKit
set_option linter.unusedVariables false
set_option linter.unusedSimpArgs false
def RefNewOut (w : World) (m : Mdl) (pA : Option Addr) (pc : Nat) (U : Nat → Prop) (e : Ending) (w' : World) : Prop :=
  ∃ r : RMem, e = .returned (.pointer (some ⟨r.RB, 0, none⟩)) ∧ (r.pA = pA ∧ r.pc = pc) ∧ RSeq w' r m m.start ∧ Nw w w' ∧ (∀ g, r.T g → w.heap.size ≤ g) ∧ r.U = U
section
variable (m : Mdl) (pA fA : Option Addr) (pc fc : Nat) (w : World)
set_option maxRecDepth 100000
set_option maxHeartbeats 6400000
theorem refNew_any (U : Nat → Prop) (hU : ∀ g, U g → g < w.heap.size) (h : MAt w m pA fA) (hm : m.May) (hvl : ∀ i, i < m.procs.length → (m.procs.getD i Pr.z).vals.length ≤ 100000) :
    Calls Try.prog 34 #[.agg #[.slice pA m.procs.length pc, .slice fA m.first.length fc]] w (RefNewOut w m pA pc U) := by
  obtain ⟨iS, hj0, hj1, hj2, hj3⟩ := info_parts infoSta
  obtain ⟨iE, he0, he1, he2, he3⟩ := info_parts infoEve
  have HI1 := Lib.hid hj0
  have HI2 := Lib.hid hj1
  have HI3 := Lib.hid hj2
  have HI4 := Lib.hid hj3
  have HE1 := Lib.hid he0
  have HE2 := Lib.hid he1
  have HE3 := Lib.hid he2
  have HE4 := Lib.hid he3
  clear hj0 hj1 hj2 hj3 he0 he1 he2 he3
  obtain ⟨n, hn⟩ : ∃ n, m.procs.length = n := ⟨_, rfl⟩
  obtain ⟨f, hf⟩ : ∃ f, m.first.length = f := ⟨_, rfl⟩
  have hn1 := hm.n1
  have hn16 := hm.n16
  have hf64 := hm.f64
  rw [hn] at hn1 hn16
  rw [hf] at hf64
  obtain ⟨w1, hw1⟩ : ∃ w1, w.alloc (.cells #[.slice pA m.procs.length pc, .slice fA m.first.length fc] 25) = w1 := ⟨_, rfl⟩
  have n1 : Nw w w1 := by rw [← hw1]; exact (Nw.refl w).alloc _
  obtain ⟨XB, hXB⟩ : ∃ XB, w.heap.size = XB := ⟨_, rfl⟩
  have hb : Blk w1 XB 25 #[.slice pA m.procs.length pc, .slice fA m.first.length fc] := by rw [← hw1]; exact Blk.last w _ _ hXB
  obtain ⟨w3, hw3⟩ : ∃ w3, w1.alloc (.cells #[.slice pA m.procs.length pc, .slice fA m.first.length fc, .slice none 0 0, .slice none 0 0, .slice none 0 0, .int .i64 0, .int .i64 (-1)] 42) = w3 := ⟨_, rfl⟩
  have n3 : Nw w1 w3 := by rw [← hw3]; exact (Nw.refl w1).alloc _
  obtain ⟨RB, hRB⟩ : ∃ RB, w1.heap.size = RB := ⟨_, rfl⟩
  have hL : RLaid w1 w3 m 0 RB pA pc fA fc none 0 none [] U := by
    refine ⟨fun g q => Nat.lt_of_lt_of_le (hU g q) n1.size, n3, ⟨by omega, fun g e => (by cases e)⟩, ?_, Own.nil _ _ _, fun i hi => by omega⟩
    rw [← hw3]; exact Blk.last _ _ _ hRB
  rw [hn, hf] at hw1 hw3 hb ⊢
  have x0 : w1.cell? ⟨XB, 0, none⟩ = some (.slice pA n pc) := hb.cell 0
  have x1 : w1.cell? ⟨XB, 1, none⟩ = some (.slice fA f fc) := hb.cell 1
  have kst : ∀ W (k : Nat), Nw w1 W → k < n → Calls Try.prog 60 #[.agg #[.slice pA n pc, .slice fA f fc], .int .i64 ((k : Int) + 1)] W (CopiedOut W (m.procs.getD k Pr.z).vals 0 0) := fun W k hW hk => by
    have K := refStart_any m pA fA pc fc W k (by rw [hn]; exact hk) ((h.keep n1).keep hW) (hvl k (by rw [hn]; exact hk))
    rw [hn, hf] at K
    exact K
  have HSTART := Lib.hid kst
  have HW1 := Lib.hid hw1
  have HXB := Lib.hid hXB
  have HW3 := Lib.hid hw3
  have HRB := Lib.hid hRB
  have N1 := Lib.hid n1
  have HM := Lib.hid (h.keep n1)
  have HMAY := Lib.hid hm
  have HN := Lib.hid hn
  have HF := Lib.hid hf
  have X0 := Lib.hid x0
  have X1 := Lib.hid x1
  have HL0 := Lib.hid hL
  clear h hn hf hw1 hXB n1 hb hm hvl hL hw3 hRB n3 kst
  go_enter Try.func34, Try.ntmps34
  go_upto_region 1 with (fail)
  rw [HW1.out, HXB.out]
  go_upto_region 2 with (fail)
  rw [HW3.out]
  simp only [HRB.out]
  clear x0 x1
  go_wp2_with fail
  go_loopw [4] (fun i wr => ∃ (k : Nat) (SA : Option Addr) (SC : Nat) (bS : Option Nat) (sts : List Value), k ≤ n ∧ i = .int .i64 ((k : Int) + 1) ∧ Hid (RLaid w1 wr m k RB pA pc fA fc SA SC bS sts U)) (fun i _ => n + 1 - (intOf i).toNat)
  case atStart => exact ⟨0, none, 0, none, [], Nat.zero_le _, by simp, HL0⟩
  case round =>
    obtain ⟨k, SA, SC, bS, sts, hk, rfl, HI⟩ := hrel
    have x0 := HI.out.new.cell X0.out
    by_cases hlt : k < n
    · have g4 : (k : Int) + 1 ≤ (n : Int) := by omega
      have hk16 : k < 16 := by omega
      have nS : ¬ some RB = bS := fun e => by
        obtain ⟨cs, hc⟩ := HI.out.sown.tyB RB e.symm
        exact absurd rfl (HI.out.box.ne_ hc (by decide))
      have low : ∀ g, some g = bS → w1.heap.size ≤ g := fun g q => HI.out.lo.2 g q.symm
      have hlow : ∀ W, Chg (fun g => some g = bS) wr W → Nw w1 W := fun W hW =>
        Below.trans HI.out.new (hW.below (fun i _ q => low i q) HI.out.new.size)
      have hs : ∀ W, Chg (fun g => some g = bS) wr W → W.cell? ⟨RB, 2, none⟩ = some (.slice SA k SC) ∧ W.cell? ⟨XB, 0, none⟩ = some (.slice pA n pc) ∧ W.cell? ⟨XB, 1, none⟩ = some (.slice fA f fc) := fun W hW => by
        have hb := HI.out.box.chg hW nS
        exact ⟨hb.cell 2, (hlow W hW).cell X0.out, (hlow W hW).cell X1.out⟩
      have HS := Lib.hid hs
      have HLOW := Lib.hid hlow
      have HNB := Lib.hid nS
      obtain ⟨vl, hvls⟩ : ∃ vl, (m.procs.getD k Pr.z).vals = vl := ⟨_, rfl⟩
      have HVLS := Lib.hid hvls
      have HST := Lib.hid (fun W hW => HSTART.out W k hW hlt)
      rw [hvls] at HST
      clear hs hlow low nS hvls
      have HLT := Lib.hid hlt
      clear hlt hk
      go_upto_region 5 with (fail)
      clear x0
      refine wp_region_F (fun W => W.cell? ⟨RB, 2, none⟩ = some (.slice SA k SC) ∧ W.cell? ⟨XB, 0, none⟩ = some (.slice pA n pc) ∧ W.cell? ⟨XB, 1, none⟩ = some (.slice fA f fc)) [12] (by kernel_rfl) ?_
      have hS := HS.out wr.drew (Chg.refl _ wr).drew
      refine wpAnyF_takeT (i := 0) (v := ?_) rfl (by kernel_rfl) (by kernel_rfl) (by kernel_rfl) (by kernel_rfl) (by kernel_rfl) (by kernel_rfl) (fun _ _ _ h => h) (by rfl) ?_ hS ?_
      rotate_left
      · intro u hu
        try dsimp only at hu
        go_simp
        try with_reducible rfl
      try simp only [List.getElem_toArray, List.getElem_cons_succ, List.getElem_cons_zero, Act.put, List.setIfInBounds_toArray, List.set_cons_zero, List.set_cons_succ]
      refine wpAnyF_takeT (i := 1) (v := ?_) rfl (by kernel_rfl) (by kernel_rfl) (by kernel_rfl) (by kernel_rfl) (by kernel_rfl) (by kernel_rfl) (fun _ _ _ h => h) (by rfl) ?_ hS ?_
      rotate_left
      · intro u hu
        try dsimp only at hu
        go_simp
        try with_reducible rfl
      try simp only [List.getElem_toArray, List.getElem_cons_succ, List.getElem_cons_zero, Act.put, List.setIfInBounds_toArray, List.set_cons_zero, List.set_cons_succ]
      refine wpAnyF_takeT (i := 2) (v := ?_) rfl (by kernel_rfl) (by kernel_rfl) (by kernel_rfl) (by kernel_rfl) (by kernel_rfl) (by kernel_rfl) (fun _ _ _ h => h) (by rfl) ?_ hS ?_
      rotate_left
      · intro u hu
        try dsimp only at hu
        go_simp
        try with_reducible rfl
      try simp only [List.getElem_toArray, List.getElem_cons_succ, List.getElem_cons_zero, Act.put, List.setIfInBounds_toArray, List.set_cons_zero, List.set_cons_succ]
      refine wpAnyF_takeT (i := 3) (v := ?_) rfl (by kernel_rfl) (by kernel_rfl) (by kernel_rfl) (by kernel_rfl) (by kernel_rfl) (by kernel_rfl) (fun _ _ _ h => h) (by rfl) ?_ hS ?_
      rotate_left
      · intro u hu
        try dsimp only at hu
        go_simp
        try with_reducible rfl
      try simp only [List.getElem_toArray, List.getElem_cons_succ, List.getElem_cons_zero, Act.put, List.setIfInBounds_toArray, List.set_cons_zero, List.set_cons_succ]
      refine wpAnyF_takeT (i := 4) (v := ?_) rfl (by kernel_rfl) (by kernel_rfl) (by kernel_rfl) (by kernel_rfl) (by kernel_rfl) (by kernel_rfl) (fun _ _ _ h => h) (by rfl) ?_ hS ?_
      rotate_left
      · intro u hu
        try dsimp only at hu
        go_simp
        try with_reducible rfl
      try simp only [List.getElem_toArray, List.getElem_cons_succ, List.getElem_cons_zero, Act.put, List.setIfInBounds_toArray, List.set_cons_zero, List.set_cons_succ]
      refine wpAnyF_takeT (i := 5) (v := ?_) rfl (by kernel_rfl) (by kernel_rfl) (by kernel_rfl) (by kernel_rfl) (by kernel_rfl) (by kernel_rfl) (fun _ _ _ h => h) (by rfl) ?_ hS ?_
      rotate_left
      · intro u hu
        try dsimp only at hu
        go_simp
        try with_reducible rfl
      try simp only [List.getElem_toArray, List.getElem_cons_succ, List.getElem_cons_zero, Act.put, List.setIfInBounds_toArray, List.set_cons_zero, List.set_cons_succ]
      refine wpAnyF_takeT (i := 6) (v := ?_) rfl (by kernel_rfl) (by kernel_rfl) (by kernel_rfl) (by kernel_rfl) (by kernel_rfl) (by kernel_rfl) (fun _ _ _ h => h) (by rfl) ?_ hS ?_
      rotate_left
      · intro u hu
        try dsimp only at hu
        go_simp
        try with_reducible rfl
      try simp only [List.getElem_toArray, List.getElem_cons_succ, List.getElem_cons_zero, Act.put, List.setIfInBounds_toArray, List.set_cons_zero, List.set_cons_succ]
      refine wpAnyF_step (i := 7) (by kernel_rfl) rfl (by rfl) fun K hK => ?_
      go_simp
      go_at_call 60
      refine (HST.out wr.drew (HLOW.out wr.drew (Chg.refl _ wr).drew)).mono ?_
      rintro r w6 ⟨A6, c6, b6, rfl, o6, n6, a6⟩
      unfold stV
      have HO6 := Lib.hid o6
      have N6 := Lib.hid (show Nw wr.drew w6 from n6)
      have HA6 := Lib.hid a6
      have hc36 : Chg (fun g => some g = bS) wr w6 := (Chg.refl (fun g => some g = bS) wr).drew.trans (Chg.of_below n6 (Nat.le_refl _) _) fun i _ q => q
      have HC36 := Lib.hid hc36
      clear o6 n6 a6 hc36
      refine hK _ _ (.inr (HS.out w6 HC36.out)) ?_
      clear hK K
      try simp only [List.getElem_toArray, List.getElem_cons_succ, List.getElem_cons_zero, Act.put, List.setIfInBounds_toArray, List.set_cons_zero, List.set_cons_succ]
      refine wpAnyF_step (i := 8) (by kernel_rfl) rfl (by rfl) fun K hK => ?_
      go_simp
      refine hK _ _ (.inr (HS.out _ (HC36.out.alloc _))) ?_
      clear hK K
      try simp only [List.getElem_toArray, List.getElem_cons_succ, List.getElem_cons_zero, Act.put, List.setIfInBounds_toArray, List.set_cons_zero, List.set_cons_succ]
      refine wpAnyF_step (i := 9) (by kernel_rfl) rfl (by rfl) fun K hK => ?_
      obtain ⟨w7, hw7⟩ : ∃ w7, (w6.alloc (.cells #[.slice A6 vl.length c6, .int .i64 0, .int .i64 0] 65)) = w7 := ⟨_, rfl⟩
      have n7 : Nw w6 w7 := by rw [← hw7]; exact (Nw.refl w6).alloc _
      have hb7 : Blk w7 w6.heap.size 65 #[.slice A6 vl.length c6, .int .i64 0, .int .i64 0] := by rw [← hw7]; exact Blk.last w6 _ _ rfl
      have hc67 : Chg (fun g => some g = bS) wr w7 := HC36.out.trans (Chg.of_below n7 (Nat.le_refl _) _) fun i _ q => q
      have o7 : Own w7 65 3 (.slice SA k SC) k sts bS := by
        have o6 := HI.out.sown.kept fun g hg => N6.out.block g (HI.out.sown.lt g hg)
        exact o6.kept fun g hg => n7.block g (o6.lt g hg)
      rw [hw7]
      have r7 : Rd w7 (some ⟨w6.heap.size, 0, none⟩) [.slice A6 vl.length c6, .int .i64 0, .int .i64 0] := .inr ⟨_, 0, rfl, fun j u hu => by
        rw [hb7.cell]
        rcases j with _ | _ | _ | j
        · simpa using hu
        · simpa using hu
        · simpa using hu
        · simp at hu⟩
      have N7 := Lib.hid n7
      clear hw7 n7 hb7
      refine wp_append_at w7 _ _ 39 rfl 65 iS _ 3 40 Try.underlying39 HI1.out HI2.out HI3.out HI4.out rfl (by omega) _ k sts bS rfl o7 _ 1 1 [.slice A6 vl.length c6, .int .i64 0, .int .i64 0] rfl rfl r7 (by intro u hu; simp at hu; rcases hu with rfl | rfl <;> rfl) (by simp only [maxLen]; omega) (by omega) ?_
      intro A8 c8 w8 b8 hown8 hchg8 hat8
      have HO8 := Lib.hid hown8
      have HA8 := Lib.hid hat8
      have HC8 := Lib.hid hchg8
      have hc38 : Chg (fun g => some g = bS) wr w8 := hc67.trans hchg8 fun i _ q => q
      have HC38 := Lib.hid hc38
      have hb8 := HI.out.box.chg hc38 HNB.out
      have f2 := hb8.frozen 2
      have d2 : w8.cell? ⟨RB, 2, none⟩ = some (.slice SA k SC) := hb8.cell 2
      clear hown8 hat8 hchg8 hc38 hc67 r7 o7 hb8
      have hS := HS.out w8 HC38.out
      refine hK _ _ (.inr (HS.out w8 HC38.out)) ?_
      clear hK K
      try simp only [List.getElem_toArray, List.getElem_cons_succ, List.getElem_cons_zero, Act.put, List.setIfInBounds_toArray, List.set_cons_zero, List.set_cons_succ]
      refine wpAnyF_step (i := 10) (by kernel_rfl) rfl (by rfl) fun K hK => ?_
      go_simp
      refine hK _ _ (.inr hS) ?_
      clear hK K
      try simp only [List.getElem_toArray, List.getElem_cons_succ, List.getElem_cons_zero, Act.put, List.setIfInBounds_toArray, List.set_cons_zero, List.set_cons_succ]
      refine wpAnyF_step (i := 11) (by kernel_rfl) rfl (by rfl) fun K hK => ?_
      go_simp
      refine hK _ _ (.inr hS) ?_
      clear hK K
      try simp only [List.getElem_toArray, List.getElem_cons_succ, List.getElem_cons_zero, Act.put, List.setIfInBounds_toArray, List.set_cons_zero, List.set_cons_succ]
      refine wpAnyF_step (i := 12) (by kernel_rfl) rfl (by rfl) fun K hK => ?_
      go_simp
      refine hK _ _ (.inl (by kernel_rfl)) ?_
      clear hK K
      try simp only [List.getElem_toArray, List.getElem_cons_succ, List.getElem_cons_zero, Act.put, List.setIfInBounds_toArray, List.set_cons_zero, List.set_cons_succ]
      refine wpAnyF_done (by kernel_rfl) ?_ _
      go_wp2_with fail
      go_roundw
      case rel =>
        have e := HVLS.out
        subst e
        have hlt := HLT.out
        have hnx := HI.out.next (w3 := w7) (w4 := w8) (HO6.out.kept fun g hg => N7.out.block g (HO6.out.lt g hg)) ((Nw.refl wr).drew.step N6.out |>.step N7.out) HA6.out HO8.out HC8.out
          (fun g e => (HA8.out).elim (fun q => .inl (q.symm.trans e)) fun q => .inr (by rw [q] at e; injection e with e; omega))
        exact ⟨k + 1, A8, c8, b8, _, by omega, by go_num, Lib.hid hnx⟩
      case measure => have := HLT.out; simp [intOf]; omega
    · have hkk : k = n := by omega
      have hL := HI.out
      rw [hkk] at hL
      have g4 : ¬ ((k : Int) + 1 ≤ (n : Int)) := by omega
      have x1 := hL.new.cell X1.out
      have b3 : wr.cell? ⟨RB, 3, none⟩ = some (.slice none 0 0) := hL.box.cell 3
      have f3 := hL.box.frozen 3
      have hfr : Rd wr fA (ints (rows m.first)) := ((HM.out.keep hL.new).first)
      have hrl : (ints (rows m.first)).length = f * 6 := by rw [ints_length, rows_length, HF.out]
      have HLD := Lib.hid hL
      have HFR := Lib.hid hfr
      have HRL := Lib.hid hrl
      have HS : Hid (∀ W, Nw wr W → W.cell? ⟨RB, 3, none⟩ = some (.slice none 0 0) ∧ W.cell? ⟨XB, 1, none⟩ = some (.slice fA f fc)) := Lib.hid fun W hW => ⟨hW.cell b3, hW.cell x1⟩
      clear HI hL hkk hfr hrl b3 x1
      go_upto_region 6 with (fail)
      clear x0
      refine wp_region_F (fun W => W.cell? ⟨RB, 3, none⟩ = some (.slice none 0 0) ∧ W.cell? ⟨XB, 1, none⟩ = some (.slice fA f fc)) [10] (by kernel_rfl) ?_
      have hS := HS.out wr.drew (Nw.refl wr).drew
      refine wpAnyF_takeT (i := 0) (v := ?_) rfl (by kernel_rfl) (by kernel_rfl) (by kernel_rfl) (by kernel_rfl) (by kernel_rfl) (by kernel_rfl) (fun _ _ _ h => h) (by rfl) ?_ hS ?_
      rotate_left
      · intro u hu
        try dsimp only at hu
        go_simp
        try with_reducible rfl
      try simp only [List.getElem_toArray, List.getElem_cons_succ, List.getElem_cons_zero, Act.put, List.setIfInBounds_toArray, List.set_cons_zero, List.set_cons_succ]
      refine wpAnyF_takeT (i := 1) (v := ?_) rfl (by kernel_rfl) (by kernel_rfl) (by kernel_rfl) (by kernel_rfl) (by kernel_rfl) (by kernel_rfl) (fun _ _ _ h => h) (by rfl) ?_ hS ?_
      rotate_left
      · intro u hu
        try dsimp only at hu
        go_simp
        try with_reducible rfl
      try simp only [List.getElem_toArray, List.getElem_cons_succ, List.getElem_cons_zero, Act.put, List.setIfInBounds_toArray, List.set_cons_zero, List.set_cons_succ]
      refine wpAnyF_takeT (i := 2) (v := ?_) rfl (by kernel_rfl) (by kernel_rfl) (by kernel_rfl) (by kernel_rfl) (by kernel_rfl) (by kernel_rfl) (fun _ _ _ h => h) (by rfl) ?_ hS ?_
      rotate_left
      · intro u hu
        try dsimp only at hu
        go_simp
        try with_reducible rfl
      try simp only [List.getElem_toArray, List.getElem_cons_succ, List.getElem_cons_zero, Act.put, List.setIfInBounds_toArray, List.set_cons_zero, List.set_cons_succ]
      refine wpAnyF_takeT (i := 3) (v := ?_) rfl (by kernel_rfl) (by kernel_rfl) (by kernel_rfl) (by kernel_rfl) (by kernel_rfl) (by kernel_rfl) (fun _ _ _ h => h) (by rfl) ?_ hS ?_
      rotate_left
      · intro u hu
        try dsimp only at hu
        go_simp
        try with_reducible rfl
      try simp only [List.getElem_toArray, List.getElem_cons_succ, List.getElem_cons_zero, Act.put, List.setIfInBounds_toArray, List.set_cons_zero, List.set_cons_succ]
      refine wpAnyF_takeT (i := 4) (v := ?_) rfl (by kernel_rfl) (by kernel_rfl) (by kernel_rfl) (by kernel_rfl) (by kernel_rfl) (by kernel_rfl) (fun _ _ _ h => h) (by rfl) ?_ hS ?_
      rotate_left
      · intro u hu
        try dsimp only at hu
        go_simp
        try with_reducible rfl
      try simp only [List.getElem_toArray, List.getElem_cons_succ, List.getElem_cons_zero, Act.put, List.setIfInBounds_toArray, List.set_cons_zero, List.set_cons_succ]
      refine wpAnyF_takeT (i := 5) (v := ?_) rfl (by kernel_rfl) (by kernel_rfl) (by kernel_rfl) (by kernel_rfl) (by kernel_rfl) (by kernel_rfl) (fun _ _ _ h => h) (by rfl) ?_ hS ?_
      rotate_left
      · intro u hu
        try dsimp only at hu
        go_simp
        try with_reducible rfl
      try simp only [List.getElem_toArray, List.getElem_cons_succ, List.getElem_cons_zero, Act.put, List.setIfInBounds_toArray, List.set_cons_zero, List.set_cons_succ]
      refine wpAnyF_takeT (i := 6) (v := ?_) rfl (by kernel_rfl) (by kernel_rfl) (by kernel_rfl) (by kernel_rfl) (by kernel_rfl) (by kernel_rfl) (fun _ _ _ h => h) (by rfl) ?_ hS ?_
      rotate_left
      · intro u hu
        try dsimp only at hu
        go_simp
        try with_reducible rfl
      try simp only [List.getElem_toArray, List.getElem_cons_succ, List.getElem_cons_zero, Act.put, List.setIfInBounds_toArray, List.set_cons_zero, List.set_cons_succ]
      refine wpAnyF_step (i := 7) (by kernel_rfl) rfl (by rfl) fun K hK => ?_
      refine wp_append_at wr.drew _ _ 23 rfl 44 iE _ 6 48 Try.underlying23 HE1.out HE2.out HE3.out HE4.out rfl (by omega) _ 0 [] none rfl (Own.nil _ _ _) _ f fc (ints (rows m.first)) rfl HRL.out HFR.out (ints_one _) (by simp only [maxLen]; omega) (by omega) ?_
      intro A8 c8 w8 b8 hown8 hchg8 hat8
      simp only [Nat.zero_add, List.nil_append] at hown8 ⊢
      have HO8 := Lib.hid hown8
      have hc8 : Chg (fun _ => False) wr w8 := ((Chg.refl (fun _ => False) wr).drew).trans (hchg8.mono fun i _ e => by cases e) fun i _ q => q
      have HC8 := Lib.hid hc8
      have HA8 : Hid (∀ g, b8 = some g → wr.heap.size ≤ g) := Lib.hid fun g e => by
        rcases hat8 with q | q
        · rw [q] at e; cases e
        · rw [q] at e; injection e with e; simp at e; omega
      have hn8 : Nw wr w8 := hc8.below (fun i _ q => q.elim) (Nat.le_refl _)
      have HN8 := Lib.hid hn8
      have hb8 := HLD.out.box.chg hc8 (fun q => q)
      have f3 := hb8.frozen 3
      have d3 : w8.cell? ⟨RB, 3, none⟩ = some (.slice none 0 0) := hb8.cell 3
      clear hown8 hchg8 hat8 hc8 hn8 hb8
      have hS := HS.out w8 HN8.out
      refine hK _ _ (.inr (HS.out w8 HN8.out)) ?_
      clear hK K
      try simp only [List.getElem_toArray, List.getElem_cons_succ, List.getElem_cons_zero, Act.put, List.setIfInBounds_toArray, List.set_cons_zero, List.set_cons_succ]
      refine wpAnyF_step (i := 8) (by kernel_rfl) rfl (by rfl) fun K hK => ?_
      go_simp
      refine hK _ _ (.inr hS) ?_
      clear hK K
      try simp only [List.getElem_toArray, List.getElem_cons_succ, List.getElem_cons_zero, Act.put, List.setIfInBounds_toArray, List.set_cons_zero, List.set_cons_succ]
      refine wpAnyF_step (i := 9) (by kernel_rfl) rfl (by rfl) fun K hK => ?_
      go_simp
      refine hK _ _ (.inr hS) ?_
      clear hK K
      try simp only [List.getElem_toArray, List.getElem_cons_succ, List.getElem_cons_zero, Act.put, List.setIfInBounds_toArray, List.set_cons_zero, List.set_cons_succ]
      refine wpAnyF_step (i := 10) (by kernel_rfl) rfl (by rfl) fun K hK => ?_
      go_simp
      refine hK _ _ (.inl (by kernel_rfl)) ?_
      clear hK K
      try simp only [List.getElem_toArray, List.getElem_cons_succ, List.getElem_cons_zero, Act.put, List.setIfInBounds_toArray, List.set_cons_zero, List.set_cons_succ]
      refine wpAnyF_done (by kernel_rfl) ?_ _
      go_wp2_with fail
      go_ret
      obtain ⟨r, q1, q2, q3, q4, q5, q6⟩ := RLaid.rseq (w0 := w1) (w := wr) (w' := w8) (m := m) (RB := RB) (by rw [HN.out]; exact HLD.out) HMAY.out (by rw [HF.out]; exact HO8.out) HC8.out HA8.out
      rw [HF.out] at q3 q4
      exact ⟨r, by rw [q1]; rfl, q2, q3, N1.out.step q4, fun g q => Nat.le_trans N1.out.size (q5 g q), q6⟩
end
end Go.Proofs.Ytgijkgngldfdiaa
