/- Behind a step of the document's sequence. Helper. -/
import Derived.Test.YtgijkgngldfdiaaSqG
namespace Go.Proofs.Ytgijkgngldfdiaa
open Go.RowKit
set_option linter.unusedVariables false
set_option linter.unusedSimpArgs false
theorem refCompare_any (a b : Ky) (w : World) :
    Calls Try.prog 14 #[.agg #[.int .i64 a.T, .int .i64 a.O, .int .i64 a.S], .agg #[.int .i64 b.T, .int .i64 b.O, .int .i64 b.S]] w fun e w' => e = .returned (.int .i64 (a.cmp b)) ∧ Below w.heap.size w w' := by
  have k1 := Lib.hid (fun W => refLess_any a b W)
  have k2 := Lib.hid (fun W => refLess_any b a W)
  unfold Ky.cmp
  obtain ⟨W2, hW2⟩ : ∃ W2, W2 = (w.alloc (.cells #[.int .i64 a.T, .int .i64 a.O, .int .i64 a.S] 38)).alloc (.cells #[.int .i64 b.T, .int .i64 b.O, .int .i64 b.S] 38) := ⟨_, rfl⟩
  have i0 : Nw w W2 := by rw [hW2]; exact ((Nw.refl w).alloc _).alloc _
  have u : Blk W2 w.heap.size 38 #[.int .i64 a.T, .int .i64 a.O, .int .i64 a.S] := by rw [hW2]; exact (Blk.last w _ _ rfl).alloc _
  have v : Blk W2 (w.heap.size + 1) 38 #[.int .i64 b.T, .int .i64 b.O, .int .i64 b.S] := by rw [hW2]; exact Blk.last _ _ _ (by simp)
  generalize a.less b = l1 at *
  generalize b.less a = l2 at *
  go_enter Try.func14, Try.ntmps14
  go_upto_region 1 with (fail)
  rw [← hW2]
  clear hW2
  generalize w.heap.size + 1 = gb at *
  have I0 := Lib.hid i0
  have U := Lib.hid u
  have V := Lib.hid v
  have u0 : W2.cell? ⟨w.heap.size, 0, none⟩ = some (.int .i64 a.T) := u.cell 0
  have u1 : W2.cell? ⟨w.heap.size, 1, none⟩ = some (.int .i64 a.O) := u.cell 1
  have u2 : W2.cell? ⟨w.heap.size, 2, none⟩ = some (.int .i64 a.S) := u.cell 2
  have v0 : W2.cell? ⟨gb, 0, none⟩ = some (.int .i64 b.T) := v.cell 0
  have v1 : W2.cell? ⟨gb, 1, none⟩ = some (.int .i64 b.O) := v.cell 1
  have v2 : W2.cell? ⟨gb, 2, none⟩ = some (.int .i64 b.S) := v.cell 2
  clear i0 u v
  cases l1 with
  | true =>
    go_wp2_with fail
    refine (k1.out _).mono ?_
    rintro e w1 ⟨rfl, b1⟩
    go_wp2_with fail
    go_ret
    exact ⟨rfl, I0.out.step b1⟩
  | false =>
    go_wp2_with fail
    refine (k1.out _).mono ?_
    rintro e w1 ⟨rfl, b1⟩
    have u' := U.out.below b1 U.out.lt
    have v' := V.out.below b1 V.out.lt
    have n1 := I0.out.step b1
    have N1 := Lib.hid n1
    clear u0 u1 u2 v0 v1 v2 b1 n1
    have u0 : w1.cell? ⟨w.heap.size, 0, none⟩ = some (.int .i64 a.T) := u'.cell 0
    have u1 : w1.cell? ⟨w.heap.size, 1, none⟩ = some (.int .i64 a.O) := u'.cell 1
    have u2 : w1.cell? ⟨w.heap.size, 2, none⟩ = some (.int .i64 a.S) := u'.cell 2
    have v0 : w1.cell? ⟨gb, 0, none⟩ = some (.int .i64 b.T) := v'.cell 0
    have v1 : w1.cell? ⟨gb, 1, none⟩ = some (.int .i64 b.O) := v'.cell 1
    have v2 : w1.cell? ⟨gb, 2, none⟩ = some (.int .i64 b.S) := v'.cell 2
    clear u' v'
    cases l2 with
    | true =>
      go_wp2_with fail
      refine (k2.out _).mono ?_
      rintro e w2 ⟨rfl, b2⟩
      go_wp2_with fail
      go_ret
      exact ⟨rfl, N1.out.step b2⟩
    | false =>
      go_wp2_with fail
      refine (k2.out _).mono ?_
      rintro e w2 ⟨rfl, b2⟩
      go_wp2_with fail
      go_ret
      exact ⟨rfl, N1.out.step b2⟩
/-- An event more. -/
theorem RSeq.more {w w1 w2 w4 w5 : World} {r : RMem} {m : Mdl} {s : Sq} {e : Ev} (h : RSeq w r m s) (he : m.putErr s e = 0) {uA' : Option Addr} {uc' : Nat} {bU' : Option Nat} {wA' : Option Addr} {wc' : Nat} {bW' : Option Nat}
    (c1 : Nw w w1) (c2 : Chg (fun g => some g = r.bU) w1 w2) (o2 : Own w2 2 1 (.slice uA' (s.put.length + 1) uc') (s.put.length + 1) (ints s.put ++ [.int .i64 e.k.S]) bU') (a2 : ∀ g, bU' = some g → r.bU = some g ∨ w1.heap.size ≤ g)
    (c4 : Nw (w2.setCell ⟨r.RB, 4, none⟩ (.slice uA' (s.put.length + 1) uc')) w4) (c5 : Chg (fun g => some g = r.bW) w4 w5) (o5 : Own w5 44 6 (.slice wA' (s.w.length + 1) wc') (s.w.length + 1) (ints (rows s.w) ++ ints e.row) bW') (a5 : ∀ g, bW' = some g → r.bW = some g ∨ w4.heap.size ≤ g)
    (hl : s.w.length ≤ 9000) (hp9 : s.put.length ≤ 9000) :
    ∃ r' : RMem, RSeq (w5.setCell ⟨r.RB, 3, none⟩ (.slice wA' (s.w.length + 1) wc')) r' m (s.add e) ∧ r'.RB = r.RB ∧ (r'.pA = r.pA ∧ r'.pc = r.pc) ∧ r'.U = r.U ∧ Chg r.T w (w5.setCell ⟨r.RB, 3, none⟩ (.slice wA' (s.w.length + 1) wc')) ∧ ∀ g, r'.T g → r.T g ∨ w.heap.size ≤ g := by
  have hne := h.ne
  obtain ⟨cur, hst, hsts⟩ := h.sts
  have s1 := c1.size
  have s2 := c2.size
  have s4 := c4.size
  have s3 : w2.heap.size = (w2.setCell ⟨r.RB, 4, none⟩ (.slice uA' (s.put.length + 1) uc')).heap.size := by simp [World.setCell]
  have s5 := c5.size
  have b1 := h.box.below c1 h.box.lt
  have b2 := b1.chg c2 (fun q => hne.2.2.1 q)
  have b3 := b2.set_ 4 (.slice uA' (s.put.length + 1) uc')
  have b4 := b3.below c4 b3.lt
  have b5 := b4.chg c5 (fun q => hne.2.1 q)
  have t1 := hst.below c1 hst.lt
  have t2 := t1.chg c2 (fun q => hne.2.2.2.2.1 q)
  have t3 := t2.far (show r.sB ≠ r.RB from fun q => hne.1 q.symm) (.slice uA' (s.put.length + 1) uc') (p := ⟨r.RB, 4, none⟩)
  have t4 := t3.below c4 t3.lt
  have t5 := t4.chg c5 (fun q => hne.2.2.2.1 q)
  have t6 := t5.far (show r.sB ≠ r.RB from fun q => hne.1 q.symm) (.slice wA' (s.w.length + 1) wc') (p := ⟨r.RB, 3, none⟩)
  have hc : Chg r.T w (w5.setCell ⟨r.RB, 3, none⟩ (.slice wA' (s.w.length + 1) wc')) := by
    refine Chg.setCell ?_ (p := ⟨r.RB, 3, none⟩) (.inl (.inl rfl)) _
    refine (Chg.trans ?_ (Chg.of_below c4 (Nat.le_refl _) (fun _ => False)) fun i _ q => q.elim).trans c5 fun i _ q => .inr (.inr (.inl q))
    refine Chg.setCell ?_ (p := ⟨r.RB, 4, none⟩) (.inl (.inl rfl)) _
    exact (Chg.of_below c1 (Nat.le_refl _) r.T).trans c2 fun i _ q => .inr (.inr (.inr q))
  let r' : RMem := { r with wA := wA', wc := wc', bW := bW', uA := uA', uc := uc', bU := bU' }
  have hT : ∀ g, r'.T g → r.T g ∨ w.heap.size ≤ g := fun g q => by
    rcases q with q | q | q | q
    · exact .inl (.inl q)
    · exact .inl (.inr (.inl q))
    · exact (a5 g q.symm).imp (fun e => .inr (.inr (.inl e.symm))) fun e => by omega
    · exact (a2 g q.symm).imp (fun e => .inr (.inr (.inr e.symm))) fun e => by omega
  have hok := put_ok h.ok he
  refine ⟨r', ⟨?_, ⟨cur, t6, fun i hi => ?_⟩, ?_, ?_, hok, ⟨h.few.1, ?_, ?_⟩, fun g q => Nat.lt_of_lt_of_le (h.low g q) hc.size, fun g q u => (hT g q).elim (fun q => h.dis g q u) fun q => absurd (h.low g u) (by omega)⟩, rfl, ⟨rfl, rfl⟩, rfl, hc, hT⟩
  · have b6 := b5.set_ 3 (.slice wA' (s.w.length + 1) wc')
    show Blk _ r.RB _ #[_, _, _, .slice wA' (s.w ++ [e]).length wc', .slice uA' (s.put ++ [e.k.S]).length uc', _, _]
    rw [List.length_append, List.length_append]
    exact b6
  · obtain ⟨a, c, g1, g2⟩ := hsts i hi
    exact ⟨a, c, g1, g2.keep hc.ownR (RMem.keepV rfl hT)⟩
  · show Own _ _ 6 (.slice wA' (s.w ++ [e]).length wc') (s.w ++ [e]).length (ints (rows (s.w ++ [e]))) bW'
    rw [List.length_append, rows_append, ints_append]
    have he6 : rows [e] = e.row := by simp [rows]
    rw [he6]
    exact o5.kept fun g hg => by
      obtain ⟨cs, hcs⟩ := o5.tyB g hg
      have hx : g ≠ r.RB := hcs.ne_ b5 (by decide)
      rw [Below.heap_setCell _ _ _ _ (by exact hx)]
  · show Own _ _ 1 (.slice uA' (s.put ++ [e.k.S]).length uc') (s.put ++ [e.k.S]).length (ints (s.put ++ [e.k.S])) bU'
    rw [List.length_append, ints_append]
    have o3 := o2.kept (w' := w2.setCell ⟨r.RB, 4, none⟩ (.slice uA' (s.put.length + 1) uc')) fun g hg => by
      obtain ⟨cs, hcs⟩ := o2.tyB g hg
      have hx : g ≠ r.RB := hcs.ne_ b2 (by decide)
      rw [Below.heap_setCell _ _ _ _ (by exact hx)]
    have o4 := o3.kept fun g hg => c4.block g (o3.lt g hg)
    have o5' := o4.kept fun g hg => c5.block g (o4.lt g hg) (fun q => by
      rcases a2 g hg with q2 | q2
      · exact hne.2.2.2.2.2 g q.symm q2
      · have := h.wown.lt g q.symm; omega)
    exact o5'.kept fun g hg => by
      obtain ⟨cs, hcs⟩ := o5'.tyB g hg
      have hx : g ≠ r.RB := hcs.ne_ b5 (by decide)
      rw [Below.heap_setCell _ _ _ _ (by exact hx)]
  · show (s.w ++ [e]).length ≤ 10000; simp; omega
  · show (s.put ++ [e.k.S]).length ≤ 10000; simp; omega
def InOut (w : World) (r : RMem) (m : Mdl) (s : Sq) (e : Ev) (x : Ending) (w' : World) : Prop :=
  x = .returned (.int .i64 (m.putErr s e)) ∧ ∃ r' : RMem, RSeq w' r' m (if m.putErr s e = 0 then s.add e else s) ∧ r'.RB = r.RB ∧ (r'.pA = r.pA ∧ r'.pc = r.pc) ∧ r'.U = r.U ∧ Chg r.T w w' ∧ ∀ g, r'.T g → r.T g ∨ w.heap.size ≤ g
theorem in_no {w w' : World} {r : RMem} {m : Mdl} {s : Sq} {e : Ev} (x : Int) (hx : m.putErr s e = x) (h0 : x ≠ 0) (h : RSeq w r m s) (hn : Nw w w') : InOut w r m s e (.returned (.int .i64 x)) w' :=
  ⟨by rw [hx], r, by rw [if_neg (by rw [hx]; exact h0)]; exact h.new hn, rfl, ⟨rfl, rfl⟩, rfl, Chg.of_below hn (Nat.le_refl _) _, fun g q => .inl q⟩
section
variable (r : RMem) (m : Mdl) (s : Sq) (e : Ev) (w : World)
set_option maxRecDepth 100000
set_option maxHeartbeats 6400000
theorem refIn_any (h : RSeq w r m s) (hl : s.w.length ≤ 9000) (hp9 : s.put.length ≤ 9000) :
    Calls Try.prog 16 #[.pointer (some ⟨r.RB, 0, none⟩), .agg #[.int .i64 e.k.T, .int .i64 e.k.O, .int .i64 e.k.S, .int .i64 e.p, .int .i64 e.q, .int .i64 e.d]] w (InOut w r m s e) := by
  obtain ⟨iE, he0, he1, he2, he3⟩ := info_parts infoEve
  obtain ⟨iI, hj0, hj1, hj2, hj3⟩ := info_parts info64
  have HE1 := Lib.hid he0
  have HE2 := Lib.hid he1
  have HE3 := Lib.hid he2
  have HE4 := Lib.hid he3
  have HI1 := Lib.hid hj0
  have HI2 := Lib.hid hj1
  have HI3 := Lib.hid hj2
  have HI4 := Lib.hid hj3
  clear he0 he1 he2 he3 hj0 hj1 hj2 hj3
  obtain ⟨w1, hw1⟩ : ∃ w1, w.alloc (.cells #[.int .i64 e.k.T, .int .i64 e.k.O, .int .i64 e.k.S, .int .i64 e.p, .int .i64 e.q, .int .i64 e.d] 44) = w1 := ⟨_, rfl⟩
  have n1 : Nw w w1 := by rw [← hw1]; exact (Nw.refl w).alloc _
  obtain ⟨EB, hEB⟩ : ∃ EB, w.heap.size = EB := ⟨_, rfl⟩
  have hbE : Blk w1 EB 44 #[.int .i64 e.k.T, .int .i64 e.k.O, .int .i64 e.k.S, .int .i64 e.p, .int .i64 e.q, .int .i64 e.d] := by rw [← hw1]; exact Blk.last w _ _ hEB
  have h1 := h.new n1
  obtain ⟨pl, hpl⟩ : ∃ pl, s.put = pl := ⟨_, rfl⟩
  obtain ⟨pn, hpn⟩ : ∃ pn, pl.length = pn := ⟨_, rfl⟩
  obtain ⟨wn, hwn⟩ : ∃ wn, s.w.length = wn := ⟨_, rfl⟩
  obtain ⟨N, hN⟩ : ∃ N, m.procs.length = N := ⟨_, rfl⟩
  obtain ⟨fl, hfl⟩ : ∃ fl, s.last.T = fl := ⟨_, rfl⟩
  have n16 := h.ok.may.n16
  rw [hN] at n16
  have b0 : w1.cell? ⟨r.RB, 0, none⟩ = some (.slice r.pA N r.pc) := by rw [← hN]; exact h1.box.cell 0
  have b3 : w1.cell? ⟨r.RB, 3, none⟩ = some (.slice r.wA wn r.wc) := by rw [← hwn]; exact h1.box.cell 3
  have b4 : w1.cell? ⟨r.RB, 4, none⟩ = some (.slice r.uA pn r.uc) := by rw [← hpn, ← hpl]; exact h1.box.cell 4
  have b6 : w1.cell? ⟨r.RB, 6, none⟩ = some (.int .i64 fl) := by rw [← hfl]; exact h1.box.cell 6
  have e0 : w1.cell? ⟨EB, 0, none⟩ = some (.int .i64 e.k.T) := hbE.cell 0
  have e1 : w1.cell? ⟨EB, 1, none⟩ = some (.int .i64 e.k.O) := hbE.cell 1
  have e2 : w1.cell? ⟨EB, 2, none⟩ = some (.int .i64 e.k.S) := hbE.cell 2
  have e3 : w1.cell? ⟨EB, 3, none⟩ = some (.int .i64 e.p) := hbE.cell 3
  have e4 : w1.cell? ⟨EB, 4, none⟩ = some (.int .i64 e.q) := hbE.cell 4
  have e5 : w1.cell? ⟨EB, 5, none⟩ = some (.int .i64 e.d) := hbE.cell 5
  have hrd : Rd w1 r.uA (ints pl) := by
    obtain ⟨_, _, ea, hrd, _, _⟩ := h1.uown.rd
    injection ea with e1 _ e3
    subst e1
    rw [hpl] at hrd
    exact hrd
  have HRD := Lib.hid hrd
  have hss : ∀ W, Nw w1 W → W.cell? ⟨r.RB, 0, none⟩ = some (.slice r.pA N r.pc) ∧ W.cell? ⟨r.RB, 4, none⟩ = some (.slice r.uA pn r.uc) ∧ W.cell? ⟨r.RB, 6, none⟩ = some (.int .i64 fl) ∧ W.cell? ⟨EB, 0, none⟩ = some (.int .i64 e.k.T) ∧ W.cell? ⟨EB, 1, none⟩ = some (.int .i64 e.k.O) ∧ W.cell? ⟨EB, 2, none⟩ = some (.int .i64 e.k.S) ∧ W.cell? ⟨EB, 3, none⟩ = some (.int .i64 e.p) ∧ W.cell? ⟨EB, 4, none⟩ = some (.int .i64 e.q) ∧ W.cell? ⟨EB, 5, none⟩ = some (.int .i64 e.d) :=
    fun W H => ⟨H.cell b0, H.cell b4, H.cell b6, H.cell e0, H.cell e1, H.cell e2, H.cell e3, H.cell e4, H.cell e5⟩
  have hpe : m.putErr s e = if MayB e.k.T e.k.O e.k.S e.p e.q e.d N && decide (e.k.O = 17) then (if pl.contains e.k.S then 7 else if e.k.T ≤ fl then 8 else 0) else 2 := by
    unfold Mdl.putErr Ev.may
    rw [hN, hpl, hfl]
  have HSS := Lib.hid hss
  have HKM := Lib.hid (fun W => refMay_any e.k.T e.k.O e.k.S e.p e.q e.d N W)
  obtain ⟨bm, hbm⟩ : ∃ bm, MayB e.k.T e.k.O e.k.S e.p e.q e.d N = bm := ⟨_, rfl⟩
  rw [hbm] at HKM hpe
  have HPE := Lib.hid hpe
  have HW1 := Lib.hid hw1
  have HEB := Lib.hid hEB
  have N1 := Lib.hid n1
  have H := Lib.hid h
  have HH1 := Lib.hid h1
  have HBE := Lib.hid hbE
  have HPL := Lib.hid hpl
  have HPN := Lib.hid hpn
  have HWN := Lib.hid hwn
  have HL := Lib.hid hl
  have HP9 := Lib.hid hp9
  have hpn9 : pn ≤ 9000 := by rw [← hpn, ← hpl]; exact hp9
  have hwn9 : wn ≤ 9000 := by rw [← hwn]; exact hl
  clear h hw1 hEB n1 h1 hbE hpl hpn hwn hN hfl hl hp9 hrd hss hpe hbm b0 b3 b4 b6 e0 e1 e2 e3 e4 e5
  cases bm with
  | false =>
    go_enter Try.func16, Try.ntmps16
    go_upto_region 1 with (fail)
    rw [HW1.out, HEB.out]
    refine wp_region_F (fun W => W.cell? ⟨r.RB, 0, none⟩ = some (.slice r.pA N r.pc) ∧ W.cell? ⟨r.RB, 4, none⟩ = some (.slice r.uA pn r.uc) ∧ W.cell? ⟨r.RB, 6, none⟩ = some (.int .i64 fl) ∧ W.cell? ⟨EB, 0, none⟩ = some (.int .i64 e.k.T) ∧ W.cell? ⟨EB, 1, none⟩ = some (.int .i64 e.k.O) ∧ W.cell? ⟨EB, 2, none⟩ = some (.int .i64 e.k.S) ∧ W.cell? ⟨EB, 3, none⟩ = some (.int .i64 e.p) ∧ W.cell? ⟨EB, 4, none⟩ = some (.int .i64 e.q) ∧ W.cell? ⟨EB, 5, none⟩ = some (.int .i64 e.d)) [14] (by kernel_rfl) ?_
    have hS := HSS.out w1.drew (Nw.refl w1).drew
    refine wpAnyF_takeT (i := 0) (v := ?_) rfl (by kernel_rfl) (by kernel_rfl) (by kernel_rfl) (by kernel_rfl) (by kernel_rfl) (by kernel_rfl) (fun _ _ _ h => h) (by rfl) ?_ hS ?_
    rotate_left
    · intro u hu
      try dsimp only at hu
      go_simp
      try with_reducible rfl
    try simp only [List.getElem_toArray, List.getElem_cons_succ, List.getElem_cons_zero, Act.put, List.setIfInBounds_toArray, List.set_cons_zero, List.set_cons_succ]
    refine wpAnyF_takeT (i := 1) (v := ?_) rfl (by kernel_rfl) (by kernel_rfl) (by kernel_rfl) (by kernel_rfl) (by kernel_rfl) (by kernel_rfl) (fun _ _ _ h => h) (by rfl) ?_ hS ?_
    rotate_left
    · intro u hu
      try dsimp only at hu
      go_simp
      try with_reducible rfl
    try simp only [List.getElem_toArray, List.getElem_cons_succ, List.getElem_cons_zero, Act.put, List.setIfInBounds_toArray, List.set_cons_zero, List.set_cons_succ]
    refine wpAnyF_takeT (i := 2) (v := ?_) rfl (by kernel_rfl) (by kernel_rfl) (by kernel_rfl) (by kernel_rfl) (by kernel_rfl) (by kernel_rfl) (fun _ _ _ h => h) (by rfl) ?_ hS ?_
    rotate_left
    · intro u hu
      try dsimp only at hu
      go_simp
      try with_reducible rfl
    try simp only [List.getElem_toArray, List.getElem_cons_succ, List.getElem_cons_zero, Act.put, List.setIfInBounds_toArray, List.set_cons_zero, List.set_cons_succ]
    refine wpAnyF_takeT (i := 3) (v := ?_) rfl (by kernel_rfl) (by kernel_rfl) (by kernel_rfl) (by kernel_rfl) (by kernel_rfl) (by kernel_rfl) (fun _ _ _ h => h) (by rfl) ?_ hS ?_
    rotate_left
    · intro u hu
      try dsimp only at hu
      go_simp
      try with_reducible rfl
    try simp only [List.getElem_toArray, List.getElem_cons_succ, List.getElem_cons_zero, Act.put, List.setIfInBounds_toArray, List.set_cons_zero, List.set_cons_succ]
    refine wpAnyF_takeT (i := 4) (v := ?_) rfl (by kernel_rfl) (by kernel_rfl) (by kernel_rfl) (by kernel_rfl) (by kernel_rfl) (by kernel_rfl) (fun _ _ _ h => h) (by rfl) ?_ hS ?_
    rotate_left
    · intro u hu
      try dsimp only at hu
      go_simp
      try with_reducible rfl
    try simp only [List.getElem_toArray, List.getElem_cons_succ, List.getElem_cons_zero, Act.put, List.setIfInBounds_toArray, List.set_cons_zero, List.set_cons_succ]
    refine wpAnyF_takeT (i := 5) (v := ?_) rfl (by kernel_rfl) (by kernel_rfl) (by kernel_rfl) (by kernel_rfl) (by kernel_rfl) (by kernel_rfl) (fun _ _ _ h => h) (by rfl) ?_ hS ?_
    rotate_left
    · intro u hu
      try dsimp only at hu
      go_simp
      try with_reducible rfl
    try simp only [List.getElem_toArray, List.getElem_cons_succ, List.getElem_cons_zero, Act.put, List.setIfInBounds_toArray, List.set_cons_zero, List.set_cons_succ]
    refine wpAnyF_takeT (i := 6) (v := ?_) rfl (by kernel_rfl) (by kernel_rfl) (by kernel_rfl) (by kernel_rfl) (by kernel_rfl) (by kernel_rfl) (fun _ _ _ h => h) (by rfl) ?_ hS ?_
    rotate_left
    · intro u hu
      try dsimp only at hu
      go_simp
      try with_reducible rfl
    try simp only [List.getElem_toArray, List.getElem_cons_succ, List.getElem_cons_zero, Act.put, List.setIfInBounds_toArray, List.set_cons_zero, List.set_cons_succ]
    refine wpAnyF_step (i := 7) (by kernel_rfl) rfl (by rfl) fun K hK => ?_
    go_simp
    go_at_call 29
    refine (HKM.out _).mono ?_
    rintro x w3 ⟨rfl, b3⟩
    have N3 := Lib.hid (show Nw w1 w3 from (Nw.refl w1).drew.step b3)
    clear b3
    have hS := HSS.out w3 N3.out
    refine hK _ _ (.inr (HSS.out w3 N3.out)) ?_
    clear hK K
    try simp only [List.getElem_toArray, List.getElem_cons_succ, List.getElem_cons_zero, Act.put, List.setIfInBounds_toArray, List.set_cons_zero, List.set_cons_succ]
    refine wpAnyF_step (i := 8) (by kernel_rfl) rfl (by rfl) fun K hK => ?_
    go_simp
    refine hK _ _ (.inr hS) ?_
    clear hK K
    try simp only [List.getElem_toArray, List.getElem_cons_succ, List.getElem_cons_zero, Act.put, List.setIfInBounds_toArray, List.set_cons_zero, List.set_cons_succ]
    refine wpAnyF_step (i := 9) (by kernel_rfl) rfl (by rfl) fun K hK => ?_
    go_simp
    refine hK _ _ (.inr hS) ?_
    clear hK K
    try simp only [List.getElem_toArray, List.getElem_cons_succ, List.getElem_cons_zero, Act.put, List.setIfInBounds_toArray, List.set_cons_zero, List.set_cons_succ]
    refine wpAnyF_leaveT (i := 10) rfl (by kernel_rfl) (by kernel_rfl) (by kernel_rfl) (by kernel_rfl) (by kernel_rfl) (fun _ _ _ h => h) (by rfl) hS ?_
    try simp only [List.getElem_toArray, List.getElem_cons_succ, List.getElem_cons_zero, Act.put, List.setIfInBounds_toArray, List.set_cons_zero, List.set_cons_succ]
    refine wpAnyF_leaveT (i := 11) rfl (by kernel_rfl) (by kernel_rfl) (by kernel_rfl) (by kernel_rfl) (by kernel_rfl) (fun _ _ _ h => h) (by rfl) hS ?_
    try simp only [List.getElem_toArray, List.getElem_cons_succ, List.getElem_cons_zero, Act.put, List.setIfInBounds_toArray, List.set_cons_zero, List.set_cons_succ]
    refine wpAnyF_leaveT (i := 12) rfl (by kernel_rfl) (by kernel_rfl) (by kernel_rfl) (by kernel_rfl) (by kernel_rfl) (fun _ _ _ h => h) (by rfl) hS ?_
    try simp only [List.getElem_toArray, List.getElem_cons_succ, List.getElem_cons_zero, Act.put, List.setIfInBounds_toArray, List.set_cons_zero, List.set_cons_succ]
    refine wpAnyF_leaveT (i := 13) rfl (by kernel_rfl) (by kernel_rfl) (by kernel_rfl) (by kernel_rfl) (by kernel_rfl) (fun _ _ _ h => h) (by rfl) hS ?_
    try simp only [List.getElem_toArray, List.getElem_cons_succ, List.getElem_cons_zero, Act.put, List.setIfInBounds_toArray, List.set_cons_zero, List.set_cons_succ]
    refine wpAnyF_step (i := 14) (by kernel_rfl) rfl (by rfl) fun K hK => ?_
    go_simp
    refine hK _ _ (.inl (by kernel_rfl)) ?_
    clear hK K
    try simp only [List.getElem_toArray, List.getElem_cons_succ, List.getElem_cons_zero, Act.put, List.setIfInBounds_toArray, List.set_cons_zero, List.set_cons_succ]
    refine wpAnyF_done (by kernel_rfl) ?_ _
    go_wp2_with fail
    go_ret
    exact in_no 2 (by rw [HPE.out]; rfl) (by decide) H.out (N1.out.step N3.out)
  | true =>
    by_cases ho : e.k.O = 17
    · have g5 : (e.k.O == 17) = true := beq_iff_eq.2 ho
      have HO := Lib.hid ho
      clear ho
      go_enter Try.func16, Try.ntmps16
      go_upto_region 1 with (fail)
      rw [HW1.out, HEB.out]
      refine wp_region_F (fun W => W.cell? ⟨r.RB, 0, none⟩ = some (.slice r.pA N r.pc) ∧ W.cell? ⟨r.RB, 4, none⟩ = some (.slice r.uA pn r.uc) ∧ W.cell? ⟨r.RB, 6, none⟩ = some (.int .i64 fl) ∧ W.cell? ⟨EB, 0, none⟩ = some (.int .i64 e.k.T) ∧ W.cell? ⟨EB, 1, none⟩ = some (.int .i64 e.k.O) ∧ W.cell? ⟨EB, 2, none⟩ = some (.int .i64 e.k.S) ∧ W.cell? ⟨EB, 3, none⟩ = some (.int .i64 e.p) ∧ W.cell? ⟨EB, 4, none⟩ = some (.int .i64 e.q) ∧ W.cell? ⟨EB, 5, none⟩ = some (.int .i64 e.d)) [14] (by kernel_rfl) ?_
      have hS := HSS.out w1.drew (Nw.refl w1).drew
      refine wpAnyF_takeT (i := 0) (v := ?_) rfl (by kernel_rfl) (by kernel_rfl) (by kernel_rfl) (by kernel_rfl) (by kernel_rfl) (by kernel_rfl) (fun _ _ _ h => h) (by rfl) ?_ hS ?_
      rotate_left
      · intro u hu
        try dsimp only at hu
        go_simp
        try with_reducible rfl
      try simp only [List.getElem_toArray, List.getElem_cons_succ, List.getElem_cons_zero, Act.put, List.setIfInBounds_toArray, List.set_cons_zero, List.set_cons_succ]
      refine wpAnyF_takeT (i := 1) (v := ?_) rfl (by kernel_rfl) (by kernel_rfl) (by kernel_rfl) (by kernel_rfl) (by kernel_rfl) (by kernel_rfl) (fun _ _ _ h => h) (by rfl) ?_ hS ?_
      rotate_left
      · intro u hu
        try dsimp only at hu
        go_simp
        try with_reducible rfl
      try simp only [List.getElem_toArray, List.getElem_cons_succ, List.getElem_cons_zero, Act.put, List.setIfInBounds_toArray, List.set_cons_zero, List.set_cons_succ]
      refine wpAnyF_takeT (i := 2) (v := ?_) rfl (by kernel_rfl) (by kernel_rfl) (by kernel_rfl) (by kernel_rfl) (by kernel_rfl) (by kernel_rfl) (fun _ _ _ h => h) (by rfl) ?_ hS ?_
      rotate_left
      · intro u hu
        try dsimp only at hu
        go_simp
        try with_reducible rfl
      try simp only [List.getElem_toArray, List.getElem_cons_succ, List.getElem_cons_zero, Act.put, List.setIfInBounds_toArray, List.set_cons_zero, List.set_cons_succ]
      refine wpAnyF_takeT (i := 3) (v := ?_) rfl (by kernel_rfl) (by kernel_rfl) (by kernel_rfl) (by kernel_rfl) (by kernel_rfl) (by kernel_rfl) (fun _ _ _ h => h) (by rfl) ?_ hS ?_
      rotate_left
      · intro u hu
        try dsimp only at hu
        go_simp
        try with_reducible rfl
      try simp only [List.getElem_toArray, List.getElem_cons_succ, List.getElem_cons_zero, Act.put, List.setIfInBounds_toArray, List.set_cons_zero, List.set_cons_succ]
      refine wpAnyF_takeT (i := 4) (v := ?_) rfl (by kernel_rfl) (by kernel_rfl) (by kernel_rfl) (by kernel_rfl) (by kernel_rfl) (by kernel_rfl) (fun _ _ _ h => h) (by rfl) ?_ hS ?_
      rotate_left
      · intro u hu
        try dsimp only at hu
        go_simp
        try with_reducible rfl
      try simp only [List.getElem_toArray, List.getElem_cons_succ, List.getElem_cons_zero, Act.put, List.setIfInBounds_toArray, List.set_cons_zero, List.set_cons_succ]
      refine wpAnyF_takeT (i := 5) (v := ?_) rfl (by kernel_rfl) (by kernel_rfl) (by kernel_rfl) (by kernel_rfl) (by kernel_rfl) (by kernel_rfl) (fun _ _ _ h => h) (by rfl) ?_ hS ?_
      rotate_left
      · intro u hu
        try dsimp only at hu
        go_simp
        try with_reducible rfl
      try simp only [List.getElem_toArray, List.getElem_cons_succ, List.getElem_cons_zero, Act.put, List.setIfInBounds_toArray, List.set_cons_zero, List.set_cons_succ]
      refine wpAnyF_takeT (i := 6) (v := ?_) rfl (by kernel_rfl) (by kernel_rfl) (by kernel_rfl) (by kernel_rfl) (by kernel_rfl) (by kernel_rfl) (fun _ _ _ h => h) (by rfl) ?_ hS ?_
      rotate_left
      · intro u hu
        try dsimp only at hu
        go_simp
        try with_reducible rfl
      try simp only [List.getElem_toArray, List.getElem_cons_succ, List.getElem_cons_zero, Act.put, List.setIfInBounds_toArray, List.set_cons_zero, List.set_cons_succ]
      refine wpAnyF_step (i := 7) (by kernel_rfl) rfl (by rfl) fun K hK => ?_
      go_simp
      go_at_call 29
      refine (HKM.out _).mono ?_
      rintro x w3 ⟨rfl, b3⟩
      have N3 := Lib.hid (show Nw w1 w3 from (Nw.refl w1).drew.step b3)
      clear b3
      have hS := HSS.out w3 N3.out
      refine hK _ _ (.inr (HSS.out w3 N3.out)) ?_
      clear hK K
      try simp only [List.getElem_toArray, List.getElem_cons_succ, List.getElem_cons_zero, Act.put, List.setIfInBounds_toArray, List.set_cons_zero, List.set_cons_succ]
      refine wpAnyF_step (i := 8) (by kernel_rfl) rfl (by rfl) fun K hK => ?_
      go_simp
      refine hK _ _ (.inr hS) ?_
      clear hK K
      try simp only [List.getElem_toArray, List.getElem_cons_succ, List.getElem_cons_zero, Act.put, List.setIfInBounds_toArray, List.set_cons_zero, List.set_cons_succ]
      refine wpAnyF_step (i := 9) (by kernel_rfl) rfl (by rfl) fun K hK => ?_
      go_simp
      refine hK _ _ (.inr hS) ?_
      clear hK K
      try simp only [List.getElem_toArray, List.getElem_cons_succ, List.getElem_cons_zero, Act.put, List.setIfInBounds_toArray, List.set_cons_zero, List.set_cons_succ]
      refine wpAnyF_takeT (i := 10) (v := ?_) rfl (by kernel_rfl) (by kernel_rfl) (by kernel_rfl) (by kernel_rfl) (by kernel_rfl) (by kernel_rfl) (fun _ _ _ h => h) (by rfl) ?_ hS ?_
      rotate_left
      · intro u hu
        try dsimp only at hu
        go_simp
        try with_reducible rfl
      try simp only [List.getElem_toArray, List.getElem_cons_succ, List.getElem_cons_zero, Act.put, List.setIfInBounds_toArray, List.set_cons_zero, List.set_cons_succ]
      refine wpAnyF_takeT (i := 11) (v := ?_) rfl (by kernel_rfl) (by kernel_rfl) (by kernel_rfl) (by kernel_rfl) (by kernel_rfl) (by kernel_rfl) (fun _ _ _ h => h) (by rfl) ?_ hS ?_
      rotate_left
      · intro u hu
        try dsimp only at hu
        go_simp
        try with_reducible rfl
      try simp only [List.getElem_toArray, List.getElem_cons_succ, List.getElem_cons_zero, Act.put, List.setIfInBounds_toArray, List.set_cons_zero, List.set_cons_succ]
      refine wpAnyF_takeT (i := 12) (v := ?_) rfl (by kernel_rfl) (by kernel_rfl) (by kernel_rfl) (by kernel_rfl) (by kernel_rfl) (by kernel_rfl) (fun _ _ _ h => h) (by rfl) ?_ hS ?_
      rotate_left
      · intro u hu
        try dsimp only at hu
        go_simp
        try with_reducible rfl
      try simp only [List.getElem_toArray, List.getElem_cons_succ, List.getElem_cons_zero, Act.put, List.setIfInBounds_toArray, List.set_cons_zero, List.set_cons_succ]
      refine wpAnyF_takeT (i := 13) (v := ?_) rfl (by kernel_rfl) (by kernel_rfl) (by kernel_rfl) (by kernel_rfl) (by kernel_rfl) (by kernel_rfl) (fun _ _ _ h => h) (by rfl) ?_ hS ?_
      rotate_left
      · intro u hu
        try dsimp only at hu
        go_simp
        try with_reducible rfl
      try simp only [List.getElem_toArray, List.getElem_cons_succ, List.getElem_cons_zero, Act.put, List.setIfInBounds_toArray, List.set_cons_zero, List.set_cons_succ]
      refine wpAnyF_step (i := 14) (by kernel_rfl) rfl (by rfl) fun K hK => ?_
      go_simp
      refine hK _ _ (.inl (by kernel_rfl)) ?_
      clear hK K
      try simp only [List.getElem_toArray, List.getElem_cons_succ, List.getElem_cons_zero, Act.put, List.setIfInBounds_toArray, List.set_cons_zero, List.set_cons_succ]
      refine wpAnyF_done (by kernel_rfl) ?_ _
      go_wp2_with fail
      go_loopw [5] (fun i wr => ∃ k : Nat, k ≤ pn ∧ i = .int .i64 k ∧ Hid (Nw w1 wr ∧ ∀ j (hj : j < pl.length), j < k → pl[j] ≠ e.k.S)) (fun i _ => pn - (intOf i).toNat)
      case atStart => exact ⟨0, Nat.zero_le _, rfl, Lib.hid ⟨N3.out, fun j hj h => by omega⟩⟩
      case round =>
        obtain ⟨k, hk, rfl, HI⟩ := hrel
        obtain ⟨b0, b4, b6, e0, e1, e2, e3, e4, e5⟩ := HSS.out wr HI.out.1
        by_cases hlt : k < pn
        · have hlt' : k < pl.length := by rw [HPN.out]; exact hlt
          obtain ⟨ub, uo, eu, uc0⟩ := ints_at (HRD.out.keep fun p hp => Below.cell HI.out.1 hp) hlt'
          have g4 : (k : Int) < (pn : Int) := by omega
          rw [eu] at b4
          obtain ⟨x, hx⟩ : ∃ x, pl[k] = x := ⟨_, rfl⟩
          have uc1 := uc0 k hlt'
          rw [List.getD_eq_getElem?_getD, List.getElem?_eq_getElem hlt', Option.getD_some, hx] at uc1
          clear uc0
          have HX := Lib.hid hx
          have HEU := Lib.hid eu
          clear hx eu
          by_cases hxs : x = e.k.S
          · have g6 : (x == e.k.S) = true := beq_iff_eq.2 hxs
            have g7 : decide (x = e.k.S) = true := decide_eq_true hxs
            have HXS := Lib.hid hxs
            clear hxs
            go_wp2_with fail
            go_quiet (fail)
            go_wp2_with fail
            go_ret
            exact in_no 7 (by rw [HPE.out, show pl.contains e.k.S = true from by rw [List.contains_iff_mem, ← HXS.out, ← HX.out]; exact List.getElem_mem hlt']; simp [HO.out]) (by decide) H.out (Below.many (N1.out.step HI.out.1) _)
          · have g6 : (x == e.k.S) = false := beq_eq_false_iff_ne.2 hxs
            have g7 : decide (x = e.k.S) = false := decide_eq_false hxs
            have HXS := Lib.hid hxs
            clear hxs
            go_wp2_with fail
            go_quiet (fail)
            go_wp2_with fail
            go_roundw
            case rel => exact ⟨k + 1, by omega, by go_num, Lib.hid ⟨Below.many HI.out.1 _, fun j hj h => by
              by_cases e' : j = k
              · subst e'; rw [HX.out]; exact HXS.out
              · exact HI.out.2 j hj (by omega)⟩⟩
            case measure => simp [intOf]; omega
        · have g4 : ¬ (k : Int) < (pn : Int) := by omega
          have hnc : pl.contains e.k.S = false := by
            cases hcc : pl.contains e.k.S with
            | false => rfl
            | true =>
              rw [List.contains_iff_mem] at hcc
              obtain ⟨j, hj, hje⟩ := List.getElem_of_mem hcc
              exact absurd hje (HI.out.2 j hj (by have := HPN.out; omega))
          have HNC := Lib.hid hnc
          have NR := Lib.hid HI.out.1
          clear hnc HI
          by_cases hT : e.k.T ≤ fl
          · have g6 : decide (e.k.T ≤ fl) = true := decide_eq_true hT
            go_wp2_with fail
            go_quiet (fail)
            go_wp2_with fail
            go_ret
            exact in_no 8 (by rw [HPE.out, HNC.out]; simp [HO.out, hT]) (by decide) H.out (Below.many (N1.out.step NR.out) _)
          · have g6 : decide (e.k.T ≤ fl) = false := decide_eq_false hT
            have HT := Lib.hid hT
            clear hT
            go_wp2_with fail
            go_quiet (fail)
            go_upto_region 10 with (fail)
            obtain ⟨w2, hw2⟩ : ∃ w2, wr.drewN nq = w2 := ⟨_, rfl⟩
            have N2 := Lib.hid (show Nw w1 w2 from by rw [← hw2]; exact Below.many NR.out _)
            rw [hw2]
            clear hw2 b0 b4 b6 e0 e1 e2 e3 e4 e5
            have HB2 := Lib.hid (HH1.out.box.below N2.out HH1.out.box.lt)
            have hs2 : ∀ W, Chg (fun g => some g = r.bU) w2 W → W.cell? ⟨r.RB, 4, none⟩ = some (.slice r.uA pn r.uc) ∧ W.cell? ⟨EB, 2, none⟩ = some (.int .i64 e.k.S) := fun W hW => by
              have hb := HB2.out.chg hW (fun q => HH1.out.ne.2.2.1 q)
              have hE := (HBE.out.below N2.out HBE.out.lt).chg hW (fun q => by have := H.out.uown.lt EB q.symm; have := HEB.out; omega)
              refine ⟨?_, hE.cell 2⟩
              rw [← HPN.out, ← HPL.out]; exact hb.cell 4
            have HS2 := Lib.hid hs2
            have HOU := Lib.hid (HH1.out.uown.kept fun g hg => N2.out.block g (HH1.out.uown.lt g hg))
            rw [HPL.out, HPN.out] at HOU
            clear hs2
            refine wp_region_F (fun W => W.cell? ⟨r.RB, 4, none⟩ = some (.slice r.uA pn r.uc) ∧ W.cell? ⟨EB, 2, none⟩ = some (.int .i64 e.k.S)) [12] (by kernel_rfl) ?_
            have hS := HS2.out w2.drew (Chg.refl _ w2).drew
            refine wpAnyF_takeT (i := 0) (v := ?_) rfl (by kernel_rfl) (by kernel_rfl) (by kernel_rfl) (by kernel_rfl) (by kernel_rfl) (by kernel_rfl) (fun _ _ _ h => h) (by rfl) ?_ hS ?_
            rotate_left
            · intro u hu
              try dsimp only at hu
              go_simp
              try with_reducible rfl
            try simp only [List.getElem_toArray, List.getElem_cons_succ, List.getElem_cons_zero, Act.put, List.setIfInBounds_toArray, List.set_cons_zero, List.set_cons_succ]
            refine wpAnyF_takeT (i := 1) (v := ?_) rfl (by kernel_rfl) (by kernel_rfl) (by kernel_rfl) (by kernel_rfl) (by kernel_rfl) (by kernel_rfl) (fun _ _ _ h => h) (by rfl) ?_ hS ?_
            rotate_left
            · intro u hu
              try dsimp only at hu
              go_simp
              try with_reducible rfl
            try simp only [List.getElem_toArray, List.getElem_cons_succ, List.getElem_cons_zero, Act.put, List.setIfInBounds_toArray, List.set_cons_zero, List.set_cons_succ]
            refine wpAnyF_takeT (i := 2) (v := ?_) rfl (by kernel_rfl) (by kernel_rfl) (by kernel_rfl) (by kernel_rfl) (by kernel_rfl) (by kernel_rfl) (fun _ _ _ h => h) (by rfl) ?_ hS ?_
            rotate_left
            · intro u hu
              try dsimp only at hu
              go_simp
              try with_reducible rfl
            try simp only [List.getElem_toArray, List.getElem_cons_succ, List.getElem_cons_zero, Act.put, List.setIfInBounds_toArray, List.set_cons_zero, List.set_cons_succ]
            refine wpAnyF_takeT (i := 3) (v := ?_) rfl (by kernel_rfl) (by kernel_rfl) (by kernel_rfl) (by kernel_rfl) (by kernel_rfl) (by kernel_rfl) (fun _ _ _ h => h) (by rfl) ?_ hS ?_
            rotate_left
            · intro u hu
              try dsimp only at hu
              go_simp
              try with_reducible rfl
            try simp only [List.getElem_toArray, List.getElem_cons_succ, List.getElem_cons_zero, Act.put, List.setIfInBounds_toArray, List.set_cons_zero, List.set_cons_succ]
            refine wpAnyF_takeT (i := 4) (v := ?_) rfl (by kernel_rfl) (by kernel_rfl) (by kernel_rfl) (by kernel_rfl) (by kernel_rfl) (by kernel_rfl) (fun _ _ _ h => h) (by rfl) ?_ hS ?_
            rotate_left
            · intro u hu
              try dsimp only at hu
              go_simp
              try with_reducible rfl
            try simp only [List.getElem_toArray, List.getElem_cons_succ, List.getElem_cons_zero, Act.put, List.setIfInBounds_toArray, List.set_cons_zero, List.set_cons_succ]
            refine wpAnyF_takeT (i := 5) (v := ?_) rfl (by kernel_rfl) (by kernel_rfl) (by kernel_rfl) (by kernel_rfl) (by kernel_rfl) (by kernel_rfl) (fun _ _ _ h => h) (by rfl) ?_ hS ?_
            rotate_left
            · intro u hu
              try dsimp only at hu
              go_simp
              try with_reducible rfl
            try simp only [List.getElem_toArray, List.getElem_cons_succ, List.getElem_cons_zero, Act.put, List.setIfInBounds_toArray, List.set_cons_zero, List.set_cons_succ]
            refine wpAnyF_takeT (i := 6) (v := ?_) rfl (by kernel_rfl) (by kernel_rfl) (by kernel_rfl) (by kernel_rfl) (by kernel_rfl) (by kernel_rfl) (fun _ _ _ h => h) (by rfl) ?_ hS ?_
            rotate_left
            · intro u hu
              try dsimp only at hu
              go_simp
              try with_reducible rfl
            try simp only [List.getElem_toArray, List.getElem_cons_succ, List.getElem_cons_zero, Act.put, List.setIfInBounds_toArray, List.set_cons_zero, List.set_cons_succ]
            refine wpAnyF_takeT (i := 7) (v := ?_) rfl (by kernel_rfl) (by kernel_rfl) (by kernel_rfl) (by kernel_rfl) (by kernel_rfl) (by kernel_rfl) (fun _ _ _ h => h) (by rfl) ?_ hS ?_
            rotate_left
            · intro u hu
              try dsimp only at hu
              go_simp
              try with_reducible rfl
            try simp only [List.getElem_toArray, List.getElem_cons_succ, List.getElem_cons_zero, Act.put, List.setIfInBounds_toArray, List.set_cons_zero, List.set_cons_succ]
            refine wpAnyF_step (i := 8) (by kernel_rfl) rfl (by rfl) fun K hK => ?_
            go_simp
            refine hK _ _ (.inr (HS2.out _ ((Chg.refl _ w2).drew.alloc _))) ?_
            clear hK K
            try simp only [List.getElem_toArray, List.getElem_cons_succ, List.getElem_cons_zero, Act.put, List.setIfInBounds_toArray, List.set_cons_zero, List.set_cons_succ]
            refine wpAnyF_step (i := 9) (by kernel_rfl) rfl (by rfl) fun K hK => ?_
            obtain ⟨w2a, hw2a⟩ : ∃ w2a, (w2.alloc (.cells #[.int .i64 e.k.S] 2)).drew = w2a := ⟨_, rfl⟩
            have n2a : Nw w2 w2a := by rw [← hw2a]; exact ((Nw.refl w2).alloc _).drew
            have hb2a : Blk w2a w2.heap.size 2 #[.int .i64 e.k.S] := by rw [← hw2a]; exact (Blk.last w2 _ _ rfl).drew
            have o2a := HOU.out.kept fun g hg => n2a.block g (HOU.out.lt g hg)
            rw [hw2a]
            have r2a : Rd w2a (some ⟨w2.heap.size, 0, none⟩) [.int .i64 e.k.S] := .inr ⟨_, 0, rfl, fun j u hu => by
              rw [hb2a.cell]
              rcases j with _ | j
              · simpa using hu
              · simp at hu⟩
            have N2A := Lib.hid n2a
            clear hw2a n2a hb2a
            refine wp_append_at w2a _ _ 40 rfl 2 iI _ 1 8 Try.underlying40 HI1.out HI2.out HI3.out HI4.out rfl (by omega) _ pn (ints pl) r.bU rfl o2a _ 1 1 [.int .i64 e.k.S] rfl rfl r2a (by intro u hu; simp at hu; subst hu; rfl) (by simp only [maxLen]; omega) (by omega) ?_
            intro A3 c3 w3 b3 hown3 hchg3 hat3
            have HO3 := Lib.hid hown3
            have HA3 := Lib.hid hat3
            have HC3A := Lib.hid hchg3
            have hc3 : Chg (fun g => some g = r.bU) w2 w3 := (Chg.of_below N2A.out (Nat.le_refl _) _).trans hchg3 fun i _ q => q
            have HC3 := Lib.hid hc3
            have hb3 := HB2.out.chg hc3 (fun q => HH1.out.ne.2.2.1 q)
            have f4 := hb3.frozen 4
            have d4 : w3.cell? ⟨r.RB, 4, none⟩ = some (.slice r.uA pn r.uc) := (HS2.out w3 hc3).1
            clear hown3 hat3 hchg3 hc3 r2a o2a hb3
            have hS := HS2.out w3 HC3.out
            refine hK _ _ (.inr (HS2.out w3 HC3.out)) ?_
            clear hK K
            try simp only [List.getElem_toArray, List.getElem_cons_succ, List.getElem_cons_zero, Act.put, List.setIfInBounds_toArray, List.set_cons_zero, List.set_cons_succ]
            refine wpAnyF_step (i := 10) (by kernel_rfl) rfl (by rfl) fun K hK => ?_
            go_simp
            refine hK _ _ (.inr hS) ?_
            clear hK K
            try simp only [List.getElem_toArray, List.getElem_cons_succ, List.getElem_cons_zero, Act.put, List.setIfInBounds_toArray, List.set_cons_zero, List.set_cons_succ]
            refine wpAnyF_step (i := 11) (by kernel_rfl) rfl (by rfl) fun K hK => ?_
            go_simp
            refine hK _ _ (.inr hS) ?_
            clear hK K
            try simp only [List.getElem_toArray, List.getElem_cons_succ, List.getElem_cons_zero, Act.put, List.setIfInBounds_toArray, List.set_cons_zero, List.set_cons_succ]
            refine wpAnyF_step (i := 12) (by kernel_rfl) rfl (by rfl) fun K hK => ?_
            go_simp
            refine hK _ _ (.inl (by kernel_rfl)) ?_
            clear hK K
            try simp only [List.getElem_toArray, List.getElem_cons_succ, List.getElem_cons_zero, Act.put, List.setIfInBounds_toArray, List.set_cons_zero, List.set_cons_succ]
            refine wpAnyF_done (by kernel_rfl) ?_ _
            obtain ⟨w4, hw4⟩ : ∃ w4, w3.setCell ⟨r.RB, 4, none⟩ (.slice A3 (pn + 1) c3) = w4 := ⟨_, rfl⟩
            go_upto_region 11 with (fail)
            rw [hw4]
            have HW4 := Lib.hid hw4
            have hc24 : Chg (fun g => g = r.RB ∨ some g = r.bU) w2 w4 := by rw [← hw4]; exact Chg.setCell (HC3.out.mono fun i _ q => .inr q) (p := ⟨r.RB, 4, none⟩) (.inl (.inl rfl)) _
            have HC24 := Lib.hid hc24
            have hEB1 : EB ≠ r.RB := fun q => by have := H.out.box.lt; have := HEB.out; omega
            have hE4 := (HBE.out.below N2.out HBE.out.lt).chg hc24 (fun q => q.elim hEB1 fun q => by have := H.out.uown.lt EB q.symm; have := HEB.out; omega)
            obtain ⟨cs4, hb4, hcs4⟩ : ∃ cs4, Blk w4 r.RB 42 cs4 ∧ cs4[3]? = some (.slice r.wA s.w.length r.wc) := ⟨_, by rw [← hw4]; exact (HB2.out.chg HC3.out (fun q => HH1.out.ne.2.2.1 q)).set_ 4 _, rfl⟩
            have HB4 := Lib.hid hb4
            have hs4 : ∀ W, Chg (fun g => some g = r.bW) w4 W → W.cell? ⟨r.RB, 3, none⟩ = some (.slice r.wA wn r.wc) ∧ W.cell? ⟨EB, 0, none⟩ = some (.int .i64 e.k.T) ∧ W.cell? ⟨EB, 1, none⟩ = some (.int .i64 e.k.O) ∧ W.cell? ⟨EB, 2, none⟩ = some (.int .i64 e.k.S) ∧ W.cell? ⟨EB, 3, none⟩ = some (.int .i64 e.p) ∧ W.cell? ⟨EB, 4, none⟩ = some (.int .i64 e.q) ∧ W.cell? ⟨EB, 5, none⟩ = some (.int .i64 e.d) := fun W hW => by
              have hb := HB4.out.chg hW (fun q => HH1.out.ne.2.1 q)
              have hE := hE4.chg hW (fun q => by have := H.out.wown.lt EB q.symm; have := HEB.out; omega)
              refine ⟨?_, hE.cell 0, hE.cell 1, hE.cell 2, hE.cell 3, hE.cell 4, hE.cell 5⟩
              rw [← HWN.out]; exact (hb.cell 3).trans hcs4
            have HS4 := Lib.hid hs4
            have HOW := Lib.hid (show Own w4 44 6 (.slice r.wA wn r.wc) wn (ints (rows s.w)) r.bW from by
              have o2 := HH1.out.wown.kept fun g hg => N2.out.block g (HH1.out.wown.lt g hg)
              have o4 := o2.chg HC24.out (fun g hg q => q.elim (fun q => HH1.out.ne.2.1 (by rw [← q]; exact hg.symm)) fun q => HH1.out.ne.2.2.2.2.2 g hg q.symm)
              rw [HWN.out] at o4
              exact o4)
            clear hs4 hc24 hEB1 hE4 hb4 hw4
            refine wp_region_F (fun W => W.cell? ⟨r.RB, 3, none⟩ = some (.slice r.wA wn r.wc) ∧ W.cell? ⟨EB, 0, none⟩ = some (.int .i64 e.k.T) ∧ W.cell? ⟨EB, 1, none⟩ = some (.int .i64 e.k.O) ∧ W.cell? ⟨EB, 2, none⟩ = some (.int .i64 e.k.S) ∧ W.cell? ⟨EB, 3, none⟩ = some (.int .i64 e.p) ∧ W.cell? ⟨EB, 4, none⟩ = some (.int .i64 e.q) ∧ W.cell? ⟨EB, 5, none⟩ = some (.int .i64 e.d)) [10] (by kernel_rfl) ?_
            have hS := HS4.out w4.drew (Chg.refl _ w4).drew
            refine wpAnyF_takeT (i := 0) (v := ?_) rfl (by kernel_rfl) (by kernel_rfl) (by kernel_rfl) (by kernel_rfl) (by kernel_rfl) (by kernel_rfl) (fun _ _ _ h => h) (by rfl) ?_ hS ?_
            rotate_left
            · intro u hu
              try dsimp only at hu
              go_simp
              try with_reducible rfl
            try simp only [List.getElem_toArray, List.getElem_cons_succ, List.getElem_cons_zero, Act.put, List.setIfInBounds_toArray, List.set_cons_zero, List.set_cons_succ]
            refine wpAnyF_takeT (i := 1) (v := ?_) rfl (by kernel_rfl) (by kernel_rfl) (by kernel_rfl) (by kernel_rfl) (by kernel_rfl) (by kernel_rfl) (fun _ _ _ h => h) (by rfl) ?_ hS ?_
            rotate_left
            · intro u hu
              try dsimp only at hu
              go_simp
              try with_reducible rfl
            try simp only [List.getElem_toArray, List.getElem_cons_succ, List.getElem_cons_zero, Act.put, List.setIfInBounds_toArray, List.set_cons_zero, List.set_cons_succ]
            refine wpAnyF_takeT (i := 2) (v := ?_) rfl (by kernel_rfl) (by kernel_rfl) (by kernel_rfl) (by kernel_rfl) (by kernel_rfl) (by kernel_rfl) (fun _ _ _ h => h) (by rfl) ?_ hS ?_
            rotate_left
            · intro u hu
              try dsimp only at hu
              go_simp
              try with_reducible rfl
            try simp only [List.getElem_toArray, List.getElem_cons_succ, List.getElem_cons_zero, Act.put, List.setIfInBounds_toArray, List.set_cons_zero, List.set_cons_succ]
            refine wpAnyF_takeT (i := 3) (v := ?_) rfl (by kernel_rfl) (by kernel_rfl) (by kernel_rfl) (by kernel_rfl) (by kernel_rfl) (by kernel_rfl) (fun _ _ _ h => h) (by rfl) ?_ hS ?_
            rotate_left
            · intro u hu
              try dsimp only at hu
              go_simp
              try with_reducible rfl
            try simp only [List.getElem_toArray, List.getElem_cons_succ, List.getElem_cons_zero, Act.put, List.setIfInBounds_toArray, List.set_cons_zero, List.set_cons_succ]
            refine wpAnyF_takeT (i := 4) (v := ?_) rfl (by kernel_rfl) (by kernel_rfl) (by kernel_rfl) (by kernel_rfl) (by kernel_rfl) (by kernel_rfl) (fun _ _ _ h => h) (by rfl) ?_ hS ?_
            rotate_left
            · intro u hu
              try dsimp only at hu
              go_simp
              try with_reducible rfl
            try simp only [List.getElem_toArray, List.getElem_cons_succ, List.getElem_cons_zero, Act.put, List.setIfInBounds_toArray, List.set_cons_zero, List.set_cons_succ]
            refine wpAnyF_takeT (i := 5) (v := ?_) rfl (by kernel_rfl) (by kernel_rfl) (by kernel_rfl) (by kernel_rfl) (by kernel_rfl) (by kernel_rfl) (fun _ _ _ h => h) (by rfl) ?_ hS ?_
            rotate_left
            · intro u hu
              try dsimp only at hu
              go_simp
              try with_reducible rfl
            try simp only [List.getElem_toArray, List.getElem_cons_succ, List.getElem_cons_zero, Act.put, List.setIfInBounds_toArray, List.set_cons_zero, List.set_cons_succ]
            refine wpAnyF_step (i := 6) (by kernel_rfl) rfl (by rfl) fun K hK => ?_
            go_simp
            refine hK _ _ (.inr (HS4.out _ ((Chg.refl _ w4).drew.alloc _))) ?_
            clear hK K
            try simp only [List.getElem_toArray, List.getElem_cons_succ, List.getElem_cons_zero, Act.put, List.setIfInBounds_toArray, List.set_cons_zero, List.set_cons_succ]
            refine wpAnyF_step (i := 7) (by kernel_rfl) rfl (by rfl) fun K hK => ?_
            obtain ⟨w4a, hw4a⟩ : ∃ w4a, (w4.alloc (.cells #[.int .i64 e.k.T, .int .i64 e.k.O, .int .i64 e.k.S, .int .i64 e.p, .int .i64 e.q, .int .i64 e.d] 44)).drew = w4a := ⟨_, rfl⟩
            have n4a : Nw w4 w4a := by rw [← hw4a]; exact ((Nw.refl w4).alloc _).drew
            have hb4a : Blk w4a w4.heap.size 44 (ints e.row).toArray := by rw [← hw4a]; exact (Blk.last w4 _ _ rfl).drew
            have o4a := HOW.out.kept fun g hg => n4a.block g (HOW.out.lt g hg)
            rw [hw4a]
            have r4a : Rd w4a (some ⟨w4.heap.size, 0, none⟩) (ints e.row) := .inr ⟨_, 0, rfl, fun j u hu => by
              rw [hb4a.cell, Nat.zero_add]
              simpa using hu⟩
            have N4A := Lib.hid n4a
            clear hw4a n4a hb4a
            refine wp_append_at w4a _ _ 23 rfl 44 iE _ 6 48 Try.underlying23 HE1.out HE2.out HE3.out HE4.out rfl (by omega) _ wn (ints (rows s.w)) r.bW rfl o4a _ 1 1 (ints e.row) rfl rfl r4a (ints_one _) (by simp only [maxLen]; omega) (by omega) ?_
            intro A5 c5 w5 b5 hown5 hchg5 hat5
            have HO5 := Lib.hid hown5
            have HA5 := Lib.hid hat5
            have HC5A := Lib.hid hchg5
            have hc5 : Chg (fun g => some g = r.bW) w4 w5 := (Chg.of_below N4A.out (Nat.le_refl _) _).trans hchg5 fun i _ q => q
            have HC5 := Lib.hid hc5
            have hb5 := HB4.out.chg hc5 (fun q => HH1.out.ne.2.1 q)
            have f3 := hb5.frozen 3
            have d3 : w5.cell? ⟨r.RB, 3, none⟩ = some (.slice r.wA wn r.wc) := (HS4.out w5 hc5).1
            clear hown5 hat5 hchg5 hc5 r4a o4a hb5
            have hS := HS4.out w5 HC5.out
            refine hK _ _ (.inr (HS4.out w5 HC5.out)) ?_
            clear hK K
            try simp only [List.getElem_toArray, List.getElem_cons_succ, List.getElem_cons_zero, Act.put, List.setIfInBounds_toArray, List.set_cons_zero, List.set_cons_succ]
            refine wpAnyF_step (i := 8) (by kernel_rfl) rfl (by rfl) fun K hK => ?_
            go_simp
            refine hK _ _ (.inr hS) ?_
            clear hK K
            try simp only [List.getElem_toArray, List.getElem_cons_succ, List.getElem_cons_zero, Act.put, List.setIfInBounds_toArray, List.set_cons_zero, List.set_cons_succ]
            refine wpAnyF_step (i := 9) (by kernel_rfl) rfl (by rfl) fun K hK => ?_
            go_simp
            refine hK _ _ (.inr hS) ?_
            clear hK K
            try simp only [List.getElem_toArray, List.getElem_cons_succ, List.getElem_cons_zero, Act.put, List.setIfInBounds_toArray, List.set_cons_zero, List.set_cons_succ]
            refine wpAnyF_step (i := 10) (by kernel_rfl) rfl (by rfl) fun K hK => ?_
            go_simp
            refine hK _ _ (.inl (by kernel_rfl)) ?_
            clear hK K
            try simp only [List.getElem_toArray, List.getElem_cons_succ, List.getElem_cons_zero, Act.put, List.setIfInBounds_toArray, List.set_cons_zero, List.set_cons_succ]
            refine wpAnyF_done (by kernel_rfl) ?_ _
            go_wp2_with fail
            go_ret
            have he : m.putErr s e = 0 := by rw [HPE.out, HNC.out]; simp [HO.out, HT.out]
            have hm := RSeq.more (w := w) (w1 := w2a) (w2 := w3) (w4 := w4a) (w5 := w5) H.out he ((N1.out.step N2.out).step N2A.out) HC3A.out (by rw [HPL.out, HPN.out]; exact HO3.out) (fun g hg => (HA3.out).elim (fun q => .inl (q.symm.trans hg)) fun q => .inr (by rw [q] at hg; injection hg with hg; omega))
              (uA' := A3) (uc' := c3) (by rw [HPL.out, HPN.out, HW4.out]; exact N4A.out) HC5A.out (by rw [HWN.out]; exact HO5.out) (fun g hg => (HA5.out).elim (fun q => .inl (q.symm.trans hg)) fun q => .inr (by rw [q] at hg; injection hg with hg; omega)) HL.out HP9.out
            rw [HWN.out] at hm
            obtain ⟨r', q1, q2, q3, q4, q5, q6⟩ := hm
            exact ⟨by rw [he]; rfl, r', by rw [if_pos he]; exact q1, q2, q3, q4, q5, q6⟩
    · have g5 : (e.k.O == 17) = false := beq_eq_false_iff_ne.2 ho
      have HO := Lib.hid ho
      clear ho
      go_enter Try.func16, Try.ntmps16
      go_upto_region 1 with (fail)
      rw [HW1.out, HEB.out]
      refine wp_region_F (fun W => W.cell? ⟨r.RB, 0, none⟩ = some (.slice r.pA N r.pc) ∧ W.cell? ⟨r.RB, 4, none⟩ = some (.slice r.uA pn r.uc) ∧ W.cell? ⟨r.RB, 6, none⟩ = some (.int .i64 fl) ∧ W.cell? ⟨EB, 0, none⟩ = some (.int .i64 e.k.T) ∧ W.cell? ⟨EB, 1, none⟩ = some (.int .i64 e.k.O) ∧ W.cell? ⟨EB, 2, none⟩ = some (.int .i64 e.k.S) ∧ W.cell? ⟨EB, 3, none⟩ = some (.int .i64 e.p) ∧ W.cell? ⟨EB, 4, none⟩ = some (.int .i64 e.q) ∧ W.cell? ⟨EB, 5, none⟩ = some (.int .i64 e.d)) [14] (by kernel_rfl) ?_
      have hS := HSS.out w1.drew (Nw.refl w1).drew
      refine wpAnyF_takeT (i := 0) (v := ?_) rfl (by kernel_rfl) (by kernel_rfl) (by kernel_rfl) (by kernel_rfl) (by kernel_rfl) (by kernel_rfl) (fun _ _ _ h => h) (by rfl) ?_ hS ?_
      rotate_left
      · intro u hu
        try dsimp only at hu
        go_simp
        try with_reducible rfl
      try simp only [List.getElem_toArray, List.getElem_cons_succ, List.getElem_cons_zero, Act.put, List.setIfInBounds_toArray, List.set_cons_zero, List.set_cons_succ]
      refine wpAnyF_takeT (i := 1) (v := ?_) rfl (by kernel_rfl) (by kernel_rfl) (by kernel_rfl) (by kernel_rfl) (by kernel_rfl) (by kernel_rfl) (fun _ _ _ h => h) (by rfl) ?_ hS ?_
      rotate_left
      · intro u hu
        try dsimp only at hu
        go_simp
        try with_reducible rfl
      try simp only [List.getElem_toArray, List.getElem_cons_succ, List.getElem_cons_zero, Act.put, List.setIfInBounds_toArray, List.set_cons_zero, List.set_cons_succ]
      refine wpAnyF_takeT (i := 2) (v := ?_) rfl (by kernel_rfl) (by kernel_rfl) (by kernel_rfl) (by kernel_rfl) (by kernel_rfl) (by kernel_rfl) (fun _ _ _ h => h) (by rfl) ?_ hS ?_
      rotate_left
      · intro u hu
        try dsimp only at hu
        go_simp
        try with_reducible rfl
      try simp only [List.getElem_toArray, List.getElem_cons_succ, List.getElem_cons_zero, Act.put, List.setIfInBounds_toArray, List.set_cons_zero, List.set_cons_succ]
      refine wpAnyF_takeT (i := 3) (v := ?_) rfl (by kernel_rfl) (by kernel_rfl) (by kernel_rfl) (by kernel_rfl) (by kernel_rfl) (by kernel_rfl) (fun _ _ _ h => h) (by rfl) ?_ hS ?_
      rotate_left
      · intro u hu
        try dsimp only at hu
        go_simp
        try with_reducible rfl
      try simp only [List.getElem_toArray, List.getElem_cons_succ, List.getElem_cons_zero, Act.put, List.setIfInBounds_toArray, List.set_cons_zero, List.set_cons_succ]
      refine wpAnyF_takeT (i := 4) (v := ?_) rfl (by kernel_rfl) (by kernel_rfl) (by kernel_rfl) (by kernel_rfl) (by kernel_rfl) (by kernel_rfl) (fun _ _ _ h => h) (by rfl) ?_ hS ?_
      rotate_left
      · intro u hu
        try dsimp only at hu
        go_simp
        try with_reducible rfl
      try simp only [List.getElem_toArray, List.getElem_cons_succ, List.getElem_cons_zero, Act.put, List.setIfInBounds_toArray, List.set_cons_zero, List.set_cons_succ]
      refine wpAnyF_takeT (i := 5) (v := ?_) rfl (by kernel_rfl) (by kernel_rfl) (by kernel_rfl) (by kernel_rfl) (by kernel_rfl) (by kernel_rfl) (fun _ _ _ h => h) (by rfl) ?_ hS ?_
      rotate_left
      · intro u hu
        try dsimp only at hu
        go_simp
        try with_reducible rfl
      try simp only [List.getElem_toArray, List.getElem_cons_succ, List.getElem_cons_zero, Act.put, List.setIfInBounds_toArray, List.set_cons_zero, List.set_cons_succ]
      refine wpAnyF_takeT (i := 6) (v := ?_) rfl (by kernel_rfl) (by kernel_rfl) (by kernel_rfl) (by kernel_rfl) (by kernel_rfl) (by kernel_rfl) (fun _ _ _ h => h) (by rfl) ?_ hS ?_
      rotate_left
      · intro u hu
        try dsimp only at hu
        go_simp
        try with_reducible rfl
      try simp only [List.getElem_toArray, List.getElem_cons_succ, List.getElem_cons_zero, Act.put, List.setIfInBounds_toArray, List.set_cons_zero, List.set_cons_succ]
      refine wpAnyF_step (i := 7) (by kernel_rfl) rfl (by rfl) fun K hK => ?_
      go_simp
      go_at_call 29
      refine (HKM.out _).mono ?_
      rintro x w3 ⟨rfl, b3⟩
      have N3 := Lib.hid (show Nw w1 w3 from (Nw.refl w1).drew.step b3)
      clear b3
      have hS := HSS.out w3 N3.out
      refine hK _ _ (.inr (HSS.out w3 N3.out)) ?_
      clear hK K
      try simp only [List.getElem_toArray, List.getElem_cons_succ, List.getElem_cons_zero, Act.put, List.setIfInBounds_toArray, List.set_cons_zero, List.set_cons_succ]
      refine wpAnyF_step (i := 8) (by kernel_rfl) rfl (by rfl) fun K hK => ?_
      go_simp
      refine hK _ _ (.inr hS) ?_
      clear hK K
      try simp only [List.getElem_toArray, List.getElem_cons_succ, List.getElem_cons_zero, Act.put, List.setIfInBounds_toArray, List.set_cons_zero, List.set_cons_succ]
      refine wpAnyF_step (i := 9) (by kernel_rfl) rfl (by rfl) fun K hK => ?_
      go_simp
      refine hK _ _ (.inr hS) ?_
      clear hK K
      try simp only [List.getElem_toArray, List.getElem_cons_succ, List.getElem_cons_zero, Act.put, List.setIfInBounds_toArray, List.set_cons_zero, List.set_cons_succ]
      refine wpAnyF_takeT (i := 10) (v := ?_) rfl (by kernel_rfl) (by kernel_rfl) (by kernel_rfl) (by kernel_rfl) (by kernel_rfl) (by kernel_rfl) (fun _ _ _ h => h) (by rfl) ?_ hS ?_
      rotate_left
      · intro u hu
        try dsimp only at hu
        go_simp
        try with_reducible rfl
      try simp only [List.getElem_toArray, List.getElem_cons_succ, List.getElem_cons_zero, Act.put, List.setIfInBounds_toArray, List.set_cons_zero, List.set_cons_succ]
      refine wpAnyF_takeT (i := 11) (v := ?_) rfl (by kernel_rfl) (by kernel_rfl) (by kernel_rfl) (by kernel_rfl) (by kernel_rfl) (by kernel_rfl) (fun _ _ _ h => h) (by rfl) ?_ hS ?_
      rotate_left
      · intro u hu
        try dsimp only at hu
        go_simp
        try with_reducible rfl
      try simp only [List.getElem_toArray, List.getElem_cons_succ, List.getElem_cons_zero, Act.put, List.setIfInBounds_toArray, List.set_cons_zero, List.set_cons_succ]
      refine wpAnyF_takeT (i := 12) (v := ?_) rfl (by kernel_rfl) (by kernel_rfl) (by kernel_rfl) (by kernel_rfl) (by kernel_rfl) (by kernel_rfl) (fun _ _ _ h => h) (by rfl) ?_ hS ?_
      rotate_left
      · intro u hu
        try dsimp only at hu
        go_simp
        try with_reducible rfl
      try simp only [List.getElem_toArray, List.getElem_cons_succ, List.getElem_cons_zero, Act.put, List.setIfInBounds_toArray, List.set_cons_zero, List.set_cons_succ]
      refine wpAnyF_takeT (i := 13) (v := ?_) rfl (by kernel_rfl) (by kernel_rfl) (by kernel_rfl) (by kernel_rfl) (by kernel_rfl) (by kernel_rfl) (fun _ _ _ h => h) (by rfl) ?_ hS ?_
      rotate_left
      · intro u hu
        try dsimp only at hu
        go_simp
        try with_reducible rfl
      try simp only [List.getElem_toArray, List.getElem_cons_succ, List.getElem_cons_zero, Act.put, List.setIfInBounds_toArray, List.set_cons_zero, List.set_cons_succ]
      refine wpAnyF_step (i := 14) (by kernel_rfl) rfl (by rfl) fun K hK => ?_
      go_simp
      refine hK _ _ (.inl (by kernel_rfl)) ?_
      clear hK K
      try simp only [List.getElem_toArray, List.getElem_cons_succ, List.getElem_cons_zero, Act.put, List.setIfInBounds_toArray, List.set_cons_zero, List.set_cons_succ]
      refine wpAnyF_done (by kernel_rfl) ?_ _
      go_wp2_with fail
      go_ret
      exact in_no 2 (by rw [HPE.out]; simp [HO.out]) (by decide) H.out (N1.out.step N3.out)
end
end Go.Proofs.Ytgijkgngldfdiaa
/- The document's Least. Helper. -/
namespace Go.Proofs.Ytgijkgngldfdiaa
open Go.RowKit
set_option linter.unusedVariables false
set_option linter.unusedSimpArgs false
def LeastOut (w : World) (s : Sq) (e : Ending) (w' : World) : Prop :=
  Nw w w' ∧ ((s.w = [] ∧ e = .returned (.int .i64 (-1))) ∨ ∃ j, ∃ hj : j < s.w.length, e = .returned (.int .i64 (j : Int)) ∧ ∀ y ∈ s.w, y.k.less s.w[j].k = false)
section
variable (r : RMem) (m : Mdl) (s : Sq) (w : World)
set_option maxRecDepth 100000
set_option maxHeartbeats 6400000
theorem refLeast_any (h : RSeq w r m s) : Calls Try.prog 35 #[.pointer (some ⟨r.RB, 0, none⟩)] w (LeastOut w s) := by
  obtain ⟨wl, hwl⟩ : ∃ wl, s.w = wl := ⟨_, rfl⟩
  obtain ⟨n, hn⟩ : ∃ n, wl.length = n := ⟨_, rfl⟩
  have hn9 : n ≤ 10000 := by rw [← hn, ← hwl]; exact h.few.2.1
  have b3 : w.cell? ⟨r.RB, 3, none⟩ = some (.slice r.wA n r.wc) := by rw [← hn, ← hwl]; exact h.box.cell 3
  have hrd : Rd w r.wA (ints (rows wl)) := by
    obtain ⟨_, _, ea, hrd, _, _⟩ := h.wown.rd
    injection ea with e1 _ e3
    subst e1
    rw [hwl] at hrd
    exact hrd
  have HRD := Lib.hid hrd
  have B3 := Lib.hid b3
  have HWL := Lib.hid hwl
  have HN := Lib.hid hn
  clear h hwl hn hrd
  go_enter Try.func35, Try.ntmps35
  go_wp2_with fail
  go_loopw [3, 4] (fun a i wr => ∃ k : Nat, k ≤ n ∧ i = .int .i64 k ∧ Hid (Nw w wr) ∧ ((k = 0 ∧ a = .int .i64 (-1)) ∨ ∃ j : Nat, j < k ∧ a = .int .i64 j ∧ Hid (∀ i (hi : i < wl.length), i < k → wl[i].k.less (wl.getD j evZ).k = false))) (fun _ i _ => n - (intOf i).toNat)
  case atStart => exact ⟨0, Nat.zero_le _, rfl, Lib.hid (Nw.refl w), .inl ⟨rfl, rfl⟩⟩
  case round =>
    obtain ⟨k, hk, rfl, NR, hcase⟩ := hrel
    have b3 := NR.out.cell B3.out
    by_cases hlt : k < n
    · have hlt' : k < wl.length := by rw [HN.out]; exact hlt
      obtain ⟨b, o, ep, c0, c1, c2, hct⟩ := ev_at (HRD.out.keep fun p hp => Below.cell NR.out hp) hlt'
      clear hct
      have g4 : (k : Int) < (n : Int) := by omega
      obtain ⟨K, hK⟩ : ∃ K, wl[k].k = K := ⟨_, rfl⟩
      rw [hK] at c0 c1 c2
      have HK := Lib.hid hK
      rw [ep] at b3
      have HEP := Lib.hid ep
      clear hK ep
      rcases hcase with ⟨hk0, rfl⟩ | ⟨j, hj, rfl, HJ⟩
      · have HS : Hid (∀ W, Nw wr W → W.cell? ⟨r.RB, 3, none⟩ = some (.slice (some ⟨b, o, none⟩) n r.wc)) := Lib.hid fun W hW => hW.cell b3
        have g6 : ((-1 : Int) < 0) = True := by decide
        have HK0 := Lib.hid hk0
        clear hk0
        go_upto_region 5 with (fail)
        clear b3 c0 c1 c2
        refine wp_region_F (fun W => W.cell? ⟨r.RB, 3, none⟩ = some (.slice (some ⟨b, o, none⟩) n r.wc)) [21] (by kernel_rfl) ?_
        have hS := HS.out wr.drew (Nw.refl wr).drew
        refine wpAnyF_takeT (i := 0) (v := ?_) rfl (by kernel_rfl) (by kernel_rfl) (by kernel_rfl) (by kernel_rfl) (by kernel_rfl) (by kernel_rfl) (fun _ _ _ h => h) (by rfl) ?_ hS ?_
        rotate_left
        · intro u hu
          try dsimp only at hu
          go_simp
          try with_reducible rfl
        try simp only [List.getElem_toArray, List.getElem_cons_succ, List.getElem_cons_zero, Act.put, List.setIfInBounds_toArray, List.set_cons_zero, List.set_cons_succ]
        refine wpAnyF_takeT (i := 1) (v := ?_) rfl (by kernel_rfl) (by kernel_rfl) (by kernel_rfl) (by kernel_rfl) (by kernel_rfl) (by kernel_rfl) (fun _ _ _ h => h) (by rfl) ?_ hS ?_
        rotate_left
        · intro u hu
          try dsimp only at hu
          go_simp
          try with_reducible rfl
        try simp only [List.getElem_toArray, List.getElem_cons_succ, List.getElem_cons_zero, Act.put, List.setIfInBounds_toArray, List.set_cons_zero, List.set_cons_succ]
        refine wpAnyF_takeT (i := 2) (v := ?_) rfl (by kernel_rfl) (by kernel_rfl) (by kernel_rfl) (by kernel_rfl) (by kernel_rfl) (by kernel_rfl) (fun _ _ _ h => h) (by rfl) ?_ hS ?_
        rotate_left
        · intro u hu
          try dsimp only at hu
          go_simp
          try with_reducible rfl
        try simp only [List.getElem_toArray, List.getElem_cons_succ, List.getElem_cons_zero, Act.put, List.setIfInBounds_toArray, List.set_cons_zero, List.set_cons_succ]
        refine wpAnyF_leaveT (i := 3) rfl (by kernel_rfl) (by kernel_rfl) (by kernel_rfl) (by kernel_rfl) (by kernel_rfl) (fun _ _ _ h => h) (by rfl) hS ?_
        try simp only [List.getElem_toArray, List.getElem_cons_succ, List.getElem_cons_zero, Act.put, List.setIfInBounds_toArray, List.set_cons_zero, List.set_cons_succ]
        refine wpAnyF_leaveT (i := 4) rfl (by kernel_rfl) (by kernel_rfl) (by kernel_rfl) (by kernel_rfl) (by kernel_rfl) (fun _ _ _ h => h) (by rfl) hS ?_
        try simp only [List.getElem_toArray, List.getElem_cons_succ, List.getElem_cons_zero, Act.put, List.setIfInBounds_toArray, List.set_cons_zero, List.set_cons_succ]
        refine wpAnyF_leaveT (i := 5) rfl (by kernel_rfl) (by kernel_rfl) (by kernel_rfl) (by kernel_rfl) (by kernel_rfl) (fun _ _ _ h => h) (by rfl) hS ?_
        try simp only [List.getElem_toArray, List.getElem_cons_succ, List.getElem_cons_zero, Act.put, List.setIfInBounds_toArray, List.set_cons_zero, List.set_cons_succ]
        refine wpAnyF_leaveT (i := 6) rfl (by kernel_rfl) (by kernel_rfl) (by kernel_rfl) (by kernel_rfl) (by kernel_rfl) (fun _ _ _ h => h) (by rfl) hS ?_
        try simp only [List.getElem_toArray, List.getElem_cons_succ, List.getElem_cons_zero, Act.put, List.setIfInBounds_toArray, List.set_cons_zero, List.set_cons_succ]
        refine wpAnyF_leaveT (i := 7) rfl (by kernel_rfl) (by kernel_rfl) (by kernel_rfl) (by kernel_rfl) (by kernel_rfl) (fun _ _ _ h => h) (by rfl) hS ?_
        try simp only [List.getElem_toArray, List.getElem_cons_succ, List.getElem_cons_zero, Act.put, List.setIfInBounds_toArray, List.set_cons_zero, List.set_cons_succ]
        refine wpAnyF_leaveT (i := 8) rfl (by kernel_rfl) (by kernel_rfl) (by kernel_rfl) (by kernel_rfl) (by kernel_rfl) (fun _ _ _ h => h) (by rfl) hS ?_
        try simp only [List.getElem_toArray, List.getElem_cons_succ, List.getElem_cons_zero, Act.put, List.setIfInBounds_toArray, List.set_cons_zero, List.set_cons_succ]
        refine wpAnyF_leaveT (i := 9) rfl (by kernel_rfl) (by kernel_rfl) (by kernel_rfl) (by kernel_rfl) (by kernel_rfl) (fun _ _ _ h => h) (by rfl) hS ?_
        try simp only [List.getElem_toArray, List.getElem_cons_succ, List.getElem_cons_zero, Act.put, List.setIfInBounds_toArray, List.set_cons_zero, List.set_cons_succ]
        refine wpAnyF_leaveT (i := 10) rfl (by kernel_rfl) (by kernel_rfl) (by kernel_rfl) (by kernel_rfl) (by kernel_rfl) (fun _ _ _ h => h) (by rfl) hS ?_
        try simp only [List.getElem_toArray, List.getElem_cons_succ, List.getElem_cons_zero, Act.put, List.setIfInBounds_toArray, List.set_cons_zero, List.set_cons_succ]
        refine wpAnyF_leaveT (i := 11) rfl (by kernel_rfl) (by kernel_rfl) (by kernel_rfl) (by kernel_rfl) (by kernel_rfl) (fun _ _ _ h => h) (by rfl) hS ?_
        try simp only [List.getElem_toArray, List.getElem_cons_succ, List.getElem_cons_zero, Act.put, List.setIfInBounds_toArray, List.set_cons_zero, List.set_cons_succ]
        refine wpAnyF_leaveT (i := 12) rfl (by kernel_rfl) (by kernel_rfl) (by kernel_rfl) (by kernel_rfl) (by kernel_rfl) (fun _ _ _ h => h) (by rfl) hS ?_
        try simp only [List.getElem_toArray, List.getElem_cons_succ, List.getElem_cons_zero, Act.put, List.setIfInBounds_toArray, List.set_cons_zero, List.set_cons_succ]
        refine wpAnyF_leaveT (i := 13) rfl (by kernel_rfl) (by kernel_rfl) (by kernel_rfl) (by kernel_rfl) (by kernel_rfl) (fun _ _ _ h => h) (by rfl) hS ?_
        try simp only [List.getElem_toArray, List.getElem_cons_succ, List.getElem_cons_zero, Act.put, List.setIfInBounds_toArray, List.set_cons_zero, List.set_cons_succ]
        refine wpAnyF_leaveT (i := 14) rfl (by kernel_rfl) (by kernel_rfl) (by kernel_rfl) (by kernel_rfl) (by kernel_rfl) (fun _ _ _ h => h) (by rfl) hS ?_
        try simp only [List.getElem_toArray, List.getElem_cons_succ, List.getElem_cons_zero, Act.put, List.setIfInBounds_toArray, List.set_cons_zero, List.set_cons_succ]
        refine wpAnyF_leaveT (i := 15) rfl (by kernel_rfl) (by kernel_rfl) (by kernel_rfl) (by kernel_rfl) (by kernel_rfl) (fun _ _ _ h => h) (by rfl) hS ?_
        try simp only [List.getElem_toArray, List.getElem_cons_succ, List.getElem_cons_zero, Act.put, List.setIfInBounds_toArray, List.set_cons_zero, List.set_cons_succ]
        refine wpAnyF_leaveT (i := 16) rfl (by kernel_rfl) (by kernel_rfl) (by kernel_rfl) (by kernel_rfl) (by kernel_rfl) (fun _ _ _ h => h) (by rfl) hS ?_
        try simp only [List.getElem_toArray, List.getElem_cons_succ, List.getElem_cons_zero, Act.put, List.setIfInBounds_toArray, List.set_cons_zero, List.set_cons_succ]
        refine wpAnyF_leaveT (i := 17) rfl (by kernel_rfl) (by kernel_rfl) (by kernel_rfl) (by kernel_rfl) (by kernel_rfl) (fun _ _ _ h => h) (by rfl) hS ?_
        try simp only [List.getElem_toArray, List.getElem_cons_succ, List.getElem_cons_zero, Act.put, List.setIfInBounds_toArray, List.set_cons_zero, List.set_cons_succ]
        refine wpAnyF_leaveT (i := 18) rfl (by kernel_rfl) (by kernel_rfl) (by kernel_rfl) (by kernel_rfl) (by kernel_rfl) (fun _ _ _ h => h) (by rfl) hS ?_
        try simp only [List.getElem_toArray, List.getElem_cons_succ, List.getElem_cons_zero, Act.put, List.setIfInBounds_toArray, List.set_cons_zero, List.set_cons_succ]
        refine wpAnyF_leaveT (i := 19) rfl (by kernel_rfl) (by kernel_rfl) (by kernel_rfl) (by kernel_rfl) (by kernel_rfl) (fun _ _ _ h => h) (by rfl) hS ?_
        try simp only [List.getElem_toArray, List.getElem_cons_succ, List.getElem_cons_zero, Act.put, List.setIfInBounds_toArray, List.set_cons_zero, List.set_cons_succ]
        refine wpAnyF_leaveT (i := 20) rfl (by kernel_rfl) (by kernel_rfl) (by kernel_rfl) (by kernel_rfl) (by kernel_rfl) (fun _ _ _ h => h) (by rfl) hS ?_
        try simp only [List.getElem_toArray, List.getElem_cons_succ, List.getElem_cons_zero, Act.put, List.setIfInBounds_toArray, List.set_cons_zero, List.set_cons_succ]
        refine wpAnyF_step (i := 21) (by kernel_rfl) rfl (by rfl) fun K hK => ?_
        go_simp
        refine hK _ _ (.inl (by kernel_rfl)) ?_
        clear hK K
        try simp only [List.getElem_toArray, List.getElem_cons_succ, List.getElem_cons_zero, Act.put, List.setIfInBounds_toArray, List.set_cons_zero, List.set_cons_succ]
        refine wpAnyF_done (by kernel_rfl) ?_ _
        go_wp2_with fail
        go_roundw
        case rel => exact ⟨k + 1, by omega, by go_num, Lib.hid NR.out.drew, .inr ⟨k, by omega, rfl, Lib.hid fun i hi h => by
          have h0 := HK0.out
          have : i = k := by omega
          subst this
          rw [List.getD_eq_getElem?_getD, List.getElem?_eq_getElem hi]
          exact Ky.less_irrefl _⟩⟩
        case measure => simp [intOf]; omega
      · have hj' : j < wl.length := by omega
        obtain ⟨b', o', ep', d0, d1, d2, hdt⟩ := ev_at (HRD.out.keep fun p hp => Below.cell NR.out hp) hj'
        clear hdt
        rw [HEP.out] at ep'
        injection ep' with ep'
        injection ep' with e1 e2 _
        subst e1 e2
        obtain ⟨J, hJ⟩ : ∃ J, wl[j].k = J := ⟨_, rfl⟩
        rw [hJ] at d0 d1 d2
        have hgd : (wl.getD j evZ).k = J := by rw [List.getD_eq_getElem?_getD, List.getElem?_eq_getElem hj']; exact hJ
        have HGD := Lib.hid hgd
        have hcv := Ky.cmp_neg K J
        have kc := fun W => refCompare_any K J W
        obtain ⟨cv, hcm⟩ : ∃ cv, K.cmp J = cv := ⟨_, rfl⟩
        rw [hcm] at hcv kc
        have KC := Lib.hid kc
        have HCV := Lib.hid hcv
        have g5 : ((j : Int) < 0) = False := by simp
        have k0 : (0 : Int) ≤ (j : Int) := by omega
        have k1 : (j : Int) < (n : Int) := by omega
        have k2 : (0 : Int) ≤ (k : Int) := by omega
        have HJJ := Lib.hid hj
        have HS : Hid (∀ W, Nw wr W → W.cell? ⟨r.RB, 3, none⟩ = some (.slice (some ⟨b, o, none⟩) n r.wc) ∧ W.cell? ⟨b, o + k * 6, none⟩ = some (.int .i64 K.T) ∧ W.cell? ⟨b, o + k * 6 + 1, none⟩ = some (.int .i64 K.O) ∧ W.cell? ⟨b, o + k * 6 + 2, none⟩ = some (.int .i64 K.S) ∧ W.cell? ⟨b, o + j * 6, none⟩ = some (.int .i64 J.T) ∧ W.cell? ⟨b, o + j * 6 + 1, none⟩ = some (.int .i64 J.O) ∧ W.cell? ⟨b, o + j * 6 + 2, none⟩ = some (.int .i64 J.S)) :=
          Lib.hid fun W hW => ⟨hW.cell b3, hW.cell c0, hW.cell c1, hW.cell c2, hW.cell d0, hW.cell d1, hW.cell d2⟩
        clear hJ hgd hcv kc hcm hj' c0 c1 c2 d0 d1 d2 hj
        by_cases hlc : cv < 0
        · have g6 : (cv < 0) = True := by simpa using hlc
          have HLC := Lib.hid (HCV.out.1 hlc)
          clear hlc
          go_upto_region 5 with (fail)
          clear b3
          refine wp_region_F (fun W => W.cell? ⟨r.RB, 3, none⟩ = some (.slice (some ⟨b, o, none⟩) n r.wc) ∧ W.cell? ⟨b, o + k * 6, none⟩ = some (.int .i64 K.T) ∧ W.cell? ⟨b, o + k * 6 + 1, none⟩ = some (.int .i64 K.O) ∧ W.cell? ⟨b, o + k * 6 + 2, none⟩ = some (.int .i64 K.S) ∧ W.cell? ⟨b, o + j * 6, none⟩ = some (.int .i64 J.T) ∧ W.cell? ⟨b, o + j * 6 + 1, none⟩ = some (.int .i64 J.O) ∧ W.cell? ⟨b, o + j * 6 + 2, none⟩ = some (.int .i64 J.S)) [21] (by kernel_rfl) ?_
          have hS := HS.out wr.drew (Nw.refl wr).drew
          refine wpAnyF_takeT (i := 0) (v := ?_) rfl (by kernel_rfl) (by kernel_rfl) (by kernel_rfl) (by kernel_rfl) (by kernel_rfl) (by kernel_rfl) (fun _ _ _ h => h) (by rfl) ?_ hS ?_
          rotate_left
          · intro u hu
            try dsimp only at hu
            go_simp
            try with_reducible rfl
          try simp only [List.getElem_toArray, List.getElem_cons_succ, List.getElem_cons_zero, Act.put, List.setIfInBounds_toArray, List.set_cons_zero, List.set_cons_succ]
          refine wpAnyF_takeT (i := 1) (v := ?_) rfl (by kernel_rfl) (by kernel_rfl) (by kernel_rfl) (by kernel_rfl) (by kernel_rfl) (by kernel_rfl) (fun _ _ _ h => h) (by rfl) ?_ hS ?_
          rotate_left
          · intro u hu
            try dsimp only at hu
            go_simp
            try with_reducible rfl
          try simp only [List.getElem_toArray, List.getElem_cons_succ, List.getElem_cons_zero, Act.put, List.setIfInBounds_toArray, List.set_cons_zero, List.set_cons_succ]
          refine wpAnyF_takeT (i := 2) (v := ?_) rfl (by kernel_rfl) (by kernel_rfl) (by kernel_rfl) (by kernel_rfl) (by kernel_rfl) (by kernel_rfl) (fun _ _ _ h => h) (by rfl) ?_ hS ?_
          rotate_left
          · intro u hu
            try dsimp only at hu
            go_simp
            try with_reducible rfl
          try simp only [List.getElem_toArray, List.getElem_cons_succ, List.getElem_cons_zero, Act.put, List.setIfInBounds_toArray, List.set_cons_zero, List.set_cons_succ]
          refine wpAnyF_takeT (i := 3) (v := ?_) rfl (by kernel_rfl) (by kernel_rfl) (by kernel_rfl) (by kernel_rfl) (by kernel_rfl) (by kernel_rfl) (fun _ _ _ h => h) (by rfl) ?_ hS ?_
          rotate_left
          · intro u hu
            try dsimp only at hu
            go_simp
            try with_reducible rfl
          try simp only [List.getElem_toArray, List.getElem_cons_succ, List.getElem_cons_zero, Act.put, List.setIfInBounds_toArray, List.set_cons_zero, List.set_cons_succ]
          refine wpAnyF_takeT (i := 4) (v := ?_) rfl (by kernel_rfl) (by kernel_rfl) (by kernel_rfl) (by kernel_rfl) (by kernel_rfl) (by kernel_rfl) (fun _ _ _ h => h) (by rfl) ?_ hS ?_
          rotate_left
          · intro u hu
            try dsimp only at hu
            go_simp
            try with_reducible rfl
          try simp only [List.getElem_toArray, List.getElem_cons_succ, List.getElem_cons_zero, Act.put, List.setIfInBounds_toArray, List.set_cons_zero, List.set_cons_succ]
          refine wpAnyF_takeT (i := 5) (v := ?_) rfl (by kernel_rfl) (by kernel_rfl) (by kernel_rfl) (by kernel_rfl) (by kernel_rfl) (by kernel_rfl) (fun _ _ _ h => h) (by rfl) ?_ hS ?_
          rotate_left
          · intro u hu
            try dsimp only at hu
            go_simp
            try with_reducible rfl
          try simp only [List.getElem_toArray, List.getElem_cons_succ, List.getElem_cons_zero, Act.put, List.setIfInBounds_toArray, List.set_cons_zero, List.set_cons_succ]
          refine wpAnyF_takeT (i := 6) (v := ?_) rfl (by kernel_rfl) (by kernel_rfl) (by kernel_rfl) (by kernel_rfl) (by kernel_rfl) (by kernel_rfl) (fun _ _ _ h => h) (by rfl) ?_ hS ?_
          rotate_left
          · intro u hu
            try dsimp only at hu
            go_simp
            try with_reducible rfl
          try simp only [List.getElem_toArray, List.getElem_cons_succ, List.getElem_cons_zero, Act.put, List.setIfInBounds_toArray, List.set_cons_zero, List.set_cons_succ]
          refine wpAnyF_takeT (i := 7) (v := ?_) rfl (by kernel_rfl) (by kernel_rfl) (by kernel_rfl) (by kernel_rfl) (by kernel_rfl) (by kernel_rfl) (fun _ _ _ h => h) (by rfl) ?_ hS ?_
          rotate_left
          · intro u hu
            try dsimp only at hu
            go_simp
            try with_reducible rfl
          try simp only [List.getElem_toArray, List.getElem_cons_succ, List.getElem_cons_zero, Act.put, List.setIfInBounds_toArray, List.set_cons_zero, List.set_cons_succ]
          refine wpAnyF_takeT (i := 8) (v := ?_) rfl (by kernel_rfl) (by kernel_rfl) (by kernel_rfl) (by kernel_rfl) (by kernel_rfl) (by kernel_rfl) (fun _ _ _ h => h) (by rfl) ?_ hS ?_
          rotate_left
          · intro u hu
            try dsimp only at hu
            go_simp
            try with_reducible rfl
          try simp only [List.getElem_toArray, List.getElem_cons_succ, List.getElem_cons_zero, Act.put, List.setIfInBounds_toArray, List.set_cons_zero, List.set_cons_succ]
          refine wpAnyF_takeT (i := 9) (v := ?_) rfl (by kernel_rfl) (by kernel_rfl) (by kernel_rfl) (by kernel_rfl) (by kernel_rfl) (by kernel_rfl) (fun _ _ _ h => h) (by rfl) ?_ hS ?_
          rotate_left
          · intro u hu
            try dsimp only at hu
            go_simp
            try with_reducible rfl
          try simp only [List.getElem_toArray, List.getElem_cons_succ, List.getElem_cons_zero, Act.put, List.setIfInBounds_toArray, List.set_cons_zero, List.set_cons_succ]
          refine wpAnyF_takeT (i := 10) (v := ?_) rfl (by kernel_rfl) (by kernel_rfl) (by kernel_rfl) (by kernel_rfl) (by kernel_rfl) (by kernel_rfl) (fun _ _ _ h => h) (by rfl) ?_ hS ?_
          rotate_left
          · intro u hu
            try dsimp only at hu
            go_simp
            try with_reducible rfl
          try simp only [List.getElem_toArray, List.getElem_cons_succ, List.getElem_cons_zero, Act.put, List.setIfInBounds_toArray, List.set_cons_zero, List.set_cons_succ]
          refine wpAnyF_takeT (i := 11) (v := ?_) rfl (by kernel_rfl) (by kernel_rfl) (by kernel_rfl) (by kernel_rfl) (by kernel_rfl) (by kernel_rfl) (fun _ _ _ h => h) (by rfl) ?_ hS ?_
          rotate_left
          · intro u hu
            try dsimp only at hu
            go_simp
            try with_reducible rfl
          try simp only [List.getElem_toArray, List.getElem_cons_succ, List.getElem_cons_zero, Act.put, List.setIfInBounds_toArray, List.set_cons_zero, List.set_cons_succ]
          refine wpAnyF_takeT (i := 12) (v := ?_) rfl (by kernel_rfl) (by kernel_rfl) (by kernel_rfl) (by kernel_rfl) (by kernel_rfl) (by kernel_rfl) (fun _ _ _ h => h) (by rfl) ?_ hS ?_
          rotate_left
          · intro u hu
            try dsimp only at hu
            go_simp
            try with_reducible rfl
          try simp only [List.getElem_toArray, List.getElem_cons_succ, List.getElem_cons_zero, Act.put, List.setIfInBounds_toArray, List.set_cons_zero, List.set_cons_succ]
          refine wpAnyF_takeT (i := 13) (v := ?_) rfl (by kernel_rfl) (by kernel_rfl) (by kernel_rfl) (by kernel_rfl) (by kernel_rfl) (by kernel_rfl) (fun _ _ _ h => h) (by rfl) ?_ hS ?_
          rotate_left
          · intro u hu
            try dsimp only at hu
            go_simp
            try with_reducible rfl
          try simp only [List.getElem_toArray, List.getElem_cons_succ, List.getElem_cons_zero, Act.put, List.setIfInBounds_toArray, List.set_cons_zero, List.set_cons_succ]
          refine wpAnyF_takeT (i := 14) (v := ?_) rfl (by kernel_rfl) (by kernel_rfl) (by kernel_rfl) (by kernel_rfl) (by kernel_rfl) (by kernel_rfl) (fun _ _ _ h => h) (by rfl) ?_ hS ?_
          rotate_left
          · intro u hu
            try dsimp only at hu
            go_simp
            try with_reducible rfl
          try simp only [List.getElem_toArray, List.getElem_cons_succ, List.getElem_cons_zero, Act.put, List.setIfInBounds_toArray, List.set_cons_zero, List.set_cons_succ]
          refine wpAnyF_takeT (i := 15) (v := ?_) rfl (by kernel_rfl) (by kernel_rfl) (by kernel_rfl) (by kernel_rfl) (by kernel_rfl) (by kernel_rfl) (fun _ _ _ h => h) (by rfl) ?_ hS ?_
          rotate_left
          · intro u hu
            try dsimp only at hu
            go_simp
            try with_reducible rfl
          try simp only [List.getElem_toArray, List.getElem_cons_succ, List.getElem_cons_zero, Act.put, List.setIfInBounds_toArray, List.set_cons_zero, List.set_cons_succ]
          refine wpAnyF_takeT (i := 16) (v := ?_) rfl (by kernel_rfl) (by kernel_rfl) (by kernel_rfl) (by kernel_rfl) (by kernel_rfl) (by kernel_rfl) (fun _ _ _ h => h) (by rfl) ?_ hS ?_
          rotate_left
          · intro u hu
            try dsimp only at hu
            go_simp
            try with_reducible rfl
          try simp only [List.getElem_toArray, List.getElem_cons_succ, List.getElem_cons_zero, Act.put, List.setIfInBounds_toArray, List.set_cons_zero, List.set_cons_succ]
          refine wpAnyF_takeT (i := 17) (v := ?_) rfl (by kernel_rfl) (by kernel_rfl) (by kernel_rfl) (by kernel_rfl) (by kernel_rfl) (by kernel_rfl) (fun _ _ _ h => h) (by rfl) ?_ hS ?_
          rotate_left
          · intro u hu
            try dsimp only at hu
            go_simp
            try with_reducible rfl
          try simp only [List.getElem_toArray, List.getElem_cons_succ, List.getElem_cons_zero, Act.put, List.setIfInBounds_toArray, List.set_cons_zero, List.set_cons_succ]
          refine wpAnyF_takeT (i := 18) (v := ?_) rfl (by kernel_rfl) (by kernel_rfl) (by kernel_rfl) (by kernel_rfl) (by kernel_rfl) (by kernel_rfl) (fun _ _ _ h => h) (by rfl) ?_ hS ?_
          rotate_left
          · intro u hu
            try dsimp only at hu
            go_simp
            try with_reducible rfl
          try simp only [List.getElem_toArray, List.getElem_cons_succ, List.getElem_cons_zero, Act.put, List.setIfInBounds_toArray, List.set_cons_zero, List.set_cons_succ]
          refine wpAnyF_step (i := 19) (by kernel_rfl) rfl (by rfl) fun K hK => ?_
          go_simp
          go_at_call 14
          refine (KC.out _).mono ?_
          rintro x w3 ⟨rfl, b3⟩
          have N3 := Lib.hid (show Nw wr w3 from (Nw.refl wr).drew.step b3)
          clear b3
          have hS := HS.out w3 N3.out
          refine hK _ _ (.inr (HS.out w3 N3.out)) ?_
          clear hK K
          try simp only [List.getElem_toArray, List.getElem_cons_succ, List.getElem_cons_zero, Act.put, List.setIfInBounds_toArray, List.set_cons_zero, List.set_cons_succ]
          refine wpAnyF_step (i := 20) (by kernel_rfl) rfl (by rfl) fun K hK => ?_
          go_simp
          refine hK _ _ (.inr hS) ?_
          clear hK K
          try simp only [List.getElem_toArray, List.getElem_cons_succ, List.getElem_cons_zero, Act.put, List.setIfInBounds_toArray, List.set_cons_zero, List.set_cons_succ]
          refine wpAnyF_step (i := 21) (by kernel_rfl) rfl (by rfl) fun K hK => ?_
          go_simp
          refine hK _ _ (.inl (by kernel_rfl)) ?_
          clear hK K
          try simp only [List.getElem_toArray, List.getElem_cons_succ, List.getElem_cons_zero, Act.put, List.setIfInBounds_toArray, List.set_cons_zero, List.set_cons_succ]
          refine wpAnyF_done (by kernel_rfl) ?_ _
          go_wp2_with fail
          go_roundw
          case rel => exact ⟨k + 1, by omega, by go_num, Lib.hid (NR.out.step N3.out), .inr ⟨k, by omega, rfl, Lib.hid fun i hi h => by
            rw [List.getD_eq_getElem?_getD, List.getElem?_eq_getElem hlt', Option.getD_some, HK.out]
            by_cases e : i = k
            · subst e; rw [HK.out]; exact Ky.less_irrefl _
            · have h1 := HJ.out i hi (by omega)
              rw [HGD.out] at h1
              exact Ky.le_trans (Ky.less_asymm HLC.out) h1⟩⟩
          case measure => simp [intOf]; omega
        · have g6 : (cv < 0) = False := by simpa using hlc
          have hlf : K.less J = false := by
            cases hkj : K.less J with
            | false => rfl
            | true => exact absurd (HCV.out.2 hkj) hlc
          have HLC := Lib.hid hlf
          clear hlc hlf
          go_upto_region 5 with (fail)
          clear b3
          refine wp_region_F (fun W => W.cell? ⟨r.RB, 3, none⟩ = some (.slice (some ⟨b, o, none⟩) n r.wc) ∧ W.cell? ⟨b, o + k * 6, none⟩ = some (.int .i64 K.T) ∧ W.cell? ⟨b, o + k * 6 + 1, none⟩ = some (.int .i64 K.O) ∧ W.cell? ⟨b, o + k * 6 + 2, none⟩ = some (.int .i64 K.S) ∧ W.cell? ⟨b, o + j * 6, none⟩ = some (.int .i64 J.T) ∧ W.cell? ⟨b, o + j * 6 + 1, none⟩ = some (.int .i64 J.O) ∧ W.cell? ⟨b, o + j * 6 + 2, none⟩ = some (.int .i64 J.S)) [21] (by kernel_rfl) ?_
          have hS := HS.out wr.drew (Nw.refl wr).drew
          refine wpAnyF_takeT (i := 0) (v := ?_) rfl (by kernel_rfl) (by kernel_rfl) (by kernel_rfl) (by kernel_rfl) (by kernel_rfl) (by kernel_rfl) (fun _ _ _ h => h) (by rfl) ?_ hS ?_
          rotate_left
          · intro u hu
            try dsimp only at hu
            go_simp
            try with_reducible rfl
          try simp only [List.getElem_toArray, List.getElem_cons_succ, List.getElem_cons_zero, Act.put, List.setIfInBounds_toArray, List.set_cons_zero, List.set_cons_succ]
          refine wpAnyF_takeT (i := 1) (v := ?_) rfl (by kernel_rfl) (by kernel_rfl) (by kernel_rfl) (by kernel_rfl) (by kernel_rfl) (by kernel_rfl) (fun _ _ _ h => h) (by rfl) ?_ hS ?_
          rotate_left
          · intro u hu
            try dsimp only at hu
            go_simp
            try with_reducible rfl
          try simp only [List.getElem_toArray, List.getElem_cons_succ, List.getElem_cons_zero, Act.put, List.setIfInBounds_toArray, List.set_cons_zero, List.set_cons_succ]
          refine wpAnyF_takeT (i := 2) (v := ?_) rfl (by kernel_rfl) (by kernel_rfl) (by kernel_rfl) (by kernel_rfl) (by kernel_rfl) (by kernel_rfl) (fun _ _ _ h => h) (by rfl) ?_ hS ?_
          rotate_left
          · intro u hu
            try dsimp only at hu
            go_simp
            try with_reducible rfl
          try simp only [List.getElem_toArray, List.getElem_cons_succ, List.getElem_cons_zero, Act.put, List.setIfInBounds_toArray, List.set_cons_zero, List.set_cons_succ]
          refine wpAnyF_takeT (i := 3) (v := ?_) rfl (by kernel_rfl) (by kernel_rfl) (by kernel_rfl) (by kernel_rfl) (by kernel_rfl) (by kernel_rfl) (fun _ _ _ h => h) (by rfl) ?_ hS ?_
          rotate_left
          · intro u hu
            try dsimp only at hu
            go_simp
            try with_reducible rfl
          try simp only [List.getElem_toArray, List.getElem_cons_succ, List.getElem_cons_zero, Act.put, List.setIfInBounds_toArray, List.set_cons_zero, List.set_cons_succ]
          refine wpAnyF_takeT (i := 4) (v := ?_) rfl (by kernel_rfl) (by kernel_rfl) (by kernel_rfl) (by kernel_rfl) (by kernel_rfl) (by kernel_rfl) (fun _ _ _ h => h) (by rfl) ?_ hS ?_
          rotate_left
          · intro u hu
            try dsimp only at hu
            go_simp
            try with_reducible rfl
          try simp only [List.getElem_toArray, List.getElem_cons_succ, List.getElem_cons_zero, Act.put, List.setIfInBounds_toArray, List.set_cons_zero, List.set_cons_succ]
          refine wpAnyF_takeT (i := 5) (v := ?_) rfl (by kernel_rfl) (by kernel_rfl) (by kernel_rfl) (by kernel_rfl) (by kernel_rfl) (by kernel_rfl) (fun _ _ _ h => h) (by rfl) ?_ hS ?_
          rotate_left
          · intro u hu
            try dsimp only at hu
            go_simp
            try with_reducible rfl
          try simp only [List.getElem_toArray, List.getElem_cons_succ, List.getElem_cons_zero, Act.put, List.setIfInBounds_toArray, List.set_cons_zero, List.set_cons_succ]
          refine wpAnyF_takeT (i := 6) (v := ?_) rfl (by kernel_rfl) (by kernel_rfl) (by kernel_rfl) (by kernel_rfl) (by kernel_rfl) (by kernel_rfl) (fun _ _ _ h => h) (by rfl) ?_ hS ?_
          rotate_left
          · intro u hu
            try dsimp only at hu
            go_simp
            try with_reducible rfl
          try simp only [List.getElem_toArray, List.getElem_cons_succ, List.getElem_cons_zero, Act.put, List.setIfInBounds_toArray, List.set_cons_zero, List.set_cons_succ]
          refine wpAnyF_takeT (i := 7) (v := ?_) rfl (by kernel_rfl) (by kernel_rfl) (by kernel_rfl) (by kernel_rfl) (by kernel_rfl) (by kernel_rfl) (fun _ _ _ h => h) (by rfl) ?_ hS ?_
          rotate_left
          · intro u hu
            try dsimp only at hu
            go_simp
            try with_reducible rfl
          try simp only [List.getElem_toArray, List.getElem_cons_succ, List.getElem_cons_zero, Act.put, List.setIfInBounds_toArray, List.set_cons_zero, List.set_cons_succ]
          refine wpAnyF_takeT (i := 8) (v := ?_) rfl (by kernel_rfl) (by kernel_rfl) (by kernel_rfl) (by kernel_rfl) (by kernel_rfl) (by kernel_rfl) (fun _ _ _ h => h) (by rfl) ?_ hS ?_
          rotate_left
          · intro u hu
            try dsimp only at hu
            go_simp
            try with_reducible rfl
          try simp only [List.getElem_toArray, List.getElem_cons_succ, List.getElem_cons_zero, Act.put, List.setIfInBounds_toArray, List.set_cons_zero, List.set_cons_succ]
          refine wpAnyF_takeT (i := 9) (v := ?_) rfl (by kernel_rfl) (by kernel_rfl) (by kernel_rfl) (by kernel_rfl) (by kernel_rfl) (by kernel_rfl) (fun _ _ _ h => h) (by rfl) ?_ hS ?_
          rotate_left
          · intro u hu
            try dsimp only at hu
            go_simp
            try with_reducible rfl
          try simp only [List.getElem_toArray, List.getElem_cons_succ, List.getElem_cons_zero, Act.put, List.setIfInBounds_toArray, List.set_cons_zero, List.set_cons_succ]
          refine wpAnyF_takeT (i := 10) (v := ?_) rfl (by kernel_rfl) (by kernel_rfl) (by kernel_rfl) (by kernel_rfl) (by kernel_rfl) (by kernel_rfl) (fun _ _ _ h => h) (by rfl) ?_ hS ?_
          rotate_left
          · intro u hu
            try dsimp only at hu
            go_simp
            try with_reducible rfl
          try simp only [List.getElem_toArray, List.getElem_cons_succ, List.getElem_cons_zero, Act.put, List.setIfInBounds_toArray, List.set_cons_zero, List.set_cons_succ]
          refine wpAnyF_takeT (i := 11) (v := ?_) rfl (by kernel_rfl) (by kernel_rfl) (by kernel_rfl) (by kernel_rfl) (by kernel_rfl) (by kernel_rfl) (fun _ _ _ h => h) (by rfl) ?_ hS ?_
          rotate_left
          · intro u hu
            try dsimp only at hu
            go_simp
            try with_reducible rfl
          try simp only [List.getElem_toArray, List.getElem_cons_succ, List.getElem_cons_zero, Act.put, List.setIfInBounds_toArray, List.set_cons_zero, List.set_cons_succ]
          refine wpAnyF_takeT (i := 12) (v := ?_) rfl (by kernel_rfl) (by kernel_rfl) (by kernel_rfl) (by kernel_rfl) (by kernel_rfl) (by kernel_rfl) (fun _ _ _ h => h) (by rfl) ?_ hS ?_
          rotate_left
          · intro u hu
            try dsimp only at hu
            go_simp
            try with_reducible rfl
          try simp only [List.getElem_toArray, List.getElem_cons_succ, List.getElem_cons_zero, Act.put, List.setIfInBounds_toArray, List.set_cons_zero, List.set_cons_succ]
          refine wpAnyF_takeT (i := 13) (v := ?_) rfl (by kernel_rfl) (by kernel_rfl) (by kernel_rfl) (by kernel_rfl) (by kernel_rfl) (by kernel_rfl) (fun _ _ _ h => h) (by rfl) ?_ hS ?_
          rotate_left
          · intro u hu
            try dsimp only at hu
            go_simp
            try with_reducible rfl
          try simp only [List.getElem_toArray, List.getElem_cons_succ, List.getElem_cons_zero, Act.put, List.setIfInBounds_toArray, List.set_cons_zero, List.set_cons_succ]
          refine wpAnyF_takeT (i := 14) (v := ?_) rfl (by kernel_rfl) (by kernel_rfl) (by kernel_rfl) (by kernel_rfl) (by kernel_rfl) (by kernel_rfl) (fun _ _ _ h => h) (by rfl) ?_ hS ?_
          rotate_left
          · intro u hu
            try dsimp only at hu
            go_simp
            try with_reducible rfl
          try simp only [List.getElem_toArray, List.getElem_cons_succ, List.getElem_cons_zero, Act.put, List.setIfInBounds_toArray, List.set_cons_zero, List.set_cons_succ]
          refine wpAnyF_takeT (i := 15) (v := ?_) rfl (by kernel_rfl) (by kernel_rfl) (by kernel_rfl) (by kernel_rfl) (by kernel_rfl) (by kernel_rfl) (fun _ _ _ h => h) (by rfl) ?_ hS ?_
          rotate_left
          · intro u hu
            try dsimp only at hu
            go_simp
            try with_reducible rfl
          try simp only [List.getElem_toArray, List.getElem_cons_succ, List.getElem_cons_zero, Act.put, List.setIfInBounds_toArray, List.set_cons_zero, List.set_cons_succ]
          refine wpAnyF_takeT (i := 16) (v := ?_) rfl (by kernel_rfl) (by kernel_rfl) (by kernel_rfl) (by kernel_rfl) (by kernel_rfl) (by kernel_rfl) (fun _ _ _ h => h) (by rfl) ?_ hS ?_
          rotate_left
          · intro u hu
            try dsimp only at hu
            go_simp
            try with_reducible rfl
          try simp only [List.getElem_toArray, List.getElem_cons_succ, List.getElem_cons_zero, Act.put, List.setIfInBounds_toArray, List.set_cons_zero, List.set_cons_succ]
          refine wpAnyF_takeT (i := 17) (v := ?_) rfl (by kernel_rfl) (by kernel_rfl) (by kernel_rfl) (by kernel_rfl) (by kernel_rfl) (by kernel_rfl) (fun _ _ _ h => h) (by rfl) ?_ hS ?_
          rotate_left
          · intro u hu
            try dsimp only at hu
            go_simp
            try with_reducible rfl
          try simp only [List.getElem_toArray, List.getElem_cons_succ, List.getElem_cons_zero, Act.put, List.setIfInBounds_toArray, List.set_cons_zero, List.set_cons_succ]
          refine wpAnyF_takeT (i := 18) (v := ?_) rfl (by kernel_rfl) (by kernel_rfl) (by kernel_rfl) (by kernel_rfl) (by kernel_rfl) (by kernel_rfl) (fun _ _ _ h => h) (by rfl) ?_ hS ?_
          rotate_left
          · intro u hu
            try dsimp only at hu
            go_simp
            try with_reducible rfl
          try simp only [List.getElem_toArray, List.getElem_cons_succ, List.getElem_cons_zero, Act.put, List.setIfInBounds_toArray, List.set_cons_zero, List.set_cons_succ]
          refine wpAnyF_step (i := 19) (by kernel_rfl) rfl (by rfl) fun K hK => ?_
          go_simp
          go_at_call 14
          refine (KC.out _).mono ?_
          rintro x w3 ⟨rfl, b3⟩
          have N3 := Lib.hid (show Nw wr w3 from (Nw.refl wr).drew.step b3)
          clear b3
          have hS := HS.out w3 N3.out
          refine hK _ _ (.inr (HS.out w3 N3.out)) ?_
          clear hK K
          try simp only [List.getElem_toArray, List.getElem_cons_succ, List.getElem_cons_zero, Act.put, List.setIfInBounds_toArray, List.set_cons_zero, List.set_cons_succ]
          refine wpAnyF_step (i := 20) (by kernel_rfl) rfl (by rfl) fun K hK => ?_
          go_simp
          refine hK _ _ (.inr hS) ?_
          clear hK K
          try simp only [List.getElem_toArray, List.getElem_cons_succ, List.getElem_cons_zero, Act.put, List.setIfInBounds_toArray, List.set_cons_zero, List.set_cons_succ]
          refine wpAnyF_step (i := 21) (by kernel_rfl) rfl (by rfl) fun K hK => ?_
          go_simp
          refine hK _ _ (.inl (by kernel_rfl)) ?_
          clear hK K
          try simp only [List.getElem_toArray, List.getElem_cons_succ, List.getElem_cons_zero, Act.put, List.setIfInBounds_toArray, List.set_cons_zero, List.set_cons_succ]
          refine wpAnyF_done (by kernel_rfl) ?_ _
          go_wp2_with fail
          go_roundw
          case rel => exact ⟨k + 1, by omega, by go_num, Lib.hid (NR.out.step N3.out), .inr ⟨j, by have := HJJ.out; omega, rfl, Lib.hid fun i hi h => by
            by_cases e : i = k
            · subst e; rw [HGD.out, HK.out]; exact HLC.out
            · exact HJ.out i hi (by omega)⟩⟩
          case measure => simp [intOf]; omega
    · have g4 : ¬ (k : Int) < (n : Int) := by omega
      have hkn : k = n := by omega
      rcases hcase with ⟨hk0, rfl⟩ | ⟨j, hj, rfl, HJ⟩
      · go_wp2_with fail
        go_ret
        refine ⟨NR.out, .inl ⟨?_, rfl⟩⟩
        rw [HWL.out]
        exact List.eq_nil_of_length_eq_zero (by rw [HN.out]; omega)
      · go_wp2_with fail
        go_ret
        have hj' : j < wl.length := by rw [HN.out]; omega
        refine ⟨NR.out, .inr ⟨j, by rw [HWL.out]; exact hj', rfl, fun y hy => ?_⟩⟩
        simp only [HWL.out] at hy ⊢
        obtain ⟨i, hi, rfl⟩ := List.getElem_of_mem hy
        have h1 := HJ.out i hi (by rw [HN.out] at hi; omega)
        rw [List.getD_eq_getElem?_getD, List.getElem?_eq_getElem hj', Option.getD_some] at h1
        exact h1
end
end Go.Proofs.Ytgijkgngldfdiaa
/- Behind a step of the document's sequence. Helper. -/
namespace Go.Proofs.Ytgijkgngldfdiaa
open Go.RowKit
set_option linter.unusedVariables false
set_option linter.unusedSimpArgs false
theorem erase_rows (l : List Ev) (j : Nat) (h : j < l.length) : (ints (rows l)).take (j * 6) ++ (ints (rows l)).drop ((j + 1) * 6) = ints (rows (l.eraseIdx j)) := by
  rw [ints_take, ints_drop, (rows_take l j (by omega)).1, (rows_take l (j + 1) (by omega)).2, ← ints_append, ← rows_append, List.eraseIdx_eq_take_drop_succ]
theorem perm_erase (l : List Ev) (j : Nat) (h : j < l.length) : l.Perm (l[j] :: l.eraseIdx j) := (cons_eraseIdx_perm l j h).symm
def cur3 (cur : Array Value) (k : Nat) (a b c : Value) : Array Value := ((cur.setIfInBounds k a).setIfInBounds (k + 1) b).setIfInBounds (k + 2) c
theorem RSeq.after {w w5 w6 w7 w8 wf : World} {r : RMem} {m : Mdl} {s : Sq} {e : Ev} {rest : List Ev} {i : Nat} {v : Vm} (h : RSeq w r m s) (hp : s.w.Perm (e :: rest)) (hmin : ∀ x ∈ rest, e.k.less x.k = true)
    (hi : (e.p - 1).toNat = i) (hin : i < m.procs.length) (hv : (m.run s e).1 = v) {cur : Array Value} (hst : Blk w r.sB 65 cur)
    (hcur : ∀ i, i < m.procs.length → ∃ a c, StCells cur r.so i a (s.sts.getD i St.z).vars.length c (s.sts.getD i St.z).sent (s.sts.getD i St.z).drawn ∧ Stays w r.V (fun W => Rd W a (ints (s.sts.getD i St.z).vars)))
    {b2 : Option Nat} {A3 : Option Addr} {c3 : Nat} {b3 : Option Nat} {xA : Option Addr} {xc OB : Nat}
    (c5 : Chg (fun g => g = r.RB) w w5) (nb2 : ∀ g, b2 = some g → w.heap.size ≤ g) (lb2 : ∀ g, b2 = some g → g < w5.heap.size)
    (n6 : Nw w5 w6) (c7 : Chg (fun g => g = r.sB) w6 w7) (st7 : Blk w7 r.sB 65 (cur3 cur (r.so + i * 3) (.slice xA v.vars.length xc) (.int .i64 v.sent) (.int .i64 v.drawn)))
    (rd7 : Rd w7 xA (ints v.vars)) (at7 : ∀ b o, xA = some ⟨b, o, none⟩ → w5.heap.size ≤ b ∨ v.vars = [])
    (c8 : Chg (fun g => some g = b2) w7 w8) (o8 : Own w8 44 6 (.slice A3 (rest.length + v.sends.length) c3) (rest.length + v.sends.length) (ints (rows rest) ++ ints (rows (v.sends.map evOf))) b3) (a8 : ∀ g, b3 = some g → b2 = some g ∨ w7.heap.size ≤ g)
    (cf : Chg (fun g => g = r.RB ∨ g = OB) w8 wf) (hO : w.heap.size ≤ OB) (lO : OB < w5.heap.size) (hob3 : b3 ≠ some OB)
    (bf : Blk wf r.RB 42 #[.slice r.pA m.procs.length r.pc, .slice r.fA r.fn r.fc, .slice (some ⟨r.sB, r.so, none⟩) m.procs.length r.sc, .slice A3 (rest.length + v.sends.length) c3, .slice r.uA s.put.length r.uc, .int .i64 ((s.done : Int) + 1), .int .i64 e.k.T])
    (hd : s.done ≤ 900) (hw9 : s.w.length ≤ 9000) :
    ∃ r' : RMem, RSeq wf r' m (m.after s e rest) ∧ r'.RB = r.RB ∧ (r'.pA = r.pA ∧ r'.pc = r.pc) ∧ r'.U = r.U ∧ Chg r.T w wf ∧ ∀ g, r'.T g → r.T g ∨ w.heap.size ≤ g := by
  have hne := h.ne
  have hRB := h.box.lt
  have hsB := hst.lt
  have s5 := c5.size
  have s6 := n6.size
  have s7 := c7.size
  have s8 := c8.size
  have hbU : ∀ g, r.bU = some g → g < w.heap.size := h.uown.lt
  have he : e ∈ s.w := hp.symm.subset List.mem_cons_self
  have hmn := run_means h.ok he (by omega)
  rw [hv] at hmn
  have hokA := step_ok h.ok hp hmin (by omega)
  have hcF : Chg (fun g => g = r.RB ∨ g = r.sB) w wf := by
    refine Chg.trans (M' := fun g => g = r.RB ∨ g = r.sB ∨ some g = b2 ∨ g = OB) (c5.mono fun i _ q => .inl q) ?_ fun i hi q => ?_
    · refine Chg.trans (M' := fun g => g = r.RB ∨ g = OB) ?_ cf fun i _ q => q.elim .inl fun q => .inr (.inr (.inr q))
      refine Chg.trans (M' := fun g => some g = b2) ?_ c8 fun i _ q => .inr (.inr (.inl q))
      exact (Chg.of_below n6 (Nat.le_refl _) _).trans c7 fun i _ q => .inr (.inl q)
    · rcases q with q | q | q | q
      · exact .inl q
      · exact .inr q
      · have := nb2 i q.symm; omega
      · omega
  have hcT : Chg r.T w wf := hcF.mono fun i _ q => q.imp id .inl
  let r' : RMem := { r with wA := A3, wc := c3, bW := b3 }
  have hT : ∀ g, r'.T g → r.T g ∨ w.heap.size ≤ g := fun g q => by
    rcases q with q | q | q | q
    · exact .inl (.inl q)
    · exact .inl (.inr (.inl q))
    · rcases a8 g q.symm with q2 | q2
      · exact .inr (nb2 g q2)
      · exact .inr (by omega)
    · exact .inl (.inr (.inr (.inr q)))
  have hlen : i < s.sts.length := by rw [h.ok.len]; exact hin
  have hg : ∀ i', (m.after s e rest).sts.getD i' St.z = if i = i' then ⟨v.vars, v.sent, v.drawn⟩ else s.sts.getD i' St.z := fun i' => by
    have h1 := getD_set s.sts i i' ⟨v.vars, v.sent, v.drawn⟩ St.z hlen
    unfold Mdl.after
    rw [hi, hv]
    exact h1
  have hwl : (m.after s e rest).w = rest ++ v.sends.map evOf := by unfold Mdl.after; rw [hv]
  have hwn : (m.after s e rest).w.length = rest.length + v.sends.length := by rw [hwl, List.length_append, List.length_map]
  have hrl : rest.length + 1 = s.w.length := by have := hp.length_eq; rw [List.length_cons] at this; omega
  have c6f : Chg (fun g => g = r.RB ∨ g = r.sB ∨ some g = b2 ∨ g = OB) w6 wf := by
    refine Chg.trans (M' := fun g => g = r.RB ∨ g = OB) ?_ cf fun i _ q => q.elim .inl fun q => .inr (.inr (.inr q))
    refine Chg.trans (M' := fun g => some g = b2) (c7.mono fun i _ q => .inr (.inl q)) c8 fun i _ q => .inr (.inr (.inl q))
  have c7f : Chg (fun g => g = r.RB ∨ some g = b2 ∨ g = OB) w7 wf := by
    refine Chg.trans (M' := fun g => g = r.RB ∨ g = OB) (c8.mono fun i _ q => .inr (.inl q)) cf fun i _ q => q.elim .inl fun q => .inr (.inr q)
  refine ⟨r', ⟨?_, ⟨_, st7.chg c7f ?_, fun i' hi' => ?_⟩, ?_, ?_, hokA, ⟨?_, ?_, h.few.2.2⟩, fun g q => Nat.lt_of_lt_of_le (h.low g q) hcT.size, fun g q u => (hT g q).elim (fun q => h.dis g q u) fun q => absurd (h.low g u) (by omega)⟩, rfl, ⟨rfl, rfl⟩, rfl, hcT, hT⟩
  · show Blk wf r.RB _ #[_, _, _, .slice A3 (m.after s e rest).w.length c3, _, .int .i64 ((s.done + 1 : Nat) : Int), .int .i64 e.k.T]
    rw [hwn, show ((s.done + 1 : Nat) : Int) = (s.done : Int) + 1 by omega]
    exact bf
  · intro q
    rcases q with q | q | q
    · exact hne.1 q.symm
    · have := nb2 r.sB q.symm; omega
    · have q : r.sB = OB := q
      omega
  · rw [hg i', show r'.so = r.so from rfl]
    by_cases q : i = i'
    · subst q
      rw [if_pos rfl]
      have hsz : r.so + i * 3 + 2 < cur.size := by
        obtain ⟨a, c, ⟨_, _, g2⟩, _⟩ := hcur i hin
        rcases Nat.lt_or_ge (r.so + i * 3 + 2) cur.size with h2 | h2
        · exact h2
        · rw [Array.getElem?_eq_none h2] at g2; cases g2
      unfold cur3
      refine ⟨xA, xc, ⟨(set_other _ (by omega)).trans ((set_other _ (by omega)).trans (set_same _ (by omega))), (set_other _ (by omega)).trans (set_same _ (by rw [Array.size_setIfInBounds]; omega)), set_same _ (by rw [Array.size_setIfInBounds, Array.size_setIfInBounds]; omega)⟩, ?_⟩
      have hsafe : Safe w7 w5.heap.size w7.heap.size (fun W => Rd W xA (ints v.vars)) := Safe.rd rd7 (fun b o e => (at7 b o e).imp id (fun h => by rw [h]; rfl))
      have hoff : Off (fun g => (g = r.RB ∨ some g = b2 ∨ g = OB) ∨ r'.V g) w5.heap.size w7.heap.size := fun g h1 h2 q => by
        rcases q with (q | q | q) | (q | q | q | q) | q
        · omega
        · have := lb2 g q.symm; omega
        · omega
        · have q : g = r.RB := q
          omega
        · have q : g = r.sB := q
          omega
        · rcases a8 g q.symm with q2 | q2
          · have := lb2 g q2; omega
          · omega
        · have := hbU g q.symm; omega
        · have := h.low g q; omega
      exact (Stays.of_safe hsafe hoff).keep (c7f.mono fun g _ q => .inl q) (fun g q => .inl (.inr q))
    · rw [if_neg q]
      obtain ⟨a', c'', ⟨g0, g1, g2⟩, hs⟩ := hcur i' hi'
      unfold cur3
      exact ⟨a', c'', ⟨(set_other _ (by omega)).trans ((set_other _ (by omega)).trans ((set_other _ (by omega)).trans g0)), (set_other _ (by omega)).trans ((set_other _ (by omega)).trans ((set_other _ (by omega)).trans g1)), (set_other _ (by omega)).trans ((set_other _ (by omega)).trans ((set_other _ (by omega)).trans g2))⟩, hs.keep hcT.ownR (RMem.keepV rfl hT)⟩
  · show Own _ _ 6 (.slice A3 (m.after s e rest).w.length c3) (m.after s e rest).w.length (ints (rows (m.after s e rest).w)) b3
    rw [hwn, hwl, rows_append, ints_append]
    refine o8.kept fun g hg2 => cf.block g (o8.lt g hg2) fun q => ?_
    rcases q with q | q
    · obtain ⟨cs, hcs⟩ := o8.tyB g hg2
      have hbw8 : g < w.heap.size → False := fun hlt => by
        rcases a8 g hg2 with q2 | q2
        · have := nb2 g q2; omega
        · omega
      exact hbw8 (by rw [q]; exact hRB)
    · exact hob3 (by rw [hg2, q])
  · show Own _ _ 1 (.slice r.uA s.put.length r.uc) s.put.length (ints s.put) r.bU
    exact h.uown.chg hcF fun g hg2 q => by
      rcases q with q | q
      · exact hne.2.2.1 (by rw [← q]; exact hg2.symm)
      · exact hne.2.2.2.2.1 (by rw [← q]; exact hg2.symm)
  · show s.done + 1 ≤ 1000; omega
  · rw [hwn]
    have := hmn.2.2.1
    omega
end Go.Proofs.Ytgijkgngldfdiaa
