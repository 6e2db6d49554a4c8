/- A sequence in the making. Helper. -/
import Derived.Test.YtgijkgngldfdiaaSqA
import Derived.Test.YtgijkgngldfdiaaRegE
namespace Go.Proofs.Ytgijkgngldfdiaa
open Go.RowKit
set_option linter.unusedVariables false
set_option linter.unusedSimpArgs false
section
variable {P : Program} {ops : Array Oper} {Q : Exit → Act → World → Prop} {md : Region.Mode} {S : World → Prop} {z : Nat}
theorem wpAnyE_skip {i : Nat} {o : Oper} {n : Nat} {l : Array Bool} {a : Act} {w : World} (hr : Region.ready md ops l = [i]) (hi : ops[i]? = some o) (hw : Region.wanted o (yielded ops a.tmps) = false) (hS : S w)
    (h : wpAnyE P md ops Q S z n (l.setIfInBounds i true) (a.put o.dst undef) w) : wpAnyE P md ops Q S z (n + 1) l a w :=
  wpAnyE_one hr (by
    unfold wpOp
    rw [hi]
    simp only [hw]
    exact ⟨.inr hS, h⟩)
end
section
variable (p : PMem) (m : Mdl) (s : Sq) (ws : List Ev) (e : Ev) (w : World)
set_option maxRecDepth 100000
set_option maxHeartbeats 1600000
theorem floor_any (h : PSeq w p m s ws) : Calls Try.prog 22 #[.pointer (some ⟨p.SB, 0, none⟩)] w fun r w' => r = .returned (.int .i64 s.last.T) ∧ w' = w := by
  have HK := Lib.hid (seqNone_any p m s ws w h)
  have c5 : w.cell? ⟨p.SB, 5, none⟩ = some (.int .i64 s.last.T) := h.waits.box.cell 5
  clear h
  go_enter Try.func22, Try.ntmps22
  go_wp2_with fail
  refine HK.out.mono ?_
  rintro r w2 ⟨rfl, h2⟩
  rw [h2]
  clear h2 w2
  go_wp2_with fail
  go_ret
  exact ⟨rfl, rfl⟩
theorem done_any (h : PSeq w p m s ws) : Calls Try.prog 23 #[.pointer (some ⟨p.SB, 0, none⟩)] w fun r w' => r = .returned (.int .i64 (s.done : Int)) ∧ w' = w := by
  have HK := Lib.hid (seqNone_any p m s ws w h)
  have c5 : w.cell? ⟨p.SB, 4, none⟩ = some (.int .i64 (s.done : Int)) := h.waits.box.cell 4
  clear h
  go_enter Try.func23, Try.ntmps23
  go_wp2_with fail
  refine HK.out.mono ?_
  rintro r w2 ⟨rfl, h2⟩
  rw [h2]
  clear h2 w2
  go_wp2_with fail
  go_ret
  exact ⟨rfl, rfl⟩
theorem waits_any (h : PSeq w p m s ws) : Calls Try.prog 24 #[.pointer (some ⟨p.SB, 0, none⟩)] w fun r w' => r = .returned (.int .i64 (s.w.length : Int)) ∧ w' = w := by
  have HK := Lib.hid (seqNone_any p m s ws w h)
  have c5 : w.cell? ⟨p.SB, 2, none⟩ = some (.slice p.A s.w.length p.c) := by rw [← h.twin.perm.length_eq]; exact h.waits.box.cell 2
  clear h
  go_enter Try.func24, Try.ntmps24
  go_wp2_with fail
  refine HK.out.mono ?_
  rintro r w2 ⟨rfl, h2⟩
  rw [h2]
  clear h2 w2
  go_wp2_with fail
  go_ret
  exact ⟨rfl, rfl⟩
def PutOut (w : World) (p : PMem) (m : Mdl) (s : Sq) (e : Ev) (r : Ending) (w' : World) : Prop :=
  r = .returned (.int .i64 (m.putErr s e)) ∧ ∃ p' ws', PSeq w' p' m (if m.putErr s e = 0 then s.add e else s) ws' ∧ p'.SB = p.SB ∧ p'.U = p.U ∧ Chg p.T w w' ∧ ∀ g, p'.T g → p.T g ∨ w.heap.size ≤ g
theorem put_no (x : Int) (hx : m.putErr s e = x) (h0 : x ≠ 0) (h : PSeq w p m s ws) (w' : World) (hn : Nw w w') : PutOut w p m s e (.returned (.int .i64 x)) w' :=
  ⟨by rw [hx], p, ws, by rw [if_neg (by rw [hx]; exact h0)]; exact h.new hn, rfl, rfl, Chg.of_below hn (Nat.le_refl _) _, fun g q => .inl q⟩
theorem put_yes (h : PSeq w p m s ws) (he : m.putErr s e = 0) (w5 w6 : World) (A' : Option Addr) (c' : Nat) (blk' : Option Nat) {w3 : World} (n03 : Nw w w3) (hc5 : Chg (fun k => k = p.PB) w w5) (hsn : Sn w5 p.PB (e.k.S :: s.put.reverse))
    (hwt : Waits w6 p.SB (.slice p.pA m.procs.length p.pc) (.slice (some ⟨p.stB, p.so, none⟩) m.procs.length p.sc) (insE ws e) (.map (some p.PB)) (.int .i64 (s.done : Int)) (.int .i64 s.last.T) A' c' blk')
    (hc6 : Chg (fun k => k = p.SB ∨ some k = p.blk) w5 w6) (hat : ∀ g, blk' = some g → p.blk = some g ∨ w5.heap.size ≤ g) (hl : s.w.length ≤ 9000) (hp9 : s.put.length ≤ 9000) : PutOut w p m s e (.returned (.int .i64 0)) w6 := by
  have hne := h.ne
  have hT : ∀ g, ({ p with A := A', c := c', blk := blk' } : PMem).T g → p.T g ∨ w.heap.size ≤ g := fun g q => by
    rcases q with q | q | q | q
    · exact .inl (.inl q)
    · exact .inl (.inr (.inl q))
    · rcases hat g q.symm with q2 | q2
      · exact .inl (.inr (.inr (.inl q2.symm)))
      · exact .inr (Nat.le_trans hc5.size q2)
    · exact .inl (.inr (.inr (.inr q)))
  have hc : Chg p.T w w6 := (hc5.mono fun i _ q => .inr (.inr (.inr q))).trans hc6 fun i _ q => q.elim (fun q => .inl q) fun q => .inr (.inr (.inl q))
  have hok := put_ok h.ok he
  refine ⟨by rw [he], { p with A := A', c := c', blk := blk' }, insE ws e, ?_, rfl, rfl, hc, hT⟩
  rw [if_pos he]
  obtain ⟨cur, hst, hsts⟩ := h.sts
  refine ⟨hwt, fun i hi => (h.procs i hi).keep hc.own (PMem.keepV rfl hT), ?_, ?_, hok, ⟨insE_srt h.twin.srt fun x hx => ?_, (insE_perm ws e).trans (h.twin.perm.append_right [e])⟩, ⟨h.few.1, ?_, ?_⟩, fun g q => Nat.lt_of_lt_of_le (h.low g q) hc.size, fun g q u => (hT g q).elim (fun q => h.dis g q u) fun q => absurd (h.low g u) (by omega)⟩
  · refine ⟨cur, (hst.chg hc5 fun q => hne.2.2.2.2.1 q).chg hc6 fun q => ?_, fun i hi => ?_⟩
    · rcases q with q | q
      · exact hne.1 q.symm
      · exact hne.2.2.1 q
    · obtain ⟨a, c, g1, g2⟩ := hsts i hi
      exact ⟨a, c, g1, g2.keep hc.own (PMem.keepV rfl hT)⟩
  · have h1 : (s.add e).put.reverse = e.k.S :: s.put.reverse := by show (s.put ++ [e.k.S]).reverse = _; simp
    rw [h1]
    refine hsn.same (hc6.block p.PB hsn.1.lt fun q => ?_)
    rcases q with q | q
    · exact hne.2.2.2.1 q.symm
    · exact hne.2.2.2.2.2 q
  · have h1 : (s.w ++ [e]).Pairwise fun a b => a.k ≠ b.k := hok.uniq
    exact (List.pairwise_append.1 h1).2.2 x (h.twin.perm.subset hx) e (by simp)
  · show (s.w ++ [e]).length ≤ 10000; simp; omega
  · show (s.put ++ [e.k.S]).length ≤ 10000; simp; omega
theorem put_any (h : PSeq w p m s ws) (hw : (Lit.int .i64 e.k.S).wf = true) (hl : s.w.length ≤ 9000) (hp9 : s.put.length ≤ 9000) :
    Calls Try.prog 15 #[.pointer (some ⟨p.SB, 0, none⟩), .agg #[.int .i64 e.k.T, .int .i64 e.k.O, .int .i64 e.k.S, .int .i64 e.p, .int .i64 e.q, .int .i64 e.d]] w (PutOut w p m s e) := by
  obtain ⟨w1, hw1⟩ : ∃ w1, w.alloc (.cells #[.int .i64 e.k.T, .int .i64 e.k.O, .int .i64 e.k.S, .int .i64 e.p, .int .i64 e.q, .int .i64 e.d] 44) = w1 := ⟨_, rfl⟩
  have n1 : Nw w w1 := by rw [← hw1]; exact (Nw.refl w).alloc _
  obtain ⟨EB, hEB⟩ : ∃ EB, w.heap.size = EB := ⟨_, rfl⟩
  have hbE : Blk w1 EB 44 #[.int .i64 e.k.T, .int .i64 e.k.O, .int .i64 e.k.S, .int .i64 e.p, .int .i64 e.q, .int .i64 e.d] := by rw [← hw1]; exact Blk.last w _ _ hEB
  have h1 := h.new n1
  have HK1 := Lib.hid (seqNone_any p m s ws w1 h1)
  have HKM := Lib.hid (fun W => may_any e.k.T e.k.O e.k.S e.p e.q e.d m.procs.length W)
  have s0 : w1.cell? ⟨p.SB, 0, none⟩ = some (.slice p.pA m.procs.length p.pc) := h1.waits.box.cell 0
  have s3 : w1.cell? ⟨p.SB, 3, none⟩ = some (.map (some p.PB)) := h1.waits.box.cell 3
  have s5 : w1.cell? ⟨p.SB, 5, none⟩ = some (.int .i64 s.last.T) := h1.waits.box.cell 5
  have e0 : w1.cell? ⟨EB, 0, none⟩ = some (.int .i64 e.k.T) := hbE.cell 0
  have e1 : w1.cell? ⟨EB, 1, none⟩ = some (.int .i64 e.k.O) := hbE.cell 1
  have e2 : w1.cell? ⟨EB, 2, none⟩ = some (.int .i64 e.k.S) := hbE.cell 2
  have e3 : w1.cell? ⟨EB, 3, none⟩ = some (.int .i64 e.p) := hbE.cell 3
  have e4 : w1.cell? ⟨EB, 4, none⟩ = some (.int .i64 e.q) := hbE.cell 4
  have e5 : w1.cell? ⟨EB, 5, none⟩ = some (.int .i64 e.d) := hbE.cell 5
  have HW1 := Lib.hid hw1
  have HEB := Lib.hid hEB
  have HBE := Lib.hid hbE
  have N1 := Lib.hid n1
  have HPS := Lib.hid h
  have HPS1 := Lib.hid h1
  have HWF := Lib.hid hw
  have HL := Lib.hid hl
  have HP9 := Lib.hid hp9
  have hss : ∀ W, Nw w1 W → Nw w1 W ∧ W.cell? ⟨p.SB, 0, none⟩ = some (.slice p.pA m.procs.length p.pc) ∧ W.cell? ⟨EB, 0, none⟩ = some (.int .i64 e.k.T) ∧ W.cell? ⟨EB, 1, none⟩ = some (.int .i64 e.k.O) ∧ W.cell? ⟨EB, 2, none⟩ = some (.int .i64 e.k.S) ∧ W.cell? ⟨EB, 3, none⟩ = some (.int .i64 e.p) ∧ W.cell? ⟨EB, 4, none⟩ = some (.int .i64 e.q) ∧ W.cell? ⟨EB, 5, none⟩ = some (.int .i64 e.d) := fun W H => ⟨H, H.cell s0, H.cell e0, H.cell e1, H.cell e2, H.cell e3, H.cell e4, H.cell e5⟩
  have HSS := Lib.hid hss
  obtain ⟨N, hN⟩ : ∃ N, m.procs.length = N := ⟨_, rfl⟩
  obtain ⟨bm, hbm⟩ : ∃ bm, MayB e.k.T e.k.O e.k.S e.p e.q e.d N = bm := ⟨_, rfl⟩
  rw [hN] at s0 HKM
  rw [hbm] at HKM
  have HBM := Lib.hid (show e.may m.procs.length = bm by rw [hN]; exact hbm)
  clear h h1 hw1 n1 hEB hbE hw hl hp9 hss hbm
  rw [hN] at HSS
  clear hN
  cases bm with
  | false =>
    go_enter Try.func15, Try.ntmps15
    go_upto_region 1 with (fail)
    rw [HW1.out, HEB.out]
    go_wp2_with fail
    refine HK1.out.mono ?_
    rintro r wq ⟨rfl, hq⟩
    rw [hq]
    clear hq wq
    go_upto_region 3 with (fail)
    go_cut [8] (fun v8 wx => v8 = .bool true ∧ Hid (Nw w1 wx))
    case first =>
      refine wp_region_E (fun W => Nw w1 W ∧ W.cell? ⟨p.SB, 0, none⟩ = some (.slice p.pA N p.pc) ∧ W.cell? ⟨EB, 0, none⟩ = some (.int .i64 e.k.T) ∧ W.cell? ⟨EB, 1, none⟩ = some (.int .i64 e.k.O) ∧ W.cell? ⟨EB, 2, none⟩ = some (.int .i64 e.k.S) ∧ W.cell? ⟨EB, 3, none⟩ = some (.int .i64 e.p) ∧ W.cell? ⟨EB, 4, none⟩ = some (.int .i64 e.q) ∧ W.cell? ⟨EB, 5, none⟩ = some (.int .i64 e.d)) 14 (by kernel_rfl) ?_
      have hS := HSS.out w1.drew (Nw.refl w1).drew
      refine wpAnyE_takeT (i := 0) (v := ?_) rfl (by kernel_rfl) (by kernel_rfl) (by kernel_rfl) (by kernel_rfl) (by kernel_rfl) (fun _ _ _ h => h) (by rfl) ?_ hS ?_
      rotate_left
      · intro u hu
        try dsimp only at hu
        go_simp
        try with_reducible rfl
      try simp only [List.getElem_toArray, List.getElem_cons_succ, List.getElem_cons_zero, Act.put, List.setIfInBounds_toArray, List.set_cons_zero, List.set_cons_succ]
      refine wpAnyE_takeT (i := 1) (v := ?_) rfl (by kernel_rfl) (by kernel_rfl) (by kernel_rfl) (by kernel_rfl) (by kernel_rfl) (fun _ _ _ h => h) (by rfl) ?_ hS ?_
      rotate_left
      · intro u hu
        try dsimp only at hu
        go_simp
        try with_reducible rfl
      try simp only [List.getElem_toArray, List.getElem_cons_succ, List.getElem_cons_zero, Act.put, List.setIfInBounds_toArray, List.set_cons_zero, List.set_cons_succ]
      refine wpAnyE_takeT (i := 2) (v := ?_) rfl (by kernel_rfl) (by kernel_rfl) (by kernel_rfl) (by kernel_rfl) (by kernel_rfl) (fun _ _ _ h => h) (by rfl) ?_ hS ?_
      rotate_left
      · intro u hu
        try dsimp only at hu
        go_simp
        try with_reducible rfl
      try simp only [List.getElem_toArray, List.getElem_cons_succ, List.getElem_cons_zero, Act.put, List.setIfInBounds_toArray, List.set_cons_zero, List.set_cons_succ]
      refine wpAnyE_takeT (i := 3) (v := ?_) rfl (by kernel_rfl) (by kernel_rfl) (by kernel_rfl) (by kernel_rfl) (by kernel_rfl) (fun _ _ _ h => h) (by rfl) ?_ hS ?_
      rotate_left
      · intro u hu
        try dsimp only at hu
        go_simp
        try with_reducible rfl
      try simp only [List.getElem_toArray, List.getElem_cons_succ, List.getElem_cons_zero, Act.put, List.setIfInBounds_toArray, List.set_cons_zero, List.set_cons_succ]
      refine wpAnyE_takeT (i := 4) (v := ?_) rfl (by kernel_rfl) (by kernel_rfl) (by kernel_rfl) (by kernel_rfl) (by kernel_rfl) (fun _ _ _ h => h) (by rfl) ?_ hS ?_
      rotate_left
      · intro u hu
        try dsimp only at hu
        go_simp
        try with_reducible rfl
      try simp only [List.getElem_toArray, List.getElem_cons_succ, List.getElem_cons_zero, Act.put, List.setIfInBounds_toArray, List.set_cons_zero, List.set_cons_succ]
      refine wpAnyE_takeT (i := 5) (v := ?_) rfl (by kernel_rfl) (by kernel_rfl) (by kernel_rfl) (by kernel_rfl) (by kernel_rfl) (fun _ _ _ h => h) (by rfl) ?_ hS ?_
      rotate_left
      · intro u hu
        try dsimp only at hu
        go_simp
        try with_reducible rfl
      try simp only [List.getElem_toArray, List.getElem_cons_succ, List.getElem_cons_zero, Act.put, List.setIfInBounds_toArray, List.set_cons_zero, List.set_cons_succ]
      refine wpAnyE_step (i := 6) (by kernel_rfl) rfl (by rfl) fun K hK => ?_
      go_simp
      go_at_call 40
      refine (HKM.out _).mono ?_
      rintro r wz ⟨rfl, bz⟩
      have iz := (Nw.refl w1).drew.step bz
      have hS := HSS.out _ iz
      refine hK _ _ (.inr (HSS.out _ iz)) ?_
      clear hK K
      try simp only [List.getElem_toArray, List.getElem_cons_succ, List.getElem_cons_zero, Act.put, List.setIfInBounds_toArray, List.set_cons_zero, List.set_cons_succ]
      refine wpAnyE_step (i := 7) (by kernel_rfl) rfl (by rfl) fun K hK => ?_
      go_simp
      refine hK _ _ (.inr hS) ?_
      clear hK K
      try simp only [List.getElem_toArray, List.getElem_cons_succ, List.getElem_cons_zero, Act.put, List.setIfInBounds_toArray, List.set_cons_zero, List.set_cons_succ]
      refine wpAnyE_step (i := 8) (by kernel_rfl) rfl (by rfl) fun K hK => ?_
      go_simp
      refine hK _ _ (.inr hS) ?_
      clear hK K
      try simp only [List.getElem_toArray, List.getElem_cons_succ, List.getElem_cons_zero, Act.put, List.setIfInBounds_toArray, List.set_cons_zero, List.set_cons_succ]
      refine wpAnyE_skip (i := 9) (by kernel_rfl) rfl (by rfl) hS ?_
      try simp only [List.getElem_toArray, List.getElem_cons_succ, List.getElem_cons_zero, Act.put, List.setIfInBounds_toArray, List.set_cons_zero, List.set_cons_succ]
      refine wpAnyE_skip (i := 10) (by kernel_rfl) rfl (by rfl) hS ?_
      try simp only [List.getElem_toArray, List.getElem_cons_succ, List.getElem_cons_zero, Act.put, List.setIfInBounds_toArray, List.set_cons_zero, List.set_cons_succ]
      refine wpAnyE_skip (i := 11) (by kernel_rfl) rfl (by rfl) hS ?_
      try simp only [List.getElem_toArray, List.getElem_cons_succ, List.getElem_cons_zero, Act.put, List.setIfInBounds_toArray, List.set_cons_zero, List.set_cons_succ]
      refine wpAnyE_skip (i := 12) (by kernel_rfl) rfl (by rfl) hS ?_
      try simp only [List.getElem_toArray, List.getElem_cons_succ, List.getElem_cons_zero, Act.put, List.setIfInBounds_toArray, List.set_cons_zero, List.set_cons_succ]
      refine wpAnyE_step (i := 13) (by kernel_rfl) rfl (by rfl) fun K hK => ?_
      go_simp
      refine hK _ _ (.inr hS) ?_
      clear hK K
      try simp only [List.getElem_toArray, List.getElem_cons_succ, List.getElem_cons_zero, Act.put, List.setIfInBounds_toArray, List.set_cons_zero, List.set_cons_succ]
      refine wpAnyE_step (i := 14) (by kernel_rfl) rfl (by rfl) fun K hK => ?_
      go_simp
      refine hK _ _ (.inr hS) ?_
      clear hK K
      try simp only [List.getElem_toArray, List.getElem_cons_succ, List.getElem_cons_zero, Act.put, List.setIfInBounds_toArray, List.set_cons_zero, List.set_cons_succ]
      refine wpAnyE_done (by kernel_rfl) ?_ _
      go_wp2_with fail
      go_meet
      exact ⟨rfl, Lib.hid iz⟩
    case rest =>
      obtain ⟨rfl, H2⟩ := hcut
      go_wp2_with fail
      go_ret
      exact put_no p m s ws e w 2 (by unfold Mdl.putErr; rw [HBM.out]; rfl) (by decide) HPS.out _ (N1.out.step H2.out)
  | true =>
    by_cases ho : e.k.O = 17
    · have g17 : (e.k.O != 17) = false := by simp [ho]
      have HO := Lib.hid ho
      clear ho
      go_enter Try.func15, Try.ntmps15
      go_upto_region 1 with (fail)
      rw [HW1.out, HEB.out]
      go_wp2_with fail
      refine HK1.out.mono ?_
      rintro r wq ⟨rfl, hq⟩
      rw [hq]
      clear hq wq
      go_upto_region 3 with (fail)
      go_cut [8] (fun v8 wx => v8 = .bool false ∧ Hid (Nw w1 wx))
      case first =>
        refine wp_region_E (fun W => Nw w1 W ∧ W.cell? ⟨p.SB, 0, none⟩ = some (.slice p.pA N p.pc) ∧ W.cell? ⟨EB, 0, none⟩ = some (.int .i64 e.k.T) ∧ W.cell? ⟨EB, 1, none⟩ = some (.int .i64 e.k.O) ∧ W.cell? ⟨EB, 2, none⟩ = some (.int .i64 e.k.S) ∧ W.cell? ⟨EB, 3, none⟩ = some (.int .i64 e.p) ∧ W.cell? ⟨EB, 4, none⟩ = some (.int .i64 e.q) ∧ W.cell? ⟨EB, 5, none⟩ = some (.int .i64 e.d)) 14 (by kernel_rfl) ?_
        have hS := HSS.out w1.drew (Nw.refl w1).drew
        refine wpAnyE_takeT (i := 0) (v := ?_) rfl (by kernel_rfl) (by kernel_rfl) (by kernel_rfl) (by kernel_rfl) (by kernel_rfl) (fun _ _ _ h => h) (by rfl) ?_ hS ?_
        rotate_left
        · intro u hu
          try dsimp only at hu
          go_simp
          try with_reducible rfl
        try simp only [List.getElem_toArray, List.getElem_cons_succ, List.getElem_cons_zero, Act.put, List.setIfInBounds_toArray, List.set_cons_zero, List.set_cons_succ]
        refine wpAnyE_takeT (i := 1) (v := ?_) rfl (by kernel_rfl) (by kernel_rfl) (by kernel_rfl) (by kernel_rfl) (by kernel_rfl) (fun _ _ _ h => h) (by rfl) ?_ hS ?_
        rotate_left
        · intro u hu
          try dsimp only at hu
          go_simp
          try with_reducible rfl
        try simp only [List.getElem_toArray, List.getElem_cons_succ, List.getElem_cons_zero, Act.put, List.setIfInBounds_toArray, List.set_cons_zero, List.set_cons_succ]
        refine wpAnyE_takeT (i := 2) (v := ?_) rfl (by kernel_rfl) (by kernel_rfl) (by kernel_rfl) (by kernel_rfl) (by kernel_rfl) (fun _ _ _ h => h) (by rfl) ?_ hS ?_
        rotate_left
        · intro u hu
          try dsimp only at hu
          go_simp
          try with_reducible rfl
        try simp only [List.getElem_toArray, List.getElem_cons_succ, List.getElem_cons_zero, Act.put, List.setIfInBounds_toArray, List.set_cons_zero, List.set_cons_succ]
        refine wpAnyE_takeT (i := 3) (v := ?_) rfl (by kernel_rfl) (by kernel_rfl) (by kernel_rfl) (by kernel_rfl) (by kernel_rfl) (fun _ _ _ h => h) (by rfl) ?_ hS ?_
        rotate_left
        · intro u hu
          try dsimp only at hu
          go_simp
          try with_reducible rfl
        try simp only [List.getElem_toArray, List.getElem_cons_succ, List.getElem_cons_zero, Act.put, List.setIfInBounds_toArray, List.set_cons_zero, List.set_cons_succ]
        refine wpAnyE_takeT (i := 4) (v := ?_) rfl (by kernel_rfl) (by kernel_rfl) (by kernel_rfl) (by kernel_rfl) (by kernel_rfl) (fun _ _ _ h => h) (by rfl) ?_ hS ?_
        rotate_left
        · intro u hu
          try dsimp only at hu
          go_simp
          try with_reducible rfl
        try simp only [List.getElem_toArray, List.getElem_cons_succ, List.getElem_cons_zero, Act.put, List.setIfInBounds_toArray, List.set_cons_zero, List.set_cons_succ]
        refine wpAnyE_takeT (i := 5) (v := ?_) rfl (by kernel_rfl) (by kernel_rfl) (by kernel_rfl) (by kernel_rfl) (by kernel_rfl) (fun _ _ _ h => h) (by rfl) ?_ hS ?_
        rotate_left
        · intro u hu
          try dsimp only at hu
          go_simp
          try with_reducible rfl
        try simp only [List.getElem_toArray, List.getElem_cons_succ, List.getElem_cons_zero, Act.put, List.setIfInBounds_toArray, List.set_cons_zero, List.set_cons_succ]
        refine wpAnyE_step (i := 6) (by kernel_rfl) rfl (by rfl) fun K hK => ?_
        go_simp
        go_at_call 40
        refine (HKM.out _).mono ?_
        rintro r wz ⟨rfl, bz⟩
        have iz := (Nw.refl w1).drew.step bz
        have hS := HSS.out _ iz
        refine hK _ _ (.inr (HSS.out _ iz)) ?_
        clear hK K
        try simp only [List.getElem_toArray, List.getElem_cons_succ, List.getElem_cons_zero, Act.put, List.setIfInBounds_toArray, List.set_cons_zero, List.set_cons_succ]
        refine wpAnyE_step (i := 7) (by kernel_rfl) rfl (by rfl) fun K hK => ?_
        go_simp
        refine hK _ _ (.inr hS) ?_
        clear hK K
        try simp only [List.getElem_toArray, List.getElem_cons_succ, List.getElem_cons_zero, Act.put, List.setIfInBounds_toArray, List.set_cons_zero, List.set_cons_succ]
        refine wpAnyE_step (i := 8) (by kernel_rfl) rfl (by rfl) fun K hK => ?_
        go_simp
        refine hK _ _ (.inr hS) ?_
        clear hK K
        try simp only [List.getElem_toArray, List.getElem_cons_succ, List.getElem_cons_zero, Act.put, List.setIfInBounds_toArray, List.set_cons_zero, List.set_cons_succ]
        refine wpAnyE_step (i := 9) (by kernel_rfl) rfl (by rfl) fun K hK => ?_
        go_simp
        refine hK _ _ (.inr hS) ?_
        clear hK K
        try simp only [List.getElem_toArray, List.getElem_cons_succ, List.getElem_cons_zero, Act.put, List.setIfInBounds_toArray, List.set_cons_zero, List.set_cons_succ]
        refine wpAnyE_step (i := 10) (by kernel_rfl) rfl (by rfl) fun K hK => ?_
        go_simp
        refine hK _ _ (.inr hS) ?_
        clear hK K
        try simp only [List.getElem_toArray, List.getElem_cons_succ, List.getElem_cons_zero, Act.put, List.setIfInBounds_toArray, List.set_cons_zero, List.set_cons_succ]
        refine wpAnyE_step (i := 11) (by kernel_rfl) rfl (by rfl) fun K hK => ?_
        go_simp
        refine hK _ _ (.inr hS) ?_
        clear hK K
        try simp only [List.getElem_toArray, List.getElem_cons_succ, List.getElem_cons_zero, Act.put, List.setIfInBounds_toArray, List.set_cons_zero, List.set_cons_succ]
        refine wpAnyE_step (i := 12) (by kernel_rfl) rfl (by rfl) fun K hK => ?_
        go_simp
        refine hK _ _ (.inr hS) ?_
        clear hK K
        try simp only [List.getElem_toArray, List.getElem_cons_succ, List.getElem_cons_zero, Act.put, List.setIfInBounds_toArray, List.set_cons_zero, List.set_cons_succ]
        refine wpAnyE_step (i := 13) (by kernel_rfl) rfl (by rfl) fun K hK => ?_
        go_simp
        refine hK _ _ (.inr hS) ?_
        clear hK K
        try simp only [List.getElem_toArray, List.getElem_cons_succ, List.getElem_cons_zero, Act.put, List.setIfInBounds_toArray, List.set_cons_zero, List.set_cons_succ]
        refine wpAnyE_step (i := 14) (by kernel_rfl) rfl (by rfl) fun K hK => ?_
        go_simp
        refine hK _ _ (.inr hS) ?_
        clear hK K
        try simp only [List.getElem_toArray, List.getElem_cons_succ, List.getElem_cons_zero, Act.put, List.setIfInBounds_toArray, List.set_cons_zero, List.set_cons_succ]
        refine wpAnyE_done (by kernel_rfl) ?_ _
        go_wp2_with fail
        go_meet
        exact ⟨rfl, Lib.hid iz⟩
      case rest =>
        obtain ⟨rfl, H2⟩ := hcut
        have h2 := HPS1.out.new (Nw.drew H2.out)
        have hlk := h2.put.lookup HWF.out
        obtain ⟨t0, t2, t3, t5⟩ : wc.cell? ⟨EB, 0, none⟩ = some (.int .i64 e.k.T) ∧ wc.cell? ⟨EB, 2, none⟩ = some (.int .i64 e.k.S) ∧ wc.cell? ⟨p.SB, 3, none⟩ = some (.map (some p.PB)) ∧ wc.cell? ⟨p.SB, 5, none⟩ = some (.int .i64 s.last.T) := ⟨H2.out.cell e0, H2.out.cell e2, H2.out.cell s3, H2.out.cell s5⟩
        obtain ⟨bt, hbt⟩ : ∃ bt, decide (e.k.S ∈ s.put.reverse) = bt := ⟨_, rfl⟩
        rw [hbt] at hlk
        have HBT := Lib.hid (show s.put.contains e.k.S = bt by rw [← hbt]; simp)
        have HNI := Lib.hid (show bt = false → e.k.S ∉ s.put.reverse from fun q => by rw [q] at hbt; simpa using hbt)
        clear h2 hbt s0 s3 s5 e0 e1 e2 e3 e4 e5
        cases bt with
        | true =>
          go_wp2_with fail
          go_region
          all_goals
            go_wp2_with fail
            go_ret
            exact put_no p m s ws e w 7 (by unfold Mdl.putErr; rw [HBM.out, HBT.out, HO.out]; rfl) (by decide) HPS.out _ (N1.out.step (Nw.drew H2.out))
        | false =>
          by_cases ht : e.k.T ≤ s.last.T
          · have gt : decide (e.k.T ≤ s.last.T) = true := by simp [ht]
            go_wp2_with fail
            go_region
            all_goals
              go_wp2_with fail
              go_region
              all_goals
                go_wp2_with fail
                go_ret
                exact put_no p m s ws e w 8 (by unfold Mdl.putErr; rw [HBM.out, HBT.out, HO.out]; simp [ht]) (by decide) HPS.out _ (N1.out.step (Nw.drew (Nw.drew H2.out)))
          · have gt : decide (e.k.T ≤ s.last.T) = false := by simp [ht]
            go_wp2_with fail
            go_region
            all_goals
              go_wp2_with fail
              go_region
              all_goals
                have n3 := Nw.drew (Nw.drew (Nw.drew H2.out))
                have h3 := HPS1.out.new n3
                obtain ⟨w5, hrun, hsn, hch⟩ := h3.put.put HWF.out (HNI.out trivial) (by rw [List.length_reverse]; have := HP9.out; omega)
                have hne := h3.ne
                have n03 := N1.out.step n3
                have hw5 : Waits w5 p.SB (.slice p.pA m.procs.length p.pc) (.slice (some ⟨p.stB, p.so, none⟩) m.procs.length p.sc) ws (.map (some p.PB)) (.int .i64 (s.done : Int)) (.int .i64 s.last.T) p.A p.c p.blk :=
                  ⟨h3.waits.box.chg hch hne.2.2.2.1, h3.waits.own.chg hch fun g hg q => hne.2.2.2.2.2 (by rw [← q]; exact hg.symm)⟩
                have HKW := Lib.hid (wait_any p.SB _ _ ws _ _ _ p.A p.c p.blk e w5 hw5 HPS.out.twin.srt (by rw [HPS.out.twin.perm.length_eq]; have := HL.out; omega))
                have herr : m.putErr s e = 0 := by unfold Mdl.putErr; rw [HBM.out, HBT.out, HO.out]; simp [ht]
                have HERR := Lib.hid herr
                have HCH := Lib.hid ((Chg.of_below n03 (Nat.le_refl _) (fun k => k = p.PB)).trans hch (fun i _ q => q))
                have hb5 := (HBE.out.below n3 HBE.out.lt).chg hch (fun q => by have h1 := HEB.out; have h2 := HPS.out.put.1.lt; omega)
                have q0 : w5.cell? ⟨EB, 0, none⟩ = some (.int .i64 e.k.T) := hb5.cell 0
                have q1 : w5.cell? ⟨EB, 1, none⟩ = some (.int .i64 e.k.O) := hb5.cell 1
                have q2 : w5.cell? ⟨EB, 2, none⟩ = some (.int .i64 e.k.S) := hb5.cell 2
                have q3 : w5.cell? ⟨EB, 3, none⟩ = some (.int .i64 e.p) := hb5.cell 3
                have q4 : w5.cell? ⟨EB, 4, none⟩ = some (.int .i64 e.q) := hb5.cell 4
                have q5 : w5.cell? ⟨EB, 5, none⟩ = some (.int .i64 e.d) := hb5.cell 5
                clear hb5
                have HSN := Lib.hid hsn
                have HC5 := Lib.hid hch
                have N03 := Lib.hid n03
                have HNE := Lib.hid hne
                clear hw5 herr hsn hne n03 n3 h3 hch
                go_wp2_with fail
                go_region
                all_goals
                  go_wp2_with fail
                  refine HKW.out.mono ?_
                  rintro r w6 ⟨rfl, A', c', blk', hwt, hc6, hat⟩
                  have HWT := Lib.hid hwt
                  have HC6 := Lib.hid hc6
                  have HAT := Lib.hid hat
                  clear hwt hc6 hat
                  go_wp2_with fail
                  go_ret
                  exact put_yes p m s ws e w HPS.out HERR.out w5 w6 A' c' blk' N03.out HCH.out HSN.out HWT.out HC6.out HAT.out HL.out HP9.out
    · have g17 : (e.k.O != 17) = true := by simp [ho]
      go_enter Try.func15, Try.ntmps15
      go_upto_region 1 with (fail)
      rw [HW1.out, HEB.out]
      go_wp2_with fail
      refine HK1.out.mono ?_
      rintro r wq ⟨rfl, hq⟩
      rw [hq]
      clear hq wq
      go_upto_region 3 with (fail)
      go_cut [8] (fun v8 wx => v8 = .bool true ∧ Hid (Nw w1 wx))
      case first =>
        refine wp_region_E (fun W => Nw w1 W ∧ W.cell? ⟨p.SB, 0, none⟩ = some (.slice p.pA N p.pc) ∧ W.cell? ⟨EB, 0, none⟩ = some (.int .i64 e.k.T) ∧ W.cell? ⟨EB, 1, none⟩ = some (.int .i64 e.k.O) ∧ W.cell? ⟨EB, 2, none⟩ = some (.int .i64 e.k.S) ∧ W.cell? ⟨EB, 3, none⟩ = some (.int .i64 e.p) ∧ W.cell? ⟨EB, 4, none⟩ = some (.int .i64 e.q) ∧ W.cell? ⟨EB, 5, none⟩ = some (.int .i64 e.d)) 14 (by kernel_rfl) ?_
        have hS := HSS.out w1.drew (Nw.refl w1).drew
        refine wpAnyE_takeT (i := 0) (v := ?_) rfl (by kernel_rfl) (by kernel_rfl) (by kernel_rfl) (by kernel_rfl) (by kernel_rfl) (fun _ _ _ h => h) (by rfl) ?_ hS ?_
        rotate_left
        · intro u hu
          try dsimp only at hu
          go_simp
          try with_reducible rfl
        try simp only [List.getElem_toArray, List.getElem_cons_succ, List.getElem_cons_zero, Act.put, List.setIfInBounds_toArray, List.set_cons_zero, List.set_cons_succ]
        refine wpAnyE_takeT (i := 1) (v := ?_) rfl (by kernel_rfl) (by kernel_rfl) (by kernel_rfl) (by kernel_rfl) (by kernel_rfl) (fun _ _ _ h => h) (by rfl) ?_ hS ?_
        rotate_left
        · intro u hu
          try dsimp only at hu
          go_simp
          try with_reducible rfl
        try simp only [List.getElem_toArray, List.getElem_cons_succ, List.getElem_cons_zero, Act.put, List.setIfInBounds_toArray, List.set_cons_zero, List.set_cons_succ]
        refine wpAnyE_takeT (i := 2) (v := ?_) rfl (by kernel_rfl) (by kernel_rfl) (by kernel_rfl) (by kernel_rfl) (by kernel_rfl) (fun _ _ _ h => h) (by rfl) ?_ hS ?_
        rotate_left
        · intro u hu
          try dsimp only at hu
          go_simp
          try with_reducible rfl
        try simp only [List.getElem_toArray, List.getElem_cons_succ, List.getElem_cons_zero, Act.put, List.setIfInBounds_toArray, List.set_cons_zero, List.set_cons_succ]
        refine wpAnyE_takeT (i := 3) (v := ?_) rfl (by kernel_rfl) (by kernel_rfl) (by kernel_rfl) (by kernel_rfl) (by kernel_rfl) (fun _ _ _ h => h) (by rfl) ?_ hS ?_
        rotate_left
        · intro u hu
          try dsimp only at hu
          go_simp
          try with_reducible rfl
        try simp only [List.getElem_toArray, List.getElem_cons_succ, List.getElem_cons_zero, Act.put, List.setIfInBounds_toArray, List.set_cons_zero, List.set_cons_succ]
        refine wpAnyE_takeT (i := 4) (v := ?_) rfl (by kernel_rfl) (by kernel_rfl) (by kernel_rfl) (by kernel_rfl) (by kernel_rfl) (fun _ _ _ h => h) (by rfl) ?_ hS ?_
        rotate_left
        · intro u hu
          try dsimp only at hu
          go_simp
          try with_reducible rfl
        try simp only [List.getElem_toArray, List.getElem_cons_succ, List.getElem_cons_zero, Act.put, List.setIfInBounds_toArray, List.set_cons_zero, List.set_cons_succ]
        refine wpAnyE_takeT (i := 5) (v := ?_) rfl (by kernel_rfl) (by kernel_rfl) (by kernel_rfl) (by kernel_rfl) (by kernel_rfl) (fun _ _ _ h => h) (by rfl) ?_ hS ?_
        rotate_left
        · intro u hu
          try dsimp only at hu
          go_simp
          try with_reducible rfl
        try simp only [List.getElem_toArray, List.getElem_cons_succ, List.getElem_cons_zero, Act.put, List.setIfInBounds_toArray, List.set_cons_zero, List.set_cons_succ]
        refine wpAnyE_step (i := 6) (by kernel_rfl) rfl (by rfl) fun K hK => ?_
        go_simp
        go_at_call 40
        refine (HKM.out _).mono ?_
        rintro r wz ⟨rfl, bz⟩
        have iz := (Nw.refl w1).drew.step bz
        have hS := HSS.out _ iz
        refine hK _ _ (.inr (HSS.out _ iz)) ?_
        clear hK K
        try simp only [List.getElem_toArray, List.getElem_cons_succ, List.getElem_cons_zero, Act.put, List.setIfInBounds_toArray, List.set_cons_zero, List.set_cons_succ]
        refine wpAnyE_step (i := 7) (by kernel_rfl) rfl (by rfl) fun K hK => ?_
        go_simp
        refine hK _ _ (.inr hS) ?_
        clear hK K
        try simp only [List.getElem_toArray, List.getElem_cons_succ, List.getElem_cons_zero, Act.put, List.setIfInBounds_toArray, List.set_cons_zero, List.set_cons_succ]
        refine wpAnyE_step (i := 8) (by kernel_rfl) rfl (by rfl) fun K hK => ?_
        go_simp
        refine hK _ _ (.inr hS) ?_
        clear hK K
        try simp only [List.getElem_toArray, List.getElem_cons_succ, List.getElem_cons_zero, Act.put, List.setIfInBounds_toArray, List.set_cons_zero, List.set_cons_succ]
        refine wpAnyE_step (i := 9) (by kernel_rfl) rfl (by rfl) fun K hK => ?_
        go_simp
        refine hK _ _ (.inr hS) ?_
        clear hK K
        try simp only [List.getElem_toArray, List.getElem_cons_succ, List.getElem_cons_zero, Act.put, List.setIfInBounds_toArray, List.set_cons_zero, List.set_cons_succ]
        refine wpAnyE_step (i := 10) (by kernel_rfl) rfl (by rfl) fun K hK => ?_
        go_simp
        refine hK _ _ (.inr hS) ?_
        clear hK K
        try simp only [List.getElem_toArray, List.getElem_cons_succ, List.getElem_cons_zero, Act.put, List.setIfInBounds_toArray, List.set_cons_zero, List.set_cons_succ]
        refine wpAnyE_step (i := 11) (by kernel_rfl) rfl (by rfl) fun K hK => ?_
        go_simp
        refine hK _ _ (.inr hS) ?_
        clear hK K
        try simp only [List.getElem_toArray, List.getElem_cons_succ, List.getElem_cons_zero, Act.put, List.setIfInBounds_toArray, List.set_cons_zero, List.set_cons_succ]
        refine wpAnyE_step (i := 12) (by kernel_rfl) rfl (by rfl) fun K hK => ?_
        go_simp
        refine hK _ _ (.inr hS) ?_
        clear hK K
        try simp only [List.getElem_toArray, List.getElem_cons_succ, List.getElem_cons_zero, Act.put, List.setIfInBounds_toArray, List.set_cons_zero, List.set_cons_succ]
        refine wpAnyE_step (i := 13) (by kernel_rfl) rfl (by rfl) fun K hK => ?_
        go_simp
        refine hK _ _ (.inr hS) ?_
        clear hK K
        try simp only [List.getElem_toArray, List.getElem_cons_succ, List.getElem_cons_zero, Act.put, List.setIfInBounds_toArray, List.set_cons_zero, List.set_cons_succ]
        refine wpAnyE_step (i := 14) (by kernel_rfl) rfl (by rfl) fun K hK => ?_
        go_simp
        refine hK _ _ (.inr hS) ?_
        clear hK K
        try simp only [List.getElem_toArray, List.getElem_cons_succ, List.getElem_cons_zero, Act.put, List.setIfInBounds_toArray, List.set_cons_zero, List.set_cons_succ]
        refine wpAnyE_done (by kernel_rfl) ?_ _
        go_wp2_with fail
        go_meet
        exact ⟨rfl, Lib.hid iz⟩
      case rest =>
        obtain ⟨rfl, H2⟩ := hcut
        have ho2 : decide (e.k.O = 17) = false := by simp [ho]
        go_wp2_with fail
        go_ret
        exact put_no p m s ws e w 2 (by unfold Mdl.putErr; rw [HBM.out, ho2]; rfl) (by decide) HPS.out _ (N1.out.step H2.out)
end
end Go.Proofs.Ytgijkgngldfdiaa
/- A sequence's states: slices.Clone of int64, copied, State. Helper. -/
namespace Go.Proofs.Ytgijkgngldfdiaa
open Go.RowKit
set_option linter.unusedVariables false
set_option linter.unusedSimpArgs false
section
variable (w : World)
set_option maxRecDepth 100000
set_option maxHeartbeats 800000
def stV (A : Option Addr) (n c : Nat) (x y : Int) : Value := .agg #[.slice A n c, .int .i64 x, .int .i64 y]
def CopiedOut (w : World) (l : List Int) (x y : Int) (r : Ending) (w' : World) : Prop :=
  ∃ A c blk, r = .returned (stV A l.length c x y) ∧ Own w' 2 1 (.slice A l.length c) l.length (ints l) blk ∧ Below w.heap.size w w' ∧ ∀ g, blk = some g → w.heap.size ≤ g
theorem copied_any (A : Option Addr) (l : List Int) (c : Nat) (x y : Int) (ha : Rd w A (ints l)) (hl : l.length ≤ 4294967295) :
    Calls Try.prog 48 #[.agg #[.slice A l.length c, .int .i64 x, .int .i64 y]] w (CopiedOut w l x y) := by
  have HA := Lib.hid ha
  have HK := Lib.hid (fun W h => clone64_any W A l c h hl)
  obtain ⟨n, hn⟩ : ∃ n, l.length = n := ⟨_, rfl⟩
  have HN := Lib.hid hn
  rw [hn] at HK
  rw [hn]
  clear ha hn
  go_enter Try.func48, Try.ntmps48
  go_upto_region 1 with (fail)
  obtain ⟨w2, hw2⟩ : ∃ w2, (w.alloc (.cells #[.slice A n c, .int .i64 x, .int .i64 y] 65)).alloc (.cells #[.slice none 0 0, .int .i64 0, .int .i64 0] 65) = w2 := ⟨_, rfl⟩
  have n2 : Nw w w2 := by rw [← hw2]; exact ((Nw.refl w).alloc _).alloc _
  have hb : Blk w2 w.heap.size 65 #[.slice A n c, .int .i64 x, .int .i64 y] := by rw [← hw2]; exact (Blk.last w _ _ rfl).alloc _
  have hz : Blk w2 (w.heap.size + 1) 65 #[.slice none 0 0, .int .i64 0, .int .i64 0] := by rw [← hw2]; exact Blk.last _ _ _ (by simp)
  rw [hw2]
  have hs2 : w2.heap.size = w.heap.size + 2 := by rw [← hw2]; simp
  obtain ⟨XB, hXB⟩ : ∃ XB, w.heap.size = XB := ⟨_, rfl⟩
  rw [hXB] at hb hz hs2 ⊢
  have HS2 := Lib.hid hs2
  have c0 : w2.cell? ⟨XB, 0, none⟩ = some (.slice A n c) := hb.cell 0
  have HB := Lib.hid hb
  have HZ := Lib.hid hz
  have N2 := Lib.hid n2
  have HXB := Lib.hid hXB
  have K2 := Lib.hid (HK.out w2 (HA.out.below n2 (Nat.le_refl _)))
  clear hw2 hb hz n2 hXB hs2
  go_wp2_with fail
  refine K2.out.mono ?_
  rintro r w3 ⟨A', c', blk, rfl, hown, hbl, hat⟩
  rw [HN.out] at hown ⊢
  have hb3 := (HB.out.below (show Below w2.heap.size w2 w3 from hbl) HB.out.lt)
  have hz3 := (HZ.out.below (show Below w2.heap.size w2 w3 from hbl) HZ.out.lt)
  have d0 : w3.cell? ⟨XB, 0, none⟩ = some (.slice A n c) := hb3.cell 0
  have d1 : w3.cell? ⟨XB, 1, none⟩ = some (.int .i64 x) := hb3.cell 1
  have d2 : w3.cell? ⟨XB, 2, none⟩ = some (.int .i64 y) := hb3.cell 2
  have f0 := hb3.frozen 0
  have z0 : w3.cell? ⟨XB + 1, 0, none⟩ = some (.slice none 0 0) := hz3.cell 0
  have z1 : w3.cell? ⟨XB + 1, 1, none⟩ = some (.int .i64 0) := hz3.cell 1
  have z2 : w3.cell? ⟨XB + 1, 2, none⟩ = some (.int .i64 0) := hz3.cell 2
  have g0 := hz3.frozen 0
  have g1 := hz3.frozen 1
  have g2 := hz3.frozen 2
  have n3 := N2.out.step hbl
  have HOW := Lib.hid hown
  have HAT := Lib.hid hat
  have N3 := Lib.hid n3
  have hsz := HS2.out
  clear hown hat n3 hbl hb3 hz3
  go_wp2_with fail
  refine bodyPost_ret (v := stV A' n c' x y) (by simp [results, Try.results48, go_sem, z0, z1, z2, stV]) rfl ?_
  refine ⟨A', c', blk, by rw [HN.out], ?_, ?_, fun g hg => by have := HAT.out g hg; have := HXB.out; omega⟩
  · rw [HN.out]
    exact HOW.out.kept fun g hg => by
      have hg2 := HAT.out g hg
      rw [Below.heap_setCell _ _ _ _ (by show g ≠ XB + 1; omega), Below.heap_setCell _ _ _ _ (by show g ≠ XB + 1; omega), Below.heap_setCell _ _ _ _ (by show g ≠ XB + 1; omega), Below.heap_setCell _ _ _ _ (by show g ≠ XB; omega)]
  · have hx : w.heap.size ≤ XB := Nat.le_of_eq HXB.out
    exact (((N3.out.set (p := ⟨XB, 0, none⟩) hx _).set (p := ⟨XB + 1, 0, none⟩) (by show _ ≤ XB + 1; omega) _).set (p := ⟨XB + 1, 1, none⟩) (by show _ ≤ XB + 1; omega) _).set (p := ⟨XB + 1, 2, none⟩) (by show _ ≤ XB + 1; omega) _
/-- What is told of a process's state. -/
def StateOut (w : World) (m : Mdl) (s : Sq) (x : Int) (r : Ending) (w' : World) : Prop :=
  if 1 ≤ x ∧ x ≤ m.procs.length then
    ∃ A c blk, r = .returned (.tuple #[stV A (s.sts.getD (x - 1).toNat St.z).vars.length c (s.sts.getD (x - 1).toNat St.z).sent (s.sts.getD (x - 1).toNat St.z).drawn, .int .i64 0]) ∧ Own w' 2 1 (.slice A (s.sts.getD (x - 1).toNat St.z).vars.length c) (s.sts.getD (x - 1).toNat St.z).vars.length (ints (s.sts.getD (x - 1).toNat St.z).vars) blk ∧ (∀ g, blk = some g → w.heap.size ≤ g) ∧ Nw w w'
  else r = .returned (.tuple #[stV none 0 0 0 0, .int .i64 2]) ∧ Nw w w'
variable (p : PMem) (m : Mdl) (s : Sq) (ws : List Ev)
theorem state_any (x : Int) (h : PSeq w p m s ws) (hx : (Lit.int .i64 x).wf = true) (hv : ∀ i, (s.sts.getD i St.z).vars.length ≤ 100000) : Calls Try.prog 20 #[.pointer (some ⟨p.SB, 0, none⟩), .int .i64 x] w (StateOut w m s x) := by
  obtain ⟨w2, hw2⟩ : ∃ w2, w.alloc (.cells #[.slice none 0 0, .int .i64 0, .int .i64 0] 65) = w2 := ⟨_, rfl⟩
  have n2 : Nw w w2 := by rw [← hw2]; exact (Nw.refl w).alloc _
  have hz : Blk w2 w.heap.size 65 #[.slice none 0 0, .int .i64 0, .int .i64 0] := by rw [← hw2]; exact Blk.last w _ _ rfl
  obtain ⟨OB, hOB⟩ : ∃ OB, w.heap.size = OB := ⟨_, rfl⟩
  rw [hOB] at hz
  have h2 := h.new n2
  have HK := Lib.hid (seqNone_any p m s ws w2 h2)
  have s0 : w2.cell? ⟨p.SB, 0, none⟩ = some (.slice p.pA m.procs.length p.pc) := h2.waits.box.cell 0
  have s1 : w2.cell? ⟨p.SB, 1, none⟩ = some (.slice (some ⟨p.stB, p.so, none⟩) m.procs.length p.sc) := h2.waits.box.cell 1
  have z0 : w2.cell? ⟨OB, 0, none⟩ = some (.slice none 0 0) := hz.cell 0
  have z1 : w2.cell? ⟨OB, 1, none⟩ = some (.int .i64 0) := hz.cell 1
  have z2 : w2.cell? ⟨OB, 2, none⟩ = some (.int .i64 0) := hz.cell 2
  have f0 := hz.frozen 0
  have f1 := hz.frozen 1
  have f2 := hz.frozen 2
  have n16 := h.ok.may.n16
  have HZ := Lib.hid hz
  have HW2 := Lib.hid hw2
  have HOB := Lib.hid hOB
  have N2 := Lib.hid n2
  have HP2 := Lib.hid h2
  have HV := Lib.hid hv
  obtain ⟨N, hN⟩ : ∃ N, m.procs.length = N := ⟨_, rfl⟩
  have HN := Lib.hid hN
  rw [hN] at s0 s1 n16
  clear h h2 hw2 n2 hz hOB hv hN
  have hsets : ∀ W, Nw w W → ∀ a0 a1 a2, Nw w (((W.setCell ⟨OB, 0, none⟩ a0).setCell ⟨OB, 1, none⟩ a1).setCell ⟨OB, 2, none⟩ a2) := fun W hn a0 a1 a2 =>
    have hx : w.heap.size ≤ OB := Nat.le_of_eq HOB.out
    ((hn.set (p := ⟨OB, 0, none⟩) hx _).set (p := ⟨OB, 1, none⟩) hx _).set (p := ⟨OB, 2, none⟩) hx _
  have HSETS := Lib.hid hsets
  clear hsets
  by_cases hx1 : 1 ≤ x
  · by_cases hx2 : x ≤ (N : Int)
    · obtain ⟨i, hi⟩ : ∃ i : Nat, x = (i : Int) + 1 := ⟨(x - 1).toNat, by omega⟩
      subst hi
      obtain ⟨cur, hst, hsts⟩ := HP2.out.sts
      obtain ⟨a, c, ⟨g0, g1, g2⟩, hr⟩ := hsts i (by rw [HN.out]; omega)
      have hi3 : i < N := by omega
      have e0 : w2.cell? ⟨p.stB, p.so + i * 3, none⟩ = _ := (hst.cell _).trans g0
      have e1 : w2.cell? ⟨p.stB, p.so + i * 3 + 1, none⟩ = _ := (hst.cell _).trans g1
      have e2 : w2.cell? ⟨p.stB, p.so + i * 3 + 2, none⟩ = _ := (hst.cell _).trans g2
      obtain ⟨t, ht⟩ : ∃ t, s.sts.getD i St.z = t := ⟨_, rfl⟩
      rw [ht] at e0 e1 e2 hr
      have hl := HV.out i
      rw [ht] at hl
      have HT := Lib.hid ht
      have HC := Lib.hid (copied_any w2 a t.vars c t.sent t.drawn hr.here (by omega))
      obtain ⟨n, hn⟩ : ∃ n, t.vars.length = n := ⟨_, rfl⟩
      have HNL := Lib.hid hn
      rw [hn] at e0 HC
      clear hst hsts g0 g1 g2 hr ht hl hn
      have wi : IntKind.i64.wrap (i : Int) = (i : Int) := by simp [IntKind.wrap, IntKind.bits, IntKind.signed]; omega
      have wj : IntKind.i64.wrap ((i : Int) + 1 - 1) = (i : Int) := by rw [Int.add_sub_cancel]; exact wi
      go_enter Try.func20, Try.ntmps20
      go_upto_region 1 with (fail)
      rw [HW2.out, HOB.out]
      go_wp2_with fail
      refine HK.out.mono ?_
      rintro r wq ⟨rfl, hq⟩
      rw [hq]
      clear hq wq
      have l1 : ((i : Int) + 1 < 1) = False := by simp; omega
      have l2 : ((N : Int) < (i : Int) + 1) = False := by simp; omega
      have k2 : (0 : Int) ≤ (i : Int) := by omega
      have k3 : (i : Int) < (N : Int) := by omega
      clear hx hx1 hx2 hi3
      go_upto_region 5 with (fail)
      go_wp2_with fail
      refine HC.out.mono ?_
      rintro r w3 ⟨A', c', blk, rfl, hown, hbl, hat⟩
      unfold stV
      have HO := Lib.hid hown
      have hz3 := HZ.out.below (show Below w2.heap.size w2 w3 from hbl) HZ.out.lt
      have y0 : w3.cell? ⟨OB, 0, none⟩ = some (.slice none 0 0) := hz3.cell 0
      have y1 : w3.cell? ⟨OB, 1, none⟩ = some (.int .i64 0) := hz3.cell 1
      have y2 : w3.cell? ⟨OB, 2, none⟩ = some (.int .i64 0) := hz3.cell 2
      have f0 := hz3.frozen 0
      have f1 := hz3.frozen 1
      have f2 := hz3.frozen 2
      have N3 := Lib.hid (N2.out.step hbl)
      have HAT := Lib.hid hat
      rw [HNL.out] at HO ⊢
      clear hown hat hbl hz3
      go_wp2_with fail
      refine bodyPost_ret (v := .tuple #[stV A' n c' t.sent t.drawn, .int .i64 0]) (by simp [results, Try.results20, go_sem, y0, y1, y2, stV]) rfl ?_
      unfold StateOut
      rw [if_pos (by rw [HN.out]; omega), show ((i : Int) + 1 - 1).toNat = i by omega, HT.out, HNL.out]
      refine ⟨A', c', blk, rfl, ?_, fun g hg => Nat.le_trans N2.out.size (HAT.out g hg), HSETS.out _ N3.out _ _ _⟩
      have hlt := HZ.out.lt
      have hk := HO.out.kept (w' := ((w3.setCell ⟨OB, 0, none⟩ (.slice A' n c')).setCell ⟨OB, 1, none⟩ (.int .i64 t.sent)).setCell ⟨OB, 2, none⟩ (.int .i64 t.drawn)) fun g hg => by
        have hg2 := HAT.out g hg
        rw [Below.heap_setCell _ _ _ _ (by show g ≠ OB; omega), Below.heap_setCell _ _ _ _ (by show g ≠ OB; omega), Below.heap_setCell _ _ _ _ (by show g ≠ OB; omega)]
      exact hk
    · skip
      go_enter Try.func20, Try.ntmps20
      go_upto_region 1 with (fail)
      rw [HW2.out, HOB.out]
      go_wp2_with fail
      refine HK.out.mono ?_
      rintro r wq ⟨rfl, hq⟩
      rw [hq]
      clear hq wq
      go_wp2_with fail
      refine bodyPost_ret (v := .tuple #[stV none 0 0 0 0, .int .i64 2]) (by simp [results, Try.results20, go_sem, z0, z1, z2, stV]) rfl ?_
      unfold StateOut
      rw [if_neg (by rw [HN.out]; omega)]
      exact ⟨rfl, HSETS.out _ N2.out _ _ _⟩
  · skip
    go_enter Try.func20, Try.ntmps20
    go_upto_region 1 with (fail)
    rw [HW2.out, HOB.out]
    go_wp2_with fail
    refine HK.out.mono ?_
    rintro r wq ⟨rfl, hq⟩
    rw [hq]
    clear hq wq
    go_wp2_with fail
    refine bodyPost_ret (v := .tuple #[stV none 0 0 0 0, .int .i64 2]) (by simp [results, Try.results20, go_sem, z0, z1, z2, stV]) rfl ?_
    unfold StateOut
    rw [if_neg (by rw [HN.out]; omega)]
    exact ⟨rfl, HSETS.out _ N2.out _ _ _⟩
end
end Go.Proofs.Ytgijkgngldfdiaa
/- A sequence in the making. Helper. -/
namespace Go.Proofs.Ytgijkgngldfdiaa
open Go.RowKit
set_option linter.unusedVariables false
set_option linter.unusedSimpArgs false
/-- What turns. -/
def LT (SB PB : Nat) (bP bS : Option Nat) (g : Nat) : Prop := g = SB ∨ g = PB ∨ some g = bP ∨ some g = bS
def LU (U : Nat → Prop) (SB PB : Nat) (bP bS : Option Nat) (g : Nat) : Prop := LT SB PB bP bS g ∨ U g
/-- A machine of the i-th process. -/
def MachIn (m : Mdl) (i MB : Nat) (W : World) : Prop := ∃ kA kd, MachAt W MB (m.procs.getD i Pr.z).vars kA (m.procs.getD i Pr.z).ks.length kd ((i : Int) + 1) m.procs.length (m.procs.getD i Pr.z).seed ∧ RKinds W kA (m.procs.getD i Pr.z).ks
theorem Below.mach {base : Nat} {w : World} {MB : Nat} {vars : Int} {kA : Option Addr} {kn kc : Nat} {me procs seed : Int} (h : MachAt w MB vars kA kn kc me procs seed) {w' : World} (hk : w'.heap[MB]? = w.heap[MB]?) : MachAt w' MB vars kA kn kc me procs seed := by
  have c : ∀ o, w'.cell? ⟨MB, o, none⟩ = w.cell? ⟨MB, o, none⟩ := fun o => by unfold World.cell?; rw [show (⟨MB, o, none⟩ : Addr).block = MB from rfl, hk]
  exact ⟨(c 0).trans h.m0, (c 1).trans h.m1, (c 2).trans h.m2, (c 3).trans h.m3, (c 4).trans h.m4⟩
/-- A machine newly made stays. -/
theorem NewOut.stays {w w' : World} {m : Mdl} {i MB : Nat} {kA : Option Addr} {kc : Nat} (h1 : MachAt w' MB (m.procs.getD i Pr.z).vars kA (m.procs.getD i Pr.z).ks.length kc ((i : Int) + 1) m.procs.length (m.procs.getD i Pr.z).seed)
    (h2 : w.heap.size ≤ MB) (h3 : KFree w.heap.size w' kA (m.procs.getD i Pr.z).ks) {T : Nat → Prop} (hT : ∀ g, T g → g < w.heap.size) : Stays w' T (MachIn m i MB) := by
  have hlt : MB < w'.heap.size := World.block_lt_of_cell? w' _ h1.m0
  refine Stays.of_safe (lo := w.heap.size) (hi := w'.heap.size) ⟨Nat.le_refl _, fun W hW => ?_⟩ fun g h4 h5 ht => absurd (hT g ht) (by omega)
  exact ⟨kA, kc, Below.mach (base := 0) h1 (hW MB h2 hlt), h3 W hW⟩
/-- A sequence in the making: so many processes are there. -/
structure Laid (U : Nat → Prop) (w0 w : World) (m : Mdl) (k SB PB : Nat) (pA : Option Addr) (pc : Nat) (bP : Option Nat) (sA : Option Addr) (sc : Nat) (bS : Option Nat) (pts sts : List Value) : Prop where
  new : Nw w0 w
  lo : w0.heap.size ≤ SB ∧ w0.heap.size ≤ PB ∧ (∀ g, bP = some g → w0.heap.size ≤ g) ∧ ∀ g, bS = some g → w0.heap.size ≤ g
  box : Blk w SB 63 #[.slice pA k pc, .slice sA k sc, .slice none 0 0, .map (some PB), .int .i64 0, .int .i64 (-1)]
  pown : Own w 82 1 (.slice pA k pc) k pts bP
  sown : Own w 65 3 (.slice sA k sc) k sts bS
  mach : ∀ i, i < k → ∃ MB, pts[i]? = some (.pointer (some ⟨MB, 0, none⟩)) ∧ Stays w (LU U SB PB bP bS) (MachIn m i MB)
  st : ∀ i, i < k → ∃ a c, sts[i * 3]? = some (.slice a (m.procs.getD i Pr.z).vals.length c) ∧ sts[i * 3 + 1]? = some (.int .i64 0) ∧ sts[i * 3 + 2]? = some (.int .i64 0) ∧ Stays w (LU U SB PB bP bS) (fun W => Rd W a (ints (m.procs.getD i Pr.z).vals))
  put : Sn w PB []
  lowU : ∀ g, U g → g < w0.heap.size
theorem Laid.lt {U : Nat → Prop} {w0 w : World} {m : Mdl} {k SB PB : Nat} {pA : Option Addr} {pc : Nat} {bP : Option Nat} {sA : Option Addr} {sc : Nat} {bS : Option Nat} {pts sts : List Value} (h : Laid U w0 w m k SB PB pA pc bP sA sc bS pts sts) : ∀ g, LT SB PB bP bS g → g < w.heap.size := fun g hg => by
  rcases hg with rfl | rfl | e | e
  · exact h.box.lt
  · exact h.put.1.lt
  · exact h.pown.lt g e.symm
  · exact h.sown.lt g e.symm
theorem Laid.ltU {U : Nat → Prop} {w0 w : World} {m : Mdl} {k SB PB : Nat} {pA : Option Addr} {pc : Nat} {bP : Option Nat} {sA : Option Addr} {sc : Nat} {bS : Option Nat} {pts sts : List Value} (h : Laid U w0 w m k SB PB pA pc bP sA sc bS pts sts) : ∀ g, LU U SB PB bP bS g → g < w.heap.size :=
  fun g q => q.elim (h.lt g) fun q => Nat.lt_of_lt_of_le (h.lowU g q) h.new.size
theorem Sn.ne {w : World} {S g : Nat} {l : List Int} {t : TypeId} {cs : Array Value} (h : Sn w S l) (hb : Blk w g t cs) : g ≠ S := fun e => by
  subst e
  obtain ⟨es, clock, hm, _⟩ := h.obj
  unfold Blk at hb
  rw [hm] at hb
  cases hb
/-- One process more. -/
theorem Laid.next {U : Nat → Prop} {w0 w w1 w2 w3 w4 : World} {m : Mdl} {k SB PB : Nat} {pA : Option Addr} {pc : Nat} {bP : Option Nat} {sA : Option Addr} {sc : Nat} {bS : Option Nat} {pts sts : List Value} (h : Laid U w0 w m k SB PB pA pc bP sA sc bS pts sts)
    {MB : Nat} {pA' : Option Addr} {pc' : Nat} {bP' : Option Nat} {A : Option Addr} {c : Nat} {bV : Option Nat} {sA' : Option Addr} {sc' : Nat} {bS' : Option Nat}
    (h1 : Nw w w1) (hm : Stays w1 (LU U SB PB bP bS) (MachIn m k MB))
    (o2 : Own w2 82 1 (.slice pA' (k + 1) pc') (k + 1) (pts ++ [.pointer (some ⟨MB, 0, none⟩)]) bP') (c2 : Chg (fun g => some g = bP) w1 w2) (a2 : ∀ g, bP' = some g → bP = some g ∨ w1.heap.size ≤ g)
    (o3 : Own w3 2 1 (.slice A (m.procs.getD k Pr.z).vals.length c) (m.procs.getD k Pr.z).vals.length (ints (m.procs.getD k Pr.z).vals) bV) (c3 : Nw w2 w3) (a3 : ∀ g, bV = some g → w2.heap.size ≤ g)
    (o4 : Own w4 65 3 (.slice sA' (k + 1) sc') (k + 1) (sts ++ [.slice A (m.procs.getD k Pr.z).vals.length c, .int .i64 0, .int .i64 0]) bS') (c4 : Chg (fun g => some g = bS) w3 w4) (a4 : ∀ g, bS' = some g → bS = some g ∨ w3.heap.size ≤ g) :
    Laid U w0 ((w4.setCell ⟨SB, 0, none⟩ (.slice pA' (k + 1) pc')).setCell ⟨SB, 1, none⟩ (.slice sA' (k + 1) sc')) m (k + 1) SB PB pA' pc' bP' sA' sc' bS'
      (pts ++ [.pointer (some ⟨MB, 0, none⟩)]) (sts ++ [.slice A (m.procs.getD k Pr.z).vals.length c, .int .i64 0, .int .i64 0]) := by
  have s1 := h1.size
  have s2 := c2.size
  have s3 := c3.size
  have s4 := c4.size
  have s0 := h.new.size
  obtain ⟨l1, l2, l3, l4⟩ := h.lo
  have b1 := h.box.below h1 h.box.lt
  have nP : ¬ some SB = bP := fun e => by
    obtain ⟨cs, hc⟩ := h.pown.tyB SB e.symm
    exact absurd rfl (h.box.ne_ hc (by decide))
  have b2 := b1.chg c2 nP
  have b3 := b2.below c3 b2.lt
  have nS : ¬ some SB = bS := fun e => by
    obtain ⟨cs, hc⟩ := h.sown.tyB SB e.symm
    exact absurd rfl (h.box.ne_ hc (by decide))
  have b4 := b3.chg c4 nS
  have p1 := h.put.same (h1.block _ h.put.1.lt)
  have mP : ¬ some PB = bP := fun e => by
    obtain ⟨cs, hc⟩ := h.pown.tyB PB e.symm
    exact h.put.ne hc rfl
  have mS : ¬ some PB = bS := fun e => by
    obtain ⟨cs, hc⟩ := h.sown.tyB PB e.symm
    exact h.put.ne hc rfl
  have p2 := p1.same (c2.block _ p1.1.lt mP)
  have p3 := p2.same (c3.block _ p2.1.lt)
  have p4 := p3.same (c4.block _ p3.1.lt mS)
  have q2 : ∀ g, bP' = some g → ¬ some g = bS := fun g e1 e2 => by
    rcases a2 g e1 with e3 | e3
    · obtain ⟨cs, hc⟩ := h.pown.tyB g e3
      obtain ⟨cs', hc'⟩ := h.sown.tyB g e2.symm
      exact absurd rfl (hc.ne_ hc' (by decide))
    · have := h.sown.lt g e2.symm; omega
  have o3' : Own w3 82 1 (.slice pA' (k + 1) pc') (k + 1) (pts ++ [.pointer (some ⟨MB, 0, none⟩)]) bP' := o2.kept fun g e => c3.block g (o2.lt g e)
  have o4' : Own w4 82 1 (.slice pA' (k + 1) pc') (k + 1) (pts ++ [.pointer (some ⟨MB, 0, none⟩)]) bP' := o3'.chg c4 q2
  have far : ∀ g t cs, Blk w4 g t cs → t ≠ 63 → ((w4.setCell ⟨SB, 0, none⟩ (.slice pA' (k + 1) pc')).setCell ⟨SB, 1, none⟩ (.slice sA' (k + 1) sc')).heap[g]? = w4.heap[g]? := fun g t cs hb ht => by
    have hne : g ≠ SB := hb.ne_ b4 ht
    rw [Below.heap_setCell _ _ _ _ (by exact hne), Below.heap_setCell _ _ _ _ (by exact hne)]
  have hc1 : Chg (LT SB PB bP bS) w w1 := Chg.of_below h1 (Nat.le_refl _) _
  have hc15 : Chg (LT SB PB bP bS) w1 ((w4.setCell ⟨SB, 0, none⟩ (.slice pA' (k + 1) pc')).setCell ⟨SB, 1, none⟩ (.slice sA' (k + 1) sc')) := by
    refine Chg.setCell (Chg.setCell ?_ (p := ⟨SB, 0, none⟩) (.inl (.inl rfl)) _) (p := ⟨SB, 1, none⟩) (.inl (.inl rfl)) _
    refine ((c2.mono fun i _ q => .inr (.inr (.inl q))).trans (Chg.of_below c3 (Nat.le_refl _) (LT SB PB bP bS)) fun i _ q => q).trans (c4.mono fun i _ q => .inr (.inr (.inr q))) fun i _ q => q
  have hT1 : ∀ g, LT SB PB bP' bS' g → LT SB PB bP bS g ∨ w1.heap.size ≤ g := fun g q => by
    rcases q with q | q | q | q
    · exact .inl (.inl q)
    · exact .inl (.inr (.inl q))
    · exact (a2 g q.symm).imp (fun e => .inr (.inr (.inl e.symm))) id
    · exact (a4 g q.symm).imp (fun e => .inr (.inr (.inr e.symm))) fun e => by omega
  have hc := hc1.trans hc15 fun i _ q => q
  have hT : ∀ g, LT SB PB bP' bS' g → LT SB PB bP bS g ∨ w.heap.size ≤ g := fun g q => (hT1 g q).imp id fun e => by omega
  have hcU : Chg (LU U SB PB bP bS) w ((w4.setCell ⟨SB, 0, none⟩ (.slice pA' (k + 1) pc')).setCell ⟨SB, 1, none⟩ (.slice sA' (k + 1) sc')) := hc.mono fun g _ q => .inl q
  have hc15U : Chg (LU U SB PB bP bS) w1 ((w4.setCell ⟨SB, 0, none⟩ (.slice pA' (k + 1) pc')).setCell ⟨SB, 1, none⟩ (.slice sA' (k + 1) sc')) := hc15.mono fun g _ q => .inl q
  have hTU : ∀ g, LU U SB PB bP' bS' g → LU U SB PB bP bS g ∨ w.heap.size ≤ g := fun g q => q.elim (fun q => (hT g q).imp .inl id) fun q => .inl (.inr q)
  have hT1U : ∀ g, LU U SB PB bP' bS' g → LU U SB PB bP bS g ∨ w1.heap.size ≤ g := fun g q => q.elim (fun q => (hT1 g q).imp .inl id) fun q => .inl (.inr q)
  have lP : pts.length = k := by have := h.pown.1; omega
  have lS : sts.length = k * 3 := h.sown.1
  have hlow : ∀ g, LT SB PB bP bS g → w0.heap.size ≤ g := fun g q => by
    rcases q with rfl | rfl | q | q
    · exact l1
    · exact l2
    · exact l3 g q.symm
    · exact l4 g q.symm
  refine ⟨Below.trans h.new (hc.below (fun i _ q => hlow i q) s0), ⟨l1, l2, fun g e => (a2 g e).elim (l3 g) fun e => by omega, fun g e => (a4 g e).elim (l4 g) fun e => by omega⟩, (b4.set_ 0 _).set_ 1 _, ?_, ?_, fun i hi => ?_, fun i hi => ?_, ?_, h.lowU⟩
  · exact o4'.kept fun g e => by obtain ⟨cs, hcs⟩ := o4'.tyB g e; exact far g _ cs hcs (by decide)
  · exact o4.kept fun g e => by obtain ⟨cs, hcs⟩ := o4.tyB g e; exact far g _ cs hcs (by decide)
  · rcases Nat.lt_or_ge i k with hik | hik
    · obtain ⟨MB', e, hs⟩ := h.mach i hik
      exact ⟨MB', by rw [List.getElem?_append_left (by omega)]; exact e, hs.keep hcU hTU⟩
    · have : i = k := by omega
      subst this
      exact ⟨MB, by rw [List.getElem?_append_right (by omega), lP]; simp, hm.keep hc15U hT1U⟩
  · rcases Nat.lt_or_ge i k with hik | hik
    · obtain ⟨a, c', e0, e1, e2, hs⟩ := h.st i hik
      exact ⟨a, c', by rw [List.getElem?_append_left (by omega)]; exact e0, by rw [List.getElem?_append_left (by omega)]; exact e1, by rw [List.getElem?_append_left (by omega)]; exact e2, hs.keep hcU hTU⟩
    · have : i = k := by omega
      subst this
      refine ⟨A, c, ?_, ?_, ?_, ?_⟩
      · rw [List.getElem?_append_right (by omega), lS]; simp
      · rw [List.getElem?_append_right (by omega), lS, show i * 3 + 1 - i * 3 = 1 by omega]; rfl
      · rw [List.getElem?_append_right (by omega), lS, show i * 3 + 2 - i * 3 = 2 by omega]; rfl
      · have hs3 : Stays w3 (LU U SB PB bP' bS) (fun W => Rd W A (ints (m.procs.getD i Pr.z).vals)) := by
          refine ⟨fun g => bV = some g, fun g e => ⟨o3.lt g e, fun q => ?_⟩, fun W _ hk => ?_⟩
          · have hge := a3 g e
            rcases q with (q | q | q | q) | q
            · have := h.box.lt; omega
            · have := h.put.1.lt; omega
            · have := o2.lt g q.symm; omega
            · have := h.sown.lt g q.symm; omega
            · have := h.lowU g q; omega
          · obtain ⟨_, _, ea, hrd, _⟩ := (o3.kept (w' := W) fun g e => hk g e).rd
            injection ea with e1 _ _
            subst e1
            exact hrd
        have hc3 : Chg (LU U SB PB bP' bS) w3 ((w4.setCell ⟨SB, 0, none⟩ (.slice pA' (i + 1) pc')).setCell ⟨SB, 1, none⟩ (.slice sA' (i + 1) sc')) :=
          Chg.setCell (Chg.setCell (c4.mono fun i _ q => .inl (.inr (.inr (.inr q)))) (p := ⟨SB, 0, none⟩) (.inl (.inl (.inl rfl))) _) (p := ⟨SB, 1, none⟩) (.inl (.inl (.inl rfl))) _
        refine hs3.keep hc3 fun g q => ?_
        rcases q with (q | q | q | q) | q
        · exact .inl (.inl (.inl q))
        · exact .inl (.inl (.inr (.inl q)))
        · exact .inl (.inl (.inr (.inr (.inl q))))
        · exact (a4 g q.symm).imp (fun e => .inl (.inr (.inr (.inr e.symm)))) id
        · exact .inl (.inr q)
  · have hne : PB ≠ SB := fun e => p4.ne b4 e.symm
    exact p4.same (by rw [Below.heap_setCell _ _ _ _ (by exact hne), Below.heap_setCell _ _ _ _ (by exact hne)])
theorem start_st {m : Mdl} {i : Nat} (hi : i < m.procs.length) : m.start.sts.getD i St.z = ⟨(m.procs.getD i Pr.z).vals, 0, 0⟩ := by
  show (m.procs.map _).getD i St.z = _
  rw [List.getD_eq_getElem?_getD, List.getElem?_map, List.getD_eq_getElem?_getD, List.getElem?_eq_getElem hi]; rfl
theorem first_twin {m : Mdl} (hm : m.May) (j : Nat) : Srt (insAll [] (m.first.take j)) ∧ (insAll [] (m.first.take j)).Perm (m.first.take j) := by
  have := insAll_twin (m.first.take j) [] [] List.Pairwise.nil (List.Perm.refl _) ((start_ok hm).uniq.sublist (List.take_sublist j m.first))
  simpa using this
theorem own_at {w : World} {e : TypeId} {size n c : Nat} {A : Option Addr} {xs : List Value} {blk : Option Nat} (h : Own w e size (.slice A n c) n xs blk) (hn : 1 ≤ n) :
    ∃ g off cur, A = some ⟨g, off, none⟩ ∧ blk = some g ∧ Blk w g e cur ∧ ∀ j, j < n * size → cur[off + j]? = xs[j]? := by
  obtain ⟨hl, A', c', hv, h1, h2, h3 | ⟨g, off, cur, rfl, rfl, hg, h4, h5⟩⟩ := h
  · injection hv with e1 e2 e3; omega
  · injection hv with e1 e2 e3
    refine ⟨g, off, cur, e1, rfl, hg, fun j hj => ?_⟩
    rw [← h5, List.getElem?_take, if_pos hj, List.getElem?_drop]; simp
/-- All processes are there, and what waits first. -/
theorem Laid.pseq {U : Nat → Prop} {w0 w w' : World} {m : Mdl} {SB PB : Nat} {pA : Option Addr} {pc : Nat} {bP : Option Nat} {sA : Option Addr} {sc : Nat} {bS : Option Nat} {pts sts : List Value} {A : Option Addr} {c : Nat} {blk : Option Nat}
    (h : Laid U w0 w m m.procs.length SB PB pA pc bP sA sc bS pts sts) (hm : m.May)
    (hw : Waits w' SB (.slice pA m.procs.length pc) (.slice sA m.procs.length sc) (insAll [] m.first) (.map (some PB)) (.int .i64 0) (.int .i64 (-1)) A c blk) (hc : Chg (fun g => g = SB) w w') (hb : ∀ g, blk = some g → w.heap.size ≤ g) :
    ∃ p : PMem, p.SB = SB ∧ PSeq w' p m m.start (insAll [] m.first) ∧ Nw w0 w' ∧ (∀ g, p.T g → w0.heap.size ≤ g) ∧ p.U = U := by
  have n1 := hm.n1
  obtain ⟨l1, l2, l3, l4⟩ := h.lo
  obtain ⟨gP, oP, cP, rfl, rfl, hgP, hcP⟩ := own_at h.pown n1
  obtain ⟨gS, oS, cS, rfl, rfl, hgS, hcS⟩ := own_at h.sown n1
  have s0 := h.new.size
  have s1 := hc.size
  have k1 : gS ≠ SB := hgS.ne_ h.box (by decide)
  have k2 : gP ≠ SB := hgP.ne_ h.box (by decide)
  have k3 : gP ≠ gS := hgP.ne_ hgS (by decide)
  have k4 : gP ≠ PB := h.put.ne hgP
  have k5 : SB ≠ PB := h.put.ne h.box
  let p : PMem := ⟨SB, gS, oS, PB, blk, some ⟨gP, oP, none⟩, pc, sc, A, c, U⟩
  let T1 : Nat → Prop := fun g => g = SB ∨ g = PB ∨ g = gS
  have hcT : Chg T1 w w' := hc.mono fun i _ e => .inl e
  have hpT : ∀ g, p.T g → T1 g ∨ w.heap.size ≤ g := fun g q => by
    rcases q with q | q | q | q
    · exact .inl (.inl q)
    · exact .inl (.inr (.inr q))
    · exact .inr (hb g q.symm)
    · exact .inl (.inr (.inl q))
  have hpV : ∀ g, p.V g → (T1 g ∨ U g) ∨ w.heap.size ≤ g := fun g q => q.elim (fun q => (hpT g q).imp .inl id) fun q => .inl (.inr q)
  have hlo : ∀ g, p.T g → w0.heap.size ≤ g := fun g q => by
    rcases hpT g q with (q | q | q) | q
    · rw [q]; exact l1
    · rw [q]; exact l2
    · rw [q]; exact l4 gS rfl
    · omega
  have hT1 : ∀ g, T1 g → LT SB PB (some gP) (some gS) g := fun g q => by
    rcases q with q | q | q
    · exact .inl q
    · exact .inr (.inl q)
    · exact .inr (.inr (.inr (by rw [q])))
  have refl : Chg T1 w w := Chg.refl _ _
  refine ⟨p, rfl, ⟨hw, fun i hi => ?_, ⟨cS, hgS.chg hc k1, fun i hi => ?_⟩, h.put.same (hc.block PB h.put.1.lt (fun e => k5 e.symm)), start_ok hm, ?_, ⟨Nat.zero_le _, ?_, Nat.zero_le _⟩, fun g q => by have := h.lowU g q; omega, fun g q1 q2 => by have := h.lowU g q2; have := hlo g q1; omega⟩, ?_, hlo, rfl⟩
  · obtain ⟨MB, e, R, hR, hk⟩ := h.mach i hi
    have hst : Stays w (fun g => T1 g ∨ U g) (ProcAt m (some ⟨gP, oP, none⟩) i) := by
      refine ⟨fun g => R g ∨ g = gP, fun g q => ?_, fun W hs hW => ?_⟩
      · rcases q with q | q
        · exact ⟨(hR g q).1, fun t => (hR g q).2 (t.imp (hT1 g) id)⟩
        · subst q
          refine ⟨hgP.lt, fun t => ?_⟩
          rcases t with (t | t | t) | t
          · exact k2 t
          · exact k4 t
          · exact k3 t
          · have := h.lowU g t; have := l3 g rfl; omega
      · obtain ⟨kA, kd, q1, q2⟩ := hk W hs fun g q => hW g (.inl q)
        refine ⟨gP, oP, MB, kA, kd, rfl, ?_, q1, q2⟩
        have hb' : Blk W gP 82 cP := (hW gP (.inr rfl)).trans hgP
        rw [hb'.cell, hcP i (by omega)]
        exact e
    exact hst.keep (hcT.mono fun g _ q => .inl q) hpV
  · obtain ⟨a, c', e0, e1, e2, hs⟩ := h.st i hi
    rw [start_st hi]
    refine ⟨a, c', ⟨?_, ?_, ?_⟩, ?_⟩
    · rw [hcS (i * 3) (by omega)]; exact e0
    · rw [Nat.add_assoc, hcS (i * 3 + 1) (by omega)]; exact e1
    · rw [Nat.add_assoc, hcS (i * 3 + 2) (by omega)]; exact e2
    · exact hs.keep (hc.mono fun i _ e => .inl (.inl e)) fun g q => (hpV g q).imp (fun q => q.imp (hT1 g) id) id
  · have := first_twin hm m.first.length
    rw [List.take_length] at this
    exact ⟨this.1, this.2⟩
  · have := hm.f64
    show m.first.length ≤ 10000
    omega
  · exact Below.trans h.new (hc.below (fun i _ q => by rw [q]; exact l1) s0)
end Go.Proofs.Ytgijkgngldfdiaa
