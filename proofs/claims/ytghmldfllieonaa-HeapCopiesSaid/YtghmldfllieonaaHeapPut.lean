/- Put. Helper. -/
import Derived.Test.YtghmldfllieonaaHeapOps
import Derived.StillTailTactics
namespace Go.Proofs.Ytghmldfllieonaa
open Go.RowKit
set_option linter.unusedVariables false
set_option linter.unusedSimpArgs false
theorem infoItem : (Try.prog.info? 36).map (fun i => (i.zero, i.size, i.bytes)) = some (some (.agg #[.int .i64 0, .int .i64 0, .int .i64 0, .int .i64 0, .int .i64 0, .int .i64 0, .int .i64 0]), 7, 56) := by kernel_rfl
theorem rd_last_row (w : World) (t : TypeId) (l : List Value) : Rd (w.alloc (.cells l.toArray t)) (some ⟨w.heap.size, 0, none⟩) l :=
  .inr ⟨w.heap.size, 0, rfl, fun j u hu => by rw [cell_of_row _ _ _ _ t (0, 0) (heap_alloc_last w _)]; simpa using hu⟩
theorem rd_last_row_at (w : World) (t : TypeId) (l : List Value) (n : Nat) (hn : w.heap.size = n) : Rd (w.alloc (.cells l.toArray t)).drew (some ⟨n, 0, none⟩) l := by subst hn; exact rd_last_row w t l
theorem g_app (l : List It) (e : It) (j : Nat) (hj : j < l.length) : g (l ++ [e]) j = g l j := by unfold g; rw [List.getElem?_append_left hj]
theorem g_app_last (l : List It) (e : It) : g (l ++ [e]) l.length = e := by unfold g; rw [List.getElem?_append_right (Nat.le_refl _)]; simp
theorem HeapL.put {l : List It} (h : HeapL l) (e : It) : HeapD (l ++ [e]) l.length := by
  refine ⟨fun j h1 h2 h3 h4 => ?_, fun j h1 h2 h3 h4 => ?_⟩
  · rw [List.length_append, List.length_singleton] at h2
    rw [g_app _ _ _ (by omega), g_app _ _ _ (by omega)]
    exact h j h1 (by omega)
  · rw [List.length_append, List.length_singleton] at h2
    omega
theorem HeapN.last {l : List It} {n : Nat} (h : HeapN l n) (hn : l.length = n + 1) : HeapL l := h.whole fun j h1 h2 h3 => by omega
theorem eqlSome (bm : Nat) (w : World) : (binOp .eql 55 (.map (some bm)) (.map none)).run Try.prog w = .ok (.bool false) w := by kernel_rfl
/-- What Put's append leaves. -/
structure Appd (w wx : World) (gB S gE n : Nat) (l : List It) (f : Int → Int → Option Nat) (blk : Option Nat) (e : It) (b off c2 : Nat) : Prop where
  hm : HM wx gB S (.slice (some ⟨b, off, none⟩) (n + 1) c2) (l ++ [e]) f n (some b)
  bx : Blk wx gE 36 e.c.toArray
  ch : Chg (HTurn gB S blk) w wx
  at_ : some b = blk ∨ w.heap.size ≤ b
  ne : b ≠ gE
theorem Appd.mk' {w w1 W w6 : World} {gB S gE n c c2 : Nat} {A A2 : Option Addr} {l : List It} {f : Int → Int → Option Nat} {blk blk2 : Option Nat} {e : It} (h : HpS w1 gB S (.slice A l.length c) l f blk) (hn : l.length = n) (hB : Below w.heap.size w w1) (hsz : w.heap.size < w1.heap.size)
    (hx : Blk w1 gE 36 e.c.toArray) (hgE : w.heap.size = gE) (hb0 : ∀ g, blk = some g → g < w.heap.size) (hW : Below w1.heap.size w1 W) (hc : Chg (fun k => some k = blk) W w6) (ho : Own w6 36 7 (.slice A2 (n + 1) c2) (n + 1) (rowsI l ++ e.c) blk2) (ha : blk2 = blk ∨ blk2 = some W.heap.size) :
    ∃ b off, A2 = some ⟨b, off, none⟩ ∧ Appd w (w6.setCell ⟨gB, 0, none⟩ (.slice A2 (n + 1) c2)) gB S gE n l f blk e b off c2 := by
  have hap := h.hm.apart
  have hgS : S < w1.heap.size := h.hm.mp.lt
  have hgB : gB < w1.heap.size := h.hm.bk.lt
  have hb6 : Blk w6 gB 57 #[.slice A l.length c, .map (some S)] := (h.hm.bk.below hW hgB).chg hc (fun h => hap.2.1 h.symm)
  obtain ⟨hl, A', c', e1, h1, h2, h3 | ⟨b, off, cur, e2, e3, h3, h4, h5⟩⟩ := ho
  · injection e1 with _ _ e4
    have := h3.1
    omega
  injection e1 with e4 _ e5
  subst e4 e5 e2 e3
  have hown : Own w6 36 7 (.slice (some ⟨b, off, none⟩) (n + 1) c2) (n + 1) (rowsI (l ++ [e])) (some b) := by
    rw [rowsI_append, rowsI_one]
    exact ⟨hl, _, c2, rfl, h1, h2, .inr ⟨b, off, cur, rfl, rfl, h3, h4, h5⟩⟩
  have hbg : b ≠ gB := h3.ne_ hb6 (by decide)
  have hbe : b ≠ gE := by
    rcases ha with ha | ha
    · have := hb0 b ha.symm; omega
    · injection ha with ha; have := hW.size; omega
  have hgn : gE ≠ gB := hx.ne_ h.hm.bk (by decide)
  refine ⟨b, off, rfl, ⟨⟨hb6.set_ 0 _, ?_, ?_⟩, ?_, ?_, ?_, hbe⟩⟩
  · rw [List.length_append, hn]
    exact hown.kept fun g hg => Below.heap_setCell _ _ _ _ (by injection hg with hg; rw [← hg]; exact hbg)
  · rw [← hn]
    exact h.hm.mp.same <| (Below.heap_setCell _ _ _ _ hap.1).trans ((hc.block S (by have := hW.size; omega) (fun h => hap.2.2 h.symm)).trans (hW.block S hgS))
  · exact ((hx.below hW hx.lt).chg hc (fun h => by have := hb0 _ h.symm; omega)).far (p := ⟨gB, 0, none⟩) hgn _
  · exact ((((Chg.of_below hB (Nat.le_refl _) (HTurn gB S blk)).trans (Chg.of_below hW (Nat.le_refl _) (HTurn gB S blk)) (fun _ _ h => h))).trans hc (fun _ _ h => .inr (.inr h))).setCell (p := ⟨gB, 0, none⟩) (.inl (.inl rfl)) _
  · rcases ha with ha | ha
    · exact .inl ha
    · injection ha with ha; have := hW.size; exact .inr (by omega)
set_option maxRecDepth 100000
set_option maxHeartbeats 1600000
section
variable (w : World) (gB S : Nat) (v : Value) (l : List It) (f : Int → Int → Option Nat) (blk : Option Nat) (e : It)
theorem put_twice (h : HpS w gB S v l f blk) (he : WOk e) (hf : (f e.k.O e.n).isSome = true) : Calls Try.prog 9 #[.pointer (some ⟨gB, 0, none⟩), .agg e.c.toArray] w fun r w' => r = .returned (.int .i64 7) ∧ Below w.heap.size w w' := by
  have KH := Lib.hid (fun W (hW : HpS W gB S v l f blk) => has_any W gB S v l f blk hW e.k.O e.n he.1 he.2)
  rw [hf] at KH
  have H0 := Lib.hid (h.new ((Below.refl _ w).alloc (Nat.le_refl _) (.cells #[.int .i64 e.k.T, .int .i64 e.k.O, .int .i64 e.k.S, .int .i64 e.p, .int .i64 e.q, .int .i64 e.d, .int .i64 e.n] 36)))
  rw [item_cells]
  clear h hf he
  go_enter Try.func9, Try.ntmps9
  go_wp2_with fail
  refine (KH.out _ H0.out).mono ?_
  rintro r w1 ⟨rfl, rfl⟩
  go_wp2_with fail
  go_ret
  exact ⟨rfl, (Below.refl _ w).alloc (Nat.le_refl _) _⟩
theorem put_full (h : HpS w gB S v l f blk) (he : WOk e) (hf : (f e.k.O e.n).isSome = false) (hl : 1024 ≤ l.length) : Calls Try.prog 9 #[.pointer (some ⟨gB, 0, none⟩), .agg e.c.toArray] w fun r w' => r = .returned (.int .i64 5) ∧ Below w.heap.size w w' := by
  have KH := Lib.hid (fun W (hW : HpS W gB S v l f blk) => has_any W gB S v l f blk hW e.k.O e.n he.1 he.2)
  rw [hf] at KH
  have H0 := Lib.hid (h.new ((Below.refl _ w).alloc (Nat.le_refl _) (.cells #[.int .i64 e.k.T, .int .i64 e.k.O, .int .i64 e.k.S, .int .i64 e.p, .int .i64 e.q, .int .i64 e.d, .int .i64 e.n] 36)))
  obtain ⟨A, c, rfl, _, hc, hm⟩ := h.hm.ow.rd
  have c0 : w.cell? ⟨gB, 0, none⟩ = some (.slice A l.length c) := (h.hm.bk.cell 0).trans rfl
  have hlt := h.hm.bk.lt
  have k1 : (1024 : Int) ≤ (l.length : Int) := by omega
  rw [item_cells]
  clear h hf he hm hc
  go_enter Try.func9, Try.ntmps9
  go_wp2_with fail
  refine (KH.out _ H0.out).mono ?_
  rintro r w1 ⟨rfl, rfl⟩
  go_wp2_with fail
  go_ret
  exact ⟨rfl, (Below.refl _ w).alloc (Nat.le_refl _) _⟩
theorem put_any (h : HpS w gB S v l f blk) (he : WOk e) (hf : f e.k.O e.n = none) (hl : l.length < 1024) : Calls Try.prog 9 #[.pointer (some ⟨gB, 0, none⟩), .agg e.c.toArray] w fun r w' => r = .returned (.int .i64 0) ∧ ∃ l', l'.Perm (l ++ [e]) ∧ HpOut w w' gB S blk l' := by
  have KH := Lib.hid (fun W (hW : HpS W gB S v l f blk) => has_any W gB S v l f blk hW e.k.O e.n he.1 he.2)
  rw [hf] at KH
  have HF := Lib.hid hf
  have HE := Lib.hid he
  have H0 := Lib.hid h
  obtain ⟨wa, hwa⟩ : ∃ wa, w.alloc (.cells #[.int .i64 e.k.T, .int .i64 e.k.O, .int .i64 e.k.S, .int .i64 e.p, .int .i64 e.q, .int .i64 e.d, .int .i64 e.n] 36) = wa := ⟨_, rfl⟩
  have HA := Lib.hid (show HpS wa gB S v l f blk by rw [← hwa]; exact h.new ((Below.refl _ w).alloc (Nat.le_refl _) _))
  have HBW := Lib.hid (show Below w.heap.size w wa by rw [← hwa]; exact (Below.refl _ w).alloc (Nat.le_refl _) _)
  have HBX := Lib.hid (show Blk wa w.heap.size 36 #[.int .i64 e.k.T, .int .i64 e.k.O, .int .i64 e.k.S, .int .i64 e.p, .int .i64 e.q, .int .i64 e.d, .int .i64 e.n] by rw [← hwa]; exact Blk.last w _ _ rfl)
  have HWA := Lib.hid hwa
  have HSZ := Lib.hid (show w.heap.size < wa.heap.size by rw [← hwa]; simp)
  obtain ⟨gE, hgE⟩ : ∃ gE, w.heap.size = gE := ⟨_, rfl⟩
  have HGE := Lib.hid hgE
  rw [hgE] at HBX
  obtain ⟨A, c, rfl, _, hc, hm⟩ := h.hm.ow.rd
  obtain ⟨n, hn⟩ : ∃ n, l.length = n := ⟨_, rfl⟩
  have HN := Lib.hid hn
  have HOW : Hid (Own wa 36 7 (.slice A n c) n (rowsI l) blk) := Lib.hid (by have := HA.out.hm.ow; rw [hn] at this; exact this)
  have HBK : Hid (Blk wa gB 57 #[.slice A n c, .map (some S)]) := Lib.hid (by have := HA.out.hm.bk; rw [hn] at this; exact this)
  have c0 : wa.cell? ⟨gB, 0, none⟩ = some (.slice A n c) := (HBK.out.cell 0).trans rfl
  have c1 : wa.cell? ⟨gB, 1, none⟩ = some (.map (some S)) := (HBK.out.cell 1).trans rfl
  have y0 := HBK.out.frozen 0
  have x0 : wa.cell? ⟨gE, 0, none⟩ = some (.int .i64 e.k.T) := (HBX.out.cell 0).trans rfl
  have x1 : wa.cell? ⟨gE, 1, none⟩ = some (.int .i64 e.k.O) := (HBX.out.cell 1).trans rfl
  have x2 : wa.cell? ⟨gE, 2, none⟩ = some (.int .i64 e.k.S) := (HBX.out.cell 2).trans rfl
  have x3 : wa.cell? ⟨gE, 3, none⟩ = some (.int .i64 e.p) := (HBX.out.cell 3).trans rfl
  have x4 : wa.cell? ⟨gE, 4, none⟩ = some (.int .i64 e.q) := (HBX.out.cell 4).trans rfl
  have x5 : wa.cell? ⟨gE, 5, none⟩ = some (.int .i64 e.d) := (HBX.out.cell 5).trans rfl
  have x6 : wa.cell? ⟨gE, 6, none⟩ = some (.int .i64 e.n) := (HBX.out.cell 6).trans rfl
  have hlt := HBK.out.lt
  obtain ⟨i0, hi0, hz0, hz1, hz2⟩ := info_parts infoItem
  have HL1 := Lib.hid hi0
  have HL2 := Lib.hid hz0
  have HL3 := Lib.hid hz1
  have HL4 := Lib.hid hz2
  rw [hn] at hl
  have k1 : ¬ (1024 : Int) ≤ (n : Int) := by omega
  have k2 : (n : Int) < 1024 := by omega
  rw [item_cells]
  clear hi0 hz0 hz1 hz2 hn hgE hwa h hf he hm hc
  go_enter Try.func9, Try.ntmps9
  go_upto_region 1 with (fail)
  rw [HWA.out, HGE.out]
  go_wp2_with fail
  refine (KH.out _ HA.out).mono ?_
  rintro r w1 ⟨rfl, rfl⟩
  have kmn := fun W => eqlSome S W
  go_upto_region 10 with (fail)
  go_cut [33, 34, 35, 36, 37, 38, 39, 40, 41, 42] (fun s33 s34 s35 s36 s37 s38 s39 s40 s41 s42 wx => ∃ b off c2, Hid (Appd w wx gB S gE n l f blk e b off c2))
  case first =>
    go_region_law (refine step_append_at _ (by rfl) _ _ _ (by rfl) 36 i0 _ 7 56 Try.underlying22 HL1.out HL2.out HL3.out HL4.out rfl (by omega) _ n (rowsI l) blk (by rfl) (HOW.out.kept (fun g hg => (Below.heap_alloc _ _ _ (HOW.out.lt g hg)))) _ 1 1 [.int .i64 e.k.T, .int .i64 e.k.O, .int .i64 e.k.S, .int .i64 e.p, .int .i64 e.q, .int .i64 e.d, .int .i64 e.n] (by rfl) (by rfl) (rd_last_row_at _ _ [.int .i64 e.k.T, .int .i64 e.k.O, .int .i64 e.k.S, .int .i64 e.p, .int .i64 e.q, .int .i64 e.d, .int .i64 e.n] _ (by simp)) (It.c_one e) (by simp only [maxLen]; omega) (by omega) ?_; intro A2 c2 w6 SB2 hown2 hchg hat2; have hb6 : Blk w6 gB 57 _ := ((HBK.out.alloc _).drew).chg hchg (fun h => HA.out.hm.apart.2.1 h.symm); have hc6 : w6.cell? ⟨gB, 0, none⟩ = some (.slice A n c) := (hb6.cell 0).trans rfl; have hg6 := hb6.frozen 0)
    all_goals
      have HC6 := Lib.hid hchg
      have HO6 := Lib.hid hown2
      have HB6 := Lib.hid hb6
      have HA6 := Lib.hid hat2
      clear hchg hown2 hb6 hat2
      go_wp2_with fail
      go_meet
      obtain ⟨b, off, rfl, hx⟩ := Appd.mk' HA.out HN.out HBW.out HSZ.out HBX.out HGE.out (fun g hg => H0.out.hm.ow.lt g hg) (((Below.refl _ w1).alloc (Nat.le_refl _) _).drew) HC6.out HO6.out HA6.out
      exact ⟨b, off, c2, Lib.hid hx⟩
  case rest =>
    obtain ⟨b, off, c2, HX⟩ := hcut
    have hset : (l ++ [e]).set n e = l ++ [e] := by rw [← HN.out]; simp
    have hln : (l ++ [e]).length = n + 1 := by rw [List.length_append, HN.out]; rfl
    have HLN := Lib.hid hln
    have kl := fun W (hW : HM W gB S (.slice (some ⟨b, off, none⟩) (n + 1) c2) (l ++ [e]) f n (some b)) => lay_any W gB S b off c2 (l ++ [e]) f n n (some b) e (by rw [hln]; exact hW) (by omega) (by omega) (by omega) HE.out.1 HE.out.2
    rw [hset, hln, HF.out] at kl
    have KL := Lib.hid kl
    have hnm : NameOk (l ++ [e]) (updF f e.k.O e.n n) := by rw [← HN.out]; exact HA.out.nm.put e HF.out
    have hwf : ∀ x ∈ l ++ [e], WOk x := fun x hx => by
      rcases List.mem_append.1 hx with hx | hx
      · exact HA.out.wf x hx
      · rw [List.mem_singleton] at hx; rw [hx]; exact HE.out
    have hD : HeapD (l ++ [e]) n := by rw [← HN.out]; exact HA.out.hp.put e
    have KU := Lib.hid (fun W (hW : HM W gB S (.slice (some ⟨b, off, none⟩) (n + 1) c2) (l ++ [e]) (updF f e.k.O e.n n) (n + 1) (some b)) =>
      up_any W gB S b off c2 (n + 1) (l ++ [e]) (updF f e.k.O e.n n) (n + 1) n (some b) hln.symm ⟨hW, hnm, hwf, List.Perm.refl _, Chg.refl _ _⟩ (by omega) (by omega) (by omega) hD)
    have d0 : wc.cell? ⟨gB, 0, none⟩ = some (.slice (some ⟨b, off, none⟩) (n + 1) c2) := (HX.out.hm.bk.cell 0).trans rfl
    have z0 : wc.cell? ⟨gE, 0, none⟩ = some (.int .i64 e.k.T) := (HX.out.bx.cell 0).trans rfl
    have z1 : wc.cell? ⟨gE, 1, none⟩ = some (.int .i64 e.k.O) := (HX.out.bx.cell 1).trans rfl
    have z2 : wc.cell? ⟨gE, 2, none⟩ = some (.int .i64 e.k.S) := (HX.out.bx.cell 2).trans rfl
    have z3 : wc.cell? ⟨gE, 3, none⟩ = some (.int .i64 e.p) := (HX.out.bx.cell 3).trans rfl
    have z4 : wc.cell? ⟨gE, 4, none⟩ = some (.int .i64 e.q) := (HX.out.bx.cell 4).trans rfl
    have z5 : wc.cell? ⟨gE, 5, none⟩ = some (.int .i64 e.d) := (HX.out.bx.cell 5).trans rfl
    have z6 : wc.cell? ⟨gE, 6, none⟩ = some (.int .i64 e.n) := (HX.out.bx.cell 6).trans rfl
    have wn : IntKind.i64.wrap ((n : Int) + 1 - 1) = (n : Int) := by rw [show (n : Int) + 1 - 1 = (n : Int) by omega]; exact IntWalk.i64_in (n := (n : Int)) (by constructor <;> omega)
    have wn' : (n : Int) + 1 - 1 = (n : Int) := by omega
    clear kl hset hln hnm hwf hD c0 c1 y0 x0 x1 x2 x3 x4 x5 x6 hlt kmn KH
    go_wp2_with fail
    go_still_tail 8, (by kernel_rfl)
    change wpList _ _ _ _ _ wc.drew
    go_wp2_with fail
    refine (KL.out wc.drew (HX.out.hm.new (Below.refl _ _).drew)).mono ?_
    rintro r w3 ⟨rfl, h3, ch3⟩
    have d3 : w3.cell? ⟨gB, 0, none⟩ = some (.slice (some ⟨b, off, none⟩) (n + 1) c2) := (h3.bk.cell 0).trans rfl
    have H3 := Lib.hid h3
    have CH3 := Lib.hid ch3
    clear h3 ch3 d0 z0 z1 z2 z3 z4 z5 z6
    go_wp2_with fail
    refine (KU.out w3 H3.out).mono ?_
    rintro r w4 ⟨rfl, l', f', hk, hh⟩
    have hll : l'.length = n + 1 := by rw [hk.pm.length_eq]; exact HLN.out
    have hp : HpS w4 gB S (.slice (some ⟨b, off, none⟩) (n + 1) c2) l' f' (some b) := ⟨by rw [hll]; exact hk.hm, hk.nm, hk.wf, hh.last hll⟩
    have HP := Lib.hid hp
    have HPM := Lib.hid hk.pm
    have HCH := Lib.hid hk.ch
    clear hk hh hp hll d3
    go_wp2_with fail
    go_ret
    refine ⟨rfl, l', HPM.out, _, f', some b, HP.out, ?_, ?_⟩
    · have hM : ∀ k, k < w.heap.size → HTurn gB S (some b) k → HTurn gB S blk k := fun k hk h => by
        rcases h with h | h | h
        · exact .inl h
        · exact .inr (.inl h)
        · injection h with h
          rcases HX.out.at_ with h' | h'
          · exact .inr (.inr (by rw [h]; exact h'))
          · omega
      exact (HX.out.ch.drew.trans CH3.out hM).trans HCH.out hM
    · rcases HX.out.at_ with h' | h'
      · exact .inl h'
      · exact .inr ⟨b, rfl, h'⟩
end
end Go.Proofs.Ytghmldfllieonaa
