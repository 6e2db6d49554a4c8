/- Take. Helper. -/
import Derived.Test.YtghmldfllieonaaHeapDrop
import Derived.Test.YtghmldfllieonaaHeapPut
namespace Go.Proofs.Ytghmldfllieonaa
open Go.RowKit
set_option linter.unusedVariables false
set_option linter.unusedSimpArgs false
theorem HpOut.from {w w1 w2 : World} {gB S : Nat} {blk : Option Nat} {l : List It} (hB : Below w.heap.size w w1) (h : HpOut w1 w2 gB S blk l) : HpOut w w2 gB S blk l := by
  obtain ⟨v', f', blk', h1, h2, h3⟩ := h
  refine ⟨v', f', blk', h1, (Chg.of_below hB (Nat.le_refl _) (HTurn gB S blk)).trans h2 (fun _ _ h => h), ?_⟩
  rcases h3 with h3 | ⟨b, h3, h4⟩
  · exact .inl h3
  · exact .inr ⟨b, h3, by have := hB.size; omega⟩
set_option maxRecDepth 100000
set_option maxHeartbeats 1600000
section
variable (w : World) (gB S : Nat) (v : Value) (l : List It) (f : Int → Int → Option Nat) (blk : Option Nat)
theorem take_none (h : HpS w gB S v l f blk) (hl : l = []) : Calls Try.prog 13 #[.pointer (some ⟨gB, 0, none⟩)] w fun e w' => e = .returned (itv It.zero false) ∧ Below w.heap.size w w' := by
  obtain ⟨wa, hwa⟩ : ∃ wa, w.alloc (.cells #[.int .i64 0, .int .i64 0, .int .i64 0, .int .i64 0, .int .i64 0, .int .i64 0, .int .i64 0] 36) = wa := ⟨_, rfl⟩
  obtain ⟨gR, hgR⟩ : ∃ gR, w.heap.size = gR := ⟨_, rfl⟩
  have HG := Lib.hid hgR
  have HWA := Lib.hid hwa
  have HBA := Lib.hid (show Below w.heap.size w wa ∧ Blk wa gR 36 It.zero.c.toArray by
    rw [← hwa]
    exact ⟨(Below.refl _ w).alloc (Nat.le_refl _) _, Blk.last w _ _ hgR⟩)
  have kl := least_none wa gB S v l f blk (h.new HBA.out.1) hl
  have hit : itv It.zero false = .tuple #[.agg #[.int .i64 0, .int .i64 0, .int .i64 0, .int .i64 0, .int .i64 0, .int .i64 0, .int .i64 0], .bool false] := rfl
  rw [hit] at kl ⊢
  have KL := Lib.hid kl
  have HSZ := Lib.hid item_size
  clear h hl hwa hgR hit kl
  go_enter Try.func13, Try.ntmps13
  go_upto_region 1 with (fail)
  rw [HWA.out, HG.out]
  go_wp2_with fail
  refine KL.out.mono ?_
  rintro e w1 ⟨rfl, hB⟩
  have HR := Lib.hid (HBA.out.2.below hB HBA.out.2.lt)
  have HB := Lib.hid (HBA.out.1.trans (hB.mono HBA.out.1.size))
  have HB1 := Lib.hid hB
  clear hB
  obtain ⟨wb, hwb⟩ : ∃ wb, w1.alloc (.cells #[.int .i64 0, .int .i64 0, .int .i64 0, .int .i64 0, .int .i64 0, .int .i64 0, .int .i64 0] 36) = wb := ⟨_, rfl⟩
  obtain ⟨gE, hgE⟩ : ∃ gE, w1.heap.size = gE := ⟨_, rfl⟩
  have HG2 := Lib.hid hgE
  have HWB := Lib.hid hwb
  have HBB := Lib.hid (show Below w1.heap.size w1 wb ∧ Blk wb gE 36 (It.zero).c.toArray by
    rw [← hwb]
    exact ⟨(Below.refl _ w1).alloc (Nat.le_refl _) _, Blk.last w1 _ _ hgE⟩)
  have HR2 := Lib.hid (HR.out.below HBB.out.1 HR.out.lt)
  clear hwb hgE
  go_upto_region 2 with (fail)
  rw [HWB.out, HG2.out]
  have z0 : wb.cell? ⟨gE, 0, none⟩ = some (.int .i64 0) := (HBB.out.2.cell 0).trans rfl
  have z1 : wb.cell? ⟨gE, 1, none⟩ = some (.int .i64 0) := (HBB.out.2.cell 1).trans rfl
  have z2 : wb.cell? ⟨gE, 2, none⟩ = some (.int .i64 0) := (HBB.out.2.cell 2).trans rfl
  have z3 : wb.cell? ⟨gE, 3, none⟩ = some (.int .i64 0) := (HBB.out.2.cell 3).trans rfl
  have z4 : wb.cell? ⟨gE, 4, none⟩ = some (.int .i64 0) := (HBB.out.2.cell 4).trans rfl
  have z5 : wb.cell? ⟨gE, 5, none⟩ = some (.int .i64 0) := (HBB.out.2.cell 5).trans rfl
  have z6 : wb.cell? ⟨gE, 6, none⟩ = some (.int .i64 0) := (HBB.out.2.cell 6).trans rfl
  go_wp2_with (refine wpList_store_row rfl 36 _ _ rfl gR #[.int .i64 0, .int .i64 0, .int .i64 0, .int .i64 0, .int .i64 0, .int .i64 0, .int .i64 0] rfl rfl 36 It.zero.c.toArray HR2.out HSZ.out rfl (it_all It.zero) ?_)
  obtain ⟨d, hd⟩ := item_desc
  refine bodyPost_ret (results_rowB rfl _ _ gR 36 It.zero.c.toArray (0, 0) ⟨d, rfl⟩ rfl (setRow_heap wb gR _ _ _ _ HR2.out) hd item_size) rfl ⟨rfl, ?_⟩
  exact (Chg.setRow (M := fun k => w.heap.size ≤ k) (Chg.of_below (HB.out.trans (HBB.out.1.mono HB.out.size)) (Nat.le_refl _) _) (.inl (by have := HG.out; omega)) _).below (fun i _ h => h) (Nat.le_refl _)
theorem take_any (h : HpS w gB S v l f blk) (hl : 0 < l.length) (hm : l.length ≤ 100000) : Calls Try.prog 13 #[.pointer (some ⟨gB, 0, none⟩)] w fun e w' => e = .returned (itv (g l 0) true) ∧ ∃ l', (g l 0 :: l').Perm l ∧ HpOut w w' gB S blk l' := by
  obtain ⟨wa, hwa⟩ : ∃ wa, w.alloc (.cells #[.int .i64 0, .int .i64 0, .int .i64 0, .int .i64 0, .int .i64 0, .int .i64 0, .int .i64 0] 36) = wa := ⟨_, rfl⟩
  obtain ⟨gR, hgR⟩ : ∃ gR, w.heap.size = gR := ⟨_, rfl⟩
  have HG := Lib.hid hgR
  have HWA := Lib.hid hwa
  have HBA := Lib.hid (show Below w.heap.size w wa ∧ Blk wa gR 36 It.zero.c.toArray by
    rw [← hwa]
    exact ⟨(Below.refl _ w).alloc (Nat.le_refl _) _, Blk.last w _ _ hgR⟩)
  have hit : itv (g l 0) true = .tuple #[.agg #[.int .i64 (g l 0).k.T, .int .i64 (g l 0).k.O, .int .i64 (g l 0).k.S, .int .i64 (g l 0).p, .int .i64 (g l 0).q, .int .i64 (g l 0).d, .int .i64 (g l 0).n], .bool true] := rfl
  have kl := leastI_any wa gB S v l f blk (h.new HBA.out.1) hl hm
  have hwo : WOk (g l 0) := h.wf _ (by rw [g_get l 0 hl]; exact List.getElem_mem hl)
  have kd := fun W (hW : HpS W gB S v l f blk) => drop_any W gB S v l f blk (g l 0).k.O (g l 0).n 0 hW hwo.1 hwo.2 (h.nm.1 0 hl) hm
  rw [hit] at kl kd ⊢
  have KL := Lib.hid kl
  have KD := Lib.hid kd
  have H0 := Lib.hid h
  have HSZ := Lib.hid item_size
  clear h hwa hgR hit kl kd hwo hl hm
  go_enter Try.func13, Try.ntmps13
  go_upto_region 1 with (fail)
  rw [HWA.out, HG.out]
  go_wp2_with fail
  refine KL.out.mono ?_
  rintro e w1 ⟨rfl, hB⟩
  have HR := Lib.hid (HBA.out.2.below hB HBA.out.2.lt)
  have HB := Lib.hid (HBA.out.1.trans (hB.mono HBA.out.1.size))
  have HB1 := Lib.hid hB
  clear hB
  obtain ⟨wb, hwb⟩ : ∃ wb, w1.alloc (.cells #[.int .i64 (g l 0).k.T, .int .i64 (g l 0).k.O, .int .i64 (g l 0).k.S, .int .i64 (g l 0).p, .int .i64 (g l 0).q, .int .i64 (g l 0).d, .int .i64 (g l 0).n] 36) = wb := ⟨_, rfl⟩
  obtain ⟨gE, hgE⟩ : ∃ gE, w1.heap.size = gE := ⟨_, rfl⟩
  have HG2 := Lib.hid hgE
  have HWB := Lib.hid hwb
  have HBB := Lib.hid (show Below w1.heap.size w1 wb ∧ Blk wb gE 36 (g l 0).c.toArray by
    rw [← hwb]
    exact ⟨(Below.refl _ w1).alloc (Nat.le_refl _) _, Blk.last w1 _ _ hgE⟩)
  have HR2 := Lib.hid (HR.out.below HBB.out.1 HR.out.lt)
  clear hwb hgE
  go_upto_region 2 with (fail)
  rw [HWB.out, HG2.out]
  have z0 : wb.cell? ⟨gE, 0, none⟩ = some (.int .i64 (g l 0).k.T) := (HBB.out.2.cell 0).trans rfl
  have z1 : wb.cell? ⟨gE, 1, none⟩ = some (.int .i64 (g l 0).k.O) := (HBB.out.2.cell 1).trans rfl
  have z2 : wb.cell? ⟨gE, 2, none⟩ = some (.int .i64 (g l 0).k.S) := (HBB.out.2.cell 2).trans rfl
  have z3 : wb.cell? ⟨gE, 3, none⟩ = some (.int .i64 (g l 0).p) := (HBB.out.2.cell 3).trans rfl
  have z4 : wb.cell? ⟨gE, 4, none⟩ = some (.int .i64 (g l 0).q) := (HBB.out.2.cell 4).trans rfl
  have z5 : wb.cell? ⟨gE, 5, none⟩ = some (.int .i64 (g l 0).d) := (HBB.out.2.cell 5).trans rfl
  have z6 : wb.cell? ⟨gE, 6, none⟩ = some (.int .i64 (g l 0).n) := (HBB.out.2.cell 6).trans rfl
  have HSb := Lib.hid (H0.out.new (HB.out.trans (HBB.out.1.mono HB.out.size)))
  go_wp2_with fail
  refine (KD.out wb HSb.out).mono ?_
  rintro e w2 ⟨rfl, l', hp, ho⟩
  have HP := Lib.hid hp
  have HO := Lib.hid ho
  have hsz : gR < wb.heap.size ∧ gE < wb.heap.size ∧ w.heap.size ≤ gR ∧ w.heap.size ≤ gE ∧ gR < gE := ⟨HR2.out.lt, HBB.out.2.lt, by have := HG.out; omega, by have := HG2.out; have := HB.out.size; omega, by have := HG2.out; have := HR.out.lt; omega⟩
  have HZ := Lib.hid hsz
  have hnt : ∀ x, w.heap.size ≤ x → ¬ HTurn gB S blk x := by
    have h1 := H0.out.hm.bk.lt
    have h2 := H0.out.hm.mp.lt
    rintro x hx (h | h | h)
    · omega
    · omega
    · have := H0.out.hm.ow.lt _ h.symm; omega
  obtain ⟨v', f', blk', h1, h2, h3⟩ := ho
  have HR3 := Lib.hid (HR2.out.chg h2 (hnt _ hsz.2.2.1))
  have hE3 := HBB.out.2.chg h2 (hnt _ hsz.2.2.2.1)
  clear h1 h2 h3 z0 z1 z2 z3 z4 z5 z6 hp hsz hnt
  have y0 : w2.cell? ⟨gE, 0, none⟩ = some (.int .i64 (g l 0).k.T) := (hE3.cell 0).trans rfl
  have y1 : w2.cell? ⟨gE, 1, none⟩ = some (.int .i64 (g l 0).k.O) := (hE3.cell 1).trans rfl
  have y2 : w2.cell? ⟨gE, 2, none⟩ = some (.int .i64 (g l 0).k.S) := (hE3.cell 2).trans rfl
  have y3 : w2.cell? ⟨gE, 3, none⟩ = some (.int .i64 (g l 0).p) := (hE3.cell 3).trans rfl
  have y4 : w2.cell? ⟨gE, 4, none⟩ = some (.int .i64 (g l 0).q) := (hE3.cell 4).trans rfl
  have y5 : w2.cell? ⟨gE, 5, none⟩ = some (.int .i64 (g l 0).d) := (hE3.cell 5).trans rfl
  have y6 : w2.cell? ⟨gE, 6, none⟩ = some (.int .i64 (g l 0).n) := (hE3.cell 6).trans rfl
  clear hE3
  go_wp2_with (refine wpList_store_row rfl 36 _ _ rfl gR (g l 0).c.toArray rfl rfl 36 It.zero.c.toArray HR3.out HSZ.out rfl (it_all (g l 0)) ?_)
  obtain ⟨d, hd⟩ := item_desc
  refine bodyPost_ret (results_rowB rfl _ _ gR 36 (g l 0).c.toArray (0, 0) ⟨d, rfl⟩ rfl (setRow_heap w2 gR _ _ _ _ HR3.out) hd item_size) rfl ⟨rfl, l', HP.out, ?_⟩
  have h := H0.out.hm
  obtain ⟨v', f', blk', h1, h2, h3⟩ := HO.out
  have hne : blk' ≠ some gR := by
    rintro rfl
    have hz := HZ.out
    rcases h3 with h3 | ⟨b, h3, h4⟩
    · have := h.ow.lt _ h3.symm; omega
    · injection h3 with h3; omega
  have h9 : HpOut w w2 gB S blk l' := HpOut.from (HB.out.trans (HBB.out.1.mono HB.out.size)) ⟨v', f', blk', h1, h2, h3⟩
  obtain ⟨v9, f9, blk9, h91, h92, h93⟩ := h9
  refine ⟨v', f', blk', h1.chg (Chg.setRow (M := fun k => k = gR) (Chg.refl (fun k => k = gR) w2) (.inl rfl) _) ?_, h92.setRow (.inr HZ.out.2.2.1) _, ?_⟩
  · have h5 := h.bk.lt
    have h6 := h.mp.lt
    have h7 := HZ.out
    rintro k (h' | h' | h') rfl
    · omega
    · omega
    · exact hne h'.symm
  · rcases h3 with h3 | ⟨b, h3, h4⟩
    · exact .inl h3
    · exact .inr ⟨b, h3, by have := (HB.out.trans (HBB.out.1.mono HB.out.size)).size; omega⟩
end
end Go.Proofs.Ytghmldfllieonaa
