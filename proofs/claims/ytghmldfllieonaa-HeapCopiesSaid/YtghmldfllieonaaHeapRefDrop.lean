/- The document's heap: Drop. Helper. -/
import Derived.Test.YtghmldfllieonaaHeapRefDropB
import Derived.Test.YtghmldfllieonaaHeapDrop
namespace Go.Proofs.Ytghmldfllieonaa
open Go.RowKit
set_option linter.unusedVariables false
set_option linter.unusedSimpArgs false
set_option maxRecDepth 100000
set_option maxHeartbeats 3200000
section
variable (w : World) (gR : Nat) (L : List It) (blk : Option Nat) (O N : Int)
theorem refDrop_none (h : RefH w gR L blk) (hl : L.length ≤ 100000) (hx : ∀ x ∈ L, ¬ isN O N x) : Calls Try.prog 12 #[.pointer (some ⟨gR, 0, none⟩), .int .i64 O, .int .i64 N] w fun r w' => r = .returned (itv It.zero false) ∧ Below w.heap.size w w' := by
  have KO := Lib.hid (fun W (hW : RefH W gR L blk) => refOf_any W gR L blk hW O N hl)
  have H0 := Lib.hid (h.new ((Below.refl _ w).alloc (Nat.le_refl _) (.cells #[.int .i64 0, .int .i64 0, .int .i64 0, .int .i64 0, .int .i64 0, .int .i64 0, .int .i64 0] 36)))
  have HX := Lib.hid (show ∀ r, OfIs L O N r → r = -1 from fun r hr => by
    rcases hr with ⟨hr, _⟩ | ⟨i, hi, _, hr⟩
    · exact hr
    · exact absurd hr (hx _ (by rw [g_get L i hi]; exact List.getElem_mem hi)))
  clear h hx hl
  go_enter Try.func12, Try.ntmps12
  go_wp2_with fail
  refine (KO.out _ H0.out).mono ?_
  rintro r w1 ⟨r1, rfl, hr, h1⟩
  rw [h1]
  obtain rfl := HX.out r1 hr
  clear h1 w1 hr
  go_wp2_with fail
  obtain ⟨d, hd⟩ := item_desc
  refine bodyPost_ret (results_rowB rfl _ _ w.heap.size 36 _ (0, 0) ⟨d, rfl⟩ rfl (heap_last w _ rfl) hd item_size) rfl ⟨rfl, (Below.refl _ w).alloc (Nat.le_refl _) _⟩
theorem refDrop_any (h : RefH w gR L blk) (hl : L.length ≤ 100000) (x : It) (hx : x ∈ L) (hn : isN O N x) (hu : ∀ y ∈ L, isN O N y → y = x) : Calls Try.prog 12 #[.pointer (some ⟨gR, 0, none⟩), .int .i64 O, .int .i64 N] w fun r w' => r = .returned (itv x true) ∧ ∃ k blk', k < L.length ∧ g L k = x ∧ RefH w' gR (L.take k ++ L.drop (k + 1)) blk' ∧ Chg (fun j => j = gR) w w' ∧ ∀ g, blk' = some g → w.heap.size ≤ g := by
  obtain ⟨wa, hwa⟩ : ∃ wa, w.alloc (.cells #[.int .i64 0, .int .i64 0, .int .i64 0, .int .i64 0, .int .i64 0, .int .i64 0, .int .i64 0] 36) = wa := ⟨_, rfl⟩
  obtain ⟨gQ, hgQ⟩ : ∃ gQ, w.heap.size = gQ := ⟨_, rfl⟩
  have HG := Lib.hid hgQ
  have HWA := Lib.hid hwa
  have HBA := Lib.hid (show Below w.heap.size w wa ∧ Blk wa gQ 36 It.zero.c.toArray by
    rw [← hwa]
    exact ⟨(Below.refl _ w).alloc (Nat.le_refl _) _, Blk.last w _ _ hgQ⟩)
  have H0 := Lib.hid (h.new HBA.out.1)
  have HLT := Lib.hid h.lt
  have KO := Lib.hid (refOf_any wa gR L blk H0.out O N hl)
  have HX := Lib.hid (show ∀ r, OfIs L O N r → ∃ i : Nat, r = (i : Int) ∧ i < L.length ∧ g L i = x from fun r hr => by
    rcases hr with ⟨_, hr⟩ | ⟨i, hi, hr, hn'⟩
    · exact absurd hn (hr x hx)
    · exact ⟨i, hr, hi, hu _ (by rw [g_get L i hi]; exact List.getElem_mem hi) hn'⟩)
  have HL := Lib.hid hl
  have HSZ := Lib.hid item_size
  have hit : itv x true = .tuple #[.agg #[.int .i64 (x).k.T, .int .i64 (x).k.O, .int .i64 (x).k.S, .int .i64 (x).p, .int .i64 (x).q, .int .i64 (x).d, .int .i64 (x).n], .bool true] := rfl
  rw [hit]
  clear hwa hgQ h hl hx hn hu hit
  go_enter Try.func12, Try.ntmps12
  go_upto_region 1 with (fail)
  rw [HWA.out, HG.out]
  go_wp2_with fail
  refine KO.out.mono ?_
  rintro r w1 ⟨r1, rfl, hr, h1⟩
  rw [h1]
  obtain ⟨k, rfl, hk, hgk⟩ := HX.out r1 hr
  clear h1 w1 hr
  obtain ⟨b, off, c, hb2, hnc, hcm, hbk, hbl, ho2⟩ := H0.out.at hk
  obtain ⟨n, hnn⟩ : ∃ n, L.length = n := ⟨_, rfl⟩
  rw [hnn] at hb2 hnc ho2 hk
  have hln := HL.out
  rw [hnn] at hln
  have HN := Lib.hid hnn
  have HB := Lib.hid hb2
  have HO := Lib.hid ho2
  have HA := Lib.hid (show k < n ∧ n ≤ c ∧ n ≤ 100000 ∧ g L k = x from ⟨hk, hnc, hln, hgk⟩)
  have c0 : wa.cell? ⟨gR, 0, none⟩ = some (.slice (some ⟨b, off, none⟩) n c) := (hb2.cell 0).trans rfl
  have it := fun j hj => (ho2.item hk j hj).1
  rw [hgk] at it
  have z0 : wa.cell? ⟨b, off + k * 7, none⟩ = some (.int .i64 x.k.T) := it 0 (by omega)
  have z1 : wa.cell? ⟨b, off + k * 7 + 1, none⟩ = some (.int .i64 x.k.O) := it 1 (by omega)
  have z2 : wa.cell? ⟨b, off + k * 7 + 2, none⟩ = some (.int .i64 x.k.S) := it 2 (by omega)
  have z3 : wa.cell? ⟨b, off + k * 7 + 3, none⟩ = some (.int .i64 x.p) := it 3 (by omega)
  have z4 : wa.cell? ⟨b, off + k * 7 + 4, none⟩ = some (.int .i64 x.q) := it 4 (by omega)
  have z5 : wa.cell? ⟨b, off + k * 7 + 5, none⟩ = some (.int .i64 x.d) := it 5 (by omega)
  have z6 : wa.cell? ⟨b, off + k * 7 + 6, none⟩ = some (.int .i64 x.n) := it 6 (by omega)
  have hlb : b < wa.heap.size := hbl
  have hlR := hb2.lt
  have ik : (k : Int) < (n : Int) := by omega
  have ik0 : ¬ (k : Int) < 0 := by omega
  obtain ⟨wb, hwb⟩ : ∃ wb, wa.alloc (.cells #[.int .i64 (x).k.T, .int .i64 (x).k.O, .int .i64 (x).k.S, .int .i64 (x).p, .int .i64 (x).q, .int .i64 (x).d, .int .i64 (x).n] 36) = wb := ⟨_, rfl⟩
  obtain ⟨gE, hgE⟩ : ∃ gE, wa.heap.size = gE := ⟨_, rfl⟩
  have HG2 := Lib.hid hgE
  have HWB := Lib.hid hwb
  have HBB := Lib.hid (show Below wa.heap.size wa wb ∧ Blk wb gE 36 x.c.toArray by
    rw [← hwb]
    exact ⟨(Below.refl _ wa).alloc (Nat.le_refl _) _, Blk.last wa _ _ hgE⟩)
  clear it hb2 ho2 hnc hcm hbk hbl hk hgk hnn hln hwb hgE HX KO
  go_upto_region 5 with (fail)
  rw [HWB.out, HG2.out]
  clear c0 z0 z1 z2 z3 z4 z5 z6 hlb hlR ik ik0
  by_cases hca : c = k + 1
  · refine dropRegionA gR n c k (some ⟨b, off, none⟩) L wb HA.out.1 HA.out.2.1 HA.out.2.2.1 HN.out hca (HB.out.below HBB.out.1 HB.out.lt) (by obtain ⟨A', c', e1, hr, _⟩ := (HO.out.kept (w' := wb) fun g hg => HBB.out.1.block g (HO.out.lt g hg)).rd; injection e1 with e1; rw [e1]; exact hr) (.inr ⟨b, off, rfl⟩) _ ?_
    intro t24 t25 t26 t27 t28 t29 t30 t31 t32 t33 t34 t35 t36 t37 t38 t39 t40 t41 w3 hD
    have HD := Lib.hid hD
    obtain ⟨A3, c3, blk3, hb3, ho3, hch3, hf3⟩ := hD
    have hszs : gR < gQ ∧ gQ < gE := by have := HG.out; have := HG2.out; have := HLT.out.1; have := HBA.out.2.lt; omega
    have HQ3 := Lib.hid ((HBA.out.2.below HBB.out.1 HBA.out.2.lt).chg hch3 (by omega))
    have hE3 := HBB.out.2.chg hch3 (by omega)
    have y0 : w3.cell? ⟨gE, 0, none⟩ = some (.int .i64 x.k.T) := (hE3.cell 0).trans rfl
    have y1 : w3.cell? ⟨gE, 1, none⟩ = some (.int .i64 x.k.O) := (hE3.cell 1).trans rfl
    have y2 : w3.cell? ⟨gE, 2, none⟩ = some (.int .i64 x.k.S) := (hE3.cell 2).trans rfl
    have y3 : w3.cell? ⟨gE, 3, none⟩ = some (.int .i64 x.p) := (hE3.cell 3).trans rfl
    have y4 : w3.cell? ⟨gE, 4, none⟩ = some (.int .i64 x.q) := (hE3.cell 4).trans rfl
    have y5 : w3.cell? ⟨gE, 5, none⟩ = some (.int .i64 x.d) := (hE3.cell 5).trans rfl
    have y6 : w3.cell? ⟨gE, 6, none⟩ = some (.int .i64 x.n) := (hE3.cell 6).trans rfl
    have HSZZ := Lib.hid hszs
    clear hb3 ho3 hch3 hf3 hE3 hca hszs
    go_wp2_with (refine wpList_store_row rfl 36 _ _ rfl gQ x.c.toArray rfl rfl 36 It.zero.c.toArray HQ3.out HSZ.out rfl (it_all x) ?_)
    obtain ⟨d, hd⟩ := item_desc
    refine bodyPost_ret (results_rowB rfl _ _ gQ 36 x.c.toArray (0, 0) ⟨d, rfl⟩ rfl (setRow_heap w3 gQ _ _ _ _ HQ3.out) hd item_size) rfl ⟨rfl, ?_⟩
    obtain ⟨A3, c3, blk3, hb3, ho3, hch3, hf3⟩ := HD.out
    have e3 : (L.take k ++ L.drop (k + 1)).length = n - 1 := by rw [List.length_append, List.length_take, List.length_drop, HN.out]; have := HA.out.1; omega
    have hw : w.heap.size ≤ wb.heap.size := Nat.le_trans HBA.out.1.size HBB.out.1.size
    refine ⟨k, blk3, by rw [HN.out]; exact HA.out.1, HA.out.2.2.2, ⟨A3, c3, ?_, ?_⟩, ?_, fun g hg => Nat.le_trans hw (hf3 g hg)⟩
    · rw [e3]; exact (setRow_far w3 gQ _ gR (by have := HSZZ.out; omega)).trans hb3
    · rw [e3]
      exact ho3.kept fun g hg => setRow_far w3 gQ _ g (by have := hf3 g hg; have := HBB.out.2.lt; have := HSZZ.out; omega)
    · exact Chg.setRow (M := fun j => j = gR) (((Chg.of_below HBA.out.1 (Nat.le_refl _) (fun j => j = gR)).trans (Chg.of_below HBB.out.1 (Nat.le_refl _) (fun j => j = gR)) (fun _ _ h => h)).trans hch3 (fun _ _ h => h)) (.inr (by have := HG.out; omega)) _
  · refine dropRegionB gR n c k (some ⟨b, off, none⟩) L wb HA.out.1 HA.out.2.1 HA.out.2.2.1 HN.out hca (HB.out.below HBB.out.1 HB.out.lt) (by obtain ⟨A', c', e1, hr, _⟩ := (HO.out.kept (w' := wb) fun g hg => HBB.out.1.block g (HO.out.lt g hg)).rd; injection e1 with e1; rw [e1]; exact hr) (.inr ⟨b, off, rfl⟩) _ ?_
    intro t24 t25 t26 t27 t28 t29 t30 t31 t32 t33 t34 t35 t36 t37 t38 t39 t40 t41 w3 hD
    have HD := Lib.hid hD
    obtain ⟨A3, c3, blk3, hb3, ho3, hch3, hf3⟩ := hD
    have hszs : gR < gQ ∧ gQ < gE := by have := HG.out; have := HG2.out; have := HLT.out.1; have := HBA.out.2.lt; omega
    have HQ3 := Lib.hid ((HBA.out.2.below HBB.out.1 HBA.out.2.lt).chg hch3 (by omega))
    have hE3 := HBB.out.2.chg hch3 (by omega)
    have y0 : w3.cell? ⟨gE, 0, none⟩ = some (.int .i64 x.k.T) := (hE3.cell 0).trans rfl
    have y1 : w3.cell? ⟨gE, 1, none⟩ = some (.int .i64 x.k.O) := (hE3.cell 1).trans rfl
    have y2 : w3.cell? ⟨gE, 2, none⟩ = some (.int .i64 x.k.S) := (hE3.cell 2).trans rfl
    have y3 : w3.cell? ⟨gE, 3, none⟩ = some (.int .i64 x.p) := (hE3.cell 3).trans rfl
    have y4 : w3.cell? ⟨gE, 4, none⟩ = some (.int .i64 x.q) := (hE3.cell 4).trans rfl
    have y5 : w3.cell? ⟨gE, 5, none⟩ = some (.int .i64 x.d) := (hE3.cell 5).trans rfl
    have y6 : w3.cell? ⟨gE, 6, none⟩ = some (.int .i64 x.n) := (hE3.cell 6).trans rfl
    have HSZZ := Lib.hid hszs
    clear hb3 ho3 hch3 hf3 hE3 hca hszs
    go_wp2_with (refine wpList_store_row rfl 36 _ _ rfl gQ x.c.toArray rfl rfl 36 It.zero.c.toArray HQ3.out HSZ.out rfl (it_all x) ?_)
    obtain ⟨d, hd⟩ := item_desc
    refine bodyPost_ret (results_rowB rfl _ _ gQ 36 x.c.toArray (0, 0) ⟨d, rfl⟩ rfl (setRow_heap w3 gQ _ _ _ _ HQ3.out) hd item_size) rfl ⟨rfl, ?_⟩
    obtain ⟨A3, c3, blk3, hb3, ho3, hch3, hf3⟩ := HD.out
    have e3 : (L.take k ++ L.drop (k + 1)).length = n - 1 := by rw [List.length_append, List.length_take, List.length_drop, HN.out]; have := HA.out.1; omega
    have hw : w.heap.size ≤ wb.heap.size := Nat.le_trans HBA.out.1.size HBB.out.1.size
    refine ⟨k, blk3, by rw [HN.out]; exact HA.out.1, HA.out.2.2.2, ⟨A3, c3, ?_, ?_⟩, ?_, fun g hg => Nat.le_trans hw (hf3 g hg)⟩
    · rw [e3]; exact (setRow_far w3 gQ _ gR (by have := HSZZ.out; omega)).trans hb3
    · rw [e3]
      exact ho3.kept fun g hg => setRow_far w3 gQ _ g (by have := hf3 g hg; have := HBB.out.2.lt; have := HSZZ.out; omega)
    · exact Chg.setRow (M := fun j => j = gR) (((Chg.of_below HBA.out.1 (Nat.le_refl _) (fun j => j = gR)).trans (Chg.of_below HBB.out.1 (Nat.le_refl _) (fun j => j = gR)) (fun _ _ h => h)).trans hch3 (fun _ _ h => h)) (.inr (by have := HG.out; omega)) _
end
end Go.Proofs.Ytghmldfllieonaa
