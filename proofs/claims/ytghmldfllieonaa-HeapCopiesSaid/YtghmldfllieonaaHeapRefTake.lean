/- The document's heap: Take; are two lists the same? Helper. -/
import Derived.Test.YtghmldfllieonaaHeapRefEnds
import Derived.Test.YtghmldfllieonaaHeapRefPut
namespace Go.Proofs.Ytghmldfllieonaa
open Go.RowKit
set_option linter.unusedVariables false
set_option linter.unusedSimpArgs false
set_option maxRecDepth 100000
set_option maxHeartbeats 3200000
theorem rdI_item {w : World} {A : Option Addr} {l : List It} (h : Rd w A (rowsI l)) {k : Nat} (hk : k < l.length) : ∃ b off, A = some ⟨b, off, none⟩ ∧ ∀ j, j < 7 → w.cell? ⟨b, off + k * 7 + j, none⟩ = (g l k).c[j]? := by
  obtain ⟨b, off, rfl, _, hc⟩ := h.get (k := k * 7) (by rw [rowsI_length]; omega)
  refine ⟨b, off, rfl, fun j hj => ?_⟩
  rw [Nat.add_assoc, ← rowsI_get l k hk j hj]
  have hl : k * 7 + j < (rowsI l).length := by rw [rowsI_length]; omega
  rw [List.getElem?_eq_getElem hl]
  exact hc _ _ (List.getElem?_eq_getElem hl)
section
variable (w : World) (gR : Nat) (L : List It) (blk : Option Nat)
theorem refTake_none (h : RefH w gR L blk) (hl : L = []) : Calls Try.prog 33 #[.pointer (some ⟨gR, 0, none⟩)] w fun e w' => e = .returned (itv It.zero false) ∧ Below w.heap.size w w' := by
  obtain ⟨wa, hwa⟩ : ∃ wa, w.alloc (.cells #[.int .i64 0, .int .i64 0, .int .i64 0, .int .i64 0, .int .i64 0, .int .i64 0, .int .i64 0] 36) = wa := ⟨_, rfl⟩
  obtain ⟨gQ, hgQ⟩ : ∃ gQ, w.heap.size = gQ := ⟨_, rfl⟩
  have HG := Lib.hid hgQ
  have HWA := Lib.hid hwa
  have HBA := Lib.hid (show Below w.heap.size w wa ∧ Blk wa gQ 36 It.zero.c.toArray by
    rw [← hwa]
    exact ⟨(Below.refl _ w).alloc (Nat.le_refl _) _, Blk.last w _ _ hgQ⟩)
  have kl := refLeast_none wa gR L blk (h.new HBA.out.1) hl
  have hit : itv It.zero false = .tuple #[.agg #[.int .i64 0, .int .i64 0, .int .i64 0, .int .i64 0, .int .i64 0, .int .i64 0, .int .i64 0], .bool false] := rfl
  rw [hit] at kl ⊢
  have KL := Lib.hid kl
  have HSZ := Lib.hid item_size
  clear h hl hwa hgQ hit kl
  go_enter Try.func33, Try.ntmps33
  go_upto_region 1 with (fail)
  rw [HWA.out, HG.out]
  go_wp2_with fail
  refine KL.out.mono ?_
  rintro e w1 ⟨rfl, hB⟩
  have HR := Lib.hid (HBA.out.2.below hB HBA.out.2.lt)
  have HB := Lib.hid (HBA.out.1.trans (hB.mono HBA.out.1.size))
  have HB1 := Lib.hid hB
  clear hB
  obtain ⟨wb, hwb⟩ : ∃ wb, w1.alloc (.cells #[.int .i64 0, .int .i64 0, .int .i64 0, .int .i64 0, .int .i64 0, .int .i64 0, .int .i64 0] 36) = wb := ⟨_, rfl⟩
  obtain ⟨gE, hgE⟩ : ∃ gE, w1.heap.size = gE := ⟨_, rfl⟩
  have HG2 := Lib.hid hgE
  have HWB := Lib.hid hwb
  have HBB := Lib.hid (show Below w1.heap.size w1 wb ∧ Blk wb gE 36 (It.zero).c.toArray by
    rw [← hwb]
    exact ⟨(Below.refl _ w1).alloc (Nat.le_refl _) _, Blk.last w1 _ _ hgE⟩)
  have HR2 := Lib.hid (HR.out.below HBB.out.1 HR.out.lt)
  clear hwb hgE
  go_upto_region 2 with (fail)
  rw [HWB.out, HG2.out]
  have z0 : wb.cell? ⟨gE, 0, none⟩ = some (.int .i64 0) := (HBB.out.2.cell 0).trans rfl
  have z1 : wb.cell? ⟨gE, 1, none⟩ = some (.int .i64 0) := (HBB.out.2.cell 1).trans rfl
  have z2 : wb.cell? ⟨gE, 2, none⟩ = some (.int .i64 0) := (HBB.out.2.cell 2).trans rfl
  have z3 : wb.cell? ⟨gE, 3, none⟩ = some (.int .i64 0) := (HBB.out.2.cell 3).trans rfl
  have z4 : wb.cell? ⟨gE, 4, none⟩ = some (.int .i64 0) := (HBB.out.2.cell 4).trans rfl
  have z5 : wb.cell? ⟨gE, 5, none⟩ = some (.int .i64 0) := (HBB.out.2.cell 5).trans rfl
  have z6 : wb.cell? ⟨gE, 6, none⟩ = some (.int .i64 0) := (HBB.out.2.cell 6).trans rfl
  go_wp2_with (refine wpList_store_row rfl 36 _ _ rfl gQ #[.int .i64 0, .int .i64 0, .int .i64 0, .int .i64 0, .int .i64 0, .int .i64 0, .int .i64 0] rfl rfl 36 It.zero.c.toArray HR2.out HSZ.out rfl (it_all It.zero) ?_)
  obtain ⟨d, hd⟩ := item_desc
  refine bodyPost_ret (results_rowB rfl _ _ gQ 36 It.zero.c.toArray (0, 0) ⟨d, rfl⟩ rfl (setRow_heap wb gQ _ _ _ _ HR2.out) hd item_size) rfl ⟨rfl, ?_⟩
  exact (Chg.setRow (M := fun k => w.heap.size ≤ k) (Chg.of_below (HB.out.trans (HBB.out.1.mono HB.out.size)) (Nat.le_refl _) _) (.inl (by have := HG.out; omega)) _).below (fun i _ h => h) (Nat.le_refl _)
theorem refTake_any (h : RefH w gR L blk) (hl : 0 < L.length) (hm : L.length ≤ 100000) (hu : ∀ y ∈ L, isN (g L 0).k.O (g L 0).n y → y = g L 0) : Calls Try.prog 33 #[.pointer (some ⟨gR, 0, none⟩)] w fun e w' => e = .returned (itv (g L 0) true) ∧ ∃ k blk', k < L.length ∧ g L k = g L 0 ∧ RefH w' gR (L.take k ++ L.drop (k + 1)) blk' ∧ Chg (fun j => j = gR) w w' ∧ ∀ g, blk' = some g → w.heap.size ≤ g := by
  obtain ⟨wa, hwa⟩ : ∃ wa, w.alloc (.cells #[.int .i64 0, .int .i64 0, .int .i64 0, .int .i64 0, .int .i64 0, .int .i64 0, .int .i64 0] 36) = wa := ⟨_, rfl⟩
  obtain ⟨gQ, hgQ⟩ : ∃ gQ, w.heap.size = gQ := ⟨_, rfl⟩
  have HG := Lib.hid hgQ
  have HWA := Lib.hid hwa
  have HBA := Lib.hid (show Below w.heap.size w wa ∧ Blk wa gQ 36 It.zero.c.toArray by
    rw [← hwa]
    exact ⟨(Below.refl _ w).alloc (Nat.le_refl _) _, Blk.last w _ _ hgQ⟩)
  obtain ⟨x, hx⟩ : ∃ x, g L 0 = x := ⟨_, rfl⟩
  have hit : itv x true = .tuple #[.agg #[.int .i64 (x).k.T, .int .i64 (x).k.O, .int .i64 (x).k.S, .int .i64 (x).p, .int .i64 (x).q, .int .i64 (x).d, .int .i64 (x).n], .bool true] := rfl
  have kl := refLeastI_any wa gR L blk (h.new HBA.out.1) hl hm
  have kd := fun W (hW : RefH W gR L blk) => refDrop_any W gR L blk x.k.O x.n hW hm x (by rw [← hx, g_get L 0 hl]; exact List.getElem_mem hl) ⟨rfl, rfl⟩ (by rw [hx] at hu; exact hu)
  rw [hx] at kl ⊢
  rw [hit] at kl kd ⊢
  have KL := Lib.hid kl
  have KD := Lib.hid kd
  have H0 := Lib.hid h
  have HSZ := Lib.hid item_size
  clear h hwa hgQ hit kl kd hl hm hu hx
  go_enter Try.func33, Try.ntmps33
  go_upto_region 1 with (fail)
  rw [HWA.out, HG.out]
  go_wp2_with fail
  refine KL.out.mono ?_
  rintro e w1 ⟨rfl, hB⟩
  have HR := Lib.hid (HBA.out.2.below hB HBA.out.2.lt)
  have HB := Lib.hid (HBA.out.1.trans (hB.mono HBA.out.1.size))
  have HB1 := Lib.hid hB
  clear hB
  obtain ⟨wb, hwb⟩ : ∃ wb, w1.alloc (.cells #[.int .i64 (x).k.T, .int .i64 (x).k.O, .int .i64 (x).k.S, .int .i64 (x).p, .int .i64 (x).q, .int .i64 (x).d, .int .i64 (x).n] 36) = wb := ⟨_, rfl⟩
  obtain ⟨gE, hgE⟩ : ∃ gE, w1.heap.size = gE := ⟨_, rfl⟩
  have HG2 := Lib.hid hgE
  have HWB := Lib.hid hwb
  have HBB := Lib.hid (show Below w1.heap.size w1 wb ∧ Blk wb gE 36 (x).c.toArray by
    rw [← hwb]
    exact ⟨(Below.refl _ w1).alloc (Nat.le_refl _) _, Blk.last w1 _ _ hgE⟩)
  have HR2 := Lib.hid (HR.out.below HBB.out.1 HR.out.lt)
  clear hwb hgE
  go_upto_region 2 with (fail)
  rw [HWB.out, HG2.out]
  have z0 : wb.cell? ⟨gE, 0, none⟩ = some (.int .i64 (x).k.T) := (HBB.out.2.cell 0).trans rfl
  have z1 : wb.cell? ⟨gE, 1, none⟩ = some (.int .i64 (x).k.O) := (HBB.out.2.cell 1).trans rfl
  have z2 : wb.cell? ⟨gE, 2, none⟩ = some (.int .i64 (x).k.S) := (HBB.out.2.cell 2).trans rfl
  have z3 : wb.cell? ⟨gE, 3, none⟩ = some (.int .i64 (x).p) := (HBB.out.2.cell 3).trans rfl
  have z4 : wb.cell? ⟨gE, 4, none⟩ = some (.int .i64 (x).q) := (HBB.out.2.cell 4).trans rfl
  have z5 : wb.cell? ⟨gE, 5, none⟩ = some (.int .i64 (x).d) := (HBB.out.2.cell 5).trans rfl
  have z6 : wb.cell? ⟨gE, 6, none⟩ = some (.int .i64 (x).n) := (HBB.out.2.cell 6).trans rfl
  have HSb := Lib.hid (H0.out.new (HB.out.trans (HBB.out.1.mono HB.out.size)))
  go_wp2_with fail
  refine (KD.out wb HSb.out).mono ?_
  rintro e w2 ⟨rfl, k, blk', hk, hgk, hr, hch, hfr⟩
  have HO := Lib.hid (show k < L.length ∧ g L k = x ∧ RefH w2 gR (L.take k ++ L.drop (k + 1)) blk' ∧ Chg (fun j => j = gR) wb w2 ∧ ∀ g, blk' = some g → wb.heap.size ≤ g from ⟨hk, hgk, hr, hch, hfr⟩)
  have hsz : gR < w.heap.size ∧ gQ < wb.heap.size ∧ w.heap.size ≤ gQ ∧ w.heap.size ≤ gE ∧ gQ < gE ∧ w.heap.size ≤ wb.heap.size := ⟨H0.out.lt.1, HR2.out.lt, by have := HG.out; omega, by have := HG2.out; have := HB.out.size; omega, by have := HG2.out; have := HR.out.lt; omega, Nat.le_trans HB.out.size HBB.out.1.size⟩
  have HZ := Lib.hid hsz
  have HR3 := Lib.hid (HR2.out.chg hch (by omega))
  have hE3 := HBB.out.2.chg hch (by omega)
  clear hk hgk hr hch hfr z0 z1 z2 z3 z4 z5 z6 hsz
  have y0 : w2.cell? ⟨gE, 0, none⟩ = some (.int .i64 (x).k.T) := (hE3.cell 0).trans rfl
  have y1 : w2.cell? ⟨gE, 1, none⟩ = some (.int .i64 (x).k.O) := (hE3.cell 1).trans rfl
  have y2 : w2.cell? ⟨gE, 2, none⟩ = some (.int .i64 (x).k.S) := (hE3.cell 2).trans rfl
  have y3 : w2.cell? ⟨gE, 3, none⟩ = some (.int .i64 (x).p) := (hE3.cell 3).trans rfl
  have y4 : w2.cell? ⟨gE, 4, none⟩ = some (.int .i64 (x).q) := (hE3.cell 4).trans rfl
  have y5 : w2.cell? ⟨gE, 5, none⟩ = some (.int .i64 (x).d) := (hE3.cell 5).trans rfl
  have y6 : w2.cell? ⟨gE, 6, none⟩ = some (.int .i64 (x).n) := (hE3.cell 6).trans rfl
  clear hE3
  go_wp2_with (refine wpList_store_row rfl 36 _ _ rfl gQ x.c.toArray rfl rfl 36 It.zero.c.toArray HR3.out HSZ.out rfl (it_all x) ?_)
  obtain ⟨d, hd⟩ := item_desc
  refine bodyPost_ret (results_rowB rfl _ _ gQ 36 x.c.toArray (0, 0) ⟨d, rfl⟩ rfl (setRow_heap w2 gQ _ _ _ _ HR3.out) hd item_size) rfl ⟨rfl, ?_⟩
  obtain ⟨hk, hgk, hr, hch, hfr⟩ := HO.out
  have hz := HZ.out
  refine ⟨k, blk', hk, hgk, hr.chg (M := fun j => j = gQ) (Chg.setRow (M := fun j => j = gQ) (Chg.refl (fun j => j = gQ) w2) (.inl rfl) _) (by omega) (fun g hg e => by have := hfr g hg; omega), ?_, fun g hg => Nat.le_trans hz.2.2.2.2.2 (hfr g hg)⟩
  exact Chg.setRow (M := fun j => j = gR) (((Chg.of_below HB.out (Nat.le_refl _) (fun j => j = gR)).trans (Chg.of_below HBB.out.1 (Nat.le_refl _) (fun j => j = gR)) (fun _ _ h => h)).trans hch (fun _ _ h => h)) (.inr hz.2.2.1) _
end
theorem refSame_any (A B : Option Addr) (c d : Nat) (l m : List It) (w : World) (hA : Rd w A (rowsI l)) (hB : Rd w B (rowsI m)) (hl : l.length ≤ 100000) (hm : m.length ≤ 100000) :
    Calls Try.prog 24 #[.slice A l.length c, .slice B m.length d] w fun r w' => r = .returned (.bool (decide (l = m))) ∧ Nw w w' := by
  by_cases hlm : l.length = m.length
  · obtain ⟨n, hn⟩ : ∃ n, l.length = n := ⟨_, rfl⟩
    have hn2 : m.length = n := by rw [← hlm]; exact hn
    rw [hn, hn2]
    have HN := Lib.hid (And.intro hn hn2)
    have HA := Lib.hid hA
    have HB := Lib.hid hB
    rw [hn] at hl
    obtain ⟨R, hR⟩ : ∃ R, decide (l = m) = R := ⟨_, rfl⟩
    have HR := Lib.hid hR
    rw [hR]
    clear hR hA hB hlm hm hn hn2
    go_enter Try.func24, Try.ntmps24
    go_wp2_with fail
    go_loopw [5] (fun y wr => ∃ k : Nat, k ≤ n ∧ y = .int .i64 (k : Int) ∧ Hid (Nw w wr ∧ ∀ j, j < k → g l j = g m j)) (fun y _ => n - (intOf y).toNat)
    case atStart => exact ⟨0, Nat.zero_le _, rfl, Lib.hid ⟨Nw.refl w, fun j hj => by omega⟩⟩
    case round =>
      obtain ⟨k, hk, rfl, HI⟩ := hrel
      by_cases hlt : k < n
      · have g1 : (k : Int) < (n : Int) := by omega
        obtain ⟨b, o, rfl, it⟩ := rdI_item (HA.out.nw HI.out.1) (k := k) (by rw [HN.out.1]; exact hlt)
        obtain ⟨b2, o2, rfl, iu⟩ := rdI_item (HB.out.nw HI.out.1) (k := k) (by rw [HN.out.2]; exact hlt)
        obtain ⟨x, hx⟩ : ∃ x, g l k = x := ⟨_, rfl⟩
        obtain ⟨y, hy⟩ : ∃ y, g m k = y := ⟨_, rfl⟩
        rw [hx] at it
        rw [hy] at iu
        have HXY := Lib.hid (And.intro hx hy)
        have hki : k ≤ 100000 := by omega
        clear hx hy
        by_cases hxy : x = y
        · subst hxy
          have x0 : wr.cell? ⟨b, o + k * 7, none⟩ = some (.int .i64 x.k.T) := it 0 (by omega)
          have x1 : wr.cell? ⟨b, o + k * 7 + 1, none⟩ = some (.int .i64 x.k.O) := it 1 (by omega)
          have x2 : wr.cell? ⟨b, o + k * 7 + 2, none⟩ = some (.int .i64 x.k.S) := it 2 (by omega)
          have x3 : wr.cell? ⟨b, o + k * 7 + 3, none⟩ = some (.int .i64 x.p) := it 3 (by omega)
          have x4 : wr.cell? ⟨b, o + k * 7 + 4, none⟩ = some (.int .i64 x.q) := it 4 (by omega)
          have x5 : wr.cell? ⟨b, o + k * 7 + 5, none⟩ = some (.int .i64 x.d) := it 5 (by omega)
          have x6 : wr.cell? ⟨b, o + k * 7 + 6, none⟩ = some (.int .i64 x.n) := it 6 (by omega)
          have y0 : wr.cell? ⟨b2, o2 + k * 7, none⟩ = some (.int .i64 x.k.T) := iu 0 (by omega)
          have y1 : wr.cell? ⟨b2, o2 + k * 7 + 1, none⟩ = some (.int .i64 x.k.O) := iu 1 (by omega)
          have y2 : wr.cell? ⟨b2, o2 + k * 7 + 2, none⟩ = some (.int .i64 x.k.S) := iu 2 (by omega)
          have y3 : wr.cell? ⟨b2, o2 + k * 7 + 3, none⟩ = some (.int .i64 x.p) := iu 3 (by omega)
          have y4 : wr.cell? ⟨b2, o2 + k * 7 + 4, none⟩ = some (.int .i64 x.q) := iu 4 (by omega)
          have y5 : wr.cell? ⟨b2, o2 + k * 7 + 5, none⟩ = some (.int .i64 x.d) := iu 5 (by omega)
          have y6 : wr.cell? ⟨b2, o2 + k * 7 + 6, none⟩ = some (.int .i64 x.n) := iu 6 (by omega)
          clear it iu
          go_upto_region 7 with (fail)
          go_quiet (fail)
          go_wp2_with fail
          go_roundw
          case rel =>
            refine ⟨k + 1, hlt, by go_num, Lib.hid ⟨HI.out.1.step (Below.many (Nw.refl wr) _), fun j hj => ?_⟩⟩
            by_cases e : j = k
            · rw [e, HXY.out.1, HXY.out.2]
            · exact HI.out.2 j (by omega)
          case measure => simp [intOf]; omega
        · have hRf : R = false := by
            rw [← HR.out]
            refine decide_eq_false fun e => hxy ?_
            rw [← HXY.out.1, ← HXY.out.2, e]
          subst hRf
          obtain ⟨⟨x1, x2, x3⟩, x4, x5, x6, x7⟩ := x
          obtain ⟨⟨y1, y2, y3⟩, y4, y5, y6, y7⟩ := y
          have hne : ¬ (x1 = y1 ∧ x2 = y2 ∧ x3 = y3 ∧ x4 = y4 ∧ x5 = y5 ∧ x6 = y6 ∧ x7 = y7) := by rintro ⟨rfl, rfl, rfl, rfl, rfl, rfl, rfl⟩; exact hxy rfl
          have u0 : wr.cell? ⟨b, o + k * 7, none⟩ = some (.int .i64 x1) := it 0 (by omega)
          have u1 : wr.cell? ⟨b, o + k * 7 + 1, none⟩ = some (.int .i64 x2) := it 1 (by omega)
          have u2 : wr.cell? ⟨b, o + k * 7 + 2, none⟩ = some (.int .i64 x3) := it 2 (by omega)
          have u3 : wr.cell? ⟨b, o + k * 7 + 3, none⟩ = some (.int .i64 x4) := it 3 (by omega)
          have u4 : wr.cell? ⟨b, o + k * 7 + 4, none⟩ = some (.int .i64 x5) := it 4 (by omega)
          have u5 : wr.cell? ⟨b, o + k * 7 + 5, none⟩ = some (.int .i64 x6) := it 5 (by omega)
          have u6 : wr.cell? ⟨b, o + k * 7 + 6, none⟩ = some (.int .i64 x7) := it 6 (by omega)
          have v0 : wr.cell? ⟨b2, o2 + k * 7, none⟩ = some (.int .i64 y1) := iu 0 (by omega)
          have v1 : wr.cell? ⟨b2, o2 + k * 7 + 1, none⟩ = some (.int .i64 y2) := iu 1 (by omega)
          have v2 : wr.cell? ⟨b2, o2 + k * 7 + 2, none⟩ = some (.int .i64 y3) := iu 2 (by omega)
          have v3 : wr.cell? ⟨b2, o2 + k * 7 + 3, none⟩ = some (.int .i64 y4) := iu 3 (by omega)
          have v4 : wr.cell? ⟨b2, o2 + k * 7 + 4, none⟩ = some (.int .i64 y5) := iu 4 (by omega)
          have v5 : wr.cell? ⟨b2, o2 + k * 7 + 5, none⟩ = some (.int .i64 y6) := iu 5 (by omega)
          have v6 : wr.cell? ⟨b2, o2 + k * 7 + 6, none⟩ = some (.int .i64 y7) := iu 6 (by omega)
          have hcase : ¬ x1 = y1 ∨ (x1 = y1 ∧ ¬ x2 = y2) ∨ (x1 = y1 ∧ x2 = y2 ∧ ¬ x3 = y3) ∨ (x1 = y1 ∧ x2 = y2 ∧ x3 = y3 ∧ ¬ x4 = y4) ∨ (x1 = y1 ∧ x2 = y2 ∧ x3 = y3 ∧ x4 = y4 ∧ ¬ x5 = y5) ∨ (x1 = y1 ∧ x2 = y2 ∧ x3 = y3 ∧ x4 = y4 ∧ x5 = y5 ∧ ¬ x6 = y6) ∨ (x1 = y1 ∧ x2 = y2 ∧ x3 = y3 ∧ x4 = y4 ∧ x5 = y5 ∧ x6 = y6 ∧ ¬ x7 = y7) := by omega
          clear it iu hxy hne
          rcases hcase with h | ⟨rfl, h⟩ | ⟨rfl, rfl, h⟩ | ⟨rfl, rfl, rfl, h⟩ | ⟨rfl, rfl, rfl, rfl, h⟩ | ⟨rfl, rfl, rfl, rfl, rfl, h⟩ | ⟨rfl, rfl, rfl, rfl, rfl, rfl, h⟩
          all_goals
            go_upto_region 7 with (fail)
            go_quiet (fail)
            go_wp2_with fail
            go_ret
            exact ⟨rfl, HI.out.1.step (Below.many (Nw.refl wr) _)⟩
      · obtain rfl : k = n := by omega
        have g1 : ¬ (k : Int) < (k : Int) := by omega
        have hRt : R = true := by
          rw [← HR.out]
          refine decide_eq_true ?_
          apply List.ext_getElem (by rw [HN.out.1, HN.out.2])
          intro j h1 h2
          have := HI.out.2 j (by rw [← HN.out.1]; exact h1)
          rwa [g_get l j h1, g_get m j h2] at this
        subst hRt
        go_wp2_with fail
        go_ret
        exact ⟨rfl, HI.out.1⟩
  · have hne : ¬ (l.length : Int) = (m.length : Int) := by omega
    rw [decide_eq_false (fun e => hlm (by rw [e]))]
    clear hA hB
    go_enter Try.func24, Try.ntmps24
    go_wp2_with fail
    go_ret
    exact ⟨rfl, Nw.refl w⟩
end Go.Proofs.Ytghmldfllieonaa
