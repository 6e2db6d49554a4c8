/- slices.MaxFunc over items; Most. Helper. -/
import Derived.Test.YtghmldfllieonaaHeapEnds
namespace Go.Proofs.Ytghmldfllieonaa
open Go.RowKit
set_option linter.unusedVariables false
set_option linter.unusedSimpArgs false
theorem It.cmp_pos (a b : It) : 0 < a.cmp b ↔ b.less a = true := by
  have hk := Ky.cmp_less a.k b.k
  have hl := Ky.less_iff b.k a.k
  have hl' := Ky.less_iff a.k b.k
  have he := Ky.ext_iff' a.k b.k
  unfold It.cmp or2 It.less c3
  by_cases h : a.k = b.k
  · rw [if_neg (by simpa using hk.2.2 h), if_pos h.symm, decide_eq_true_eq]
    split
    · simp; omega
    · split <;> simp <;> omega
  · rw [if_pos (fun e => h (hk.2.1 e)), if_neg (fun e => h e.symm)]
    unfold Ky.cmp
    by_cases h1 : a.k.less b.k = true
    · rw [if_pos h1]
      have h1' := hl'.1 h1
      constructor
      · intro e; simp at e
      · intro e; have := hl.1 e; omega
    · rw [if_neg h1]
      by_cases h2 : b.k.less a.k = true
      · rw [if_pos h2]; simp [h2]
      · rw [if_neg h2]; simp [h2]
set_option maxRecDepth 100000
set_option maxHeartbeats 1600000
theorem setRow_far (w : World) (g : Nat) (cs : Array Value) (k : Nat) (h : k ≠ g) : (w.setRow g cs).heap[k]? = w.heap[k]? := by
  simp only [World.setRow, Array.getElem?_modify]
  rw [if_neg (fun e => h e.symm)]
theorem it_all (e : It) : (e.c.toArray.all (·.oneCell')) = true := by simp [It.c, Value.oneCell']
theorem max_any (w : World) (b off c n : Nat) (l : List It) (blk : Option Nat) (hn : n = l.length) (ho : Own w 36 7 (.slice (some ⟨b, off, none⟩) n c) n (rowsI l) blk) (h0 : 0 < n) (hl : n ≤ 100000) :
    Calls Try.prog 31 #[.slice (some ⟨b, off, none⟩) n c, .func (.func 32) #[] #[]] w fun e w' => Below w.heap.size w w' ∧ ∃ t, t < n ∧ e = .returned (.agg (g l t).c.toArray) ∧ ∀ j, j < n → (g l t).less (g l j) = false := by
  obtain ⟨gR, hgR⟩ : ∃ gR, w.heap.size = gR := ⟨_, rfl⟩
  obtain ⟨gM, hgM⟩ : ∃ gM, w.heap.size + 1 = gM := ⟨_, rfl⟩
  have HG := Lib.hid (show w.heap.size = gR ∧ w.heap.size + 1 = gM from ⟨hgR, hgM⟩)
  have HN := Lib.hid hn
  have HSZ := Lib.hid item_size
  have HO := Lib.hid ho
  have it0 := fun j hj => (ho.item h0 j hj).1
  have x0 : w.cell? ⟨b, off, none⟩ = some (.int .i64 (g l 0).k.T) := it0 0 (by omega)
  have x1 : w.cell? ⟨b, off + 1, none⟩ = some (.int .i64 (g l 0).k.O) := it0 1 (by omega)
  have x2 : w.cell? ⟨b, off + 2, none⟩ = some (.int .i64 (g l 0).k.S) := it0 2 (by omega)
  have x3 : w.cell? ⟨b, off + 3, none⟩ = some (.int .i64 (g l 0).p) := it0 3 (by omega)
  have x4 : w.cell? ⟨b, off + 4, none⟩ = some (.int .i64 (g l 0).q) := it0 4 (by omega)
  have x5 : w.cell? ⟨b, off + 5, none⟩ = some (.int .i64 (g l 0).d) := it0 5 (by omega)
  have x6 : w.cell? ⟨b, off + 6, none⟩ = some (.int .i64 (g l 0).n) := it0 6 (by omega)
  have hb := World.block_lt_of_cell? w _ x0
  dsimp only at hb
  have i0 : (0 : Int) < (n : Int) := by omega
  have i1 : ¬ ((n : Int) < 1) := by omega
  have HH := Lib.hid (show 0 < n ∧ n ≤ 100000 from ⟨h0, hl⟩)
  obtain ⟨wa, hwa⟩ : ∃ wa, (w.alloc (.cells #[.int .i64 0, .int .i64 0, .int .i64 0, .int .i64 0, .int .i64 0, .int .i64 0, .int .i64 0] 36)).alloc (.cells #[.int .i64 (g l 0).k.T, .int .i64 (g l 0).k.O, .int .i64 (g l 0).k.S, .int .i64 (g l 0).p, .int .i64 (g l 0).q, .int .i64 (g l 0).d, .int .i64 (g l 0).n] 36) = wa := ⟨_, rfl⟩
  have HWA := Lib.hid hwa
  have HBA := Lib.hid (show Below w.heap.size w wa ∧ Blk wa gM 36 (g l 0).c.toArray ∧ Blk wa gR 36 It.zero.c.toArray by
    rw [← hwa]
    exact ⟨((Below.refl _ w).alloc (Nat.le_refl _) _).alloc (by simp) _, Blk.last _ _ _ (by simp [hgM]), (Blk.last w _ _ hgR).alloc _⟩)
  clear hn ho hgR hgM it0 hwa
  go_enter Try.func31, Try.ntmps31
  go_upto_region 4 with (fail)
  rw [HWA.out, HG.out.2, HG.out.1]
  clear x0 x1 x2 x3 x4 x5 x6 hb
  go_wp2_with fail
  go_loopw [6] (fun s6 wr => ∃ k t : Nat, k ≤ n ∧ s6 = .int .i64 (k : Int) ∧ t < n ∧ 1 ≤ k ∧ (∀ j, j < k → (g l t).less (g l j) = false) ∧ Below w.heap.size w wr ∧ Blk wr gM 36 (g l t).c.toArray ∧ Blk wr gR 36 It.zero.c.toArray) (fun s6 _ => n - (intOf s6).toNat)
  case atStart => exact ⟨1, 0, HH.out.1, rfl, HH.out.1, by omega, fun j hj => (show j = 0 by omega) ▸ It.less_irrefl _, HBA.out.1, HBA.out.2.1, HBA.out.2.2⟩
  case round =>
    obtain ⟨k, t, hk, rfl, ht, hk1, hle, hB, hM, hR⟩ := hrel
    have HLE := Lib.hid hle
    have HB := Lib.hid hB
    have HM := Lib.hid hM
    have HR := Lib.hid hR
    have m0 : wr.cell? ⟨gM, 0, none⟩ = some (.int .i64 (g l t).k.T) := (hM.cell 0).trans rfl
    have m1 : wr.cell? ⟨gM, 1, none⟩ = some (.int .i64 (g l t).k.O) := (hM.cell 1).trans rfl
    have m2 : wr.cell? ⟨gM, 2, none⟩ = some (.int .i64 (g l t).k.S) := (hM.cell 2).trans rfl
    have m3 : wr.cell? ⟨gM, 3, none⟩ = some (.int .i64 (g l t).p) := (hM.cell 3).trans rfl
    have m4 : wr.cell? ⟨gM, 4, none⟩ = some (.int .i64 (g l t).q) := (hM.cell 4).trans rfl
    have m5 : wr.cell? ⟨gM, 5, none⟩ = some (.int .i64 (g l t).d) := (hM.cell 5).trans rfl
    have m6 : wr.cell? ⟨gM, 6, none⟩ = some (.int .i64 (g l t).n) := (hM.cell 6).trans rfl
    by_cases hlt : k < n
    · have ik : (k : Int) < (n : Int) := by omega
      have hown : Own wr 36 7 (.slice (some ⟨b, off, none⟩) n c) n (rowsI l) blk := HO.out.kept fun g hg => HB.out.block g (HO.out.lt g hg)
      have it_k := fun j hj => hown.item hlt j hj
      have c0 : wr.cell? ⟨b, off + k * 7, none⟩ = some (.int .i64 (g l k).k.T) := (it_k 0 (by omega)).1
      have c1 : wr.cell? ⟨b, off + k * 7 + 1, none⟩ = some (.int .i64 (g l k).k.O) := (it_k 1 (by omega)).1
      have c2 : wr.cell? ⟨b, off + k * 7 + 2, none⟩ = some (.int .i64 (g l k).k.S) := (it_k 2 (by omega)).1
      have c3 : wr.cell? ⟨b, off + k * 7 + 3, none⟩ = some (.int .i64 (g l k).p) := (it_k 3 (by omega)).1
      have c4 : wr.cell? ⟨b, off + k * 7 + 4, none⟩ = some (.int .i64 (g l k).q) := (it_k 4 (by omega)).1
      have c5 : wr.cell? ⟨b, off + k * 7 + 5, none⟩ = some (.int .i64 (g l k).d) := (it_k 5 (by omega)).1
      have c6 : wr.cell? ⟨b, off + k * 7 + 6, none⟩ = some (.int .i64 (g l k).n) := (it_k 6 (by omega)).1
      have hss : ∀ W, Nw wr W → Nw wr W ∧ W.cell? ⟨b, off + k * 7, none⟩ = some (.int .i64 (g l k).k.T) ∧ W.cell? ⟨b, off + k * 7 + 1, none⟩ = some (.int .i64 (g l k).k.O) ∧ W.cell? ⟨b, off + k * 7 + 2, none⟩ = some (.int .i64 (g l k).k.S) ∧ W.cell? ⟨b, off + k * 7 + 3, none⟩ = some (.int .i64 (g l k).p) ∧ W.cell? ⟨b, off + k * 7 + 4, none⟩ = some (.int .i64 (g l k).q) ∧ W.cell? ⟨b, off + k * 7 + 5, none⟩ = some (.int .i64 (g l k).d) ∧ W.cell? ⟨b, off + k * 7 + 6, none⟩ = some (.int .i64 (g l k).n) ∧ W.cell? ⟨gM, 0, none⟩ = some (.int .i64 (g l t).k.T) ∧ W.cell? ⟨gM, 1, none⟩ = some (.int .i64 (g l t).k.O) ∧ W.cell? ⟨gM, 2, none⟩ = some (.int .i64 (g l t).k.S) ∧ W.cell? ⟨gM, 3, none⟩ = some (.int .i64 (g l t).p) ∧ W.cell? ⟨gM, 4, none⟩ = some (.int .i64 (g l t).q) ∧ W.cell? ⟨gM, 5, none⟩ = some (.int .i64 (g l t).d) ∧ W.cell? ⟨gM, 6, none⟩ = some (.int .i64 (g l t).n) := fun W h => ⟨h, h.cell c0, h.cell c1, h.cell c2, h.cell c3, h.cell c4, h.cell c5, h.cell c6, h.cell m0, h.cell m1, h.cell m2, h.cell m3, h.cell m4, h.cell m5, h.cell m6⟩
      have HSS := Lib.hid hss
      have KB := Lib.hid (fun W => byKeyI_any (g l k) (g l t) W)
      obtain ⟨C, hC⟩ : ∃ C, C = (g l k).cmp (g l t) := ⟨_, rfl⟩
      rw [← hC] at KB
      have hcl := It.cmp_pos (g l k) (g l t)
      rw [← hC] at hcl
      have HCL := Lib.hid hcl
      have hi0 := Nw.refl wr
      have HA := Lib.hid (show k < n ∧ t < n ∧ 1 ≤ k from ⟨hlt, ht, hk1⟩)
      clear hss hcl hC it_k hown hle hB hM hR c0 c1 c2 c3 c4 c5 c6 m0 m1 m2 m3 m4 m5 m6
      go_wp2_with fail
      go_region_held3 (fun W => Nw wr W ∧ W.cell? ⟨b, off + k * 7, none⟩ = some (.int .i64 (g l k).k.T) ∧ W.cell? ⟨b, off + k * 7 + 1, none⟩ = some (.int .i64 (g l k).k.O) ∧ W.cell? ⟨b, off + k * 7 + 2, none⟩ = some (.int .i64 (g l k).k.S) ∧ W.cell? ⟨b, off + k * 7 + 3, none⟩ = some (.int .i64 (g l k).p) ∧ W.cell? ⟨b, off + k * 7 + 4, none⟩ = some (.int .i64 (g l k).q) ∧ W.cell? ⟨b, off + k * 7 + 5, none⟩ = some (.int .i64 (g l k).d) ∧ W.cell? ⟨b, off + k * 7 + 6, none⟩ = some (.int .i64 (g l k).n) ∧ W.cell? ⟨gM, 0, none⟩ = some (.int .i64 (g l t).k.T) ∧ W.cell? ⟨gM, 1, none⟩ = some (.int .i64 (g l t).k.O) ∧ W.cell? ⟨gM, 2, none⟩ = some (.int .i64 (g l t).k.S) ∧ W.cell? ⟨gM, 3, none⟩ = some (.int .i64 (g l t).p) ∧ W.cell? ⟨gM, 4, none⟩ = some (.int .i64 (g l t).q) ∧ W.cell? ⟨gM, 5, none⟩ = some (.int .i64 (g l t).d) ∧ W.cell? ⟨gM, 6, none⟩ = some (.int .i64 (g l t).n)) ((refine HSS.out _ ?_; repeat (first | assumption | exact Nw.refl wr | refine Nw.drew ?_ | refine Nw.alloc ?_ _))) (first
        | (go_at_call 32; refine (KB.out _).mono ?_; rintro e w1 ⟨rfl, b1⟩; have i1 : Nw wr w1 := Nw.step (by repeat (first | assumption | exact Nw.refl wr | refine Nw.drew ?_ | refine Nw.alloc ?_ _)) b1))
      case' _ => skip
      rename_i hH
      have HB1 := Lib.hid (HB.out.trans (hH.1.mono HB.out.size))
      have HM1 := Lib.hid (HM.out.below hH.1 HM.out.lt)
      have HR1 := Lib.hid (HR.out.below hH.1 HR.out.lt)
      by_cases hC : 0 < C
      · have hless := HCL.out.1 hC
        have HL := Lib.hid hless
        obtain ⟨_, c0, c1, c2, c3, c4, c5, c6, m0, m1, m2, m3, m4, m5, m6⟩ := hH
        have hM2 : Blk (w1.setRow gM (g l k).c.toArray) gM 36 (g l k).c.toArray := setRow_heap w1 gM _ _ _ _ HM1.out
        have hR2 : Blk (w1.setRow gM (g l k).c.toArray) gR 36 It.zero.c.toArray := (setRow_far w1 gM _ gR (by have := HG.out; omega)).trans HR1.out
        have hB2 : Below w.heap.size w (w1.setRow gM (g l k).c.toArray) := (Chg.setRow (M := fun k => w.heap.size ≤ k) (Chg.of_below HB1.out (Nat.le_refl _) _) (.inl (by have := HG.out; omega)) _).below (fun i _ h => h) (Nat.le_refl _)
        have HM2 := Lib.hid hM2
        have HR2 := Lib.hid hR2
        have HB2 := Lib.hid hB2
        clear hless hM2 hR2 hB2 HR1 HB1 HM HR HB HSS KB hi0 m0 m1 m2 m3 m4 m5 m6
        go_wp2_with (refine wpList_store_row rfl 36 _ _ rfl gM (g l k).c.toArray rfl rfl 36 (g l t).c.toArray HM1.out HSZ.out rfl (it_all (g l k)) ?_)
        go_roundw
        case rel =>
          refine ⟨k + 1, k, HA.out.1, by go_num, HA.out.1, by omega, fun j hj => ?_, HB2.out, HM2.out, HR2.out⟩
          by_cases h : j = k
          · rw [h]; exact It.less_irrefl _
          · exact It.le_trans (HLE.out j (by omega)) (It.less_asymm HL.out)
        case measure => have := HA.out; simp [intOf]; omega
      · have HL : Hid ((g l t).less (g l k) = false) := Lib.hid (by rw [← Bool.not_eq_true]; exact fun h => hC (HCL.out.2 h))
        clear hH HM HR HB HSS KB hi0
        go_wp2_with fail
        go_roundw
        case rel =>
          refine ⟨k + 1, t, HA.out.1, by go_num, HA.out.2.1, by omega, fun j hj => ?_, HB1.out, HM1.out, HR1.out⟩
          by_cases h : j = k
          · rw [h]; exact HL.out
          · exact HLE.out j (by omega)
        case measure => have := HA.out; simp [intOf]; omega
    · obtain rfl : k = n := by omega
      have ik : ¬ (k : Int) < (k : Int) := by omega
      clear hle hB hM hR
      go_wp2_with (refine wpList_store_row rfl 36 _ _ rfl gR (g l t).c.toArray rfl rfl 36 It.zero.c.toArray HR.out HSZ.out rfl (it_all (g l t)) ?_)
      obtain ⟨d, hd⟩ := item_desc
      refine bodyPost_ret (results_rowA rfl _ _ gR 36 (g l t).c.toArray (0, 0) ⟨d, rfl⟩ rfl (setRow_heap wr gR _ _ _ _ HR.out) hd item_size) rfl ⟨?_, t, ht, rfl, HLE.out⟩
      exact (Chg.setRow (M := fun k => w.heap.size ≤ k) (Chg.of_below HB.out (Nat.le_refl _) _) (.inl (by have := HG.out; omega)) _).below (fun i _ h => h) (Nat.le_refl _)
section
variable (w : World) (gB S : Nat) (v : Value) (l : List It) (f : Int → Int → Option Nat) (blk : Option Nat)
theorem most_none (h : HpS w gB S v l f blk) (hl : l = []) : Calls Try.prog 17 #[.pointer (some ⟨gB, 0, none⟩)] w fun e w' => e = .returned (itv It.zero false) ∧ Below w.heap.size w w' := by
  have KN := Lib.hid (fun W (hW : HpS W gB S v l f blk) => len_any W gB S v l f blk hW)
  have H0 := Lib.hid (h.new ((Below.refl _ w).alloc (Nat.le_refl _) (.cells #[.int .i64 0, .int .i64 0, .int .i64 0, .int .i64 0, .int .i64 0, .int .i64 0, .int .i64 0] 36)))
  subst hl
  clear h
  go_enter Try.func17, Try.ntmps17
  go_wp2_with fail
  refine (KN.out _ H0.out).mono ?_
  rintro e w1 ⟨rfl, rfl⟩
  go_wp2_with fail
  obtain ⟨d, hd⟩ := item_desc
  refine bodyPost_ret (results_rowB rfl _ _ w.heap.size 36 _ (0, 0) ⟨d, rfl⟩ rfl (heap_last w _ rfl) hd item_size) rfl ⟨rfl, (Below.refl _ w).alloc (Nat.le_refl _) _⟩
theorem most_any (h : HpS w gB S v l f blk) (hl : 0 < l.length) (hm : l.length ≤ 100000) : Calls Try.prog 17 #[.pointer (some ⟨gB, 0, none⟩)] w fun e w' => Below w.heap.size w w' ∧ ∃ t, t < l.length ∧ e = .returned (itv (g l t) true) ∧ ∀ j, j < l.length → (g l t).less (g l j) = false := by
  have KN := Lib.hid (fun W (hW : HpS W gB S v l f blk) => len_any W gB S v l f blk hW)
  have H0 := Lib.hid (h.new ((Below.refl _ w).alloc (Nat.le_refl _) (.cells #[.int .i64 0, .int .i64 0, .int .i64 0, .int .i64 0, .int .i64 0, .int .i64 0, .int .i64 0] 36)))
  obtain ⟨hxl, A, c, rfl, hnc, hcm, h3 | ⟨b, off, cur, rfl, rfl, hg, hfit, ht⟩⟩ := h.hm.ow
  · have := h3.1; omega
  obtain ⟨n, hn⟩ : ∃ n, l.length = n := ⟨_, rfl⟩
  have KM := Lib.hid (fun W (hW : Own W 36 7 (.slice (some ⟨b, off, none⟩) n c) n (rowsI l) (some b)) => max_any W b off c n l (some b) hn.symm hW (by omega) (by omega))
  obtain ⟨wa, hwa⟩ : ∃ wa, w.alloc (.cells #[.int .i64 0, .int .i64 0, .int .i64 0, .int .i64 0, .int .i64 0, .int .i64 0, .int .i64 0] 36) = wa := ⟨_, rfl⟩
  rw [hwa] at H0
  obtain ⟨gR, hgR⟩ : ∃ gR, w.heap.size = gR := ⟨_, rfl⟩
  have HG := Lib.hid hgR
  have HWA := Lib.hid hwa
  have HBA := Lib.hid (show Below w.heap.size w wa ∧ Blk wa gR 36 It.zero.c.toArray by
    rw [← hwa]
    exact ⟨(Below.refl _ w).alloc (Nat.le_refl _) _, Blk.last w _ _ hgR⟩)
  have HO : Hid (Own wa 36 7 (.slice (some ⟨b, off, none⟩) n c) n (rowsI l) (some b)) := Lib.hid (by have := H0.out.hm.ow; rw [hn] at this; exact this)
  have c0 : wa.cell? ⟨gB, 0, none⟩ = some (.slice (some ⟨b, off, none⟩) n c) := by have := (H0.out.hm.bk.cell 0).trans rfl; rw [hn] at this; exact this
  have i0 : (0 : Int) < (n : Int) := by omega
  have i1 : ¬ ((n : Int) = 0) := by omega
  have i2 : ¬ (n = 0) := by omega
  have HL := Lib.hid hn
  have HSZ := Lib.hid item_size
  have KN2 := KN.out wa H0.out
  rw [hn] at KN2 hl hm
  have KN3 := Lib.hid KN2
  have i3 : ¬ l = [] := by rintro rfl; simp at hn; omega
  rw [hn]
  clear h hxl hnc hcm hfit ht hg hwa hgR hn KN KN2 H0
  go_enter Try.func17, Try.ntmps17
  go_upto_region 1 with (fail)
  rw [HWA.out, HG.out]
  go_wp2_with fail
  refine KN3.out.mono ?_
  rintro e w1 ⟨rfl, rfl⟩
  go_wp2_with fail
  refine (KM.out _ HO.out).mono ?_
  rintro e w2 ⟨hB, t, ht, rfl, hle⟩
  have HB := Lib.hid hB
  have HR := Lib.hid (HBA.out.2.below hB HBA.out.2.lt)
  have HLE := Lib.hid hle
  clear hB hle
  go_wp2_with (refine wpList_store_row rfl 36 _ _ rfl gR (g l t).c.toArray rfl rfl 36 It.zero.c.toArray HR.out HSZ.out rfl (it_all (g l t)) ?_)
  obtain ⟨d, hd⟩ := item_desc
  refine bodyPost_ret (results_rowB rfl _ _ gR 36 (g l t).c.toArray (0, 0) ⟨d, rfl⟩ rfl (setRow_heap w2 gR _ _ _ _ HR.out) hd item_size) rfl ⟨?_, t, ht, rfl, HLE.out⟩
  exact (Chg.setRow (M := fun k => w.heap.size ≤ k) (Chg.of_below (HBA.out.1.trans (HB.out.mono HBA.out.1.size)) (Nat.le_refl _) _) (.inl (by have := HG.out; omega)) _).below (fun i _ h => h) (Nat.le_refl _)
end
end Go.Proofs.Ytghmldfllieonaa
