/- The document's heap: Put. Helper. -/
import Derived.Test.YtghmldfllieonaaHeapRefPutA
import Derived.Test.YtghmldfllieonaaHeapRefPutB
namespace Go.Proofs.Ytghmldfllieonaa
open Go.RowKit
set_option linter.unusedVariables false
set_option linter.unusedSimpArgs false
set_option maxRecDepth 100000
set_option maxHeartbeats 3200000
section
variable (w : World) (gR : Nat) (L : List It) (blk : Option Nat) (e : It)
theorem refPut_twice (h : RefH w gR L blk) (hl : L.length ≤ 100000) (x : It) (hx : x ∈ L) (hn : isN e.k.O e.n x) : Calls Try.prog 10 #[.pointer (some ⟨gR, 0, none⟩), .agg e.c.toArray] w fun r w' => r = .returned (.int .i64 7) ∧ Below w.heap.size w w' := by
  have KO := Lib.hid (fun W (hW : RefH W gR L blk) => refOf_any W gR L blk hW e.k.O e.n hl)
  have H0 := Lib.hid (h.new ((Below.refl _ w).alloc (Nat.le_refl _) (.cells #[.int .i64 e.k.T, .int .i64 e.k.O, .int .i64 e.k.S, .int .i64 e.p, .int .i64 e.q, .int .i64 e.d, .int .i64 e.n] 36)))
  have HX := Lib.hid (show ∀ r, OfIs L e.k.O e.n r → ∃ i : Nat, r = (i : Int) from fun r hr => by
    rcases hr with ⟨_, hr⟩ | ⟨i, _, hr, _⟩
    · exact absurd hn (hr x hx)
    · exact ⟨i, hr⟩)
  rw [item_cells]
  clear h hx hn hl
  go_enter Try.func10, Try.ntmps10
  go_wp2_with fail
  refine (KO.out _ H0.out).mono ?_
  rintro r w1 ⟨r1, rfl, hr, h1⟩
  rw [h1]
  obtain ⟨i, rfl⟩ := HX.out r1 hr
  clear h1 w1 hr
  have i0 : (0 : Int) ≤ (i : Int) := by omega
  go_wp2_with fail
  go_ret
  exact ⟨rfl, (Below.refl _ w).alloc (Nat.le_refl _) _⟩
theorem refPut_full (h : RefH w gR L blk) (hl : L.length ≤ 100000) (hx : ∀ x ∈ L, ¬ isN e.k.O e.n x) (hf : 1024 ≤ L.length) : Calls Try.prog 10 #[.pointer (some ⟨gR, 0, none⟩), .agg e.c.toArray] w fun r w' => r = .returned (.int .i64 5) ∧ Below w.heap.size w w' := by
  have KO := Lib.hid (fun W (hW : RefH W gR L blk) => refOf_any W gR L blk hW e.k.O e.n hl)
  have H0 := Lib.hid (h.new ((Below.refl _ w).alloc (Nat.le_refl _) (.cells #[.int .i64 e.k.T, .int .i64 e.k.O, .int .i64 e.k.S, .int .i64 e.p, .int .i64 e.q, .int .i64 e.d, .int .i64 e.n] 36)))
  have HX := Lib.hid (show ∀ r, OfIs L e.k.O e.n r → r = -1 from fun r hr => by
    rcases hr with ⟨hr, _⟩ | ⟨i, hi, _, hr⟩
    · exact hr
    · exact absurd hr (hx _ (by rw [g_get L i hi]; exact List.getElem_mem hi)))
  obtain ⟨A, c, hb, ho⟩ := h
  have c0 : w.cell? ⟨gR, 0, none⟩ = some (.slice A L.length c) := (hb.cell 0).trans rfl
  have hlt := hb.lt
  have k1 : (1024 : Int) ≤ (L.length : Int) := by omega
  rw [item_cells]
  clear hb ho hx hl
  go_enter Try.func10, Try.ntmps10
  go_wp2_with fail
  refine (KO.out _ H0.out).mono ?_
  rintro r w1 ⟨r1, rfl, hr, h1⟩
  rw [h1]
  obtain rfl := HX.out r1 hr
  clear h1 w1 hr
  go_wp2_with fail
  go_ret
  exact ⟨rfl, (Below.refl _ w).alloc (Nat.le_refl _) _⟩
theorem putEnd {w wa W w3 : World} {gR n k : Nat} {L : List It} {e : It} (hn : L.length = n) (hi : InsIs L e k) (hB : Below w.heap.size w wa) (hN : Nw wa W) (hD : PutDone W w3 gR n k L e) : ∃ a blk', InsIs L e a ∧ RefH w3 gR (insAt L e a) blk' ∧ Chg (fun k => k = gR) w w3 ∧ ∀ g, blk' = some g → w.heap.size ≤ g := by
  obtain ⟨A, c, blk, h1, h2, h3, h4⟩ := hD
  have hl : (insAt L e k).length = n + 1 := by rw [insAt_length L e k hi.1, hn]
  have hw : Nw w W := Below.trans hB (hN.mono hB.size)
  refine ⟨k, blk, hi, ⟨A, c, by rw [hl]; exact h1, by rw [hl]; exact h2⟩, (Chg.of_below hw (Nat.le_refl _) (fun k => k = gR)).trans h3 (fun _ _ h => h), fun g hg => Nat.le_trans hw.size (h4 g hg)⟩
theorem refPut_any (h : RefH w gR L blk) (hx : ∀ x ∈ L, ¬ isN e.k.O e.n x) (hf : L.length < 1024) : Calls Try.prog 10 #[.pointer (some ⟨gR, 0, none⟩), .agg e.c.toArray] w fun r w' => r = .returned (.int .i64 0) ∧ ∃ a blk', InsIs L e a ∧ RefH w' gR (insAt L e a) blk' ∧ Chg (fun k => k = gR) w w' ∧ ∀ g, blk' = some g → w.heap.size ≤ g := by
  have KO := Lib.hid (fun W (hW : RefH W gR L blk) => refOf_any W gR L blk hW e.k.O e.n (by omega))
  have HX := Lib.hid (show ∀ r, OfIs L e.k.O e.n r → r = -1 from fun r hr => by
    rcases hr with ⟨hr, _⟩ | ⟨i, hi, _, hr⟩
    · exact hr
    · exact absurd hr (hx _ (by rw [g_get L i hi]; exact List.getElem_mem hi)))
  obtain ⟨i0, hi0, hz0, hz1, hz2⟩ := info_parts infoItem
  have HL1 := Lib.hid hi0
  have HL2 := Lib.hid hz0
  have HL3 := Lib.hid hz1
  have HL4 := Lib.hid hz2
  obtain ⟨wa, hwa⟩ : ∃ wa, w.alloc (.cells #[.int .i64 e.k.T, .int .i64 e.k.O, .int .i64 e.k.S, .int .i64 e.p, .int .i64 e.q, .int .i64 e.d, .int .i64 e.n] 36) = wa := ⟨_, rfl⟩
  obtain ⟨gE, hgE⟩ : ∃ gE, w.heap.size = gE := ⟨_, rfl⟩
  have HBA := Lib.hid (show Below w.heap.size w wa ∧ Blk wa gE 36 e.c.toArray by
    rw [← hwa]
    exact ⟨(Below.refl _ w).alloc (Nat.le_refl _) _, Blk.last w _ _ hgE⟩)
  have HWA := Lib.hid hwa
  have HGE := Lib.hid hgE
  have H0 := Lib.hid (h.new HBA.out.1)
  obtain ⟨A, c, hb, ho⟩ := H0.out
  obtain ⟨n, hn⟩ : ∃ n, L.length = n := ⟨_, rfl⟩
  rw [hn] at hb ho hf
  have HN := Lib.hid hn
  have HB := Lib.hid hb
  have HO := Lib.hid ho
  have c0 : wa.cell? ⟨gR, 0, none⟩ = some (.slice A n c) := (hb.cell 0).trans rfl
  have k1 : ¬ (1024 : Int) ≤ (n : Int) := by omega
  have HCAP := Lib.hid (show n ≤ c by obtain ⟨_, _, e1, _, h2, _⟩ := ho.rd; injection e1 with _ _ e3; omega)
  have HF := Lib.hid hf
  rw [item_cells]
  clear h hx hi0 hz0 hz1 hz2 hwa hgE hb ho hn
  go_enter Try.func10, Try.ntmps10
  go_upto_region 1 with (fail)
  rw [HWA.out, HGE.out]
  have e1 : wa.cell? ⟨gE, 1, none⟩ = some (.int .i64 e.k.O) := (HBA.out.2.cell 1).trans rfl
  have e6 : wa.cell? ⟨gE, 6, none⟩ = some (.int .i64 e.n) := (HBA.out.2.cell 6).trans rfl
  go_wp2_with fail
  refine (KO.out wa H0.out).mono ?_
  rintro r w1 ⟨r1, rfl, hr, h1⟩
  rw [h1]
  obtain rfl := HX.out r1 hr
  clear h1 w1 hr HX KO
  go_wp2_with fail
  clear c0 e1 e6
  go_loopw [5] (fun s5 wr => ∃ a : Nat, a ≤ n ∧ s5 = .int .i64 (a : Int) ∧ Hid (Nw wa wr ∧ ∀ j, j < a → (g L j).less e = true)) (fun s5 _ => n - (intOf s5).toNat)
  case atStart => exact ⟨0, by omega, rfl, Lib.hid ⟨Nw.refl _, fun j hj => by omega⟩⟩
  case round =>
    obtain ⟨k, hk, rfl, HI⟩ := hrel
    have c0 : wr.cell? ⟨gR, 0, none⟩ = some (.slice A n c) := HI.out.1.cell ((HB.out.cell 0).trans rfl)
    have c1 : wr.cell? ⟨gE, 0, none⟩ = some (.int .i64 e.k.T) := HI.out.1.cell ((HBA.out.2.cell 0).trans rfl)
    have c2 : wr.cell? ⟨gE, 1, none⟩ = some (.int .i64 e.k.O) := HI.out.1.cell ((HBA.out.2.cell 1).trans rfl)
    have c3 : wr.cell? ⟨gE, 2, none⟩ = some (.int .i64 e.k.S) := HI.out.1.cell ((HBA.out.2.cell 2).trans rfl)
    have c4 : wr.cell? ⟨gE, 3, none⟩ = some (.int .i64 e.p) := HI.out.1.cell ((HBA.out.2.cell 3).trans rfl)
    have c5 : wr.cell? ⟨gE, 4, none⟩ = some (.int .i64 e.q) := HI.out.1.cell ((HBA.out.2.cell 4).trans rfl)
    have c6 : wr.cell? ⟨gE, 5, none⟩ = some (.int .i64 e.d) := HI.out.1.cell ((HBA.out.2.cell 5).trans rfl)
    have c7 : wr.cell? ⟨gE, 6, none⟩ = some (.int .i64 e.n) := HI.out.1.cell ((HBA.out.2.cell 6).trans rfl)
    have HAC := Lib.hid (show c = 0 ∨ ∃ b off, A = some ⟨b, off, none⟩ by
      obtain ⟨_, A', c', e1, _, _, h | ⟨b, off, cur, h, _⟩⟩ := HO.out
      · injection e1 with _ _ e3; exact .inl (e3.trans h.1)
      · injection e1 with e1; exact .inr ⟨b, off, e1.trans h⟩)
    by_cases hlt : k < n
    · have i1 : (k : Int) < (n : Int) := by omega
      have d1 : decide ((k : Int) < (n : Int)) = true := decide_eq_true i1
      obtain ⟨b, off, c', hb2, _, _, hbk, _, ho2⟩ := H0.out.at (k := k) (by rw [HN.out]; exact hlt)
      have hce : some (.slice A n c) = some (Value.slice (some ⟨b, off, none⟩) n c') := by
        have h1 : wa.cell? ⟨gR, 0, none⟩ = some (.slice A n c) := (HB.out.cell 0).trans rfl
        have h2 : wa.cell? ⟨gR, 0, none⟩ = some (.slice (some ⟨b, off, none⟩) n c') := by rw [← HN.out]; exact (hb2.cell 0).trans rfl
        exact h1.symm.trans h2
      injection hce with hce
      injection hce with hA _ hc
      subst hA hc
      have hown : Own wr 36 7 (.slice (some ⟨b, off, none⟩) n c) n (rowsI L) blk := HO.out.kept fun g hg => HI.out.1.block g (HO.out.lt g hg)
      have it := fun j hj => hown.item hlt j hj
      have z0 : wr.cell? ⟨b, off + k * 7, none⟩ = some (.int .i64 (g L k).k.T) := (it 0 (by omega)).1
      have z1 : wr.cell? ⟨b, off + k * 7 + 1, none⟩ = some (.int .i64 (g L k).k.O) := (it 1 (by omega)).1
      have z2 : wr.cell? ⟨b, off + k * 7 + 2, none⟩ = some (.int .i64 (g L k).k.S) := (it 2 (by omega)).1
      have z3 : wr.cell? ⟨b, off + k * 7 + 3, none⟩ = some (.int .i64 (g L k).p) := (it 3 (by omega)).1
      have z4 : wr.cell? ⟨b, off + k * 7 + 4, none⟩ = some (.int .i64 (g L k).q) := (it 4 (by omega)).1
      have z5 : wr.cell? ⟨b, off + k * 7 + 5, none⟩ = some (.int .i64 (g L k).d) := (it 5 (by omega)).1
      have z6 : wr.cell? ⟨b, off + k * 7 + 6, none⟩ = some (.int .i64 (g L k).n) := (it 6 (by omega)).1
      have hss : ∀ W, Nw wr W → Nw wr W ∧ W.cell? ⟨gR, 0, none⟩ = some (.slice (some ⟨b, off, none⟩) n c) ∧ W.cell? ⟨gE, 0, none⟩ = some (.int .i64 e.k.T) ∧ W.cell? ⟨gE, 1, none⟩ = some (.int .i64 e.k.O) ∧ W.cell? ⟨gE, 2, none⟩ = some (.int .i64 e.k.S) ∧ W.cell? ⟨gE, 3, none⟩ = some (.int .i64 e.p) ∧ W.cell? ⟨gE, 4, none⟩ = some (.int .i64 e.q) ∧ W.cell? ⟨gE, 5, none⟩ = some (.int .i64 e.d) ∧ W.cell? ⟨gE, 6, none⟩ = some (.int .i64 e.n) ∧ W.cell? ⟨b, off + k * 7, none⟩ = some (.int .i64 (g L k).k.T) ∧ W.cell? ⟨b, off + k * 7 + 1, none⟩ = some (.int .i64 (g L k).k.O) ∧ W.cell? ⟨b, off + k * 7 + 2, none⟩ = some (.int .i64 (g L k).k.S) ∧ W.cell? ⟨b, off + k * 7 + 3, none⟩ = some (.int .i64 (g L k).p) ∧ W.cell? ⟨b, off + k * 7 + 4, none⟩ = some (.int .i64 (g L k).q) ∧ W.cell? ⟨b, off + k * 7 + 5, none⟩ = some (.int .i64 (g L k).d) ∧ W.cell? ⟨b, off + k * 7 + 6, none⟩ = some (.int .i64 (g L k).n) := fun W h => ⟨h, h.cell c0, h.cell c1, h.cell c2, h.cell c3, h.cell c4, h.cell c5, h.cell c6, h.cell c7, h.cell z0, h.cell z1, h.cell z2, h.cell z3, h.cell z4, h.cell z5, h.cell z6⟩
      have HSS := Lib.hid hss
      have KB := Lib.hid (fun W => refLessI_any (g L k) e W)
      obtain ⟨C, hC⟩ : ∃ C, C = (g L k).less e := ⟨_, rfl⟩
      rw [← hC] at KB
      have HCL := Lib.hid hC
      have hi0 := Nw.refl wr
      clear hss hC it hown hb2 ho2 hbk c0 c1 c2 c3 c4 c5 c6 c7 z0 z1 z2 z3 z4 z5 z6
      go_wp2_with fail
      go_region_held3 (fun W => Nw wr W ∧ W.cell? ⟨gR, 0, none⟩ = some (.slice (some ⟨b, off, none⟩) n c) ∧ W.cell? ⟨gE, 0, none⟩ = some (.int .i64 e.k.T) ∧ W.cell? ⟨gE, 1, none⟩ = some (.int .i64 e.k.O) ∧ W.cell? ⟨gE, 2, none⟩ = some (.int .i64 e.k.S) ∧ W.cell? ⟨gE, 3, none⟩ = some (.int .i64 e.p) ∧ W.cell? ⟨gE, 4, none⟩ = some (.int .i64 e.q) ∧ W.cell? ⟨gE, 5, none⟩ = some (.int .i64 e.d) ∧ W.cell? ⟨gE, 6, none⟩ = some (.int .i64 e.n) ∧ W.cell? ⟨b, off + k * 7, none⟩ = some (.int .i64 (g L k).k.T) ∧ W.cell? ⟨b, off + k * 7 + 1, none⟩ = some (.int .i64 (g L k).k.O) ∧ W.cell? ⟨b, off + k * 7 + 2, none⟩ = some (.int .i64 (g L k).k.S) ∧ W.cell? ⟨b, off + k * 7 + 3, none⟩ = some (.int .i64 (g L k).p) ∧ W.cell? ⟨b, off + k * 7 + 4, none⟩ = some (.int .i64 (g L k).q) ∧ W.cell? ⟨b, off + k * 7 + 5, none⟩ = some (.int .i64 (g L k).d) ∧ W.cell? ⟨b, off + k * 7 + 6, none⟩ = some (.int .i64 (g L k).n)) ((refine HSS.out _ ?_; repeat (first | assumption | exact Nw.refl wr | refine Nw.drew ?_ | refine Nw.alloc ?_ _))) (first
        | (go_at_call 14; refine (KB.out _).mono ?_; rintro r w1 ⟨rfl, b1⟩; have i1 : Nw wr w1 := Nw.step (by repeat (first | assumption | exact Nw.refl wr | refine Nw.drew ?_ | refine Nw.alloc ?_ _)) b1))
      case' _ => skip
      rename_i hH
      have HW1 := Lib.hid (HI.out.1.step hH.1)
      clear hH HSS KB hi0
      cases C with
      | true =>
        have HL := Lib.hid HCL.out.symm
        clear HCL
        go_wp2_with fail
        go_roundw
        case rel =>
          refine ⟨k + 1, hlt, by go_num, Lib.hid ⟨HW1.out, fun j hj => ?_⟩⟩
          by_cases h : j = k
          · rw [h]; exact HL.out
          · exact HI.out.2 j (by omega)
        case measure => simp [intOf]; omega
      | false =>
        have HINS : Hid (InsIs L e k) := Lib.hid ⟨by rw [HN.out]; exact hk, HI.out.2, .inr HCL.out.symm⟩
        have NWX := HW1
        clear HCL
        go_upto_region 9 with (fail)
        by_cases hca : c = k
        · refine putRegionA gR gE n c k (some ⟨b, off, none⟩) blk L e _ (by omega) HCAP.out HF.out HN.out (HB.out.below NWX.out HB.out.lt) (HO.out.rdAt.nw NWX.out) hca HAC.out (HBA.out.2.below NWX.out HBA.out.2.lt) _ ?_
          intro t41 t42 t43 t44 t45 t46 t47 t48 t49 t50 t51 t52 t53 t54 t55 t56 t57 t58 t59 t60 w3 hD
          have HD := Lib.hid hD
          clear hD hca
          go_wp2_with fail
          go_ret
          exact ⟨rfl, putEnd HN.out HINS.out HBA.out.1 NWX.out HD.out⟩
        · refine putRegionB gR gE n c k (some ⟨b, off, none⟩) blk L e _ (by omega) HCAP.out HF.out HN.out (HB.out.below NWX.out HB.out.lt) (HO.out.rdAt.nw NWX.out) hca HAC.out (HBA.out.2.below NWX.out HBA.out.2.lt) _ ?_
          intro t41 t42 t43 t44 t45 t46 t47 t48 t49 t50 t51 t52 t53 t54 t55 t56 t57 t58 t59 t60 w3 hD
          have HD := Lib.hid hD
          clear hD hca
          go_wp2_with fail
          go_ret
          exact ⟨rfl, putEnd HN.out HINS.out HBA.out.1 NWX.out HD.out⟩
    · obtain rfl : k = n := by omega
      have HINS : Hid (InsIs L e k) := Lib.hid ⟨by rw [HN.out]; exact hk, HI.out.2, .inl HN.out.symm⟩
      have d1 : decide ((k : Int) < (k : Int)) = false := by simp
      go_wp2_with fail
      go_quiet (fail)
      go_upto_region 9 with (fail)
      have NWX := Lib.hid (fun q => HI.out.1.step (Below.many (Nw.refl wr) q))
      by_cases hca : c = k
      · refine putRegionA gR gE k c k A blk L e _ (by omega) HCAP.out HF.out HN.out (HB.out.below (NWX.out _) HB.out.lt) (HO.out.rdAt.nw (NWX.out _)) hca HAC.out (HBA.out.2.below (NWX.out _) HBA.out.2.lt) _ ?_
        intro t41 t42 t43 t44 t45 t46 t47 t48 t49 t50 t51 t52 t53 t54 t55 t56 t57 t58 t59 t60 w3 hD
        have HD := Lib.hid hD
        clear hD hca
        go_wp2_with fail
        go_ret
        exact ⟨rfl, putEnd HN.out HINS.out HBA.out.1 (NWX.out _) HD.out⟩
      · refine putRegionB gR gE k c k A blk L e _ (by omega) HCAP.out HF.out HN.out (HB.out.below (NWX.out _) HB.out.lt) (HO.out.rdAt.nw (NWX.out _)) hca HAC.out (HBA.out.2.below (NWX.out _) HBA.out.2.lt) _ ?_
        intro t41 t42 t43 t44 t45 t46 t47 t48 t49 t50 t51 t52 t53 t54 t55 t56 t57 t58 t59 t60 w3 hD
        have HD := Lib.hid hD
        clear hD hca
        go_wp2_with fail
        go_ret
        exact ⟨rfl, putEnd HN.out HINS.out HBA.out.1 (NWX.out _) HD.out⟩
end
end Go.Proofs.Ytghmldfllieonaa
