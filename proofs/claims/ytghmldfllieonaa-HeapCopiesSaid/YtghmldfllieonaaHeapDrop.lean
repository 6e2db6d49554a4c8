/- Drop. Helper. -/
import Derived.Test.YtghmldfllieonaaHeapMost
import Derived.StillTailTactics
namespace Go.Proofs.Ytghmldfllieonaa
open Go.RowKit
set_option linter.unusedVariables false
set_option linter.unusedSimpArgs false
theorem Own.cut {w : World} {b off n c : Nat} {l : List It} {blk : Option Nat} (h : Own w 36 7 (.slice (some ⟨b, off, none⟩) (n + 1) c) (n + 1) (rowsI l) blk) :
    Own w 36 7 (.slice (some ⟨b, off, none⟩) n c) n (rowsI (l.take n)) blk := by
  obtain ⟨hxl, A, c', e1, hnc, hcm, h3 | ⟨b', off', cur, rfl, rfl, hg, hfit, ht⟩⟩ := h
  · injection e1 with _ _ e3; have := h3.1; omega
  · injection e1 with e1 _ e3
    injection e1 with e1
    injection e1 with e1 e2
    subst e1 e2 e3
    have hll : l.length = n + 1 := by rw [rowsI_length] at hxl; omega
    refine ⟨by rw [rowsI_length, List.length_take]; omega, _, c, rfl, by omega, hcm, .inr ⟨b, off, cur, rfl, rfl, hg, hfit, ?_⟩⟩
    rw [← rowsI_take, ← ht, List.take_take, show min (n * 7) ((n + 1) * 7) = n * 7 by omega]
theorem HeapL.take {l : List It} (h : HeapL l) {n : Nat} (hn : l.length = n + 1) : HeapL (l.take n) := fun j h1 h2 => by
  rw [List.length_take] at h2
  rw [g_take _ _ _ (by omega), g_take _ _ _ (by omega)]
  exact h j h1 (by omega)
theorem HeapL.drop {l : List It} (h : HeapL l) {n i : Nat} (hn : l.length = n + 1) (hi : i < n) (x : It) : HeapD ((l.take n).set i x) i := by
  have hil : i < (l.take n).length := by rw [List.length_take]; omega
  refine ⟨fun j h1 h2 h3 h4 => ?_, fun j h1 h2 h3 h4 => ?_⟩
  · rw [List.length_set, List.length_take] at h2
    rw [g_set _ _ _ _ hil, g_set _ _ _ _ hil, if_neg h3, if_neg h4, g_take _ _ _ (by omega), g_take _ _ _ (by omega)]
    exact h j h1 (by omega)
  · rw [List.length_set, List.length_take] at h2
    rw [g_set _ _ _ _ hil, g_set _ _ _ _ hil, if_neg (show j ≠ i by omega), if_neg (show (i - 1) / 2 ≠ i by omega), g_take _ _ _ (by omega), g_take _ _ _ (by omega)]
    have := h j h1 (by omega)
    rw [h3] at this
    exact It.le_trans (h i h4 (by omega)) this
theorem drop_perm {l : List It} {n i : Nat} (hn : l.length = n + 1) (hi : i < n) : (g l i :: (l.take n).set i (g l n)).Perm l := by
  have h1 := swapL_perm l i n (by omega) (by omega)
  have e : swapL l i n = (l.take n).set i (g l n) ++ [g l i] := by
    apply List.ext_getElem?
    intro j
    unfold swapL
    by_cases hj : j = n
    · subst hj
      rw [List.getElem?_set, if_pos rfl, if_pos (by rw [List.length_set]; omega), List.getElem?_append_right (by rw [List.length_set, List.length_take]; omega), List.length_set, List.length_take]
      rw [show min j l.length = j by omega, Nat.sub_self]; rfl
    · rw [List.getElem?_set, if_neg (fun h => hj h.symm), List.getElem?_set]
      by_cases hjn : j < n
      · rw [List.getElem?_append_left (by rw [List.length_set, List.length_take]; omega), List.getElem?_set, List.getElem?_take_of_lt hjn, List.length_take]
        by_cases hij : i = j
        · rw [if_pos hij, if_pos hij, if_pos (by omega), if_pos (by omega)]
        · rw [if_neg hij, if_neg hij]
      · rw [if_neg (by omega), List.getElem?_eq_none (by omega), List.getElem?_eq_none (by rw [List.length_append, List.length_set, List.length_take]; simp; omega)]
  rw [e] at h1
  exact (List.perm_append_comm (l₁ := [g l i])).trans h1
theorem drop_last {l : List It} {n : Nat} (hn : l.length = n + 1) : (g l n :: l.take n).Perm l := by
  have e : l = l.take n ++ [g l n] := by
    rw [g_get l n (by omega)]
    conv => lhs; rw [← List.take_append_drop n l, List.drop_eq_getElem_cons (by omega), List.drop_of_length_le (by omega)]
  have h1 : (g l n :: l.take n).Perm (l.take n ++ [g l n]) := (List.perm_append_comm (l₁ := [g l n]))
  rw [← e] at h1
  exact h1
theorem drop_out {w w7 : World} {gB S gR b i : Nat} {v : Value} {l l7 : List It} {f7 : Int → Int → Option Nat} {cs : Array Value} (h : HpS w7 gB S v l7 f7 (some b)) (hp : (g l i :: l7).Perm l) (hc : Chg (HTurn gB S (some b)) w w7) (hR : w.heap.size ≤ gR)
    (hl : gR ≠ gB ∧ gR ≠ S ∧ gR ≠ b := by omega) : ∃ l', (g l i :: l').Perm l ∧ HpOut w (w7.setRow gR cs) gB S (some b) l' := by
  refine ⟨l7, hp, v, f7, some b, h.chg (Chg.setRow (M := fun k => k = gR) (Chg.refl (fun k => k = gR) w7) (.inl rfl) cs) ?_, hc.setRow (.inr hR) _, .inl rfl⟩
  rintro k (h' | h' | h') rfl
  · exact hl.1 h'
  · exact hl.2.1 h'
  · injection h' with h'; exact hl.2.2 h'
set_option maxRecDepth 100000
set_option maxHeartbeats 1600000
section
variable (w : World) (gB S : Nat) (v : Value) (l : List It) (f : Int → Int → Option Nat) (blk : Option Nat) (O N : Int)
theorem drop_none (h : HpS w gB S v l f blk) (hO : W64 O) (hN : W64 N) (hf : f O N = none) : Calls Try.prog 11 #[.pointer (some ⟨gB, 0, none⟩), .int .i64 O, .int .i64 N] w fun e w' => e = .returned (itv It.zero false) ∧ Below w.heap.size w w' := by
  have KH := Lib.hid (fun W (hW : HpS W gB S v l f blk) => has_any W gB S v l f blk hW O N hO hN)
  rw [hf] at KH
  have H0 := Lib.hid (h.new ((Below.refl _ w).alloc (Nat.le_refl _) (.cells #[.int .i64 0, .int .i64 0, .int .i64 0, .int .i64 0, .int .i64 0, .int .i64 0, .int .i64 0] 36)))
  clear h hf hO hN
  go_enter Try.func11, Try.ntmps11
  go_wp2_with fail
  refine (KH.out _ H0.out).mono ?_
  rintro e w1 ⟨rfl, rfl⟩
  go_wp2_with fail
  obtain ⟨d, hd⟩ := item_desc
  refine bodyPost_ret (results_rowB rfl _ _ w.heap.size 36 _ (0, 0) ⟨d, rfl⟩ rfl (heap_last w _ rfl) hd item_size) rfl ⟨rfl, (Below.refl _ w).alloc (Nat.le_refl _) _⟩
theorem drop_any (i : Nat) (h : HpS w gB S v l f blk) (hO : W64 O) (hN : W64 N) (hf : f O N = some i) (hm : l.length ≤ 100000) : Calls Try.prog 11 #[.pointer (some ⟨gB, 0, none⟩), .int .i64 O, .int .i64 N] w fun e w' => e = .returned (itv (g l i) true) ∧ ∃ l', (g l i :: l').Perm l ∧ HpOut w w' gB S blk l' := by
  have KH := Lib.hid (fun W (hW : HpS W gB S v l f blk) => has_any W gB S v l f blk hW O N hO hN)
  rw [hf] at KH
  obtain ⟨hil, hgO, hgN⟩ := h.nm.2 O N i hf
  obtain ⟨n, hn⟩ : ∃ n, l.length = n + 1 := ⟨l.length - 1, by omega⟩
  obtain ⟨hxl, A, c, rfl, hnc, hcm, h3 | ⟨b, off, cur, rfl, rfl, hg, hfit, ht⟩⟩ := h.hm.ow
  · have := h3.1; omega
  obtain ⟨gR, hgR⟩ : ∃ gR, w.heap.size = gR := ⟨_, rfl⟩
  obtain ⟨wa, hwa⟩ : ∃ wa, w.alloc (.cells #[.int .i64 0, .int .i64 0, .int .i64 0, .int .i64 0, .int .i64 0, .int .i64 0, .int .i64 0] 36) = wa := ⟨_, rfl⟩
  have HG := Lib.hid hgR
  have HWA := Lib.hid hwa
  have HBA := Lib.hid (show Below w.heap.size w wa ∧ Blk wa gR 36 It.zero.c.toArray ∧ wa.heap.size = gR + 1 by
    rw [← hwa]
    exact ⟨(Below.refl _ w).alloc (Nat.le_refl _) _, Blk.last w _ _ hgR, by simp [hgR]⟩)
  have HA := Lib.hid (h.new HBA.out.1)
  have HW0 := Lib.hid h
  have hat : ∀ q, (Instr.lookup 55 (.map (some S)) (.agg #[.int .i64 O, .int .i64 N]) false).run Try.prog (wa.drewN q) = .ok (.int .i64 (i : Int)) (wa.drewN q) := fun q => (HA.out.hm.mp.same ((Below.many (Below.refl _ _) q).block S HA.out.hm.mp.lt)).at hO hN hf
  have HDEL := Lib.hid (fun (W : World) (hW : W.heap[S]? = wa.heap[S]?) ty => (show MapIs wa S f (n + 1) by have := HA.out.hm.mp; rw [hn] at this; exact this).same hW |>.del hO hN (by rw [hf]; rfl) ty)
  have HOW : Hid (Own wa 36 7 (.slice (some ⟨b, off, none⟩) (n + 1) c) (n + 1) (rowsI l) (some b)) := Lib.hid (by have := HA.out.hm.ow; rw [hn] at this; exact this)
  have HBK : Hid (Blk wa gB 57 #[.slice (some ⟨b, off, none⟩) (n + 1) c, .map (some S)]) := Lib.hid (by have := HA.out.hm.bk; rw [hn] at this; exact this)
  have c0 : wa.cell? ⟨gB, 0, none⟩ = some (.slice (some ⟨b, off, none⟩) (n + 1) c) := (HBK.out.cell 0).trans rfl
  have c1 : wa.cell? ⟨gB, 1, none⟩ = some (.map (some S)) := (HBK.out.cell 1).trans rfl
  have hlb := HOW.out.lt b rfl
  have hlB := HBK.out.lt
  have ii : (i : Int) < (n : Int) + 1 := by omega
  have wn : IntKind.i64.wrap ((n : Int) + 1 - 1) = (n : Int) := by rw [show (n : Int) + 1 - 1 = (n : Int) by omega]; exact IntWalk.i64_in (n := (n : Int)) (by constructor <;> omega)
  have wn' : (n : Int) + 1 - 1 = (n : Int) := by omega
  have HH := Lib.hid (show f O N = some i ∧ i < n + 1 ∧ (g l i).k.O = O ∧ (g l i).n = N ∧ n ≤ 100000 ∧ l.length = n + 1 ∧ W64 O ∧ W64 N from ⟨hf, by omega, hgO, hgN, by omega, hn, hO, hN⟩)
  have hnb : n ≤ 100000 := by omega
  have wn2 : IntKind.i64.wrap (n : Int) = (n : Int) := IntWalk.i64_in (n := (n : Int)) (by constructor <;> omega)
  clear h hxl hnc hcm hfit ht hg hwa hgR hf hO hN hgO hgN hil hm hn
  go_enter Try.func11, Try.ntmps11
  go_upto_region 1 with (fail)
  rw [HWA.out, HG.out]
  go_wp2_with fail
  refine (KH.out wa HA.out).mono ?_
  rintro r w1 ⟨rfl, h1⟩
  rw [h1]
  clear h1 w1
  go_upto_region 4 with (fail)
  go_cut [8, 9, 18, 19, 20, 21, 22, 23, 24, 25, 26, 27, 28, 29, 30, 31] (fun s8 s9 s18 s19 s20 s21 s22 s23 s24 s25 s26 s27 s28 s29 s30 s31 wx => s8 = .int .i64 (i : Int) ∧ s9 = .int .i64 (n : Int) ∧ Hid (Below wa.heap.size wa wx ∧ wx.heap.size = gR + 1))
  case first =>
    go_quiet (fail)
    go_wp2_with fail
    go_meet
    exact ⟨rfl, rfl, Lib.hid ⟨Below.many (Below.refl _ _) _, HBA.out.2.2⟩⟩
  case rest =>
    obtain ⟨rfl, rfl, HC⟩ := hcut
    have hB := HC.out.1
    have HAC := Lib.hid (HA.out.new hB)
    have HBK2 := Lib.hid (HBK.out.below hB HBK.out.lt)
    have HOW2 : Hid (Own wc 36 7 (.slice (some ⟨b, off, none⟩) (n + 1) c) (n + 1) (rowsI l) (some b)) := Lib.hid (HOW.out.kept fun g hg => hB.block g (HOW.out.lt g hg))
    have HGR2 := Lib.hid (HBA.out.2.1.below hB HBA.out.2.1.lt)
    have it := fun j hj => (HOW2.out.item (i := i) (by omega) j hj).1
    have x0 : wc.cell? ⟨b, off + i * 7, none⟩ = some (.int .i64 (g l i).k.T) := it 0 (by omega)
    have x1 : wc.cell? ⟨b, off + i * 7 + 1, none⟩ = some (.int .i64 (g l i).k.O) := it 1 (by omega)
    have x2 : wc.cell? ⟨b, off + i * 7 + 2, none⟩ = some (.int .i64 (g l i).k.S) := it 2 (by omega)
    have x3 : wc.cell? ⟨b, off + i * 7 + 3, none⟩ = some (.int .i64 (g l i).p) := it 3 (by omega)
    have x4 : wc.cell? ⟨b, off + i * 7 + 4, none⟩ = some (.int .i64 (g l i).q) := it 4 (by omega)
    have x5 : wc.cell? ⟨b, off + i * 7 + 5, none⟩ = some (.int .i64 (g l i).d) := it 5 (by omega)
    have x6 : wc.cell? ⟨b, off + i * 7 + 6, none⟩ = some (.int .i64 (g l i).n) := it 6 (by omega)
    have c0 : wc.cell? ⟨gB, 0, none⟩ = some (.slice (some ⟨b, off, none⟩) (n + 1) c) := (HBK2.out.cell 0).trans rfl
    have c1 : wc.cell? ⟨gB, 1, none⟩ = some (.map (some S)) := (HBK2.out.cell 1).trans rfl
    have hlb := HOW2.out.lt b rfl
    have hlB := HBK2.out.lt
    obtain ⟨gE, hgE⟩ : ∃ gE, wc.heap.size = gE := ⟨_, rfl⟩
    obtain ⟨w1, hw1⟩ : ∃ w1, wc.alloc (.cells #[.int .i64 (g l i).k.T, .int .i64 (g l i).k.O, .int .i64 (g l i).k.S, .int .i64 (g l i).p, .int .i64 (g l i).q, .int .i64 (g l i).d, .int .i64 (g l i).n] 36) = w1 := ⟨_, rfl⟩
    have HGE := Lib.hid hgE
    have HW1 := Lib.hid hw1
    have HB1 := Lib.hid (show Below wc.heap.size wc w1 ∧ Blk w1 gE 36 (g l i).c.toArray ∧ w1.heap.size = gE + 1 by
      rw [← hw1]
      exact ⟨(Below.refl _ wc).alloc (Nat.le_refl _) _, Blk.last wc _ _ hgE, by simp [hgE]⟩)
    clear hB it hgE hw1
    go_upto_region 5 with (fail)
    rw [HW1.out, HGE.out]
    clear x0 x1 x2 x3 x4 x5 x6 c0 c1 hlb hlB
    have d0 : w1.cell? ⟨gB, 0, none⟩ = some (.slice (some ⟨b, off, none⟩) (n + 1) c) := ((HBK2.out.below HB1.out.1 HBK2.out.lt).cell 0).trans rfl
    have d1 : w1.cell? ⟨gB, 1, none⟩ = some (.map (some S)) := ((HBK2.out.below HB1.out.1 HBK2.out.lt).cell 1).trans rfl
    have HS1 : Hid (w1.heap[S]? = wa.heap[S]?) := Lib.hid ((HB1.out.1.block S HAC.out.hm.mp.lt).trans (HC.out.1.block S HA.out.hm.mp.lt))
    go_wp2_with fail
    obtain ⟨w2, r2, h2, g2⟩ := HDEL.out w1 HS1.out 0
    rw [r2]
    clear r2 d0 d1
    have ap := HA.out.hm.apart
    have hSE : S < gE := by rw [← HGE.out]; exact HAC.out.hm.mp.lt
    have hgS : gR ≠ S := by have := HW0.out.hm.mp.lt; have := HG.out; omega
    have HP2 := Lib.hid h2
    have HCH2 := Lib.hid g2
    have HBK3 := Lib.hid ((HBK2.out.below HB1.out.1 HBK2.out.lt).chg g2 (fun h => ap.1 h.symm))
    have HOW3 : Hid (Own w2 36 7 (.slice (some ⟨b, off, none⟩) (n + 1) c) (n + 1) (rowsI l) (some b)) := Lib.hid ((HOW2.out.kept fun g hg => HB1.out.1.block g (HOW2.out.lt g hg)).chg g2 (fun g hg h => ap.2.2 (by rw [hg, h])))
    have HGR3 := Lib.hid ((HGR2.out.below HB1.out.1 HGR2.out.lt).chg g2 hgS)
    have HGE3 := Lib.hid (HB1.out.2.1.chg g2 (fun h => by omega))
    have HSZ2 := Lib.hid (show gE + 1 ≤ w2.heap.size by have := g2.size; rw [HB1.out.2.2] at this; exact this)
    have e0 : w2.cell? ⟨gB, 0, none⟩ = some (.slice (some ⟨b, off, none⟩) (n + 1) c) := (HBK3.out.cell 0).trans rfl
    have it2 := fun j hj => (HOW3.out.item (i := n) (by omega) j hj).1
    have y0 : w2.cell? ⟨b, off + n * 7, none⟩ = some (.int .i64 (g l n).k.T) := it2 0 (by omega)
    have y1 : w2.cell? ⟨b, off + n * 7 + 1, none⟩ = some (.int .i64 (g l n).k.O) := it2 1 (by omega)
    have y2 : w2.cell? ⟨b, off + n * 7 + 2, none⟩ = some (.int .i64 (g l n).k.S) := it2 2 (by omega)
    have y3 : w2.cell? ⟨b, off + n * 7 + 3, none⟩ = some (.int .i64 (g l n).p) := it2 3 (by omega)
    have y4 : w2.cell? ⟨b, off + n * 7 + 4, none⟩ = some (.int .i64 (g l n).q) := it2 4 (by omega)
    have y5 : w2.cell? ⟨b, off + n * 7 + 5, none⟩ = some (.int .i64 (g l n).d) := it2 5 (by omega)
    have y6 : w2.cell? ⟨b, off + n * 7 + 6, none⟩ = some (.int .i64 (g l n).n) := it2 6 (by omega)
    have hlb := HOW3.out.lt b rfl
    have hlB := HBK3.out.lt
    obtain ⟨gX, hgX⟩ : ∃ gX, w2.heap.size = gX := ⟨_, rfl⟩
    obtain ⟨w3, hw3⟩ : ∃ w3, w2.alloc (.cells #[.int .i64 (g l n).k.T, .int .i64 (g l n).k.O, .int .i64 (g l n).k.S, .int .i64 (g l n).p, .int .i64 (g l n).q, .int .i64 (g l n).d, .int .i64 (g l n).n] 36) = w3 := ⟨_, rfl⟩
    have HGX := Lib.hid hgX
    have HW3 := Lib.hid hw3
    have HB3 := Lib.hid (show Below w2.heap.size w2 w3 ∧ Blk w3 gX 36 (g l n).c.toArray ∧ w3.heap.size = gX + 1 by
      rw [← hw3]
      exact ⟨(Below.refl _ w2).alloc (Nat.le_refl _) _, Blk.last w2 _ _ hgX, by simp [hgX]⟩)
    have ni : (n : Int) < (n : Int) + 1 := by omega
    clear it2 hgX hw3 h2 g2 ap hSE hgS
    go_upto_region 7 with (fail)
    rw [HW3.out, HGX.out]
    clear e0 y0 y1 y2 y3 y4 y5 y6 hlb hlB
    have HBK4 := Lib.hid (HBK3.out.below HB3.out.1 HBK3.out.lt)
    have e0 : w3.cell? ⟨gB, 0, none⟩ = some (.slice (some ⟨b, off, none⟩) (n + 1) c) := (HBK4.out.cell 0).trans rfl
    have ef := HBK4.out.frozen 0
    have hnc : n + 1 ≤ c := by obtain ⟨_, _, h, _, h', _⟩ := HOW3.out.rd; injection h with _ _ h; omega
    have hnc1 : (n : Int) ≤ (c : Int) := by omega
    go_upto_region 8 with (fail)
    obtain ⟨w4, hw4⟩ : ∃ w4, w3.setCell ⟨gB, 0, none⟩ (.slice (some ⟨b, off, none⟩) n c) = w4 := ⟨_, rfl⟩
    rw [hw4]
    have ap := HA.out.hm.apart
    have hbg : b ≠ gB := fun e => ap.2.1 (by rw [e])
    have hb4 : Blk w4 gB 57 #[.slice (some ⟨b, off, none⟩) n c, .map (some S)] := by rw [← hw4]; exact HBK4.out.set_ 0 _
    have hfar : ∀ k, k < w2.heap.size → k ≠ gB → w4.heap[k]? = w2.heap[k]? := fun k h1 h2 => by rw [← hw4]; exact (Below.heap_setCell _ _ _ _ h2).trans (HB3.out.1.block k h1)
    have ho4 : Own w4 36 7 (.slice (some ⟨b, off, none⟩) n c) n (rowsI (l.take n)) (some b) := (HOW3.out.kept fun g hg => hfar g (HOW3.out.lt g hg) (by injection hg with hg; rw [← hg]; exact hbg)).cut
    have hlt : (l.take n).length = n := by rw [List.length_take, HH.out.2.2.2.2.2.1]; omega
    have hm4 : HM w4 gB S (.slice (some ⟨b, off, none⟩) n c) (l.take n) (delF f O N) n (some b) := ⟨hb4, by rw [hlt]; exact ho4, HP2.out.same (hfar S HP2.out.lt ap.1)⟩
    have hch4 : Chg (HTurn gB S (some b)) w w4 := by
      have h1 : Chg (HTurn gB S (some b)) w wc := (Chg.of_below HBA.out.1 (Nat.le_refl _) _).trans (Chg.of_below HC.out.1 (Nat.le_refl _) (HTurn gB S (some b))) (fun _ _ h => h)
      have h2 := h1.trans (Chg.of_below HB1.out.1 (Nat.le_refl _) (HTurn gB S (some b))) (fun _ _ h => h)
      have h3 := h2.trans HCH2.out (fun _ _ h => .inr (.inl h))
      have h4 := h3.trans (Chg.of_below HB3.out.1 (Nat.le_refl _) (HTurn gB S (some b))) (fun _ _ h => h)
      rw [← hw4]
      exact h4.setCell (p := ⟨gB, 0, none⟩) (.inl (.inl rfl)) _
    have hlo : gB < gR ∧ S < gR ∧ b < gR := by
      rw [← HG.out]; exact ⟨HW0.out.hm.bk.lt, HW0.out.hm.mp.lt, HW0.out.hm.ow.lt b rfl⟩
    have hsz : gR < gE ∧ gE < gX := by
      have h1 := HGE.out; have h2 := HC.out.2; have h3 := HGX.out; have h4 := HSZ2.out; omega
    have hGR4 : Blk w4 gR 36 It.zero.c.toArray := (hfar gR HGR3.out.lt (by omega)).trans HGR3.out
    have hGE4 : Blk w4 gE 36 (g l i).c.toArray := (hfar gE HGE3.out.lt (by omega)).trans HGE3.out
    have hGX4 : Blk w4 gX 36 (g l n).c.toArray := by rw [← hw4]; exact HB3.out.2.1.far (p := ⟨gB, 0, none⟩) (by show gX ≠ gB; omega) _
    have hNT : ∀ x, gR ≤ x → ¬ HTurn gB S (some b) x := by
      rintro x hx (h | h | h)
      · omega
      · omega
      · injection h with h; omega
    have HSZ := Lib.hid item_size
    have HM4 := Lib.hid hm4
    have HCH4 := Lib.hid hch4
    have HLO := Lib.hid (show gR < gE ∧ gE < gX from hsz)
    have HGR4 := Lib.hid hGR4
    have HGE4 := Lib.hid hGE4
    have HGX4 := Lib.hid hGX4
    have HNT := Lib.hid hNT
    have HRL := Lib.hid (show gR ≠ gB ∧ gR ≠ S ∧ gR ≠ b by omega)
    have HLT := Lib.hid hlt
    have HDF : Hid (delF f O N = delF f (g l i).k.O (g l i).n) := Lib.hid (by rw [HH.out.2.2.1, HH.out.2.2.2.1])
    have hcase := HH.out.2.1
    clear hw4 ap hbg hb4 hfar ho4 hlt hm4 hch4 hlo hsz hGR4 hGE4 hGX4 hNT e0 ef ni hnc hnc1 hnb
    by_cases hin : i < n
    · have hini : (i : Int) < (n : Int) := by omega
      have y0 : w4.cell? ⟨gX, 0, none⟩ = some (.int .i64 (g l n).k.T) := (HGX4.out.cell 0).trans rfl
      have y1 : w4.cell? ⟨gX, 1, none⟩ = some (.int .i64 (g l n).k.O) := (HGX4.out.cell 1).trans rfl
      have y2 : w4.cell? ⟨gX, 2, none⟩ = some (.int .i64 (g l n).k.S) := (HGX4.out.cell 2).trans rfl
      have y3 : w4.cell? ⟨gX, 3, none⟩ = some (.int .i64 (g l n).p) := (HGX4.out.cell 3).trans rfl
      have y4 : w4.cell? ⟨gX, 4, none⟩ = some (.int .i64 (g l n).q) := (HGX4.out.cell 4).trans rfl
      have y5 : w4.cell? ⟨gX, 5, none⟩ = some (.int .i64 (g l n).d) := (HGX4.out.cell 5).trans rfl
      have y6 : w4.cell? ⟨gX, 6, none⟩ = some (.int .i64 (g l n).n) := (HGX4.out.cell 6).trans rfl
      have hwl : WOk (g l n) := HA.out.wf _ (by rw [g_get l n (by have := HH.out.2.2.2.2.2.1; omega)]; exact List.getElem_mem _)
      have hnm := HA.out.nm.dropAt HH.out.2.2.2.2.2.1 hin
      rw [← HDF.out] at hnm
      have hfs : (delF f O N (g l n).k.O (g l n).n).isSome = true := by
        rw [HDF.out]
        unfold delF
        rw [if_neg, HA.out.nm.1 n (by have := HH.out.2.2.2.2.2.1; omega)]
        · rfl
        · rintro ⟨h1, h2⟩
          have := HA.out.nm.uniq (show n < l.length by have := HH.out.2.2.2.2.2.1; omega) (show i < l.length by have := HH.out.2.2.2.2.2.1; omega) h1 h2
          omega
      have hwf : ∀ x ∈ (l.take n).set i (g l n), WOk x := fun x hx => by
        rcases List.mem_or_eq_of_mem_set hx with hx | hx
        · exact HA.out.wf x (List.mem_of_mem_take hx)
        · rw [hx]; exact hwl
      have hD : HeapD ((l.take n).set i (g l n)) i := HA.out.hp.drop HH.out.2.2.2.2.2.1 hin _
      have hln : ((l.take n).set i (g l n)).length = n := by rw [List.length_set]; exact HLT.out
      have KL := Lib.hid (lay_kp w4 gB S b off c n (l.take n) (delF f O N) n i (some b) (g l n) HLT.out.symm HM4.out hin HH.out.2.2.2.2.1 HH.out.2.2.2.2.1 hwl hfs)
      have KU := Lib.hid (fun W (hW : HM W gB S (.slice (some ⟨b, off, none⟩) n c) ((l.take n).set i (g l n)) (updF (delF f O N) (g l n).k.O (g l n).n i) n (some b)) =>
        up_any W gB S b off c n _ _ n i (some b) hln.symm ⟨hW, hnm, hwf, List.Perm.refl _, Chg.refl _ _⟩ hin HH.out.2.2.2.2.1 HH.out.2.2.2.2.1 hD)
      have KD := Lib.hid (fun W l2 f2 (hW : Kp W W gB S (.slice (some ⟨b, off, none⟩) n c) n (some b) l2 l2 f2) (h1 : l2.length = n) (h2 : HeapN l2 i) => down_any W gB S b off c n l2 f2 n i (some b) h1.symm hW hin HH.out.2.2.2.2.1 HH.out.2.2.2.2.1 h2)
      have HLN := Lib.hid hln
      clear hwl hnm hfs hwf hD hln
      go_wp2_with fail
      refine KL.out.mono ?_
      rintro r w5 ⟨rfl, h5, ch5⟩
      have H5 := Lib.hid h5
      have CH5 := Lib.hid (HCH4.out.trans ch5 (fun _ _ h => h))
      have HGR5 := Lib.hid (HGR4.out.chg ch5 (HNT.out _ (Nat.le_refl _)))
      have HGE5 := Lib.hid (HGE4.out.chg ch5 (HNT.out _ (by have := HLO.out; omega)))
      clear h5 ch5 y0 y1 y2 y3 y4 y5 y6
      go_wp2_with fail
      refine (KU.out w5 H5.out).mono ?_
      rintro r w6 ⟨rfl, l6, f6, hk6, hn6⟩
      have H6 := Lib.hid (show Kp w6 w6 gB S (.slice (some ⟨b, off, none⟩) n c) n (some b) l6 l6 f6 from ⟨hk6.hm, hk6.nm, hk6.wf, List.Perm.refl _, Chg.refl _ _⟩)
      have HP6 := Lib.hid hk6.pm
      have HN6 := Lib.hid hn6
      have CH6 := Lib.hid (CH5.out.trans hk6.ch (fun _ _ h => h))
      have HGR6 := Lib.hid (HGR5.out.chg hk6.ch (HNT.out _ (Nat.le_refl _)))
      have HGE6 := Lib.hid (HGE5.out.chg hk6.ch (HNT.out _ (by have := HLO.out; omega)))
      clear hk6 hn6
      go_wp2_with fail
      refine (KD.out w6 l6 f6 H6.out (by rw [HP6.out.length_eq]; exact HLN.out) HN6.out).mono ?_
      rintro r w7 ⟨rfl, l7, f7, hk7, hn7⟩
      have hl7 : l7.length = n := by rw [hk7.pm.length_eq, HP6.out.length_eq]; exact HLN.out
      have HP9 := Lib.hid (show HpS w7 gB S (.slice (some ⟨b, off, none⟩) n c) l7 f7 (some b) from ⟨by rw [hl7]; exact hk7.hm, hk7.nm, hk7.wf, hn7⟩)
      have HPM := Lib.hid ((List.Perm.cons (g l i) (hk7.pm.trans HP6.out)).trans (drop_perm HH.out.2.2.2.2.2.1 hin))
      have HCH9 := Lib.hid (CH6.out.trans hk7.ch (fun _ _ h => h))
      have HGR9 := Lib.hid (HGR6.out.chg hk7.ch (HNT.out _ (Nat.le_refl _)))
      have HGE9 := Lib.hid (HGE6.out.chg hk7.ch (HNT.out _ (by have := HLO.out; omega)))
      clear hk7 hn7 hl7
      have z0 : w7.cell? ⟨gE, 0, none⟩ = some (.int .i64 (g l i).k.T) := (HGE9.out.cell 0).trans rfl
      have z1 : w7.cell? ⟨gE, 1, none⟩ = some (.int .i64 (g l i).k.O) := (HGE9.out.cell 1).trans rfl
      have z2 : w7.cell? ⟨gE, 2, none⟩ = some (.int .i64 (g l i).k.S) := (HGE9.out.cell 2).trans rfl
      have z3 : w7.cell? ⟨gE, 3, none⟩ = some (.int .i64 (g l i).p) := (HGE9.out.cell 3).trans rfl
      have z4 : w7.cell? ⟨gE, 4, none⟩ = some (.int .i64 (g l i).q) := (HGE9.out.cell 4).trans rfl
      have z5 : w7.cell? ⟨gE, 5, none⟩ = some (.int .i64 (g l i).d) := (HGE9.out.cell 5).trans rfl
      have z6 : w7.cell? ⟨gE, 6, none⟩ = some (.int .i64 (g l i).n) := (HGE9.out.cell 6).trans rfl
      go_wp2_with (refine wpList_store_row rfl 36 _ _ rfl gR (g l i).c.toArray rfl rfl 36 It.zero.c.toArray HGR9.out HSZ.out rfl (it_all (g l i)) ?_)
      obtain ⟨d, hd⟩ := item_desc
      refine bodyPost_ret (results_rowB rfl _ _ gR 36 (g l i).c.toArray (0, 0) ⟨d, rfl⟩ rfl (setRow_heap w7 gR _ _ _ _ HGR9.out) hd item_size) rfl ⟨rfl, ?_⟩
      exact drop_out HP9.out HPM.out HCH9.out (by have := HG.out; omega) HRL.out
    · obtain rfl : i = n := by omega
      have hini : ¬ (i : Int) < (i : Int) := by omega
      have hnm := HA.out.nm.dropLast HH.out.2.2.2.2.2.1
      rw [← HDF.out] at hnm
      have HP9 := Lib.hid (show HpS w4 gB S (.slice (some ⟨b, off, none⟩) i c) (l.take i) (delF f O N) (some b) from ⟨by rw [HLT.out]; exact HM4.out, hnm, fun x hx => HA.out.wf x (List.mem_of_mem_take hx), HA.out.hp.take HH.out.2.2.2.2.2.1⟩)
      have HPM := Lib.hid (drop_last HH.out.2.2.2.2.2.1)
      have HCH9 := HCH4
      have HGR9 := HGR4
      have HGE9 := HGE4
      clear hnm hin
      have z0 : w4.cell? ⟨gE, 0, none⟩ = some (.int .i64 (g l i).k.T) := (HGE9.out.cell 0).trans rfl
      have z1 : w4.cell? ⟨gE, 1, none⟩ = some (.int .i64 (g l i).k.O) := (HGE9.out.cell 1).trans rfl
      have z2 : w4.cell? ⟨gE, 2, none⟩ = some (.int .i64 (g l i).k.S) := (HGE9.out.cell 2).trans rfl
      have z3 : w4.cell? ⟨gE, 3, none⟩ = some (.int .i64 (g l i).p) := (HGE9.out.cell 3).trans rfl
      have z4 : w4.cell? ⟨gE, 4, none⟩ = some (.int .i64 (g l i).q) := (HGE9.out.cell 4).trans rfl
      have z5 : w4.cell? ⟨gE, 5, none⟩ = some (.int .i64 (g l i).d) := (HGE9.out.cell 5).trans rfl
      have z6 : w4.cell? ⟨gE, 6, none⟩ = some (.int .i64 (g l i).n) := (HGE9.out.cell 6).trans rfl
      go_wp2_with (refine wpList_store_row rfl 36 _ _ rfl gR (g l i).c.toArray rfl rfl 36 It.zero.c.toArray HGR9.out HSZ.out rfl (it_all (g l i)) ?_)
      obtain ⟨d, hd⟩ := item_desc
      refine bodyPost_ret (results_rowB rfl _ _ gR 36 (g l i).c.toArray (0, 0) ⟨d, rfl⟩ rfl (setRow_heap w4 gR _ _ _ _ HGR9.out) hd item_size) rfl ⟨rfl, ?_⟩
      exact drop_out HP9.out HPM.out HCH9.out (by have := HG.out; omega) HRL.out
end
end Go.Proofs.Ytghmldfllieonaa
