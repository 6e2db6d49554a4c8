/- Collect, SortedFunc, All. Helper. -/
import Derived.Test.YtghmldfllieonaaHeapAppSeq
import Derived.Test.YtghmldfllieonaaHeapSortI
namespace Go.Proofs.Ytghmldfllieonaa
open Go.RowKit Go.Shelf
set_option linter.unusedVariables false
set_option linter.unusedSimpArgs false
theorem rowsI_block {w : World} {base n : Nat} {v : Value} {l : List It} (h : w.ownsRow base 36 7 v n (rowsI l)) (hn : 0 < n) : ∃ b c, v = .slice (some ⟨b, 0, none⟩) n c ∧ base ≤ b ∧ b < w.heap.size ∧ ItsAt w b 0 l := by
  rcases h.2 with ⟨_, h0⟩ | ⟨b, c, cur, rfl, h1, h2, h3, h4, h5, h6⟩
  · omega
  · have hbk : Blk w b 36 cur := h2
    have hll : l.length = n := by have := h.1; rw [rowsI_length] at this; omega
    refine ⟨b, c, rfl, h1, hbk.lt, fun i hi j hj => ⟨?_, hbk.frozen _⟩⟩
    rw [hbk.cell, ← rowsI_get l i hi j hj, ← h6, List.getElem?_take_of_lt (by omega), Array.getElem?_toList, show (0 : Nat) + i * 7 + j = i * 7 + j by omega]
theorem ItsAt.rd {w : World} {b off : Nat} {l : List It} (h : ItsAt w b off l) : Rd w (some ⟨b, off, none⟩) (rowsI l) := by
  refine .inr ⟨b, off, rfl, fun j u hu => ?_⟩
  have hj : j < l.length * 7 := by
    rcases Nat.lt_or_ge j (l.length * 7) with h' | h'
    · exact h'
    · rw [List.getElem?_eq_none (by rw [rowsI_length]; exact h')] at hu; cases hu
  have := (h (j / 7) (by omega) (j % 7) (Nat.mod_lt _ (by omega))).1
  rw [Nat.add_assoc, show j / 7 * 7 + j % 7 = j by omega] at this
  rw [this, ← hu]
  have e := rowsI_get l (j / 7) (by omega) (j % 7) (Nat.mod_lt _ (by omega))
  rw [show j / 7 * 7 + j % 7 = j by omega] at e
  exact e.symm
/-- A slice that holds a list of items, in blocks of its own. -/
def Held7 (w w' : World) (l : List It) (v : Value) : Prop :=
  ∃ A c, v = .slice A l.length c ∧ Nw w w' ∧ (0 < l.length → ∃ b, A = some ⟨b, 0, none⟩ ∧ w.heap.size ≤ b ∧ b < w'.heap.size ∧ ∀ i, i < l.length → ∀ j, j < 7 → w'.cell? ⟨b, 0 + i * 7 + j, none⟩ = (g l i).c[j]?)
theorem Nw.chg {w w1 w2 : World} {M : Nat → Prop} (h : Nw w w1) (hc : Chg M w1 w2) (hM : ∀ k, M k → w.heap.size ≤ k) : Nw w w2 := Below.trans h (hc.below (fun i _ q => hM i q) h.size)
set_option maxRecDepth 100000
set_option maxHeartbeats 1600000
theorem collect_any (w : World) (Bs b off c : Nat) (A : Option Addr) (L : List It) (hl : L.length ≤ 100000) (hBs : w.cell? ⟨Bs, 0, none⟩ = some (.slice A L.length c)) (hA : 0 < L.length → A = some ⟨b, off, none⟩) (hc : ∀ i, i < L.length → ∀ j, j < 7 → w.cell? ⟨b, off + i * 7 + j, none⟩ = (g L i).c[j]?) (hbl : b < w.heap.size) :
    Calls Try.prog 51 #[.func (.func 53) #[] #[.pointer (some ⟨Bs, 0, none⟩)]] w fun e w' => ∃ v, e = .returned v ∧ w'.ownsRow w.heap.size 36 7 v L.length (rowsI L) ∧ Nw w w' := by
  have K := Lib.hid (appSeq_any w Bs b off c A L hl hBs hA hc hbl)
  clear hBs hA hc
  go_enter Try.func51, Try.ntmps51
  go_wp2_with fail
  refine K.out.mono ?_
  rintro e w1 ⟨v, rfl, h1, h2⟩
  have H1 := Lib.hid h1
  have H2 := Lib.hid h2
  clear h1 h2
  go_wp2_with fail
  go_ret
  exact ⟨v, rfl, H1.out, H2.out⟩
theorem sorted_any (w : World) (Bs b off c : Nat) (A : Option Addr) (L : List It) (hl : L.length ≤ 100000) (hBs : w.cell? ⟨Bs, 0, none⟩ = some (.slice A L.length c)) (hA : 0 < L.length → A = some ⟨b, off, none⟩) (hc : ∀ i, i < L.length → ∀ j, j < 7 → w.cell? ⟨b, off + i * 7 + j, none⟩ = (g L i).c[j]?) (hbl : b < w.heap.size) :
    Calls Try.prog 46 #[.func (.func 53) #[] #[.pointer (some ⟨Bs, 0, none⟩)], .func (.func 32) #[] #[]] w fun e w' => ∃ v l', e = .returned v ∧ l'.Perm L ∧ Ord l' ∧ Held7 w w' l' v := by
  have K := Lib.hid (collect_any w Bs b off c A L hl hBs hA hc hbl)
  clear hBs hA hc
  obtain ⟨n, hn⟩ : ∃ n, L.length = n := ⟨_, rfl⟩
  have HN := Lib.hid hn
  rw [hn] at hl K
  clear hn
  go_enter Try.func46, Try.ntmps46
  go_wp2_with fail
  refine K.out.mono ?_
  rintro e w1 ⟨v, rfl, h1, h2⟩
  have H1 := Lib.hid h1
  have H2 := Lib.hid h2
  clear h1 h2
  by_cases h0 : 0 < n
  · obtain ⟨b1, c1, rfl, hb1, hb2, hits⟩ := rowsI_block H1.out h0
    have ks := sortI_any w1 b1 0 c1 L hits hb2 (by rw [HN.out]; omega)
    rw [HN.out] at ks
    have KS := Lib.hid ks
    have HB := Lib.hid (show w.heap.size ≤ b1 ∧ b1 < w1.heap.size from ⟨hb1, hb2⟩)
    clear ks hits hb1 hb2
    go_wp2_with fail
    refine KS.out.mono ?_
    rintro e w2 ⟨rfl, l', hp, ho, hi, hch⟩
    have HP := Lib.hid hp
    have HO := Lib.hid ho
    have HI := Lib.hid hi
    have HC := Lib.hid hch
    clear hp ho hi hch
    go_wp2_with fail
    go_ret
    have hl' : l'.length = n := by rw [HP.out.length_eq]; exact HN.out
    refine ⟨_, l', rfl, HP.out, HO.out, some ⟨b1, 0, none⟩, c1, by rw [hl']; rfl, H2.out.chg HC.out (fun k hk => by rw [hk]; exact HB.out.1), fun _ => ⟨b1, rfl, HB.out.1, Nat.lt_of_lt_of_le HB.out.2 HC.out.size, fun i hi j hj => (HI.out i hi j hj).1⟩⟩
  · obtain rfl : n = 0 := by omega
    have KS := Lib.hid (fun A c fv => sortI_none w1 A c fv)
    have HV : Hid (∃ A c, v = .slice A 0 c) := Lib.hid (by
      rcases H1.out.2 with ⟨h, _⟩ | ⟨g, cap, cur, h, _⟩
      · exact ⟨_, _, h⟩
      · exact ⟨_, _, h⟩)
    obtain ⟨A', c', rfl⟩ := HV.out
    go_wp2_with fail
    refine (KS.out _ _ _).mono ?_
    rintro e w2 ⟨rfl, h2⟩
    rw [h2]
    clear h2 w2
    go_wp2_with fail
    go_ret
    refine ⟨_, [], rfl, ?_, fun i j _ hj => by simp at hj, A', c', rfl, H2.out, fun h => by simp at h⟩
    rw [List.eq_nil_of_length_eq_zero HN.out]
theorem values_any (w : World) (A : Option Addr) (n c : Nat) : Calls Try.prog 47 #[.slice A n c] w fun e w' => e = .returned (.func (.func 53) #[] #[.pointer (some ⟨w.heap.size, 0, none⟩)]) ∧ w' = w.alloc (.cells #[.slice A n c] 22) := by
  have hmf : ∀ (fn : Fn) (first cap : Array Value) (w : World), (Instr.makeFunc fn first cap).run Try.prog w = .ok (.func fn first cap) w := fun _ _ _ _ => rfl
  go_enter Try.func47, Try.ntmps47
  go_wp2_with fail
  go_ret
  exact ⟨rfl, rfl⟩
theorem all_any (w : World) (gB S : Nat) (v : Value) (l : List It) (f : Int → Int → Option Nat) (blk : Option Nat) (h : HpS w gB S v l f blk) (hl : l.length ≤ 100000) :
    Calls Try.prog 39 #[.pointer (some ⟨gB, 0, none⟩)] w fun e w' => ∃ B u l', e = .returned (.func (.func 48) #[] #[.pointer (some ⟨B, 0, none⟩)]) ∧ l'.Perm l ∧ Ord l' ∧ w'.cell? ⟨B, 0, none⟩ = some u ∧ w.heap.size ≤ B ∧ Held7 w w' l' u := by
  have hmf : ∀ (fn : Fn) (first cap : Array Value) (w : World), (Instr.makeFunc fn first cap).run Try.prog w = .ok (.func fn first cap) w := fun _ _ _ _ => rfl
  obtain ⟨hxl, A, c, rfl, hnc, hcm, hcase⟩ := h.hm.ow
  obtain ⟨n, hn⟩ : ∃ n, l.length = n := ⟨_, rfl⟩
  have HN := Lib.hid hn
  have c0 : w.cell? ⟨gB, 0, none⟩ = some (.slice A n c) := by rw [← hn]; exact (h.hm.bk.cell 0).trans rfl
  have hlt := h.hm.bk.lt
  obtain ⟨B, hB⟩ : ∃ B, w.heap.size = B := ⟨_, rfl⟩
  obtain ⟨w1, hw1⟩ : ∃ w1, w.alloc (.cells #[.slice none 0 0] 22) = w1 := ⟨_, rfl⟩
  have hn1 : Nw w w1 := by rw [← hw1]; exact (Nw.refl w).alloc _
  have hbx : Blk w1 B 22 #[.slice none 0 0] := by rw [← hw1]; exact Blk.last w _ _ hB
  have HW := Lib.hid (And.intro hB hw1)
  have HX := Lib.hid hbx
  have HN1 := Lib.hid hn1
  -- where the array lies
  obtain ⟨b, off, hb, hA, hc⟩ : ∃ b off, b < w.heap.size ∧ (0 < l.length → A = some ⟨b, off, none⟩) ∧ ∀ i, i < l.length → ∀ j, j < 7 → w.cell? ⟨b, off + i * 7 + j, none⟩ = (g l i).c[j]? := by
    rcases hcase with ⟨h0, _⟩ | ⟨b, off, cur, rfl, rfl, hg, _⟩
    · exact ⟨gB, 0, hlt, fun h => by omega, fun i hi => by omega⟩
    · exact ⟨b, off, hg.lt, fun _ => rfl, fun i hi j hj => (h.hm.ow.item hi j hj).1⟩
  have K1 := Lib.hid (fun W A n c => values_any W A n c)
  have K2 := Lib.hid (fun W (hW : Nw w W) Bs (hBs : W.cell? ⟨Bs, 0, none⟩ = some (.slice A l.length c)) => sorted_any W Bs b off c A l hl hBs hA (fun i hi j hj => (Below.cell hW hb).trans (hc i hi j hj)) (Nat.lt_of_lt_of_le hb hW.size))
  clear h hxl hnc hcm hcase hA hc hb hn hB hw1 hn1 hbx
  go_enter Try.func39, Try.ntmps39
  go_upto_region 2 with (fail)
  rw [HW.out.2, HW.out.1]
  have d0 : w1.cell? ⟨gB, 0, none⟩ = some (.slice A n c) := HN1.out.cell c0
  clear c0 hlt
  go_wp2_with fail
  refine (K1.out _ _ _ _).mono ?_
  rintro e w2 ⟨rfl, h2⟩
  have hn2 : Nw w1 w2 := by rw [h2]; exact (Nw.refl w1).alloc _
  have hb2 : w2.cell? ⟨w1.heap.size, 0, none⟩ = some (.slice A l.length c) := by rw [h2, HN.out]; exact ((Blk.last w1 22 #[.slice A n c] rfl).cell 0).trans rfl
  have hx2 := HX.out.below hn2 HX.out.lt
  have K3 := Lib.hid (K2.out w2 (HN1.out.step hn2) _ hb2)
  have HN2 := Lib.hid (HN1.out.step hn2)
  have HX2 := Lib.hid hx2
  clear hn2 hb2 hx2 h2
  go_wp2_with fail
  refine K3.out.mono ?_
  rintro e w3 ⟨u, l', rfl, hp, ho, A', c', rfl, hn3, hh⟩
  have hx3 := HX2.out.below hn3 HX2.out.lt
  have y0 : w3.cell? ⟨B, 0, none⟩ = some (.slice none 0 0) := (hx3.cell 0).trans rfl
  have y1 := hx3.frozen 0
  have HP := Lib.hid hp
  have HO := Lib.hid ho
  have HH := Lib.hid hh
  have HX3 := Lib.hid hx3
  have HN3 := Lib.hid hn3
  clear hp ho hh hx3 hn3
  go_wp2_with fail
  go_ret
  refine ⟨B, _, l', rfl, HP.out, HO.out, ((HX3.out.set_ 0 _).cell 0).trans rfl, by rw [HW.out.1]; exact Nat.le_refl _, A', c', rfl, Nw.set (HN2.out.step HN3.out) (by rw [HW.out.1]; exact Nat.le_refl _) _, fun h0 => ?_⟩
  obtain ⟨b', e1, e2, e3, e4⟩ := HH.out h0
  refine ⟨b', e1, Nat.le_trans HN2.out.size e2, by simpa [World.setCell] using e3, fun i hi j hj => ?_⟩
  rw [← e4 i hi j hj]
  have hne : B ≠ b' := by have := HX2.out.lt; omega
  exact World.cell?_setCell_far _ _ _ _ hne
end Go.Proofs.Ytghmldfllieonaa
