/- The document's heap: Put, the three appends (to the end). Helper. -/
import Derived.Test.YtghmldfllieonaaHeapRefPutO
namespace Go.Proofs.Ytghmldfllieonaa
open Go.RowKit
set_option linter.unusedVariables false
set_option linter.unusedSimpArgs false
set_option maxRecDepth 1000000 in
set_option maxHeartbeats 40000000 in
theorem putRegionA {s1 s2 s4 s6 s7 s8 s9 s10 s11 s12 s13 s14 s15 s16 s17 s18 s19 s20 s21 s22 s23 s24 s25 s26 s27 s28 s29 s30 s31 s32 s33 s34 s35 s36 s37 s38 s39 s40 s41 s42 s43 s44 s45 s46 s47 s48 s49 s50 s51 s52 s53 s54 s55 s56 s57 s58 s59 s60 : Value} (gR gE n c k : Nat) (A : Option Addr) (blk : Option Nat) (L : List It) (e : It) (wr : World) (hk : k ≤ n) (hnc : n ≤ c) (hn : n < 1024) (hL : L.length = n) (hb : Blk wr gR 28 #[.slice A n c]) (hA : Rd wr A (rowsI L)) (hca : c = k) (hAc : c = 0 ∨ ∃ b off, A = some ⟨b, off, none⟩) (hx : Blk wr gE 36 e.c.toArray)
    (Q : Exit → Act → World → Prop) (hK : ∀ (t41 t42 t43 t44 t45 t46 t47 t48 t49 t50 t51 t52 t53 t54 t55 t56 t57 t58 t59 t60 : Value) (w' : World), PutDone wr w' gR n k L e → Q .normal ⟨#[.pointer (some ⟨gR, 0, none⟩), s1, s2, .pointer (some ⟨gE, 0, none⟩), s4, .int .i64 (k : Int), s6, s7, s8, s9, s10, s11, s12, s13, s14, s15, s16, s17, s18, s19, s20, s21, s22, s23, s24, s25, s26, s27, s28, s29, s30, s31, s32, s33, s34, s35, s36, s37, s38, s39, s40, t41, t42, t43, t44, t45, t46, t47, t48, t49, t50, t51, t52, t53, t54, t55, t56, t57, t58, t59, t60], []⟩ w') : Code.wp Try.prog codePut Q ⟨#[.pointer (some ⟨gR, 0, none⟩), s1, s2, .pointer (some ⟨gE, 0, none⟩), s4, .int .i64 (k : Int), s6, s7, s8, s9, s10, s11, s12, s13, s14, s15, s16, s17, s18, s19, s20, s21, s22, s23, s24, s25, s26, s27, s28, s29, s30, s31, s32, s33, s34, s35, s36, s37, s38, s39, s40, s41, s42, s43, s44, s45, s46, s47, s48, s49, s50, s51, s52, s53, s54, s55, s56, s57, s58, s59, s60], []⟩ wr := by
  suffices hs : Code.wp Try.prog codePut (Exit.then (fun a' w' => ∃ (t41 t42 t43 t44 t45 t46 t47 t48 t49 t50 t51 t52 t53 t54 t55 t56 t57 t58 t59 t60 : Value), a' = ⟨#[.pointer (some ⟨gR, 0, none⟩), s1, s2, .pointer (some ⟨gE, 0, none⟩), s4, .int .i64 (k : Int), s6, s7, s8, s9, s10, s11, s12, s13, s14, s15, s16, s17, s18, s19, s20, s21, s22, s23, s24, s25, s26, s27, s28, s29, s30, s31, s32, s33, s34, s35, s36, s37, s38, s39, s40, t41, t42, t43, t44, t45, t46, t47, t48, t49, t50, t51, t52, t53, t54, t55, t56, t57, t58, t59, t60], []⟩ ∧ Hid (PutDone wr w' gR n k L e)) (fun _ _ _ => False)) ⟨#[.pointer (some ⟨gR, 0, none⟩), s1, s2, .pointer (some ⟨gE, 0, none⟩), s4, .int .i64 (k : Int), s6, s7, s8, s9, s10, s11, s12, s13, s14, s15, s16, s17, s18, s19, s20, s21, s22, s23, s24, s25, s26, s27, s28, s29, s30, s31, s32, s33, s34, s35, s36, s37, s38, s39, s40, s41, s42, s43, s44, s45, s46, s47, s48, s49, s50, s51, s52, s53, s54, s55, s56, s57, s58, s59, s60], []⟩ wr by
    refine Code.wp_mono (fun e a w h => ?_) hs
    cases e with
    | normal =>
      obtain ⟨t41, t42, t43, t44, t45, t46, t47, t48, t49, t50, t51, t52, t53, t54, t55, t56, t57, t58, t59, t60, rfl, h⟩ := h
      exact hK t41 t42 t43 t44 t45 t46 t47 t48 t49 t50 t51 t52 t53 t54 t55 t56 t57 t58 t59 t60 _ h.out
    | _ => exact False.elim h
  clear hK
  obtain ⟨i0, hi0, hz0, hz1, hz2⟩ := info_parts infoItem
  have HL1 := Lib.hid hi0
  have HL2 := Lib.hid hz0
  have HL3 := Lib.hid hz1
  have HL4 := Lib.hid hz2
  have HF := Lib.hid (show k ≤ n ∧ n < 1024 ∧ L.length = n ∧ n ≤ c from ⟨hk, hn, hL, hnc⟩)
  have HB := Lib.hid hb
  have HX := Lib.hid hx
  have l1 : (rowsI (L.take k)).length = k * 7 := by rw [rowsI_length, List.length_take]; omega
  have l2 : (rowsI (L.drop k)).length = (n - k) * 7 := by rw [rowsI_length, List.length_drop]; omega
  have r1 : Rd wr A (rowsI (L.take k)) := by
    rcases hA with h | ⟨b, o, eA, h⟩
    · rw [← rowsI_take, h]; exact .inl (by simp)
    · rw [← rowsI_take]
      refine .inr ⟨b, o, eA, fun j u hu => ?_⟩
      rw [List.getElem?_take] at hu
      split at hu
      · exact h j u hu
      · cases hu
  have HLEN := Lib.hid (And.intro l1 l2)
  have HR1 := Lib.hid r1
  have HA := Lib.hid hA
  have c0 : wr.cell? ⟨gR, 0, none⟩ = some (.slice A n c) := (hb.cell 0).trans rfl
  have f0 := hb.frozen 0
  have hlt := hb.lt
  have hltE := hx.lt
  have e0 : wr.cell? ⟨gE, 0, none⟩ = some (.int .i64 e.k.T) := (hx.cell 0).trans rfl
  have e1 : wr.cell? ⟨gE, 1, none⟩ = some (.int .i64 e.k.O) := (hx.cell 1).trans rfl
  have e2 : wr.cell? ⟨gE, 2, none⟩ = some (.int .i64 e.k.S) := (hx.cell 2).trans rfl
  have e3 : wr.cell? ⟨gE, 3, none⟩ = some (.int .i64 e.p) := (hx.cell 3).trans rfl
  have e4 : wr.cell? ⟨gE, 4, none⟩ = some (.int .i64 e.q) := (hx.cell 4).trans rfl
  have e5 : wr.cell? ⟨gE, 5, none⟩ = some (.int .i64 e.d) := (hx.cell 5).trans rfl
  have e6 : wr.cell? ⟨gE, 6, none⟩ = some (.int .i64 e.n) := (hx.cell 6).trans rfl
  have kc1 : (k : Int) ≤ (c : Int) := by omega
  have kn1 : (k : Int) ≤ (n : Int) := by omega
  have HCE := Lib.hid (fun W (hW : Nw wr W) => (⟨hW.cell c0, hW.cell e0, hW.cell e1, hW.cell e2, hW.cell e3, hW.cell e4, hW.cell e5, hW.cell e6⟩ : W.cell? ⟨gR, 0, none⟩ = some (.slice A n c) ∧ W.cell? ⟨gE, 0, none⟩ = some (.int .i64 e.k.T) ∧ W.cell? ⟨gE, 1, none⟩ = some (.int .i64 e.k.O) ∧ W.cell? ⟨gE, 2, none⟩ = some (.int .i64 e.k.S) ∧ W.cell? ⟨gE, 3, none⟩ = some (.int .i64 e.p) ∧ W.cell? ⟨gE, 4, none⟩ = some (.int .i64 e.q) ∧ W.cell? ⟨gE, 5, none⟩ = some (.int .i64 e.d) ∧ W.cell? ⟨gE, 6, none⟩ = some (.int .i64 e.n)))
  clear hi0 hz0 hz1 hz2 hb hx hA hL l1 l2 r1
  have hkn : k = n := by omega
  subst hkn
  have hck : k = c := hca.symm
  subst hck
  have r2 : Rd wr A (rowsI (L.drop k)) := .inl (by rw [List.drop_of_length_le (by rw [HF.out.2.2.1]; omega)]; rfl)
  have HR2 := Lib.hid r2
  clear r2
  conv => arg 2; whnf
  go_region_law (first
    | (refine step_append_at _ (by rfl) _ _ _ (by rfl) 36 i0 _ 7 56 Try.underlying22 HL1.out HL2.out HL3.out HL4.out rfl (by omega) _ 0 [] none (by rfl) (Own.nil _ _ _) _ k _ (rowsI (L.take k)) (by rfl) HLEN.out.1 (HR1.out.nw (by repeat (first | assumption | exact Nw.refl wr | refine Nw.drew ?_ | refine Nw.alloc ?_ _))) (rowsI_mem _) (by have := HF.out; simp only [maxLen]; omega) (by have := HF.out; omega) ?_; intro A2 c2 w2 b2 hown2 hch2 hat2; have n2 : Nw wr w2 := chg_nw (by repeat (first | assumption | exact Nw.refl wr | refine Nw.drew ?_ | refine Nw.alloc ?_ _)) (fun g q => by cases q) hch2; have m2 : Nw _ w2 := chg_nw (Nw.refl _) (fun g q => by cases q) hch2; have g2 : ∀ g, b2 = some g → wr.heap.size ≤ g := at_new (by repeat (first | assumption | exact Nw.refl wr | refine Nw.drew ?_ | refine Nw.alloc ?_ _)) (fun g q => by cases q) hat2; obtain ⟨q2, x20, x21, x22, x23, x24, x25, x26⟩ := HCE.out w2 n2; have q2f := (HB.out.below n2 HB.out.lt).frozen 0; have ql2 := (HB.out.below n2 HB.out.lt).lt; have qe2 := (HX.out.below n2 HX.out.lt).lt; simp only [Nat.zero_add, List.nil_append] at hown2 ⊢)
    | (refine step_append_at _ (by rfl) _ _ _ (by rfl) 36 i0 _ 7 56 Try.underlying22 HL1.out HL2.out HL3.out HL4.out rfl (by omega) _ k (rowsI (L.take k)) b2 (by rfl) (by first | exact hown2 | exact hown2.kept (fun g hg => Below.heap_alloc _ _ _ (hown2.lt g hg))) _ 1 _ [.int .i64 e.k.T, .int .i64 e.k.O, .int .i64 e.k.S, .int .i64 e.p, .int .i64 e.q, .int .i64 e.d, .int .i64 e.n] (by rfl) (by rfl) (by first | exact rd_last_row _ _ [.int .i64 e.k.T, .int .i64 e.k.O, .int .i64 e.k.S, .int .i64 e.p, .int .i64 e.q, .int .i64 e.d, .int .i64 e.n] | exact (rd_last_row_at _ _ [.int .i64 e.k.T, .int .i64 e.k.O, .int .i64 e.k.S, .int .i64 e.p, .int .i64 e.q, .int .i64 e.d, .int .i64 e.n] _ rfl).nw m2) (It.c_one e) (by have := HF.out; simp only [maxLen]; omega) (by have := HF.out; omega) ?_; intro A3 c3 w3 b3 hown3 hch3 hat3; have n3 : Nw wr w3 := chg_nw (by repeat (first | assumption | exact Nw.refl wr | refine Nw.drew ?_ | refine Nw.alloc ?_ _)) g2 hch3; have g3 : ∀ g, b3 = some g → wr.heap.size ≤ g := at_new (by repeat (first | assumption | exact Nw.refl wr | refine Nw.drew ?_ | refine Nw.alloc ?_ _)) g2 hat3; obtain ⟨q3, x30, x31, x32, x33, x34, x35, x36⟩ := HCE.out w3 n3; have q3f := (HB.out.below n3 HB.out.lt).frozen 0; have ql3 := (HB.out.below n3 HB.out.lt).lt; have qe3 := (HX.out.below n3 HX.out.lt).lt)
    | (refine step_append_at _ (by rfl) _ _ _ (by rfl) 36 i0 _ 7 56 Try.underlying22 HL1.out HL2.out HL3.out HL4.out rfl (by omega) _ (k + 1) (rowsI (L.take k) ++ [.int .i64 e.k.T, .int .i64 e.k.O, .int .i64 e.k.S, .int .i64 e.p, .int .i64 e.q, .int .i64 e.d, .int .i64 e.n]) b3 (by rfl) hown3 _ 0 _ (rowsI (L.drop k)) (by rfl) (by rw [HLEN.out.2]; simp) (HR2.out.nw (by repeat (first | assumption | exact Nw.refl wr | refine Nw.drew ?_ | refine Nw.alloc ?_ _))) (rowsI_mem _) (by have := HF.out; simp only [maxLen]; omega) (by have := HF.out; omega) ?_; intro A4 c4 w4 b4 hown4 hch4 hat4; have n4 : Nw wr w4 := chg_nw (by repeat (first | assumption | exact Nw.refl wr | refine Nw.drew ?_ | refine Nw.alloc ?_ _)) g3 hch4; have g4 : ∀ g, b4 = some g → wr.heap.size ≤ g := at_new (by repeat (first | assumption | exact Nw.refl wr | refine Nw.drew ?_ | refine Nw.alloc ?_ _)) g3 hat4; obtain ⟨q4, x40, x41, x42, x43, x44, x45, x46⟩ := HCE.out w4 n4; have q4f := (HB.out.below n4 HB.out.lt).frozen 0; have ql4 := (HB.out.below n4 HB.out.lt).lt; have qe4 := (HX.out.below n4 HX.out.lt).lt))
  all_goals
    exact ⟨_, _, _, _, _, _, _, _, _, _, _, _, _, _, _, _, _, _, _, _, rfl, Lib.hid (putDone HF.out.1 (by have := HF.out; omega) HB.out n4 hown4 g4)⟩
end Go.Proofs.Ytghmldfllieonaa
