/- Rounds: the lesser key, Bound, Lower. Helper. -/
import Derived.Test.YtbgpbbepeemieaaRndState
namespace Go.Proofs.Ytbgpbbepeemieaa
open Go.RowKit
set_option linter.unusedVariables false
set_option linter.unusedSimpArgs false
def Ky.min (a b : Ky) : Ky := if b.less a = true then b else a
theorem lesser_any (a b : Ky) (w : World) :
    Calls Try.prog 25 #[.agg #[.int .i64 a.T, .int .i64 a.O, .int .i64 a.S], .agg #[.int .i64 b.T, .int .i64 b.O, .int .i64 b.S]] w fun e w' => e = .returned (.agg #[.int .i64 (a.min b).T, .int .i64 (a.min b).O, .int .i64 (a.min b).S]) ∧ Below w.heap.size w w' := by
  have k := Lib.hid (fun W => compare_any b a W)
  have hc := Ky.cmp_neg b a
  obtain ⟨W3, hW3⟩ : ∃ W3, W3 = ((w.alloc (.cells #[.int .i64 a.T, .int .i64 a.O, .int .i64 a.S] 27)).alloc (.cells #[.int .i64 b.T, .int .i64 b.O, .int .i64 b.S] 27)).alloc (.cells #[.int .i64 0, .int .i64 0, .int .i64 0] 27) := ⟨_, rfl⟩
  have i0 : Nw w W3 := by rw [hW3]; exact (((Nw.refl w).alloc _).alloc _).alloc _
  have u : Blk W3 w.heap.size 27 #[.int .i64 a.T, .int .i64 a.O, .int .i64 a.S] := by rw [hW3]; exact ((Blk.last w _ _ rfl).alloc _).alloc _
  have v : Blk W3 (w.heap.size + 1) 27 #[.int .i64 b.T, .int .i64 b.O, .int .i64 b.S] := by rw [hW3]; exact (Blk.last _ _ _ (by simp)).alloc _
  have z : Blk W3 (w.heap.size + 1 + 1) 27 #[.int .i64 0, .int .i64 0, .int .i64 0] := by rw [hW3]; exact Blk.last _ _ _ (by simp)
  go_enter Try.func25, Try.ntmps25
  go_upto_region 1 with (fail)
  rw [← hW3]
  clear hW3
  generalize hgc : w.heap.size + 1 + 1 = gc at *
  generalize hgb : w.heap.size + 1 = gb at *
  have u0 : W3.cell? ⟨w.heap.size, 0, none⟩ = some (.int .i64 a.T) := u.cell 0
  have u1 : W3.cell? ⟨w.heap.size, 1, none⟩ = some (.int .i64 a.O) := u.cell 1
  have u2 : W3.cell? ⟨w.heap.size, 2, none⟩ = some (.int .i64 a.S) := u.cell 2
  have v0 : W3.cell? ⟨gb, 0, none⟩ = some (.int .i64 b.T) := v.cell 0
  have v1 : W3.cell? ⟨gb, 1, none⟩ = some (.int .i64 b.O) := v.cell 1
  have v2 : W3.cell? ⟨gb, 2, none⟩ = some (.int .i64 b.S) := v.cell 2
  have hle : w.heap.size ≤ gc := by omega
  clear hgb hgc
  go_wp2_with fail
  refine (k.out _).mono ?_
  rintro e w1 ⟨rfl, b1⟩
  have n1 : Nw w w1 := i0.step b1
  have u' := u.below b1 u.lt
  have v' := v.below b1 v.lt
  have z' := z.below b1 z.lt
  clear u0 u1 u2 v0 v1 v2 u v z b1 i0
  have z0 := z'.cell 0
  have z1 := z'.cell 1
  have z2 := z'.cell 2
  have y0 := z'.frozen 0
  have y1 := z'.frozen 1
  have y2 := z'.frozen 2
  simp at z0 z1 z2
  have N1 := Lib.hid n1
  have Z' := Lib.hid z'
  clear n1 z'
  by_cases h : b.less a = true
  · have hn : b.cmp a < 0 := hc.2 h
    have HM : Hid (a.min b = b) := Lib.hid (if_pos h)
    have v0 : w1.cell? ⟨gb, 0, none⟩ = some (.int .i64 b.T) := v'.cell 0
    have v1 : w1.cell? ⟨gb, 1, none⟩ = some (.int .i64 b.O) := v'.cell 1
    have v2 : w1.cell? ⟨gb, 2, none⟩ = some (.int .i64 b.S) := v'.cell 2
    clear u' v' hc h k
    generalize b.cmp a = cc at *
    go_wp2
    have hb : Blk (((w1.setCell ⟨gc, 0, none⟩ (.int .i64 b.T)).setCell ⟨gc, 1, none⟩ (.int .i64 b.O)).setCell ⟨gc, 2, none⟩ (.int .i64 b.S)) gc 27 #[.int .i64 b.T, .int .i64 b.O, .int .i64 b.S] := ((Z'.out.set_ 0 _).set_ 1 _).set_ 2 _
    have hB : Nw w (((w1.setCell ⟨gc, 0, none⟩ (.int .i64 b.T)).setCell ⟨gc, 1, none⟩ (.int .i64 b.O)).setCell ⟨gc, 2, none⟩ (.int .i64 b.S)) := ((N1.out.set (p := ⟨gc, 0, none⟩) hle _).set (p := ⟨gc, 1, none⟩) hle _).set (p := ⟨gc, 2, none⟩) hle _
    generalize World.setCell _ _ _ = W at hb hB ⊢
    have d0 := hb.cell 0
    have d1 := hb.cell 1
    have d2 := hb.cell 2
    simp at d0 d1 d2
    exact bodyPost_ret (v := .agg #[.int .i64 b.T, .int .i64 b.O, .int .i64 b.S]) (by simp [results, Try.results25, go_sem, d0, d1, d2]) rfl ⟨by rw [HM.out], hB⟩
  · have hn : ¬ b.cmp a < 0 := fun g => h (hc.1 g)
    have HM : Hid (a.min b = a) := Lib.hid (if_neg h)
    have u0 : w1.cell? ⟨w.heap.size, 0, none⟩ = some (.int .i64 a.T) := u'.cell 0
    have u1 : w1.cell? ⟨w.heap.size, 1, none⟩ = some (.int .i64 a.O) := u'.cell 1
    have u2 : w1.cell? ⟨w.heap.size, 2, none⟩ = some (.int .i64 a.S) := u'.cell 2
    clear u' v' hc h k
    generalize b.cmp a = cc at *
    go_wp2
    have hb : Blk (((w1.setCell ⟨gc, 0, none⟩ (.int .i64 a.T)).setCell ⟨gc, 1, none⟩ (.int .i64 a.O)).setCell ⟨gc, 2, none⟩ (.int .i64 a.S)) gc 27 #[.int .i64 a.T, .int .i64 a.O, .int .i64 a.S] := ((Z'.out.set_ 0 _).set_ 1 _).set_ 2 _
    have hB : Nw w (((w1.setCell ⟨gc, 0, none⟩ (.int .i64 a.T)).setCell ⟨gc, 1, none⟩ (.int .i64 a.O)).setCell ⟨gc, 2, none⟩ (.int .i64 a.S)) := ((N1.out.set (p := ⟨gc, 0, none⟩) hle _).set (p := ⟨gc, 1, none⟩) hle _).set (p := ⟨gc, 2, none⟩) hle _
    generalize World.setCell _ _ _ = W at hb hB ⊢
    have d0 := hb.cell 0
    have d1 := hb.cell 1
    have d2 := hb.cell 2
    simp at d0 d1 d2
    exact bodyPost_ret (v := .agg #[.int .i64 a.T, .int .i64 a.O, .int .i64 a.S]) (by simp [results, Try.results25, go_sem, d0, d1, d2]) rfl ⟨by rw [HM.out], hB⟩
theorem bound_yes (R C S L : Nat) (r : Rn) (w : World) (h : RM w R C S L r) (hi : r.is = true) :
    Calls Try.prog 17 #[.pointer (some ⟨R, 0, none⟩)] w fun e w' => e = .returned (.tuple #[.agg #[.int .i64 r.bnd.T, .int .i64 r.bnd.O, .int .i64 r.bnd.S], .bool true]) ∧ Below w.heap.size w w' := by
  have ha : RM (w.alloc (.cells #[.int .i64 0, .int .i64 0, .int .i64 0] 27)) R C S L r := h.new ((Nw.refl w).alloc _)
  have z : Blk (w.alloc (.cells #[.int .i64 0, .int .i64 0, .int .i64 0] 27)) w.heap.size 27 #[.int .i64 0, .int .i64 0, .int .i64 0] := Blk.last w _ _ rfl
  have i0 : Nw w (w.alloc (.cells #[.int .i64 0, .int .i64 0, .int .i64 0] 27)) := (Nw.refl w).alloc _
  go_enter Try.func17, Try.ntmps17
  go_upto_region 1 with (fail)
  generalize w.alloc (.cells #[.int .i64 0, .int .i64 0, .int .i64 0] 27) = W at ha z i0 ⊢
  have k := Lib.hid (none_any R C S L r W ha)
  have c11 := ha.f11
  rw [hi] at c11
  obtain ⟨c8, c9, c10⟩ := ha.fb
  have z0 := z.cell 0
  have z1 := z.cell 1
  have z2 := z.cell 2
  have y0 := z.frozen 0
  have y1 := z.frozen 1
  have y2 := z.frozen 2
  simp at z0 z1 z2
  obtain ⟨gc, hgc⟩ : ∃ gc, w.heap.size = gc := ⟨_, rfl⟩
  rw [hgc] at z z0 z1 z2 y0 y1 y2 ⊢
  have Z := Lib.hid z
  have I0 := Lib.hid i0
  clear z i0 ha h hi
  go_wp2_with fail
  refine k.out.mono ?_
  rintro e w1 ⟨rfl, rfl⟩
  go_wp2
  have hb : Blk (((w1.setCell ⟨gc, 0, none⟩ (.int .i64 r.bnd.T)).setCell ⟨gc, 1, none⟩ (.int .i64 r.bnd.O)).setCell ⟨gc, 2, none⟩ (.int .i64 r.bnd.S)) gc 27 #[.int .i64 r.bnd.T, .int .i64 r.bnd.O, .int .i64 r.bnd.S] := ((Z.out.set_ 0 _).set_ 1 _).set_ 2 _
  have hB : Nw w (((w1.setCell ⟨gc, 0, none⟩ (.int .i64 r.bnd.T)).setCell ⟨gc, 1, none⟩ (.int .i64 r.bnd.O)).setCell ⟨gc, 2, none⟩ (.int .i64 r.bnd.S)) := ((I0.out.set (p := ⟨gc, 0, none⟩) (Nat.le_of_eq hgc) _).set (p := ⟨gc, 1, none⟩) (Nat.le_of_eq hgc) _).set (p := ⟨gc, 2, none⟩) (Nat.le_of_eq hgc) _
  generalize World.setCell _ _ _ = W at hb hB ⊢
  have d0 := hb.cell 0
  have d1 := hb.cell 1
  have d2 := hb.cell 2
  simp at d0 d1 d2
  subst hgc
  exact bodyPost_ret (v := .tuple #[.agg #[.int .i64 r.bnd.T, .int .i64 r.bnd.O, .int .i64 r.bnd.S], .bool true]) (by simp [results, Try.results17, go_sem, d0, d1, d2]) rfl ⟨rfl, hB⟩
theorem bound_no (R C S L : Nat) (r : Rn) (w : World) (h : RM w R C S L r) (hi : r.is = false) :
    Calls Try.prog 17 #[.pointer (some ⟨R, 0, none⟩)] w fun e w' => e = .returned (.tuple #[.agg #[.int .i64 0, .int .i64 0, .int .i64 0], .bool false]) ∧ Below w.heap.size w w' := by
  have ha : RM (w.alloc (.cells #[.int .i64 0, .int .i64 0, .int .i64 0] 27)) R C S L r := h.new ((Nw.refl w).alloc _)
  have z : Blk (w.alloc (.cells #[.int .i64 0, .int .i64 0, .int .i64 0] 27)) w.heap.size 27 #[.int .i64 0, .int .i64 0, .int .i64 0] := Blk.last w _ _ rfl
  have i0 : Nw w (w.alloc (.cells #[.int .i64 0, .int .i64 0, .int .i64 0] 27)) := (Nw.refl w).alloc _
  go_enter Try.func17, Try.ntmps17
  go_upto_region 1 with (fail)
  generalize w.alloc (.cells #[.int .i64 0, .int .i64 0, .int .i64 0] 27) = W at ha z i0 ⊢
  have k := Lib.hid (none_any R C S L r W ha)
  have c11 := ha.f11
  rw [hi] at c11
  have z0 := z.cell 0
  have z1 := z.cell 1
  have z2 := z.cell 2
  have y0 := z.frozen 0
  have y1 := z.frozen 1
  have y2 := z.frozen 2
  simp at z0 z1 z2
  obtain ⟨gc, hgc⟩ : ∃ gc, w.heap.size = gc := ⟨_, rfl⟩
  rw [hgc] at z z0 z1 z2 y0 y1 y2 ⊢
  have Z := Lib.hid z
  have I0 := Lib.hid i0
  clear z i0 ha h hi
  go_wp2_with fail
  refine k.out.mono ?_
  rintro e w1 ⟨rfl, rfl⟩
  go_wp2
  have hb : Blk (((w1.setCell ⟨gc, 0, none⟩ (.int .i64 0)).setCell ⟨gc, 1, none⟩ (.int .i64 0)).setCell ⟨gc, 2, none⟩ (.int .i64 0)) gc 27 #[.int .i64 0, .int .i64 0, .int .i64 0] := ((Z.out.set_ 0 _).set_ 1 _).set_ 2 _
  have hB : Nw w (((w1.setCell ⟨gc, 0, none⟩ (.int .i64 0)).setCell ⟨gc, 1, none⟩ (.int .i64 0)).setCell ⟨gc, 2, none⟩ (.int .i64 0)) := ((I0.out.set (p := ⟨gc, 0, none⟩) (Nat.le_of_eq hgc) _).set (p := ⟨gc, 1, none⟩) (Nat.le_of_eq hgc) _).set (p := ⟨gc, 2, none⟩) (Nat.le_of_eq hgc) _
  generalize World.setCell _ _ _ = W at hb hB ⊢
  have d0 := hb.cell 0
  have d1 := hb.cell 1
  have d2 := hb.cell 2
  simp at d0 d1 d2
  subst hgc
  exact bodyPost_ret (v := .tuple #[.agg #[.int .i64 0, .int .i64 0, .int .i64 0], .bool false]) (by simp [results, Try.results17, go_sem, d0, d1, d2]) rfl ⟨rfl, hB⟩
theorem bound_nil (w : World) :
    Calls Try.prog 17 #[.pointer none] w fun e w' => e = .returned (.tuple #[.agg #[.int .i64 0, .int .i64 0, .int .i64 0], .bool false]) ∧ Below w.heap.size w w' := by
  have z : Blk (w.alloc (.cells #[.int .i64 0, .int .i64 0, .int .i64 0] 27)) w.heap.size 27 #[.int .i64 0, .int .i64 0, .int .i64 0] := Blk.last w _ _ rfl
  have i0 : Nw w (w.alloc (.cells #[.int .i64 0, .int .i64 0, .int .i64 0] 27)) := (Nw.refl w).alloc _
  go_enter Try.func17, Try.ntmps17
  go_upto_region 1 with (fail)
  generalize w.alloc (.cells #[.int .i64 0, .int .i64 0, .int .i64 0] 27) = W at z i0 ⊢
  have k := Lib.hid (none_nil W)
  have z0 := z.cell 0
  have z1 := z.cell 1
  have z2 := z.cell 2
  have y0 := z.frozen 0
  have y1 := z.frozen 1
  have y2 := z.frozen 2
  simp at z0 z1 z2
  obtain ⟨gc, hgc⟩ : ∃ gc, w.heap.size = gc := ⟨_, rfl⟩
  rw [hgc] at z z0 z1 z2 y0 y1 y2 ⊢
  have Z := Lib.hid z
  have I0 := Lib.hid i0
  clear z i0
  go_wp2_with fail
  refine k.out.mono ?_
  rintro e w1 ⟨rfl, rfl⟩
  go_wp2
  have hb : Blk (((w1.setCell ⟨gc, 0, none⟩ (.int .i64 0)).setCell ⟨gc, 1, none⟩ (.int .i64 0)).setCell ⟨gc, 2, none⟩ (.int .i64 0)) gc 27 #[.int .i64 0, .int .i64 0, .int .i64 0] := ((Z.out.set_ 0 _).set_ 1 _).set_ 2 _
  have hB : Nw w (((w1.setCell ⟨gc, 0, none⟩ (.int .i64 0)).setCell ⟨gc, 1, none⟩ (.int .i64 0)).setCell ⟨gc, 2, none⟩ (.int .i64 0)) := ((I0.out.set (p := ⟨gc, 0, none⟩) (Nat.le_of_eq hgc) _).set (p := ⟨gc, 1, none⟩) (Nat.le_of_eq hgc) _).set (p := ⟨gc, 2, none⟩) (Nat.le_of_eq hgc) _
  generalize World.setCell _ _ _ = W at hb hB ⊢
  have d0 := hb.cell 0
  have d1 := hb.cell 1
  have d2 := hb.cell 2
  simp at d0 d1 d2
  subst hgc
  exact bodyPost_ret (v := .tuple #[.agg #[.int .i64 0, .int .i64 0, .int .i64 0], .bool false]) (by simp [results, Try.results17, go_sem, d0, d1, d2]) rfl ⟨rfl, hB⟩
end Go.Proofs.Ytbgpbbepeemieaa
