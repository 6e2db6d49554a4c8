/- RoundsBound: the parts of the law: Top, Compare, lower, may, Sent. Helper. -/
import Derived.Test.YtbgpbbepeemieaaBndInv
import Derived.Test.YtbgpbbepeemieaaBndSee
namespace Go.Proofs.Ytbgpbbepeemieaa
open Go.RowKit
set_option linter.unusedVariables false
set_option linter.unusedSimpArgs false
theorem top_any (w : World) : Calls Try.prog 8 #[] w fun e w' => e = .returned (.agg #[.int .i64 kmax.T, .int .i64 kmax.O, .int .i64 kmax.S]) ∧ Below w.heap.size w w' := by
  go_enter Try.func8, Try.ntmps8
  go_wp2
  exact bodyPost_ret (v := .agg #[.int .i64 kmax.T, .int .i64 kmax.O, .int .i64 kmax.S]) (by simp [results, Try.results8, go_sem, kmax]) rfl ⟨rfl, by repeat (first | exact Below.refl _ _ | refine Below.setCell ?_ (by simp) _ | refine Below.alloc ?_ (by simp) _)⟩
theorem refCompare_any (a b : Ky) (w : World) :
    Calls Try.prog 10 #[.agg #[.int .i64 a.T, .int .i64 a.O, .int .i64 a.S], .agg #[.int .i64 b.T, .int .i64 b.O, .int .i64 b.S]] w fun e w' => e = .returned (.int .i64 (a.cmp b)) ∧ Below w.heap.size w w' := by
  have k1 := Lib.hid (fun W => refLess_any a b W)
  have k2 := Lib.hid (fun W => refLess_any b a W)
  unfold Ky.cmp
  obtain ⟨W2, hW2⟩ : ∃ W2, W2 = (w.alloc (.cells #[.int .i64 a.T, .int .i64 a.O, .int .i64 a.S] 27)).alloc (.cells #[.int .i64 b.T, .int .i64 b.O, .int .i64 b.S] 27) := ⟨_, rfl⟩
  have i0 : Nw w W2 := by rw [hW2]; exact ((Nw.refl w).alloc _).alloc _
  have u : Blk W2 w.heap.size 27 #[.int .i64 a.T, .int .i64 a.O, .int .i64 a.S] := by rw [hW2]; exact (Blk.last w _ _ rfl).alloc _
  have v : Blk W2 (w.heap.size + 1) 27 #[.int .i64 b.T, .int .i64 b.O, .int .i64 b.S] := by rw [hW2]; exact Blk.last _ _ _ (by simp)
  generalize a.less b = l1 at *
  generalize b.less a = l2 at *
  go_enter Try.func10, Try.ntmps10
  go_upto_region 1 with (fail)
  rw [← hW2]
  clear hW2
  generalize w.heap.size + 1 = gb at *
  have I0 := Lib.hid i0
  have U := Lib.hid u
  have V := Lib.hid v
  have u0 : W2.cell? ⟨w.heap.size, 0, none⟩ = some (.int .i64 a.T) := u.cell 0
  have u1 : W2.cell? ⟨w.heap.size, 1, none⟩ = some (.int .i64 a.O) := u.cell 1
  have u2 : W2.cell? ⟨w.heap.size, 2, none⟩ = some (.int .i64 a.S) := u.cell 2
  have v0 : W2.cell? ⟨gb, 0, none⟩ = some (.int .i64 b.T) := v.cell 0
  have v1 : W2.cell? ⟨gb, 1, none⟩ = some (.int .i64 b.O) := v.cell 1
  have v2 : W2.cell? ⟨gb, 2, none⟩ = some (.int .i64 b.S) := v.cell 2
  clear i0 u v
  cases l1 with
  | true =>
    go_wp2_with fail
    refine (k1.out _).mono ?_
    rintro e w1 ⟨rfl, b1⟩
    go_wp2_with fail
    go_ret
    exact ⟨rfl, I0.out.step b1⟩
  | false =>
    go_wp2_with fail
    refine (k1.out _).mono ?_
    rintro e w1 ⟨rfl, b1⟩
    have u' := U.out.below b1 U.out.lt
    have v' := V.out.below b1 V.out.lt
    have n1 := I0.out.step b1
    have N1 := Lib.hid n1
    clear u0 u1 u2 v0 v1 v2 b1 n1
    have u0 : w1.cell? ⟨w.heap.size, 0, none⟩ = some (.int .i64 a.T) := u'.cell 0
    have u1 : w1.cell? ⟨w.heap.size, 1, none⟩ = some (.int .i64 a.O) := u'.cell 1
    have u2 : w1.cell? ⟨w.heap.size, 2, none⟩ = some (.int .i64 a.S) := u'.cell 2
    have v0 : w1.cell? ⟨gb, 0, none⟩ = some (.int .i64 b.T) := v'.cell 0
    have v1 : w1.cell? ⟨gb, 1, none⟩ = some (.int .i64 b.O) := v'.cell 1
    have v2 : w1.cell? ⟨gb, 2, none⟩ = some (.int .i64 b.S) := v'.cell 2
    clear u' v'
    cases l2 with
    | true =>
      go_wp2_with fail
      refine (k2.out _).mono ?_
      rintro e w2 ⟨rfl, b2⟩
      go_wp2_with fail
      go_ret
      exact ⟨rfl, N1.out.step b2⟩
    | false =>
      go_wp2_with fail
      refine (k2.out _).mono ?_
      rintro e w2 ⟨rfl, b2⟩
      go_wp2_with fail
      go_ret
      exact ⟨rfl, N1.out.step b2⟩
theorem sent_any (R C S L : Nat) (r : Rn) (p : Int) (k : Ky) (w : World) (h : RM w R C S L r) :
    Calls Try.prog 15 #[.pointer (some ⟨R, 0, none⟩), .int .i64 p, .agg #[.int .i64 k.T, .int .i64 k.O, .int .i64 k.S]] w fun e w' => e = .returned (.tuple #[]) ∧ RM w' R C S L (r.sent p k) ∧ Chg (Four R C S L) w w' := by
  unfold Rn.sent
  by_cases hr : 0 ≤ p ∧ p ≤ r.n ∧ r.half ≠ 0 ∧ r.col p.toNat = r.num
  · rw [if_pos hr]
    obtain ⟨q, rfl⟩ := Int.eq_ofNat_of_zero_le hr.1
    exact sent_yes R C S L r q k w h (by omega) hr.2.2.1 hr.2.2.2
  · rw [if_neg hr]
    exact (sent_no R C S L r p k w h hr).mono fun e w' ⟨a, b⟩ => ⟨a, h.new b, Chg.of_below b (Nat.le_refl _) _⟩
theorem may_any (kd p x y z o : Int) (w : World) :
    Calls Try.prog 12 #[.agg #[.int .i64 kd, .int .i64 p, .int .i64 x, .int .i64 y, .int .i64 z, .int .i64 o]] w fun e w' => e = .returned (.bool (decide (x ≤ 1099511627776) && decide (0 ≤ o))) ∧ Below w.heap.size w w' := by
  by_cases h1 : x ≤ 1099511627776
  · go_enter Try.func12, Try.ntmps12
    go_wp2
    go_ret
    exact ⟨ret_bool (by simp [h1]), (Nw.refl w).alloc _⟩
  · go_enter Try.func12, Try.ntmps12
    go_wp2
    go_ret
    exact ⟨ret_bool (by simp; omega), (Nw.refl w).alloc _⟩
/-- The least key so far, in its box. -/
def LowAt (w : World) (B : Nat) (low : Ky) : Prop := Blk w B 27 #[.int .i64 low.T, .int .i64 low.O, .int .i64 low.S]
set_option maxHeartbeats 800000 in
theorem lower_any (B : Nat) (low k : Ky) (w : World) (h : LowAt w B low) :
    Calls Try.prog 9 #[.agg #[.int .i64 k.T, .int .i64 k.O, .int .i64 k.S], .pointer (some ⟨B, 0, none⟩)] w fun e w' => e = .returned (.bool true) ∧ LowAt w' B (low.min k) ∧ Chg (fun i => i = B) w w' := by
  have kc := Lib.hid (fun W => refCompare_any k low W)
  have hc := Ky.cmp_neg k low
  have i0 : Nw w (w.alloc (.cells #[.int .i64 k.T, .int .i64 k.O, .int .i64 k.S] 27)) := (Nw.refl w).alloc _
  have u : Blk (w.alloc (.cells #[.int .i64 k.T, .int .i64 k.O, .int .i64 k.S] 27)) w.heap.size 27 #[.int .i64 k.T, .int .i64 k.O, .int .i64 k.S] := Blk.last w _ _ rfl
  have v : LowAt (w.alloc (.cells #[.int .i64 k.T, .int .i64 k.O, .int .i64 k.S] 27)) B low := Blk.alloc h _
  go_enter Try.func9, Try.ntmps9
  go_upto_region 1 with (fail)
  generalize w.alloc (.cells #[.int .i64 k.T, .int .i64 k.O, .int .i64 k.S] 27) = W2 at i0 u v ⊢
  have hkb : B < w.heap.size := h.lt
  obtain ⟨kb, hk⟩ : ∃ kb, w.heap.size = kb := ⟨_, rfl⟩
  have I0 := Lib.hid i0
  rw [hk] at u hkb ⊢
  have U := Lib.hid u
  have V := Lib.hid v
  have u0 : W2.cell? ⟨kb, 0, none⟩ = some (.int .i64 k.T) := u.cell 0
  have u1 : W2.cell? ⟨kb, 1, none⟩ = some (.int .i64 k.O) := u.cell 1
  have u2 : W2.cell? ⟨kb, 2, none⟩ = some (.int .i64 k.S) := u.cell 2
  have v0 : W2.cell? ⟨B, 0, none⟩ = some (.int .i64 low.T) := v.cell 0
  have v1 : W2.cell? ⟨B, 1, none⟩ = some (.int .i64 low.O) := v.cell 1
  have v2 : W2.cell? ⟨B, 2, none⟩ = some (.int .i64 low.S) := v.cell 2
  clear i0 u v h hk
  go_wp2_with fail
  refine (kc.out _).mono ?_
  rintro e w1 ⟨rfl, b1⟩
  have u' := U.out.below b1 U.out.lt
  have v' : LowAt w1 B low := V.out.below b1 V.out.lt
  have N1 := Lib.hid (I0.out.step b1)
  clear u0 u1 u2 v0 v1 v2 b1
  have V' := Lib.hid v'
  have u0 : w1.cell? ⟨kb, 0, none⟩ = some (.int .i64 k.T) := u'.cell 0
  have u1 : w1.cell? ⟨kb, 1, none⟩ = some (.int .i64 k.O) := u'.cell 1
  have u2 : w1.cell? ⟨kb, 2, none⟩ = some (.int .i64 k.S) := u'.cell 2
  have v0 : w1.cell? ⟨B, 0, none⟩ = some (.int .i64 low.T) := v'.cell 0
  have v1 : w1.cell? ⟨B, 1, none⟩ = some (.int .i64 low.O) := v'.cell 1
  have v2 : w1.cell? ⟨B, 2, none⟩ = some (.int .i64 low.S) := v'.cell 2
  have y0 := v'.frozen 0
  have y1 := v'.frozen 1
  have y2 := v'.frozen 2
  clear u' v'
  by_cases hl : k.less low = true
  · have hn : k.cmp low < 0 := hc.2 hl
    have HM : Hid (low.min k = k) := Lib.hid (if_pos hl)
    clear hc hl
    generalize k.cmp low = cc at *
    go_wp2_with fail
    go_ret
    rw [HM.out]
    exact ⟨rfl, ((V'.out.set_ 0 _).set_ 1 _).set_ 2 _, (((Chg.of_below N1.out (Nat.le_refl _) (fun i => i = B)).setCell (p := ⟨B, 0, none⟩) (.inl rfl) _).setCell (p := ⟨B, 1, none⟩) (.inl rfl) _).setCell (p := ⟨B, 2, none⟩) (.inl rfl) _⟩
  · have hn : ¬ k.cmp low < 0 := fun g => hl (hc.1 g)
    have HM : Hid (low.min k = low) := Lib.hid (if_neg hl)
    clear hc hl
    generalize k.cmp low = cc at *
    go_wp2_with fail
    go_ret
    rw [HM.out]
    exact ⟨rfl, V'.out, Chg.of_below N1.out (Nat.le_refl _) _⟩
end Go.Proofs.Ytbgpbbepeemieaa
