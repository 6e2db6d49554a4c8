/- OrderCompares' walk. -/
import Derived.Test.YtefgpnalahijgaaOrdKnown
namespace Go.Proofs.Ytefgpnalahijgaa
open Go.RowKit
set_option linter.unusedVariables false
set_option linter.unusedSimpArgs false
theorem Ky.cmp_lt {a b : Ky} (h : a.less b = true) : a.cmp b = -1 := by simp [Ky.cmp, h]
theorem Ky.cmp_gt {a b : Ky} (h : b.less a = true) : a.cmp b = 1 := by simp [Ky.cmp, h, Ky.less_asymm h]
theorem Ky.parts {a b : Ky} (h : a.less b = true ∨ b.less a = true) : a.T ≠ b.T ∨ a.T = b.T ∧ a.O ≠ b.O ∨ a.T = b.T ∧ a.O = b.O ∧ a.S ≠ b.S := by
  rw [Ky.less_iff, Ky.less_iff] at h
  omega
set_option maxHeartbeats 4000000 in
set_option maxRecDepth 100000 in
theorem compares_lt0 (x1 x2 x3 y1 y2 y3 z1 z2 z3 : Int) (w : World) (h : (⟨x1, x2, x3⟩ : Ky).less (⟨y1, y2, y3⟩ : Ky) = true) (q : Bool) (hq : (⟨y1, y2, y3⟩ : Ky).less (⟨z1, z2, z3⟩ : Ky) = q) (hac : q = true → (⟨x1, x2, x3⟩ : Ky).less (⟨z1, z2, z3⟩ : Ky) = true) (hp : ¬ x1 = y1) :
    Calls Try.prog 3 #[.agg #[.int .i64 x1, .int .i64 x2, .int .i64 x3], .agg #[.int .i64 y1, .int .i64 y2, .int .i64 y3], .agg #[.int .i64 z1, .int .i64 z2, .int .i64 z3]] w fun e w' => e = .returned (.bool true) ∧ Below w.heap.size w w' := by
  have rl1 := Lib.hid (fun W => by have := refLess_any (⟨x1, x2, x3⟩ : Ky) (⟨y1, y2, y3⟩ : Ky) W; rw [h] at this; dsimp only at this; exact this)
  have rl2 := Lib.hid (fun W => by have := refLess_any (⟨y1, y2, y3⟩ : Ky) (⟨x1, x2, x3⟩ : Ky) W; rw [Ky.less_asymm h] at this; dsimp only at this; exact this)
  have rc1 := Lib.hid (fun W => by have := compare_any (⟨x1, x2, x3⟩ : Ky) (⟨y1, y2, y3⟩ : Ky) W; rw [Ky.cmp_lt h] at this; dsimp only at this; exact this)
  have rc2 := Lib.hid (fun W => by have := compare_any (⟨y1, y2, y3⟩ : Ky) (⟨x1, x2, x3⟩ : Ky) W; rw [Ky.cmp_gt h] at this; dsimp only at this; exact this)
  have rl3 := Lib.hid (fun W => by have := less_any (⟨x1, x2, x3⟩ : Ky) (⟨y1, y2, y3⟩ : Ky) W; rw [Ky.cmp_lt h] at this; dsimp only at this; exact this)
  have rb := Lib.hid (fun W => by have := byKey_any (⟨x1, x2, x3⟩ : Ky) (⟨y1, y2, y3⟩ : Ky) 3 0 0 0 0 0 W; rw [Ky.cmp_lt h] at this; dsimp only at this; exact this)
  have hm : (⟨y1, y2, y3⟩ : Ky).cmp (⟨z1, z2, z3⟩ : Ky) < 0 ↔ q = true := by rw [Ky.cmp_neg, hq]
  have rl4 := Lib.hid (fun W => by have := less_any (⟨y1, y2, y3⟩ : Ky) (⟨z1, z2, z3⟩ : Ky) W; rw [show decide ((⟨y1, y2, y3⟩ : Ky).cmp (⟨z1, z2, z3⟩ : Ky) < 0) = q by cases q <;> simp [hm]] at this; dsimp only at this; exact this)
  clear hq hm
  have HH := Lib.hid h
  clear h
  have i0 : Nw w (((w.alloc (.cells #[.int .i64 x1, .int .i64 x2, .int .i64 x3] 23)).alloc (.cells #[.int .i64 y1, .int .i64 y2, .int .i64 y3] 23)).alloc (.cells #[.int .i64 z1, .int .i64 z2, .int .i64 z3] 23)) := (((Nw.refl w).alloc _).alloc _).alloc _
  have u : Blk (((w.alloc (.cells #[.int .i64 x1, .int .i64 x2, .int .i64 x3] 23)).alloc (.cells #[.int .i64 y1, .int .i64 y2, .int .i64 y3] 23)).alloc (.cells #[.int .i64 z1, .int .i64 z2, .int .i64 z3] 23)) w.heap.size 23 #[.int .i64 x1, .int .i64 x2, .int .i64 x3] := ((Blk.last w _ _ rfl).alloc _).alloc _
  have v : Blk (((w.alloc (.cells #[.int .i64 x1, .int .i64 x2, .int .i64 x3] 23)).alloc (.cells #[.int .i64 y1, .int .i64 y2, .int .i64 y3] 23)).alloc (.cells #[.int .i64 z1, .int .i64 z2, .int .i64 z3] 23)) (w.heap.size + 1) 23 #[.int .i64 y1, .int .i64 y2, .int .i64 y3] := (Blk.last _ _ _ (by simp)).alloc _
  have z : Blk (((w.alloc (.cells #[.int .i64 x1, .int .i64 x2, .int .i64 x3] 23)).alloc (.cells #[.int .i64 y1, .int .i64 y2, .int .i64 y3] 23)).alloc (.cells #[.int .i64 z1, .int .i64 z2, .int .i64 z3] 23)) (w.heap.size + 1 + 1) 23 #[.int .i64 z1, .int .i64 z2, .int .i64 z3] := Blk.last _ _ _ (by simp)
  go_enter Try.func3, Try.ntmps3
  go_upto_region 1 with (fail)
  generalize (((w.alloc (.cells #[.int .i64 x1, .int .i64 x2, .int .i64 x3] 23)).alloc (.cells #[.int .i64 y1, .int .i64 y2, .int .i64 y3] 23)).alloc (.cells #[.int .i64 z1, .int .i64 z2, .int .i64 z3] 23)) = wc at i0 u v z ⊢
  generalize w.heap.size + 1 + 1 = gc at *
  generalize w.heap.size + 1 = gb at *
  have I0 := Lib.hid i0
  clear i0
  obtain ⟨ga, hga⟩ : ∃ ga, w.heap.size = ga := ⟨_, rfl⟩
  rw [hga] at u ⊢
  have a0 : wc.cell? ⟨ga, 0, none⟩ = some (.int .i64 x1) := u.cell 0
  have a1 : wc.cell? ⟨ga, 1, none⟩ = some (.int .i64 x2) := u.cell 1
  have a2 : wc.cell? ⟨ga, 2, none⟩ = some (.int .i64 x3) := u.cell 2
  have b0 : wc.cell? ⟨gb, 0, none⟩ = some (.int .i64 y1) := v.cell 0
  have b1 : wc.cell? ⟨gb, 1, none⟩ = some (.int .i64 y2) := v.cell 1
  have b2 : wc.cell? ⟨gb, 2, none⟩ = some (.int .i64 y3) := v.cell 2
  have c0 : wc.cell? ⟨gc, 0, none⟩ = some (.int .i64 z1) := z.cell 0
  have c1 : wc.cell? ⟨gc, 1, none⟩ = some (.int .i64 z2) := z.cell 1
  have c2 : wc.cell? ⟨gc, 2, none⟩ = some (.int .i64 z3) := z.cell 2
  have hss : ∀ W, Nw wc W → Nw wc W ∧ W.cell? ⟨ga, 0, none⟩ = some (.int .i64 x1) ∧ W.cell? ⟨ga, 1, none⟩ = some (.int .i64 x2) ∧ W.cell? ⟨ga, 2, none⟩ = some (.int .i64 x3) ∧ W.cell? ⟨gb, 0, none⟩ = some (.int .i64 y1) ∧ W.cell? ⟨gb, 1, none⟩ = some (.int .i64 y2) ∧ W.cell? ⟨gb, 2, none⟩ = some (.int .i64 y3) ∧ W.cell? ⟨gc, 0, none⟩ = some (.int .i64 z1) ∧ W.cell? ⟨gc, 1, none⟩ = some (.int .i64 z2) ∧ W.cell? ⟨gc, 2, none⟩ = some (.int .i64 z3) := fun W h => ⟨h, h.cell a0, h.cell a1, h.cell a2, h.cell b0, h.cell b1, h.cell b2, h.cell c0, h.cell c1, h.cell c2⟩
  have HSS := Lib.hid hss
  have n0 := Nw.refl wc
  clear hss u v z
  go_wp2_with fail
  refine (rl1.out _).mono ?_
  rintro e w1 ⟨rfl, bl1⟩
  have n1 : Nw wc w1 := Nw.step n0 bl1
  clear a0 a1 a2 b0 b1 b2 c0 c1 c2
  obtain ⟨_, a0, a1, a2, b0, b1, b2, c0, c1, c2⟩ := HSS.out w1 n1
  clear bl1 n0
  go_wp2_with fail
  refine (rl2.out _).mono ?_
  rintro e w2 ⟨rfl, bl2⟩
  have n2 : Nw wc w2 := Nw.step n1 bl2
  clear a0 a1 a2 b0 b1 b2 c0 c1 c2
  obtain ⟨_, a0, a1, a2, b0, b1, b2, c0, c1, c2⟩ := HSS.out w2 n2
  clear bl2 n1
  go_wp2_with fail
  refine (rc1.out _).mono ?_
  rintro e w3 ⟨rfl, bl3⟩
  have n3 : Nw wc w3 := Nw.step n2 bl3
  clear a0 a1 a2 b0 b1 b2 c0 c1 c2
  obtain ⟨_, a0, a1, a2, b0, b1, b2, c0, c1, c2⟩ := HSS.out w3 n3
  clear bl3 n2
  go_wp2_with fail
  refine (rc2.out _).mono ?_
  rintro e w4 ⟨rfl, bl4⟩
  have n4 : Nw wc w4 := Nw.step n3 bl4
  clear a0 a1 a2 b0 b1 b2 c0 c1 c2
  obtain ⟨_, a0, a1, a2, b0, b1, b2, c0, c1, c2⟩ := HSS.out w4 n4
  clear bl4 n3
  go_wp2_with fail
  refine (rl3.out _).mono ?_
  rintro e w5 ⟨rfl, bl5⟩
  have n5 : Nw wc w5 := Nw.step n4 bl5
  clear a0 a1 a2 b0 b1 b2 c0 c1 c2
  obtain ⟨_, a0, a1, a2, b0, b1, b2, c0, c1, c2⟩ := HSS.out w5 n5
  clear bl5 n4
  go_wp2_with fail
  refine (rb.out _).mono ?_
  rintro e w6 ⟨rfl, bl6⟩
  have n6 : Nw wc w6 := Nw.step n5 bl6
  clear a0 a1 a2 b0 b1 b2 c0 c1 c2
  obtain ⟨_, a0, a1, a2, b0, b1, b2, c0, c1, c2⟩ := HSS.out w6 n6
  clear bl6 n5
  go_wp2_with fail
  refine (rl3.out _).mono ?_
  rintro e w7 ⟨rfl, bl7⟩
  have n7 : Nw wc w7 := Nw.step n6 bl7
  clear a0 a1 a2 b0 b1 b2 c0 c1 c2
  obtain ⟨_, a0, a1, a2, b0, b1, b2, c0, c1, c2⟩ := HSS.out w7 n7
  clear bl7 n6
  cases q with
  | false =>
    clear hac
    go_wp2_with fail
    refine (rl4.out _).mono ?_
    rintro e w8 ⟨rfl, bl8⟩
    have n8 : Nw wc w8 := Nw.step n7 bl8
    clear a0 a1 a2 b0 b1 b2 c0 c1 c2
    obtain ⟨_, a0, a1, a2, b0, b1, b2, c0, c1, c2⟩ := HSS.out w8 n8
    clear bl8 n7
    go_wp2_with fail
    refine (known_any _).mono ?_
    rintro e w9 ⟨rfl, bl9⟩
    have n9 : Nw wc w9 := Nw.step n8 bl9
    clear bl9 n8 a0 a1 a2 b0 b1 b2 c0 c1 c2
    go_wp2_with fail
    go_ret
    exact ⟨rfl, I0.out.step n9⟩
  | true =>
    have rl5 := Lib.hid (fun W => by have := less_any (⟨x1, x2, x3⟩ : Ky) (⟨z1, z2, z3⟩ : Ky) W; rw [Ky.cmp_lt (hac rfl)] at this; dsimp only at this; exact this)
    clear hac
    go_wp2_with fail
    refine (rl4.out _).mono ?_
    rintro e w8 ⟨rfl, bl8⟩
    have n8 : Nw wc w8 := Nw.step n7 bl8
    clear a0 a1 a2 b0 b1 b2 c0 c1 c2
    obtain ⟨_, a0, a1, a2, b0, b1, b2, c0, c1, c2⟩ := HSS.out w8 n8
    clear bl8 n7
    go_wp2_with fail
    refine (rl5.out _).mono ?_
    rintro e w9 ⟨rfl, bl9⟩
    have n9 : Nw wc w9 := Nw.step n8 bl9
    clear a0 a1 a2 b0 b1 b2 c0 c1 c2
    obtain ⟨_, a0, a1, a2, b0, b1, b2, c0, c1, c2⟩ := HSS.out w9 n9
    clear bl9 n8
    go_wp2_with fail
    refine (known_any _).mono ?_
    rintro e w10 ⟨rfl, bl10⟩
    have n10 : Nw wc w10 := Nw.step n9 bl10
    clear bl10 n9 a0 a1 a2 b0 b1 b2 c0 c1 c2
    go_wp2_with fail
    go_ret
    exact ⟨rfl, I0.out.step n10⟩
set_option maxHeartbeats 4000000 in
set_option maxRecDepth 100000 in
theorem compares_gt0 (x1 x2 x3 y1 y2 y3 z1 z2 z3 : Int) (w : World) (h : (⟨y1, y2, y3⟩ : Ky).less (⟨x1, x2, x3⟩ : Ky) = true) (hp : ¬ x1 = y1) :
    Calls Try.prog 3 #[.agg #[.int .i64 x1, .int .i64 x2, .int .i64 x3], .agg #[.int .i64 y1, .int .i64 y2, .int .i64 y3], .agg #[.int .i64 z1, .int .i64 z2, .int .i64 z3]] w fun e w' => e = .returned (.bool true) ∧ Below w.heap.size w w' := by
  have rl1 := Lib.hid (fun W => by have := refLess_any (⟨x1, x2, x3⟩ : Ky) (⟨y1, y2, y3⟩ : Ky) W; rw [Ky.less_asymm h] at this; dsimp only at this; exact this)
  have rl2 := Lib.hid (fun W => by have := refLess_any (⟨y1, y2, y3⟩ : Ky) (⟨x1, x2, x3⟩ : Ky) W; rw [h] at this; dsimp only at this; exact this)
  have rc1 := Lib.hid (fun W => by have := compare_any (⟨x1, x2, x3⟩ : Ky) (⟨y1, y2, y3⟩ : Ky) W; rw [Ky.cmp_gt h] at this; dsimp only at this; exact this)
  have rc2 := Lib.hid (fun W => by have := compare_any (⟨y1, y2, y3⟩ : Ky) (⟨x1, x2, x3⟩ : Ky) W; rw [Ky.cmp_lt h] at this; dsimp only at this; exact this)
  have rl3 := Lib.hid (fun W => by have := less_any (⟨x1, x2, x3⟩ : Ky) (⟨y1, y2, y3⟩ : Ky) W; rw [Ky.cmp_gt h] at this; dsimp only at this; exact this)
  have rb := Lib.hid (fun W => by have := byKey_any (⟨x1, x2, x3⟩ : Ky) (⟨y1, y2, y3⟩ : Ky) 3 0 0 0 0 0 W; rw [Ky.cmp_gt h] at this; dsimp only at this; exact this)
  have HH := Lib.hid h
  clear h
  have i0 : Nw w (((w.alloc (.cells #[.int .i64 x1, .int .i64 x2, .int .i64 x3] 23)).alloc (.cells #[.int .i64 y1, .int .i64 y2, .int .i64 y3] 23)).alloc (.cells #[.int .i64 z1, .int .i64 z2, .int .i64 z3] 23)) := (((Nw.refl w).alloc _).alloc _).alloc _
  have u : Blk (((w.alloc (.cells #[.int .i64 x1, .int .i64 x2, .int .i64 x3] 23)).alloc (.cells #[.int .i64 y1, .int .i64 y2, .int .i64 y3] 23)).alloc (.cells #[.int .i64 z1, .int .i64 z2, .int .i64 z3] 23)) w.heap.size 23 #[.int .i64 x1, .int .i64 x2, .int .i64 x3] := ((Blk.last w _ _ rfl).alloc _).alloc _
  have v : Blk (((w.alloc (.cells #[.int .i64 x1, .int .i64 x2, .int .i64 x3] 23)).alloc (.cells #[.int .i64 y1, .int .i64 y2, .int .i64 y3] 23)).alloc (.cells #[.int .i64 z1, .int .i64 z2, .int .i64 z3] 23)) (w.heap.size + 1) 23 #[.int .i64 y1, .int .i64 y2, .int .i64 y3] := (Blk.last _ _ _ (by simp)).alloc _
  have z : Blk (((w.alloc (.cells #[.int .i64 x1, .int .i64 x2, .int .i64 x3] 23)).alloc (.cells #[.int .i64 y1, .int .i64 y2, .int .i64 y3] 23)).alloc (.cells #[.int .i64 z1, .int .i64 z2, .int .i64 z3] 23)) (w.heap.size + 1 + 1) 23 #[.int .i64 z1, .int .i64 z2, .int .i64 z3] := Blk.last _ _ _ (by simp)
  go_enter Try.func3, Try.ntmps3
  go_upto_region 1 with (fail)
  generalize (((w.alloc (.cells #[.int .i64 x1, .int .i64 x2, .int .i64 x3] 23)).alloc (.cells #[.int .i64 y1, .int .i64 y2, .int .i64 y3] 23)).alloc (.cells #[.int .i64 z1, .int .i64 z2, .int .i64 z3] 23)) = wc at i0 u v z ⊢
  generalize w.heap.size + 1 + 1 = gc at *
  generalize w.heap.size + 1 = gb at *
  have I0 := Lib.hid i0
  clear i0
  obtain ⟨ga, hga⟩ : ∃ ga, w.heap.size = ga := ⟨_, rfl⟩
  rw [hga] at u ⊢
  have a0 : wc.cell? ⟨ga, 0, none⟩ = some (.int .i64 x1) := u.cell 0
  have a1 : wc.cell? ⟨ga, 1, none⟩ = some (.int .i64 x2) := u.cell 1
  have a2 : wc.cell? ⟨ga, 2, none⟩ = some (.int .i64 x3) := u.cell 2
  have b0 : wc.cell? ⟨gb, 0, none⟩ = some (.int .i64 y1) := v.cell 0
  have b1 : wc.cell? ⟨gb, 1, none⟩ = some (.int .i64 y2) := v.cell 1
  have b2 : wc.cell? ⟨gb, 2, none⟩ = some (.int .i64 y3) := v.cell 2
  have c0 : wc.cell? ⟨gc, 0, none⟩ = some (.int .i64 z1) := z.cell 0
  have c1 : wc.cell? ⟨gc, 1, none⟩ = some (.int .i64 z2) := z.cell 1
  have c2 : wc.cell? ⟨gc, 2, none⟩ = some (.int .i64 z3) := z.cell 2
  have hss : ∀ W, Nw wc W → Nw wc W ∧ W.cell? ⟨ga, 0, none⟩ = some (.int .i64 x1) ∧ W.cell? ⟨ga, 1, none⟩ = some (.int .i64 x2) ∧ W.cell? ⟨ga, 2, none⟩ = some (.int .i64 x3) ∧ W.cell? ⟨gb, 0, none⟩ = some (.int .i64 y1) ∧ W.cell? ⟨gb, 1, none⟩ = some (.int .i64 y2) ∧ W.cell? ⟨gb, 2, none⟩ = some (.int .i64 y3) ∧ W.cell? ⟨gc, 0, none⟩ = some (.int .i64 z1) ∧ W.cell? ⟨gc, 1, none⟩ = some (.int .i64 z2) ∧ W.cell? ⟨gc, 2, none⟩ = some (.int .i64 z3) := fun W h => ⟨h, h.cell a0, h.cell a1, h.cell a2, h.cell b0, h.cell b1, h.cell b2, h.cell c0, h.cell c1, h.cell c2⟩
  have HSS := Lib.hid hss
  have n0 := Nw.refl wc
  clear hss u v z
  go_wp2_with fail
  refine (rl1.out _).mono ?_
  rintro e w1 ⟨rfl, bl1⟩
  have n1 : Nw wc w1 := Nw.step n0 bl1
  clear a0 a1 a2 b0 b1 b2 c0 c1 c2
  obtain ⟨_, a0, a1, a2, b0, b1, b2, c0, c1, c2⟩ := HSS.out w1 n1
  clear bl1 n0
  go_wp2_with fail
  refine (rl2.out _).mono ?_
  rintro e w2 ⟨rfl, bl2⟩
  have n2 : Nw wc w2 := Nw.step n1 bl2
  clear a0 a1 a2 b0 b1 b2 c0 c1 c2
  obtain ⟨_, a0, a1, a2, b0, b1, b2, c0, c1, c2⟩ := HSS.out w2 n2
  clear bl2 n1
  go_wp2_with fail
  refine (rc1.out _).mono ?_
  rintro e w3 ⟨rfl, bl3⟩
  have n3 : Nw wc w3 := Nw.step n2 bl3
  clear a0 a1 a2 b0 b1 b2 c0 c1 c2
  obtain ⟨_, a0, a1, a2, b0, b1, b2, c0, c1, c2⟩ := HSS.out w3 n3
  clear bl3 n2
  go_wp2_with fail
  refine (rc2.out _).mono ?_
  rintro e w4 ⟨rfl, bl4⟩
  have n4 : Nw wc w4 := Nw.step n3 bl4
  clear a0 a1 a2 b0 b1 b2 c0 c1 c2
  obtain ⟨_, a0, a1, a2, b0, b1, b2, c0, c1, c2⟩ := HSS.out w4 n4
  clear bl4 n3
  go_wp2_with fail
  refine (rl3.out _).mono ?_
  rintro e w5 ⟨rfl, bl5⟩
  have n5 : Nw wc w5 := Nw.step n4 bl5
  clear a0 a1 a2 b0 b1 b2 c0 c1 c2
  obtain ⟨_, a0, a1, a2, b0, b1, b2, c0, c1, c2⟩ := HSS.out w5 n5
  clear bl5 n4
  go_wp2_with fail
  refine (rb.out _).mono ?_
  rintro e w6 ⟨rfl, bl6⟩
  have n6 : Nw wc w6 := Nw.step n5 bl6
  clear a0 a1 a2 b0 b1 b2 c0 c1 c2
  obtain ⟨_, a0, a1, a2, b0, b1, b2, c0, c1, c2⟩ := HSS.out w6 n6
  clear bl6 n5
  go_wp2_with fail
  refine (rl3.out _).mono ?_
  rintro e w7 ⟨rfl, bl7⟩
  have n7 : Nw wc w7 := Nw.step n6 bl7
  clear a0 a1 a2 b0 b1 b2 c0 c1 c2
  obtain ⟨_, a0, a1, a2, b0, b1, b2, c0, c1, c2⟩ := HSS.out w7 n7
  clear bl7 n6
  go_wp2_with fail
  refine (known_any _).mono ?_
  rintro e w8 ⟨rfl, bl8⟩
  have n8 : Nw wc w8 := Nw.step n7 bl8
  clear bl8 n7 a0 a1 a2 b0 b1 b2 c0 c1 c2
  go_wp2_with fail
  go_ret
  exact ⟨rfl, I0.out.step n8⟩
set_option maxHeartbeats 4000000 in
set_option maxRecDepth 100000 in
theorem compares_lt1 (x1 x2 x3 y2 y3 z1 z2 z3 : Int) (w : World) (h : (⟨x1, x2, x3⟩ : Ky).less (⟨x1, y2, y3⟩ : Ky) = true) (q : Bool) (hq : (⟨x1, y2, y3⟩ : Ky).less (⟨z1, z2, z3⟩ : Ky) = q) (hac : q = true → (⟨x1, x2, x3⟩ : Ky).less (⟨z1, z2, z3⟩ : Ky) = true) (hp : ¬ x2 = y2) :
    Calls Try.prog 3 #[.agg #[.int .i64 x1, .int .i64 x2, .int .i64 x3], .agg #[.int .i64 x1, .int .i64 y2, .int .i64 y3], .agg #[.int .i64 z1, .int .i64 z2, .int .i64 z3]] w fun e w' => e = .returned (.bool true) ∧ Below w.heap.size w w' := by
  have rl1 := Lib.hid (fun W => by have := refLess_any (⟨x1, x2, x3⟩ : Ky) (⟨x1, y2, y3⟩ : Ky) W; rw [h] at this; dsimp only at this; exact this)
  have rl2 := Lib.hid (fun W => by have := refLess_any (⟨x1, y2, y3⟩ : Ky) (⟨x1, x2, x3⟩ : Ky) W; rw [Ky.less_asymm h] at this; dsimp only at this; exact this)
  have rc1 := Lib.hid (fun W => by have := compare_any (⟨x1, x2, x3⟩ : Ky) (⟨x1, y2, y3⟩ : Ky) W; rw [Ky.cmp_lt h] at this; dsimp only at this; exact this)
  have rc2 := Lib.hid (fun W => by have := compare_any (⟨x1, y2, y3⟩ : Ky) (⟨x1, x2, x3⟩ : Ky) W; rw [Ky.cmp_gt h] at this; dsimp only at this; exact this)
  have rl3 := Lib.hid (fun W => by have := less_any (⟨x1, x2, x3⟩ : Ky) (⟨x1, y2, y3⟩ : Ky) W; rw [Ky.cmp_lt h] at this; dsimp only at this; exact this)
  have rb := Lib.hid (fun W => by have := byKey_any (⟨x1, x2, x3⟩ : Ky) (⟨x1, y2, y3⟩ : Ky) 3 0 0 0 0 0 W; rw [Ky.cmp_lt h] at this; dsimp only at this; exact this)
  have hm : (⟨x1, y2, y3⟩ : Ky).cmp (⟨z1, z2, z3⟩ : Ky) < 0 ↔ q = true := by rw [Ky.cmp_neg, hq]
  have rl4 := Lib.hid (fun W => by have := less_any (⟨x1, y2, y3⟩ : Ky) (⟨z1, z2, z3⟩ : Ky) W; rw [show decide ((⟨x1, y2, y3⟩ : Ky).cmp (⟨z1, z2, z3⟩ : Ky) < 0) = q by cases q <;> simp [hm]] at this; dsimp only at this; exact this)
  clear hq hm
  have HH := Lib.hid h
  clear h
  have i0 : Nw w (((w.alloc (.cells #[.int .i64 x1, .int .i64 x2, .int .i64 x3] 23)).alloc (.cells #[.int .i64 x1, .int .i64 y2, .int .i64 y3] 23)).alloc (.cells #[.int .i64 z1, .int .i64 z2, .int .i64 z3] 23)) := (((Nw.refl w).alloc _).alloc _).alloc _
  have u : Blk (((w.alloc (.cells #[.int .i64 x1, .int .i64 x2, .int .i64 x3] 23)).alloc (.cells #[.int .i64 x1, .int .i64 y2, .int .i64 y3] 23)).alloc (.cells #[.int .i64 z1, .int .i64 z2, .int .i64 z3] 23)) w.heap.size 23 #[.int .i64 x1, .int .i64 x2, .int .i64 x3] := ((Blk.last w _ _ rfl).alloc _).alloc _
  have v : Blk (((w.alloc (.cells #[.int .i64 x1, .int .i64 x2, .int .i64 x3] 23)).alloc (.cells #[.int .i64 x1, .int .i64 y2, .int .i64 y3] 23)).alloc (.cells #[.int .i64 z1, .int .i64 z2, .int .i64 z3] 23)) (w.heap.size + 1) 23 #[.int .i64 x1, .int .i64 y2, .int .i64 y3] := (Blk.last _ _ _ (by simp)).alloc _
  have z : Blk (((w.alloc (.cells #[.int .i64 x1, .int .i64 x2, .int .i64 x3] 23)).alloc (.cells #[.int .i64 x1, .int .i64 y2, .int .i64 y3] 23)).alloc (.cells #[.int .i64 z1, .int .i64 z2, .int .i64 z3] 23)) (w.heap.size + 1 + 1) 23 #[.int .i64 z1, .int .i64 z2, .int .i64 z3] := Blk.last _ _ _ (by simp)
  go_enter Try.func3, Try.ntmps3
  go_upto_region 1 with (fail)
  generalize (((w.alloc (.cells #[.int .i64 x1, .int .i64 x2, .int .i64 x3] 23)).alloc (.cells #[.int .i64 x1, .int .i64 y2, .int .i64 y3] 23)).alloc (.cells #[.int .i64 z1, .int .i64 z2, .int .i64 z3] 23)) = wc at i0 u v z ⊢
  generalize w.heap.size + 1 + 1 = gc at *
  generalize w.heap.size + 1 = gb at *
  have I0 := Lib.hid i0
  clear i0
  obtain ⟨ga, hga⟩ : ∃ ga, w.heap.size = ga := ⟨_, rfl⟩
  rw [hga] at u ⊢
  have a0 : wc.cell? ⟨ga, 0, none⟩ = some (.int .i64 x1) := u.cell 0
  have a1 : wc.cell? ⟨ga, 1, none⟩ = some (.int .i64 x2) := u.cell 1
  have a2 : wc.cell? ⟨ga, 2, none⟩ = some (.int .i64 x3) := u.cell 2
  have b0 : wc.cell? ⟨gb, 0, none⟩ = some (.int .i64 x1) := v.cell 0
  have b1 : wc.cell? ⟨gb, 1, none⟩ = some (.int .i64 y2) := v.cell 1
  have b2 : wc.cell? ⟨gb, 2, none⟩ = some (.int .i64 y3) := v.cell 2
  have c0 : wc.cell? ⟨gc, 0, none⟩ = some (.int .i64 z1) := z.cell 0
  have c1 : wc.cell? ⟨gc, 1, none⟩ = some (.int .i64 z2) := z.cell 1
  have c2 : wc.cell? ⟨gc, 2, none⟩ = some (.int .i64 z3) := z.cell 2
  have hss : ∀ W, Nw wc W → Nw wc W ∧ W.cell? ⟨ga, 0, none⟩ = some (.int .i64 x1) ∧ W.cell? ⟨ga, 1, none⟩ = some (.int .i64 x2) ∧ W.cell? ⟨ga, 2, none⟩ = some (.int .i64 x3) ∧ W.cell? ⟨gb, 0, none⟩ = some (.int .i64 x1) ∧ W.cell? ⟨gb, 1, none⟩ = some (.int .i64 y2) ∧ W.cell? ⟨gb, 2, none⟩ = some (.int .i64 y3) ∧ W.cell? ⟨gc, 0, none⟩ = some (.int .i64 z1) ∧ W.cell? ⟨gc, 1, none⟩ = some (.int .i64 z2) ∧ W.cell? ⟨gc, 2, none⟩ = some (.int .i64 z3) := fun W h => ⟨h, h.cell a0, h.cell a1, h.cell a2, h.cell b0, h.cell b1, h.cell b2, h.cell c0, h.cell c1, h.cell c2⟩
  have HSS := Lib.hid hss
  have n0 := Nw.refl wc
  clear hss u v z
  go_wp2_with fail
  refine (rl1.out _).mono ?_
  rintro e w1 ⟨rfl, bl1⟩
  have n1 : Nw wc w1 := Nw.step n0 bl1
  clear a0 a1 a2 b0 b1 b2 c0 c1 c2
  obtain ⟨_, a0, a1, a2, b0, b1, b2, c0, c1, c2⟩ := HSS.out w1 n1
  clear bl1 n0
  go_wp2_with fail
  refine (rl2.out _).mono ?_
  rintro e w2 ⟨rfl, bl2⟩
  have n2 : Nw wc w2 := Nw.step n1 bl2
  clear a0 a1 a2 b0 b1 b2 c0 c1 c2
  obtain ⟨_, a0, a1, a2, b0, b1, b2, c0, c1, c2⟩ := HSS.out w2 n2
  clear bl2 n1
  go_wp2_with fail
  refine (rc1.out _).mono ?_
  rintro e w3 ⟨rfl, bl3⟩
  have n3 : Nw wc w3 := Nw.step n2 bl3
  clear a0 a1 a2 b0 b1 b2 c0 c1 c2
  obtain ⟨_, a0, a1, a2, b0, b1, b2, c0, c1, c2⟩ := HSS.out w3 n3
  clear bl3 n2
  go_wp2_with fail
  refine (rc2.out _).mono ?_
  rintro e w4 ⟨rfl, bl4⟩
  have n4 : Nw wc w4 := Nw.step n3 bl4
  clear a0 a1 a2 b0 b1 b2 c0 c1 c2
  obtain ⟨_, a0, a1, a2, b0, b1, b2, c0, c1, c2⟩ := HSS.out w4 n4
  clear bl4 n3
  go_wp2_with fail
  refine (rl3.out _).mono ?_
  rintro e w5 ⟨rfl, bl5⟩
  have n5 : Nw wc w5 := Nw.step n4 bl5
  clear a0 a1 a2 b0 b1 b2 c0 c1 c2
  obtain ⟨_, a0, a1, a2, b0, b1, b2, c0, c1, c2⟩ := HSS.out w5 n5
  clear bl5 n4
  go_wp2_with fail
  refine (rb.out _).mono ?_
  rintro e w6 ⟨rfl, bl6⟩
  have n6 : Nw wc w6 := Nw.step n5 bl6
  clear a0 a1 a2 b0 b1 b2 c0 c1 c2
  obtain ⟨_, a0, a1, a2, b0, b1, b2, c0, c1, c2⟩ := HSS.out w6 n6
  clear bl6 n5
  go_wp2_with fail
  refine (rl3.out _).mono ?_
  rintro e w7 ⟨rfl, bl7⟩
  have n7 : Nw wc w7 := Nw.step n6 bl7
  clear a0 a1 a2 b0 b1 b2 c0 c1 c2
  obtain ⟨_, a0, a1, a2, b0, b1, b2, c0, c1, c2⟩ := HSS.out w7 n7
  clear bl7 n6
  cases q with
  | false =>
    clear hac
    go_wp2_with fail
    refine (rl4.out _).mono ?_
    rintro e w8 ⟨rfl, bl8⟩
    have n8 : Nw wc w8 := Nw.step n7 bl8
    clear a0 a1 a2 b0 b1 b2 c0 c1 c2
    obtain ⟨_, a0, a1, a2, b0, b1, b2, c0, c1, c2⟩ := HSS.out w8 n8
    clear bl8 n7
    go_wp2_with fail
    refine (known_any _).mono ?_
    rintro e w9 ⟨rfl, bl9⟩
    have n9 : Nw wc w9 := Nw.step n8 bl9
    clear bl9 n8 a0 a1 a2 b0 b1 b2 c0 c1 c2
    go_wp2_with fail
    go_ret
    exact ⟨rfl, I0.out.step n9⟩
  | true =>
    have rl5 := Lib.hid (fun W => by have := less_any (⟨x1, x2, x3⟩ : Ky) (⟨z1, z2, z3⟩ : Ky) W; rw [Ky.cmp_lt (hac rfl)] at this; dsimp only at this; exact this)
    clear hac
    go_wp2_with fail
    refine (rl4.out _).mono ?_
    rintro e w8 ⟨rfl, bl8⟩
    have n8 : Nw wc w8 := Nw.step n7 bl8
    clear a0 a1 a2 b0 b1 b2 c0 c1 c2
    obtain ⟨_, a0, a1, a2, b0, b1, b2, c0, c1, c2⟩ := HSS.out w8 n8
    clear bl8 n7
    go_wp2_with fail
    refine (rl5.out _).mono ?_
    rintro e w9 ⟨rfl, bl9⟩
    have n9 : Nw wc w9 := Nw.step n8 bl9
    clear a0 a1 a2 b0 b1 b2 c0 c1 c2
    obtain ⟨_, a0, a1, a2, b0, b1, b2, c0, c1, c2⟩ := HSS.out w9 n9
    clear bl9 n8
    go_wp2_with fail
    refine (known_any _).mono ?_
    rintro e w10 ⟨rfl, bl10⟩
    have n10 : Nw wc w10 := Nw.step n9 bl10
    clear bl10 n9 a0 a1 a2 b0 b1 b2 c0 c1 c2
    go_wp2_with fail
    go_ret
    exact ⟨rfl, I0.out.step n10⟩
set_option maxHeartbeats 4000000 in
set_option maxRecDepth 100000 in
theorem compares_gt1 (x1 x2 x3 y2 y3 z1 z2 z3 : Int) (w : World) (h : (⟨x1, y2, y3⟩ : Ky).less (⟨x1, x2, x3⟩ : Ky) = true) (hp : ¬ x2 = y2) :
    Calls Try.prog 3 #[.agg #[.int .i64 x1, .int .i64 x2, .int .i64 x3], .agg #[.int .i64 x1, .int .i64 y2, .int .i64 y3], .agg #[.int .i64 z1, .int .i64 z2, .int .i64 z3]] w fun e w' => e = .returned (.bool true) ∧ Below w.heap.size w w' := by
  have rl1 := Lib.hid (fun W => by have := refLess_any (⟨x1, x2, x3⟩ : Ky) (⟨x1, y2, y3⟩ : Ky) W; rw [Ky.less_asymm h] at this; dsimp only at this; exact this)
  have rl2 := Lib.hid (fun W => by have := refLess_any (⟨x1, y2, y3⟩ : Ky) (⟨x1, x2, x3⟩ : Ky) W; rw [h] at this; dsimp only at this; exact this)
  have rc1 := Lib.hid (fun W => by have := compare_any (⟨x1, x2, x3⟩ : Ky) (⟨x1, y2, y3⟩ : Ky) W; rw [Ky.cmp_gt h] at this; dsimp only at this; exact this)
  have rc2 := Lib.hid (fun W => by have := compare_any (⟨x1, y2, y3⟩ : Ky) (⟨x1, x2, x3⟩ : Ky) W; rw [Ky.cmp_lt h] at this; dsimp only at this; exact this)
  have rl3 := Lib.hid (fun W => by have := less_any (⟨x1, x2, x3⟩ : Ky) (⟨x1, y2, y3⟩ : Ky) W; rw [Ky.cmp_gt h] at this; dsimp only at this; exact this)
  have rb := Lib.hid (fun W => by have := byKey_any (⟨x1, x2, x3⟩ : Ky) (⟨x1, y2, y3⟩ : Ky) 3 0 0 0 0 0 W; rw [Ky.cmp_gt h] at this; dsimp only at this; exact this)
  have HH := Lib.hid h
  clear h
  have i0 : Nw w (((w.alloc (.cells #[.int .i64 x1, .int .i64 x2, .int .i64 x3] 23)).alloc (.cells #[.int .i64 x1, .int .i64 y2, .int .i64 y3] 23)).alloc (.cells #[.int .i64 z1, .int .i64 z2, .int .i64 z3] 23)) := (((Nw.refl w).alloc _).alloc _).alloc _
  have u : Blk (((w.alloc (.cells #[.int .i64 x1, .int .i64 x2, .int .i64 x3] 23)).alloc (.cells #[.int .i64 x1, .int .i64 y2, .int .i64 y3] 23)).alloc (.cells #[.int .i64 z1, .int .i64 z2, .int .i64 z3] 23)) w.heap.size 23 #[.int .i64 x1, .int .i64 x2, .int .i64 x3] := ((Blk.last w _ _ rfl).alloc _).alloc _
  have v : Blk (((w.alloc (.cells #[.int .i64 x1, .int .i64 x2, .int .i64 x3] 23)).alloc (.cells #[.int .i64 x1, .int .i64 y2, .int .i64 y3] 23)).alloc (.cells #[.int .i64 z1, .int .i64 z2, .int .i64 z3] 23)) (w.heap.size + 1) 23 #[.int .i64 x1, .int .i64 y2, .int .i64 y3] := (Blk.last _ _ _ (by simp)).alloc _
  have z : Blk (((w.alloc (.cells #[.int .i64 x1, .int .i64 x2, .int .i64 x3] 23)).alloc (.cells #[.int .i64 x1, .int .i64 y2, .int .i64 y3] 23)).alloc (.cells #[.int .i64 z1, .int .i64 z2, .int .i64 z3] 23)) (w.heap.size + 1 + 1) 23 #[.int .i64 z1, .int .i64 z2, .int .i64 z3] := Blk.last _ _ _ (by simp)
  go_enter Try.func3, Try.ntmps3
  go_upto_region 1 with (fail)
  generalize (((w.alloc (.cells #[.int .i64 x1, .int .i64 x2, .int .i64 x3] 23)).alloc (.cells #[.int .i64 x1, .int .i64 y2, .int .i64 y3] 23)).alloc (.cells #[.int .i64 z1, .int .i64 z2, .int .i64 z3] 23)) = wc at i0 u v z ⊢
  generalize w.heap.size + 1 + 1 = gc at *
  generalize w.heap.size + 1 = gb at *
  have I0 := Lib.hid i0
  clear i0
  obtain ⟨ga, hga⟩ : ∃ ga, w.heap.size = ga := ⟨_, rfl⟩
  rw [hga] at u ⊢
  have a0 : wc.cell? ⟨ga, 0, none⟩ = some (.int .i64 x1) := u.cell 0
  have a1 : wc.cell? ⟨ga, 1, none⟩ = some (.int .i64 x2) := u.cell 1
  have a2 : wc.cell? ⟨ga, 2, none⟩ = some (.int .i64 x3) := u.cell 2
  have b0 : wc.cell? ⟨gb, 0, none⟩ = some (.int .i64 x1) := v.cell 0
  have b1 : wc.cell? ⟨gb, 1, none⟩ = some (.int .i64 y2) := v.cell 1
  have b2 : wc.cell? ⟨gb, 2, none⟩ = some (.int .i64 y3) := v.cell 2
  have c0 : wc.cell? ⟨gc, 0, none⟩ = some (.int .i64 z1) := z.cell 0
  have c1 : wc.cell? ⟨gc, 1, none⟩ = some (.int .i64 z2) := z.cell 1
  have c2 : wc.cell? ⟨gc, 2, none⟩ = some (.int .i64 z3) := z.cell 2
  have hss : ∀ W, Nw wc W → Nw wc W ∧ W.cell? ⟨ga, 0, none⟩ = some (.int .i64 x1) ∧ W.cell? ⟨ga, 1, none⟩ = some (.int .i64 x2) ∧ W.cell? ⟨ga, 2, none⟩ = some (.int .i64 x3) ∧ W.cell? ⟨gb, 0, none⟩ = some (.int .i64 x1) ∧ W.cell? ⟨gb, 1, none⟩ = some (.int .i64 y2) ∧ W.cell? ⟨gb, 2, none⟩ = some (.int .i64 y3) ∧ W.cell? ⟨gc, 0, none⟩ = some (.int .i64 z1) ∧ W.cell? ⟨gc, 1, none⟩ = some (.int .i64 z2) ∧ W.cell? ⟨gc, 2, none⟩ = some (.int .i64 z3) := fun W h => ⟨h, h.cell a0, h.cell a1, h.cell a2, h.cell b0, h.cell b1, h.cell b2, h.cell c0, h.cell c1, h.cell c2⟩
  have HSS := Lib.hid hss
  have n0 := Nw.refl wc
  clear hss u v z
  go_wp2_with fail
  refine (rl1.out _).mono ?_
  rintro e w1 ⟨rfl, bl1⟩
  have n1 : Nw wc w1 := Nw.step n0 bl1
  clear a0 a1 a2 b0 b1 b2 c0 c1 c2
  obtain ⟨_, a0, a1, a2, b0, b1, b2, c0, c1, c2⟩ := HSS.out w1 n1
  clear bl1 n0
  go_wp2_with fail
  refine (rl2.out _).mono ?_
  rintro e w2 ⟨rfl, bl2⟩
  have n2 : Nw wc w2 := Nw.step n1 bl2
  clear a0 a1 a2 b0 b1 b2 c0 c1 c2
  obtain ⟨_, a0, a1, a2, b0, b1, b2, c0, c1, c2⟩ := HSS.out w2 n2
  clear bl2 n1
  go_wp2_with fail
  refine (rc1.out _).mono ?_
  rintro e w3 ⟨rfl, bl3⟩
  have n3 : Nw wc w3 := Nw.step n2 bl3
  clear a0 a1 a2 b0 b1 b2 c0 c1 c2
  obtain ⟨_, a0, a1, a2, b0, b1, b2, c0, c1, c2⟩ := HSS.out w3 n3
  clear bl3 n2
  go_wp2_with fail
  refine (rc2.out _).mono ?_
  rintro e w4 ⟨rfl, bl4⟩
  have n4 : Nw wc w4 := Nw.step n3 bl4
  clear a0 a1 a2 b0 b1 b2 c0 c1 c2
  obtain ⟨_, a0, a1, a2, b0, b1, b2, c0, c1, c2⟩ := HSS.out w4 n4
  clear bl4 n3
  go_wp2_with fail
  refine (rl3.out _).mono ?_
  rintro e w5 ⟨rfl, bl5⟩
  have n5 : Nw wc w5 := Nw.step n4 bl5
  clear a0 a1 a2 b0 b1 b2 c0 c1 c2
  obtain ⟨_, a0, a1, a2, b0, b1, b2, c0, c1, c2⟩ := HSS.out w5 n5
  clear bl5 n4
  go_wp2_with fail
  refine (rb.out _).mono ?_
  rintro e w6 ⟨rfl, bl6⟩
  have n6 : Nw wc w6 := Nw.step n5 bl6
  clear a0 a1 a2 b0 b1 b2 c0 c1 c2
  obtain ⟨_, a0, a1, a2, b0, b1, b2, c0, c1, c2⟩ := HSS.out w6 n6
  clear bl6 n5
  go_wp2_with fail
  refine (rl3.out _).mono ?_
  rintro e w7 ⟨rfl, bl7⟩
  have n7 : Nw wc w7 := Nw.step n6 bl7
  clear a0 a1 a2 b0 b1 b2 c0 c1 c2
  obtain ⟨_, a0, a1, a2, b0, b1, b2, c0, c1, c2⟩ := HSS.out w7 n7
  clear bl7 n6
  go_wp2_with fail
  refine (known_any _).mono ?_
  rintro e w8 ⟨rfl, bl8⟩
  have n8 : Nw wc w8 := Nw.step n7 bl8
  clear bl8 n7 a0 a1 a2 b0 b1 b2 c0 c1 c2
  go_wp2_with fail
  go_ret
  exact ⟨rfl, I0.out.step n8⟩
set_option maxHeartbeats 4000000 in
set_option maxRecDepth 100000 in
theorem compares_lt2 (x1 x2 x3 y3 z1 z2 z3 : Int) (w : World) (h : (⟨x1, x2, x3⟩ : Ky).less (⟨x1, x2, y3⟩ : Ky) = true) (q : Bool) (hq : (⟨x1, x2, y3⟩ : Ky).less (⟨z1, z2, z3⟩ : Ky) = q) (hac : q = true → (⟨x1, x2, x3⟩ : Ky).less (⟨z1, z2, z3⟩ : Ky) = true) (hp : ¬ x3 = y3) :
    Calls Try.prog 3 #[.agg #[.int .i64 x1, .int .i64 x2, .int .i64 x3], .agg #[.int .i64 x1, .int .i64 x2, .int .i64 y3], .agg #[.int .i64 z1, .int .i64 z2, .int .i64 z3]] w fun e w' => e = .returned (.bool true) ∧ Below w.heap.size w w' := by
  have rl1 := Lib.hid (fun W => by have := refLess_any (⟨x1, x2, x3⟩ : Ky) (⟨x1, x2, y3⟩ : Ky) W; rw [h] at this; dsimp only at this; exact this)
  have rl2 := Lib.hid (fun W => by have := refLess_any (⟨x1, x2, y3⟩ : Ky) (⟨x1, x2, x3⟩ : Ky) W; rw [Ky.less_asymm h] at this; dsimp only at this; exact this)
  have rc1 := Lib.hid (fun W => by have := compare_any (⟨x1, x2, x3⟩ : Ky) (⟨x1, x2, y3⟩ : Ky) W; rw [Ky.cmp_lt h] at this; dsimp only at this; exact this)
  have rc2 := Lib.hid (fun W => by have := compare_any (⟨x1, x2, y3⟩ : Ky) (⟨x1, x2, x3⟩ : Ky) W; rw [Ky.cmp_gt h] at this; dsimp only at this; exact this)
  have rl3 := Lib.hid (fun W => by have := less_any (⟨x1, x2, x3⟩ : Ky) (⟨x1, x2, y3⟩ : Ky) W; rw [Ky.cmp_lt h] at this; dsimp only at this; exact this)
  have rb := Lib.hid (fun W => by have := byKey_any (⟨x1, x2, x3⟩ : Ky) (⟨x1, x2, y3⟩ : Ky) 3 0 0 0 0 0 W; rw [Ky.cmp_lt h] at this; dsimp only at this; exact this)
  have hm : (⟨x1, x2, y3⟩ : Ky).cmp (⟨z1, z2, z3⟩ : Ky) < 0 ↔ q = true := by rw [Ky.cmp_neg, hq]
  have rl4 := Lib.hid (fun W => by have := less_any (⟨x1, x2, y3⟩ : Ky) (⟨z1, z2, z3⟩ : Ky) W; rw [show decide ((⟨x1, x2, y3⟩ : Ky).cmp (⟨z1, z2, z3⟩ : Ky) < 0) = q by cases q <;> simp [hm]] at this; dsimp only at this; exact this)
  clear hq hm
  have HH := Lib.hid h
  clear h
  have i0 : Nw w (((w.alloc (.cells #[.int .i64 x1, .int .i64 x2, .int .i64 x3] 23)).alloc (.cells #[.int .i64 x1, .int .i64 x2, .int .i64 y3] 23)).alloc (.cells #[.int .i64 z1, .int .i64 z2, .int .i64 z3] 23)) := (((Nw.refl w).alloc _).alloc _).alloc _
  have u : Blk (((w.alloc (.cells #[.int .i64 x1, .int .i64 x2, .int .i64 x3] 23)).alloc (.cells #[.int .i64 x1, .int .i64 x2, .int .i64 y3] 23)).alloc (.cells #[.int .i64 z1, .int .i64 z2, .int .i64 z3] 23)) w.heap.size 23 #[.int .i64 x1, .int .i64 x2, .int .i64 x3] := ((Blk.last w _ _ rfl).alloc _).alloc _
  have v : Blk (((w.alloc (.cells #[.int .i64 x1, .int .i64 x2, .int .i64 x3] 23)).alloc (.cells #[.int .i64 x1, .int .i64 x2, .int .i64 y3] 23)).alloc (.cells #[.int .i64 z1, .int .i64 z2, .int .i64 z3] 23)) (w.heap.size + 1) 23 #[.int .i64 x1, .int .i64 x2, .int .i64 y3] := (Blk.last _ _ _ (by simp)).alloc _
  have z : Blk (((w.alloc (.cells #[.int .i64 x1, .int .i64 x2, .int .i64 x3] 23)).alloc (.cells #[.int .i64 x1, .int .i64 x2, .int .i64 y3] 23)).alloc (.cells #[.int .i64 z1, .int .i64 z2, .int .i64 z3] 23)) (w.heap.size + 1 + 1) 23 #[.int .i64 z1, .int .i64 z2, .int .i64 z3] := Blk.last _ _ _ (by simp)
  go_enter Try.func3, Try.ntmps3
  go_upto_region 1 with (fail)
  generalize (((w.alloc (.cells #[.int .i64 x1, .int .i64 x2, .int .i64 x3] 23)).alloc (.cells #[.int .i64 x1, .int .i64 x2, .int .i64 y3] 23)).alloc (.cells #[.int .i64 z1, .int .i64 z2, .int .i64 z3] 23)) = wc at i0 u v z ⊢
  generalize w.heap.size + 1 + 1 = gc at *
  generalize w.heap.size + 1 = gb at *
  have I0 := Lib.hid i0
  clear i0
  obtain ⟨ga, hga⟩ : ∃ ga, w.heap.size = ga := ⟨_, rfl⟩
  rw [hga] at u ⊢
  have a0 : wc.cell? ⟨ga, 0, none⟩ = some (.int .i64 x1) := u.cell 0
  have a1 : wc.cell? ⟨ga, 1, none⟩ = some (.int .i64 x2) := u.cell 1
  have a2 : wc.cell? ⟨ga, 2, none⟩ = some (.int .i64 x3) := u.cell 2
  have b0 : wc.cell? ⟨gb, 0, none⟩ = some (.int .i64 x1) := v.cell 0
  have b1 : wc.cell? ⟨gb, 1, none⟩ = some (.int .i64 x2) := v.cell 1
  have b2 : wc.cell? ⟨gb, 2, none⟩ = some (.int .i64 y3) := v.cell 2
  have c0 : wc.cell? ⟨gc, 0, none⟩ = some (.int .i64 z1) := z.cell 0
  have c1 : wc.cell? ⟨gc, 1, none⟩ = some (.int .i64 z2) := z.cell 1
  have c2 : wc.cell? ⟨gc, 2, none⟩ = some (.int .i64 z3) := z.cell 2
  have hss : ∀ W, Nw wc W → Nw wc W ∧ W.cell? ⟨ga, 0, none⟩ = some (.int .i64 x1) ∧ W.cell? ⟨ga, 1, none⟩ = some (.int .i64 x2) ∧ W.cell? ⟨ga, 2, none⟩ = some (.int .i64 x3) ∧ W.cell? ⟨gb, 0, none⟩ = some (.int .i64 x1) ∧ W.cell? ⟨gb, 1, none⟩ = some (.int .i64 x2) ∧ W.cell? ⟨gb, 2, none⟩ = some (.int .i64 y3) ∧ W.cell? ⟨gc, 0, none⟩ = some (.int .i64 z1) ∧ W.cell? ⟨gc, 1, none⟩ = some (.int .i64 z2) ∧ W.cell? ⟨gc, 2, none⟩ = some (.int .i64 z3) := fun W h => ⟨h, h.cell a0, h.cell a1, h.cell a2, h.cell b0, h.cell b1, h.cell b2, h.cell c0, h.cell c1, h.cell c2⟩
  have HSS := Lib.hid hss
  have n0 := Nw.refl wc
  clear hss u v z
  go_wp2_with fail
  refine (rl1.out _).mono ?_
  rintro e w1 ⟨rfl, bl1⟩
  have n1 : Nw wc w1 := Nw.step n0 bl1
  clear a0 a1 a2 b0 b1 b2 c0 c1 c2
  obtain ⟨_, a0, a1, a2, b0, b1, b2, c0, c1, c2⟩ := HSS.out w1 n1
  clear bl1 n0
  go_wp2_with fail
  refine (rl2.out _).mono ?_
  rintro e w2 ⟨rfl, bl2⟩
  have n2 : Nw wc w2 := Nw.step n1 bl2
  clear a0 a1 a2 b0 b1 b2 c0 c1 c2
  obtain ⟨_, a0, a1, a2, b0, b1, b2, c0, c1, c2⟩ := HSS.out w2 n2
  clear bl2 n1
  go_wp2_with fail
  refine (rc1.out _).mono ?_
  rintro e w3 ⟨rfl, bl3⟩
  have n3 : Nw wc w3 := Nw.step n2 bl3
  clear a0 a1 a2 b0 b1 b2 c0 c1 c2
  obtain ⟨_, a0, a1, a2, b0, b1, b2, c0, c1, c2⟩ := HSS.out w3 n3
  clear bl3 n2
  go_wp2_with fail
  refine (rc2.out _).mono ?_
  rintro e w4 ⟨rfl, bl4⟩
  have n4 : Nw wc w4 := Nw.step n3 bl4
  clear a0 a1 a2 b0 b1 b2 c0 c1 c2
  obtain ⟨_, a0, a1, a2, b0, b1, b2, c0, c1, c2⟩ := HSS.out w4 n4
  clear bl4 n3
  go_wp2_with fail
  refine (rl3.out _).mono ?_
  rintro e w5 ⟨rfl, bl5⟩
  have n5 : Nw wc w5 := Nw.step n4 bl5
  clear a0 a1 a2 b0 b1 b2 c0 c1 c2
  obtain ⟨_, a0, a1, a2, b0, b1, b2, c0, c1, c2⟩ := HSS.out w5 n5
  clear bl5 n4
  go_wp2_with fail
  refine (rb.out _).mono ?_
  rintro e w6 ⟨rfl, bl6⟩
  have n6 : Nw wc w6 := Nw.step n5 bl6
  clear a0 a1 a2 b0 b1 b2 c0 c1 c2
  obtain ⟨_, a0, a1, a2, b0, b1, b2, c0, c1, c2⟩ := HSS.out w6 n6
  clear bl6 n5
  go_wp2_with fail
  refine (rl3.out _).mono ?_
  rintro e w7 ⟨rfl, bl7⟩
  have n7 : Nw wc w7 := Nw.step n6 bl7
  clear a0 a1 a2 b0 b1 b2 c0 c1 c2
  obtain ⟨_, a0, a1, a2, b0, b1, b2, c0, c1, c2⟩ := HSS.out w7 n7
  clear bl7 n6
  cases q with
  | false =>
    clear hac
    go_wp2_with fail
    refine (rl4.out _).mono ?_
    rintro e w8 ⟨rfl, bl8⟩
    have n8 : Nw wc w8 := Nw.step n7 bl8
    clear a0 a1 a2 b0 b1 b2 c0 c1 c2
    obtain ⟨_, a0, a1, a2, b0, b1, b2, c0, c1, c2⟩ := HSS.out w8 n8
    clear bl8 n7
    go_wp2_with fail
    refine (known_any _).mono ?_
    rintro e w9 ⟨rfl, bl9⟩
    have n9 : Nw wc w9 := Nw.step n8 bl9
    clear bl9 n8 a0 a1 a2 b0 b1 b2 c0 c1 c2
    go_wp2_with fail
    go_ret
    exact ⟨rfl, I0.out.step n9⟩
  | true =>
    have rl5 := Lib.hid (fun W => by have := less_any (⟨x1, x2, x3⟩ : Ky) (⟨z1, z2, z3⟩ : Ky) W; rw [Ky.cmp_lt (hac rfl)] at this; dsimp only at this; exact this)
    clear hac
    go_wp2_with fail
    refine (rl4.out _).mono ?_
    rintro e w8 ⟨rfl, bl8⟩
    have n8 : Nw wc w8 := Nw.step n7 bl8
    clear a0 a1 a2 b0 b1 b2 c0 c1 c2
    obtain ⟨_, a0, a1, a2, b0, b1, b2, c0, c1, c2⟩ := HSS.out w8 n8
    clear bl8 n7
    go_wp2_with fail
    refine (rl5.out _).mono ?_
    rintro e w9 ⟨rfl, bl9⟩
    have n9 : Nw wc w9 := Nw.step n8 bl9
    clear a0 a1 a2 b0 b1 b2 c0 c1 c2
    obtain ⟨_, a0, a1, a2, b0, b1, b2, c0, c1, c2⟩ := HSS.out w9 n9
    clear bl9 n8
    go_wp2_with fail
    refine (known_any _).mono ?_
    rintro e w10 ⟨rfl, bl10⟩
    have n10 : Nw wc w10 := Nw.step n9 bl10
    clear bl10 n9 a0 a1 a2 b0 b1 b2 c0 c1 c2
    go_wp2_with fail
    go_ret
    exact ⟨rfl, I0.out.step n10⟩
set_option maxHeartbeats 4000000 in
set_option maxRecDepth 100000 in
theorem compares_gt2 (x1 x2 x3 y3 z1 z2 z3 : Int) (w : World) (h : (⟨x1, x2, y3⟩ : Ky).less (⟨x1, x2, x3⟩ : Ky) = true) (hp : ¬ x3 = y3) :
    Calls Try.prog 3 #[.agg #[.int .i64 x1, .int .i64 x2, .int .i64 x3], .agg #[.int .i64 x1, .int .i64 x2, .int .i64 y3], .agg #[.int .i64 z1, .int .i64 z2, .int .i64 z3]] w fun e w' => e = .returned (.bool true) ∧ Below w.heap.size w w' := by
  have rl1 := Lib.hid (fun W => by have := refLess_any (⟨x1, x2, x3⟩ : Ky) (⟨x1, x2, y3⟩ : Ky) W; rw [Ky.less_asymm h] at this; dsimp only at this; exact this)
  have rl2 := Lib.hid (fun W => by have := refLess_any (⟨x1, x2, y3⟩ : Ky) (⟨x1, x2, x3⟩ : Ky) W; rw [h] at this; dsimp only at this; exact this)
  have rc1 := Lib.hid (fun W => by have := compare_any (⟨x1, x2, x3⟩ : Ky) (⟨x1, x2, y3⟩ : Ky) W; rw [Ky.cmp_gt h] at this; dsimp only at this; exact this)
  have rc2 := Lib.hid (fun W => by have := compare_any (⟨x1, x2, y3⟩ : Ky) (⟨x1, x2, x3⟩ : Ky) W; rw [Ky.cmp_lt h] at this; dsimp only at this; exact this)
  have rl3 := Lib.hid (fun W => by have := less_any (⟨x1, x2, x3⟩ : Ky) (⟨x1, x2, y3⟩ : Ky) W; rw [Ky.cmp_gt h] at this; dsimp only at this; exact this)
  have rb := Lib.hid (fun W => by have := byKey_any (⟨x1, x2, x3⟩ : Ky) (⟨x1, x2, y3⟩ : Ky) 3 0 0 0 0 0 W; rw [Ky.cmp_gt h] at this; dsimp only at this; exact this)
  have HH := Lib.hid h
  clear h
  have i0 : Nw w (((w.alloc (.cells #[.int .i64 x1, .int .i64 x2, .int .i64 x3] 23)).alloc (.cells #[.int .i64 x1, .int .i64 x2, .int .i64 y3] 23)).alloc (.cells #[.int .i64 z1, .int .i64 z2, .int .i64 z3] 23)) := (((Nw.refl w).alloc _).alloc _).alloc _
  have u : Blk (((w.alloc (.cells #[.int .i64 x1, .int .i64 x2, .int .i64 x3] 23)).alloc (.cells #[.int .i64 x1, .int .i64 x2, .int .i64 y3] 23)).alloc (.cells #[.int .i64 z1, .int .i64 z2, .int .i64 z3] 23)) w.heap.size 23 #[.int .i64 x1, .int .i64 x2, .int .i64 x3] := ((Blk.last w _ _ rfl).alloc _).alloc _
  have v : Blk (((w.alloc (.cells #[.int .i64 x1, .int .i64 x2, .int .i64 x3] 23)).alloc (.cells #[.int .i64 x1, .int .i64 x2, .int .i64 y3] 23)).alloc (.cells #[.int .i64 z1, .int .i64 z2, .int .i64 z3] 23)) (w.heap.size + 1) 23 #[.int .i64 x1, .int .i64 x2, .int .i64 y3] := (Blk.last _ _ _ (by simp)).alloc _
  have z : Blk (((w.alloc (.cells #[.int .i64 x1, .int .i64 x2, .int .i64 x3] 23)).alloc (.cells #[.int .i64 x1, .int .i64 x2, .int .i64 y3] 23)).alloc (.cells #[.int .i64 z1, .int .i64 z2, .int .i64 z3] 23)) (w.heap.size + 1 + 1) 23 #[.int .i64 z1, .int .i64 z2, .int .i64 z3] := Blk.last _ _ _ (by simp)
  go_enter Try.func3, Try.ntmps3
  go_upto_region 1 with (fail)
  generalize (((w.alloc (.cells #[.int .i64 x1, .int .i64 x2, .int .i64 x3] 23)).alloc (.cells #[.int .i64 x1, .int .i64 x2, .int .i64 y3] 23)).alloc (.cells #[.int .i64 z1, .int .i64 z2, .int .i64 z3] 23)) = wc at i0 u v z ⊢
  generalize w.heap.size + 1 + 1 = gc at *
  generalize w.heap.size + 1 = gb at *
  have I0 := Lib.hid i0
  clear i0
  obtain ⟨ga, hga⟩ : ∃ ga, w.heap.size = ga := ⟨_, rfl⟩
  rw [hga] at u ⊢
  have a0 : wc.cell? ⟨ga, 0, none⟩ = some (.int .i64 x1) := u.cell 0
  have a1 : wc.cell? ⟨ga, 1, none⟩ = some (.int .i64 x2) := u.cell 1
  have a2 : wc.cell? ⟨ga, 2, none⟩ = some (.int .i64 x3) := u.cell 2
  have b0 : wc.cell? ⟨gb, 0, none⟩ = some (.int .i64 x1) := v.cell 0
  have b1 : wc.cell? ⟨gb, 1, none⟩ = some (.int .i64 x2) := v.cell 1
  have b2 : wc.cell? ⟨gb, 2, none⟩ = some (.int .i64 y3) := v.cell 2
  have c0 : wc.cell? ⟨gc, 0, none⟩ = some (.int .i64 z1) := z.cell 0
  have c1 : wc.cell? ⟨gc, 1, none⟩ = some (.int .i64 z2) := z.cell 1
  have c2 : wc.cell? ⟨gc, 2, none⟩ = some (.int .i64 z3) := z.cell 2
  have hss : ∀ W, Nw wc W → Nw wc W ∧ W.cell? ⟨ga, 0, none⟩ = some (.int .i64 x1) ∧ W.cell? ⟨ga, 1, none⟩ = some (.int .i64 x2) ∧ W.cell? ⟨ga, 2, none⟩ = some (.int .i64 x3) ∧ W.cell? ⟨gb, 0, none⟩ = some (.int .i64 x1) ∧ W.cell? ⟨gb, 1, none⟩ = some (.int .i64 x2) ∧ W.cell? ⟨gb, 2, none⟩ = some (.int .i64 y3) ∧ W.cell? ⟨gc, 0, none⟩ = some (.int .i64 z1) ∧ W.cell? ⟨gc, 1, none⟩ = some (.int .i64 z2) ∧ W.cell? ⟨gc, 2, none⟩ = some (.int .i64 z3) := fun W h => ⟨h, h.cell a0, h.cell a1, h.cell a2, h.cell b0, h.cell b1, h.cell b2, h.cell c0, h.cell c1, h.cell c2⟩
  have HSS := Lib.hid hss
  have n0 := Nw.refl wc
  clear hss u v z
  go_wp2_with fail
  refine (rl1.out _).mono ?_
  rintro e w1 ⟨rfl, bl1⟩
  have n1 : Nw wc w1 := Nw.step n0 bl1
  clear a0 a1 a2 b0 b1 b2 c0 c1 c2
  obtain ⟨_, a0, a1, a2, b0, b1, b2, c0, c1, c2⟩ := HSS.out w1 n1
  clear bl1 n0
  go_wp2_with fail
  refine (rl2.out _).mono ?_
  rintro e w2 ⟨rfl, bl2⟩
  have n2 : Nw wc w2 := Nw.step n1 bl2
  clear a0 a1 a2 b0 b1 b2 c0 c1 c2
  obtain ⟨_, a0, a1, a2, b0, b1, b2, c0, c1, c2⟩ := HSS.out w2 n2
  clear bl2 n1
  go_wp2_with fail
  refine (rc1.out _).mono ?_
  rintro e w3 ⟨rfl, bl3⟩
  have n3 : Nw wc w3 := Nw.step n2 bl3
  clear a0 a1 a2 b0 b1 b2 c0 c1 c2
  obtain ⟨_, a0, a1, a2, b0, b1, b2, c0, c1, c2⟩ := HSS.out w3 n3
  clear bl3 n2
  go_wp2_with fail
  refine (rc2.out _).mono ?_
  rintro e w4 ⟨rfl, bl4⟩
  have n4 : Nw wc w4 := Nw.step n3 bl4
  clear a0 a1 a2 b0 b1 b2 c0 c1 c2
  obtain ⟨_, a0, a1, a2, b0, b1, b2, c0, c1, c2⟩ := HSS.out w4 n4
  clear bl4 n3
  go_wp2_with fail
  refine (rl3.out _).mono ?_
  rintro e w5 ⟨rfl, bl5⟩
  have n5 : Nw wc w5 := Nw.step n4 bl5
  clear a0 a1 a2 b0 b1 b2 c0 c1 c2
  obtain ⟨_, a0, a1, a2, b0, b1, b2, c0, c1, c2⟩ := HSS.out w5 n5
  clear bl5 n4
  go_wp2_with fail
  refine (rb.out _).mono ?_
  rintro e w6 ⟨rfl, bl6⟩
  have n6 : Nw wc w6 := Nw.step n5 bl6
  clear a0 a1 a2 b0 b1 b2 c0 c1 c2
  obtain ⟨_, a0, a1, a2, b0, b1, b2, c0, c1, c2⟩ := HSS.out w6 n6
  clear bl6 n5
  go_wp2_with fail
  refine (rl3.out _).mono ?_
  rintro e w7 ⟨rfl, bl7⟩
  have n7 : Nw wc w7 := Nw.step n6 bl7
  clear a0 a1 a2 b0 b1 b2 c0 c1 c2
  obtain ⟨_, a0, a1, a2, b0, b1, b2, c0, c1, c2⟩ := HSS.out w7 n7
  clear bl7 n6
  go_wp2_with fail
  refine (known_any _).mono ?_
  rintro e w8 ⟨rfl, bl8⟩
  have n8 : Nw wc w8 := Nw.step n7 bl8
  clear bl8 n7 a0 a1 a2 b0 b1 b2 c0 c1 c2
  go_wp2_with fail
  go_ret
  exact ⟨rfl, I0.out.step n8⟩
set_option maxHeartbeats 4000000 in
set_option maxRecDepth 100000 in
theorem compares_eq (a c : Ky) (w : World) :
    Calls Try.prog 3 #[.agg #[.int .i64 a.T, .int .i64 a.O, .int .i64 a.S], .agg #[.int .i64 a.T, .int .i64 a.O, .int .i64 a.S], .agg #[.int .i64 c.T, .int .i64 c.O, .int .i64 c.S]] w fun e w' => e = .returned (.bool true) ∧ Below w.heap.size w w' := by
  have rl1 := Lib.hid (fun W => by have := refLess_any a a W; rw [Ky.less_irrefl] at this; exact this)
  have rl2 := Lib.hid (fun W => by have := refLess_any a a W; rw [Ky.less_irrefl] at this; exact this)
  have rc1 := Lib.hid (fun W => by have := compare_any a a W; rw [Ky.cmp_self] at this; exact this)
  have rc2 := Lib.hid (fun W => by have := compare_any a a W; rw [Ky.cmp_self] at this; exact this)
  have rl3 := Lib.hid (fun W => by have := less_any a a W; rw [Ky.cmp_self] at this; exact this)
  have rb := Lib.hid (fun W => by have := byKey_any a a 3 0 0 0 0 0 W; rw [Ky.cmp_self] at this; exact this)
  have i0 : Nw w (((w.alloc (.cells #[.int .i64 a.T, .int .i64 a.O, .int .i64 a.S] 23)).alloc (.cells #[.int .i64 a.T, .int .i64 a.O, .int .i64 a.S] 23)).alloc (.cells #[.int .i64 c.T, .int .i64 c.O, .int .i64 c.S] 23)) := (((Nw.refl w).alloc _).alloc _).alloc _
  have u : Blk (((w.alloc (.cells #[.int .i64 a.T, .int .i64 a.O, .int .i64 a.S] 23)).alloc (.cells #[.int .i64 a.T, .int .i64 a.O, .int .i64 a.S] 23)).alloc (.cells #[.int .i64 c.T, .int .i64 c.O, .int .i64 c.S] 23)) w.heap.size 23 #[.int .i64 a.T, .int .i64 a.O, .int .i64 a.S] := ((Blk.last w _ _ rfl).alloc _).alloc _
  have v : Blk (((w.alloc (.cells #[.int .i64 a.T, .int .i64 a.O, .int .i64 a.S] 23)).alloc (.cells #[.int .i64 a.T, .int .i64 a.O, .int .i64 a.S] 23)).alloc (.cells #[.int .i64 c.T, .int .i64 c.O, .int .i64 c.S] 23)) (w.heap.size + 1) 23 #[.int .i64 a.T, .int .i64 a.O, .int .i64 a.S] := (Blk.last _ _ _ (by simp)).alloc _
  have z : Blk (((w.alloc (.cells #[.int .i64 a.T, .int .i64 a.O, .int .i64 a.S] 23)).alloc (.cells #[.int .i64 a.T, .int .i64 a.O, .int .i64 a.S] 23)).alloc (.cells #[.int .i64 c.T, .int .i64 c.O, .int .i64 c.S] 23)) (w.heap.size + 1 + 1) 23 #[.int .i64 c.T, .int .i64 c.O, .int .i64 c.S] := Blk.last _ _ _ (by simp)
  go_enter Try.func3, Try.ntmps3
  go_upto_region 1 with (fail)
  generalize (((w.alloc (.cells #[.int .i64 a.T, .int .i64 a.O, .int .i64 a.S] 23)).alloc (.cells #[.int .i64 a.T, .int .i64 a.O, .int .i64 a.S] 23)).alloc (.cells #[.int .i64 c.T, .int .i64 c.O, .int .i64 c.S] 23)) = wc at i0 u v z ⊢
  generalize w.heap.size + 1 + 1 = gc at *
  generalize w.heap.size + 1 = gb at *
  have I0 := Lib.hid i0
  clear i0
  obtain ⟨ga, hga⟩ : ∃ ga, w.heap.size = ga := ⟨_, rfl⟩
  rw [hga] at u ⊢
  have a0 : wc.cell? ⟨ga, 0, none⟩ = some (.int .i64 a.T) := u.cell 0
  have a1 : wc.cell? ⟨ga, 1, none⟩ = some (.int .i64 a.O) := u.cell 1
  have a2 : wc.cell? ⟨ga, 2, none⟩ = some (.int .i64 a.S) := u.cell 2
  have b0 : wc.cell? ⟨gb, 0, none⟩ = some (.int .i64 a.T) := v.cell 0
  have b1 : wc.cell? ⟨gb, 1, none⟩ = some (.int .i64 a.O) := v.cell 1
  have b2 : wc.cell? ⟨gb, 2, none⟩ = some (.int .i64 a.S) := v.cell 2
  have c0 : wc.cell? ⟨gc, 0, none⟩ = some (.int .i64 c.T) := z.cell 0
  have c1 : wc.cell? ⟨gc, 1, none⟩ = some (.int .i64 c.O) := z.cell 1
  have c2 : wc.cell? ⟨gc, 2, none⟩ = some (.int .i64 c.S) := z.cell 2
  have hss : ∀ W, Nw wc W → Nw wc W ∧ W.cell? ⟨ga, 0, none⟩ = some (.int .i64 a.T) ∧ W.cell? ⟨ga, 1, none⟩ = some (.int .i64 a.O) ∧ W.cell? ⟨ga, 2, none⟩ = some (.int .i64 a.S) ∧ W.cell? ⟨gb, 0, none⟩ = some (.int .i64 a.T) ∧ W.cell? ⟨gb, 1, none⟩ = some (.int .i64 a.O) ∧ W.cell? ⟨gb, 2, none⟩ = some (.int .i64 a.S) ∧ W.cell? ⟨gc, 0, none⟩ = some (.int .i64 c.T) ∧ W.cell? ⟨gc, 1, none⟩ = some (.int .i64 c.O) ∧ W.cell? ⟨gc, 2, none⟩ = some (.int .i64 c.S) := fun W h => ⟨h, h.cell a0, h.cell a1, h.cell a2, h.cell b0, h.cell b1, h.cell b2, h.cell c0, h.cell c1, h.cell c2⟩
  have HSS := Lib.hid hss
  have n0 := Nw.refl wc
  clear hss u v z
  go_wp2_with fail
  refine (rl1.out _).mono ?_
  rintro e w1 ⟨rfl, bl1⟩
  have n1 : Nw wc w1 := Nw.step n0 bl1
  clear a0 a1 a2 b0 b1 b2 c0 c1 c2
  obtain ⟨_, a0, a1, a2, b0, b1, b2, c0, c1, c2⟩ := HSS.out w1 n1
  clear bl1 n0
  go_wp2_with fail
  refine (rl2.out _).mono ?_
  rintro e w2 ⟨rfl, bl2⟩
  have n2 : Nw wc w2 := Nw.step n1 bl2
  clear a0 a1 a2 b0 b1 b2 c0 c1 c2
  obtain ⟨_, a0, a1, a2, b0, b1, b2, c0, c1, c2⟩ := HSS.out w2 n2
  clear bl2 n1
  go_wp2_with fail
  refine (rc1.out _).mono ?_
  rintro e w3 ⟨rfl, bl3⟩
  have n3 : Nw wc w3 := Nw.step n2 bl3
  clear a0 a1 a2 b0 b1 b2 c0 c1 c2
  obtain ⟨_, a0, a1, a2, b0, b1, b2, c0, c1, c2⟩ := HSS.out w3 n3
  clear bl3 n2
  go_wp2_with fail
  refine (rc2.out _).mono ?_
  rintro e w4 ⟨rfl, bl4⟩
  have n4 : Nw wc w4 := Nw.step n3 bl4
  clear a0 a1 a2 b0 b1 b2 c0 c1 c2
  obtain ⟨_, a0, a1, a2, b0, b1, b2, c0, c1, c2⟩ := HSS.out w4 n4
  clear bl4 n3
  go_wp2_with fail
  refine (rl3.out _).mono ?_
  rintro e w5 ⟨rfl, bl5⟩
  have n5 : Nw wc w5 := Nw.step n4 bl5
  clear a0 a1 a2 b0 b1 b2 c0 c1 c2
  obtain ⟨_, a0, a1, a2, b0, b1, b2, c0, c1, c2⟩ := HSS.out w5 n5
  clear bl5 n4
  go_wp2_with fail
  refine (rb.out _).mono ?_
  rintro e w6 ⟨rfl, bl6⟩
  have n6 : Nw wc w6 := Nw.step n5 bl6
  clear a0 a1 a2 b0 b1 b2 c0 c1 c2
  obtain ⟨_, a0, a1, a2, b0, b1, b2, c0, c1, c2⟩ := HSS.out w6 n6
  clear bl6 n5
  go_wp2_with fail
  refine (rl3.out _).mono ?_
  rintro e w7 ⟨rfl, bl7⟩
  have n7 : Nw wc w7 := Nw.step n6 bl7
  clear a0 a1 a2 b0 b1 b2 c0 c1 c2
  obtain ⟨_, a0, a1, a2, b0, b1, b2, c0, c1, c2⟩ := HSS.out w7 n7
  clear bl7 n6
  go_wp2_with fail
  refine (known_any _).mono ?_
  rintro e w8 ⟨rfl, bl8⟩
  have n8 : Nw wc w8 := Nw.step n7 bl8
  clear bl8 n7 a0 a1 a2 b0 b1 b2 c0 c1 c2
  go_wp2_with fail
  go_ret
  exact ⟨rfl, I0.out.step n8⟩
theorem compares_any (a b c : Ky) (w : World) :
    Calls Try.prog 3 #[.agg #[.int .i64 a.T, .int .i64 a.O, .int .i64 a.S], .agg #[.int .i64 b.T, .int .i64 b.O, .int .i64 b.S], .agg #[.int .i64 c.T, .int .i64 c.O, .int .i64 c.S]] w fun e w' => e = .returned (.bool true) ∧ Below w.heap.size w w' := by
  obtain ⟨x1, x2, x3⟩ := a
  obtain ⟨y1, y2, y3⟩ := b
  obtain ⟨z1, z2, z3⟩ := c
  by_cases h1 : (⟨x1, x2, x3⟩ : Ky).less ⟨y1, y2, y3⟩ = true
  · by_cases e1 : x1 = y1
    · subst e1
      by_cases e2 : x2 = y2
      · subst e2
        exact compares_lt2 x1 x2 x3 y3 z1 z2 z3 w h1 _ rfl (fun h => Ky.less_trans h1 h) (by rintro rfl; rw [Ky.less_irrefl] at h1; cases h1)
      · exact compares_lt1 x1 x2 x3 y2 y3 z1 z2 z3 w h1 _ rfl (fun h => Ky.less_trans h1 h) e2
    · exact compares_lt0 x1 x2 x3 y1 y2 y3 z1 z2 z3 w h1 _ rfl (fun h => Ky.less_trans h1 h) e1
  · by_cases h2 : (⟨y1, y2, y3⟩ : Ky).less ⟨x1, x2, x3⟩ = true
    · by_cases e1 : x1 = y1
      · subst e1
        by_cases e2 : x2 = y2
        · subst e2
          exact compares_gt2 x1 x2 x3 y3 z1 z2 z3 w h2 (by rintro rfl; rw [Ky.less_irrefl] at h2; cases h2)
        · exact compares_gt1 x1 x2 x3 y2 y3 z1 z2 z3 w h2 e2
      · exact compares_gt0 x1 x2 x3 y1 y2 y3 z1 z2 z3 w h2 e1
    · have e := Ky.eq_of (by simpa using h1) (by simpa using h2)
      injection e with e1 e2 e3
      subst e1 e2 e3
      exact compares_eq ⟨x1, x2, x3⟩ ⟨z1, z2, z3⟩ w
end Go.Proofs.Ytefgpnalahijgaa
