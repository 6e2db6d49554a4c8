/- Rounds: Sent. Helper. -/
import Derived.Test.YtbgpbbepeemieaaRndBegin
import Derived.Deep.QuietTactic
import Derived.BigQuiet
namespace Go.Proofs.Ytbgpbbepeemieaa
open Go.RowKit
set_option linter.unusedVariables false
set_option linter.unusedSimpArgs false
theorem RM.many {w : World} {R C S L : Nat} {r : Rn} (h : RM w R C S L r) (q : Nat) : RM (w.drewN q) R C S L r := h.kept fun _ _ => rfl
def Rn.red (r : Rn) (p : Int) : Prop := 0 ≤ p ∧ p ≤ r.n ∧ r.half ≠ 0 ∧ r.col p.toNat = r.num
def Rn.sentTo (r : Rn) (p : Nat) (k : Ky) : Rn := { r with least := fun i => if i = p then (r.least p).min k else r.least i }
set_option maxHeartbeats 1600000 in
theorem sent_no (R C S L : Nat) (r : Rn) (p : Int) (k : Ky) (w : World) (h : RM w R C S L r) (hp : ¬ r.red p) :
    Calls Try.prog 15 #[.pointer (some ⟨R, 0, none⟩), .int .i64 p, .agg #[.int .i64 k.T, .int .i64 k.O, .int .i64 k.S]] w fun e w' => e = .returned (.tuple #[]) ∧ Below w.heap.size w w' := by
  have i0 : Nw w (w.alloc (.cells #[.int .i64 k.T, .int .i64 k.O, .int .i64 k.S] 27)) := (Nw.refl w).alloc _
  have hb : RM (w.alloc (.cells #[.int .i64 k.T, .int .i64 k.O, .int .i64 k.S] 27)) R C S L r := h.new i0
  go_enter Try.func15, Try.ntmps15
  go_upto_region 1 with (fail)
  generalize w.alloc (.cells #[.int .i64 k.T, .int .i64 k.O, .int .i64 k.S] 27) = wb at i0 hb ⊢
  have HB := Lib.hid hb
  have I0 := Lib.hid i0
  have hn := hb.n16
  have c0 := hb.f0
  have c1 := hb.f1
  have c2 := hb.f2
  have hcol := fun q (hq : q ≤ r.n) => hb.colAt hq
  unfold Rn.red at hp
  clear i0 hb h
  by_cases h1 : p < 0
  · have g1 : decide (0 ≤ p) = false := by simp; omega
    clear hcol hp
    go_quiet ((go_at_call 22; exact Calls.quiet_of_same (none_any R C S L r _ (RM.many HB.out _))))
    go_wp2_with fail
    go_end0
    exact ⟨rfl, Below.many I0.out _⟩
  · obtain ⟨q, rfl⟩ := Int.eq_ofNat_of_zero_le (show 0 ≤ p by omega)
    have g1 : decide ((0 : Int) ≤ (q : Int)) = true := by simp
    by_cases h2 : q ≤ r.n
    · have cq := hcol q h2
      have g2 : decide ((q : Int) < (r.n : Int) + 1) = true := by simp; omega
      have g2' : (q : Int) < (r.n : Int) + 1 := by omega
      have g2n : decide (q < r.n + 1) = true := by simp; omega
      by_cases h3 : r.half = 0
      · rw [h3] at c1
        clear hcol hp
        go_quiet ((go_at_call 22; exact Calls.quiet_of_same (none_any R C S L r _ (RM.many HB.out _))))
        go_wp2_with fail
        go_end0
        exact ⟨rfl, Below.many I0.out _⟩
      · have h4 : r.col q ≠ r.num := fun e => hp ⟨by omega, by omega, h3, e⟩
        have g3 : ¬ (r.half : Int) = 0 := by omega
        have g3' : decide ((r.half : Int) = 0) = false := by simp; omega
        have g4 : ¬ (r.col q : Int) = (r.num : Int) := by omega
        have g4' : decide ((r.col q : Int) = (r.num : Int)) = false := by simp; omega
        have g5 : decide (r.col q = r.num) = false := by simp [h4]
        have g6 : decide (r.half = 0) = false := by simp [h3]
        have g7 : ((r.half : Int) != 0) = true := bne_iff_ne.2 (by omega)
        have g8 : ((r.col q : Int) == (r.num : Int)) = false := beq_eq_false_iff_ne.2 (by omega)
        clear hcol hp
        go_quiet ((go_at_call 22; exact Calls.quiet_of_same (none_any R C S L r _ (RM.many HB.out _))))
        go_wp2_with fail
        go_end0
        exact ⟨rfl, Below.many I0.out _⟩
    · have g2 : decide ((q : Int) < (r.n : Int) + 1) = false := by simp; omega
      have g2' : ¬ (q : Int) < (r.n : Int) + 1 := by omega
      have g2n : decide (q < r.n + 1) = false := by simp; omega
      clear hcol hp
      go_quiet ((go_at_call 22; exact Calls.quiet_of_same (none_any R C S L r _ (RM.many HB.out _))))
      go_wp2_with fail
      go_end0
      exact ⟨rfl, Below.many I0.out _⟩
set_option maxHeartbeats 1600000 in
theorem sent_yes (R C S L : Nat) (r : Rn) (q : Nat) (k : Ky) (w : World) (h : RM w R C S L r) (h2 : q ≤ r.n) (h3 : r.half ≠ 0) (h4 : r.col q = r.num) :
    Calls Try.prog 15 #[.pointer (some ⟨R, 0, none⟩), .int .i64 (q : Int), .agg #[.int .i64 k.T, .int .i64 k.O, .int .i64 k.S]] w fun e w' => e = .returned (.tuple #[]) ∧ RM w' R C S L (r.sentTo q k) ∧ Chg (Four R C S L) w w' := by
  have i0 : Nw w (w.alloc (.cells #[.int .i64 k.T, .int .i64 k.O, .int .i64 k.S] 27)) := (Nw.refl w).alloc _
  have hb : RM (w.alloc (.cells #[.int .i64 k.T, .int .i64 k.O, .int .i64 k.S] 27)) R C S L r := h.new i0
  have u : Blk (w.alloc (.cells #[.int .i64 k.T, .int .i64 k.O, .int .i64 k.S] 27)) w.heap.size 27 #[.int .i64 k.T, .int .i64 k.O, .int .i64 k.S] := Blk.last w _ _ rfl
  go_enter Try.func15, Try.ntmps15
  go_upto_region 1 with (fail)
  generalize w.alloc (.cells #[.int .i64 k.T, .int .i64 k.O, .int .i64 k.S] 27) = wb at i0 hb u ⊢
  have HB := Lib.hid hb
  have I0 := Lib.hid i0
  have U := Lib.hid u
  have hn := hb.n16
  have c0 := hb.f0
  have c1 := hb.f1
  have c2 := hb.f2
  have cq := hb.colAt h2
  rw [h4] at cq
  have g1 : decide ((0 : Int) ≤ (q : Int)) = true := by simp
  have g2 : decide ((q : Int) < (r.n : Int) + 1) = true := by simp; omega
  have g2' : (q : Int) < (r.n : Int) + 1 := by omega
  have g2n : decide (q < r.n + 1) = true := by simp; omega
  have g3 : ¬ (r.half : Int) = 0 := by omega
  have g3' : decide ((r.half : Int) = 0) = false := by simp; omega
  have g6 : decide (r.half = 0) = false := by simp [h3]
  have g7 : ((r.half : Int) != 0) = true := bne_iff_ne.2 (by omega)
  clear i0 hb h u h4
  go_quiet ((go_at_call 22; exact Calls.quiet_of_same (none_any R C S L r _ (RM.many HB.out _))))
  go_upto_region 2 with (fail)
  clear c0 c1 c2 cq g1 g2 g2n g3 g3' g6 g7
  rename_i nq
  have ww : Nw w (wb.drewN nq) := Below.many I0.out nq
  have hm : RM (wb.drewN nq) R C S L r := RM.many HB.out nq
  have hu : Blk (wb.drewN nq) w.heap.size 27 #[.int .i64 k.T, .int .i64 k.O, .int .i64 k.S] := U.out
  generalize wb.drewN nq = wc at ww hm hu ⊢
  have f4 : wc.cell? ⟨R, 4, none⟩ = some (.slice (some ⟨L, 0, none⟩) (r.n + 1) (r.n + 1)) := hm.f4
  obtain ⟨l0, l1, l2⟩ := hm.leastAt h2
  have k0 : wc.cell? ⟨w.heap.size, 0, none⟩ = some (.int .i64 k.T) := hu.cell 0
  have k1 : wc.cell? ⟨w.heap.size, 1, none⟩ = some (.int .i64 k.O) := hu.cell 1
  have k2 : wc.cell? ⟨w.heap.size, 2, none⟩ = some (.int .i64 k.S) := hu.cell 2
  have kl := Lib.hid (fun W => lesser_any (r.least q) k W)
  have HM := Lib.hid hm
  have WW := Lib.hid ww
  clear hm hu ww HB I0 U
  go_region_with ((go_at_call 25; refine (kl.out _).mono ?_; rintro e w7 ⟨rfl, b7⟩; have n7 : Nw wc w7 := (Nw.drew (Nw.refl wc)).step b7; have h7 := HM.out.new n7; have f7 : w7.cell? ⟨R, 4, none⟩ = some (.slice (some ⟨L, 0, none⟩) (r.n + 1) (r.n + 1)) := h7.f4; obtain ⟨m0, m1, m2⟩ := h7.leastAt h2; have y0 := h7.frz.2.2 (q * 3); have y1 := h7.frz.2.2 (q * 3 + 1); have y2 := h7.frz.2.2 (q * 3 + 2); have H7 := Lib.hid h7; have K7 := Lib.hid n7; clear h7 n7 b7))
  all_goals
    go_wp2_with fail
    go_end0
    refine ⟨rfl, H7.out.setL h2 _, ?_⟩
    exact (((Chg.of_below (WW.out.step K7.out) (Nat.le_refl _) (Four R C S L)).setCell (p := ⟨L, _, none⟩) (.inl (.inr (.inr (.inr rfl)))) _).setCell (p := ⟨L, _, none⟩) (.inl (.inr (.inr (.inr rfl)))) _).setCell (p := ⟨L, _, none⟩) (.inl (.inr (.inr (.inr rfl)))) _
end Go.Proofs.Ytbgpbbepeemieaa
