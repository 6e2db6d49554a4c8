/- Rounds: See. Helper. -/
import Derived.Test.YtbgpbbepeemieaaRndBegin
import Derived.Deep.QuietTactic
import Derived.BigQuiet
namespace Go.Proofs.Ytbgpbbepeemieaa
open Go.RowKit
set_option linter.unusedVariables false
set_option linter.unusedSimpArgs false
set_option maxRecDepth 100000 in
set_option maxHeartbeats 1600000 in
theorem see_again (R C S L : Nat) (r : Rn) (p : Nat) (k : Ky) (w : World) (h : RM w R C S L r) (hp1 : 1 ≤ p) (hp : p ≤ r.n) (hh : r.half = 0 ∨ r.half = 2 ∧ p ∈ r.seen) :
    Calls Try.prog 16 #[.pointer (some ⟨R, 0, none⟩), .int .i64 (p : Int), .agg #[.int .i64 k.T, .int .i64 k.O, .int .i64 k.S], .int .i64 0] w fun e w' => e = .returned (.int .i64 9) ∧ Below w.heap.size w w' := by
  have i0 : Nw w (w.alloc (.cells #[.int .i64 k.T, .int .i64 k.O, .int .i64 k.S] 27)) := (Nw.refl w).alloc _
  have hb : RM (w.alloc (.cells #[.int .i64 k.T, .int .i64 k.O, .int .i64 k.S] 27)) R C S L r := h.new i0
  go_enter Try.func16, Try.ntmps16
  go_upto_region 1 with (fail)
  generalize w.alloc (.cells #[.int .i64 k.T, .int .i64 k.O, .int .i64 k.S] 27) = wb at i0 hb ⊢
  have hn := hb.n16
  have c1 := hb.f1
  have c2 := hb.f2
  have c3 := hb.f3
  have kn := Lib.hid (none_any R C S L r wb hb)
  have hlk := hb.ms.lookup (p := p) (by omega)
  have g1 : ¬ (p : Int) < 1 := by omega
  have g2 : ¬ (r.n : Int) + 1 ≤ (p : Int) := by omega
  have I0 := Lib.hid i0
  clear hb h i0
  rcases hh with hh | ⟨hh, hm⟩
  · rw [hh] at c1
    go_wp2_with fail
    refine kn.out.mono ?_
    rintro e w1 ⟨rfl, rfl⟩
    go_wp2
    go_ret
    exact ⟨rfl, I0.out⟩
  · rw [hh] at c1
    rw [show decide (p ∈ r.seen) = true by simp [hm]] at hlk
    go_wp2_with fail
    refine kn.out.mono ?_
    rintro e w1 ⟨rfl, rfl⟩
    go_wp2
    go_ret
    exact ⟨rfl, I0.out⟩
set_option maxRecDepth 100000 in
set_option maxHeartbeats 1600000 in
theorem see_twice (R C S L : Nat) (r : Rn) (p : Nat) (k : Ky) (w : World) (h : RM w R C S L r) (hp1 : 1 ≤ p) (hp : p ≤ r.n) (hh : r.half = 1) (hl : r.seen.length < r.n) (hm : p ∈ r.seen) :
    Calls Try.prog 16 #[.pointer (some ⟨R, 0, none⟩), .int .i64 (p : Int), .agg #[.int .i64 k.T, .int .i64 k.O, .int .i64 k.S], .int .i64 0] w fun e w' => e = .returned (.int .i64 9) ∧ Below w.heap.size w w' := by
  have i0 : Nw w (w.alloc (.cells #[.int .i64 k.T, .int .i64 k.O, .int .i64 k.S] 27)) := (Nw.refl w).alloc _
  have hb : RM (w.alloc (.cells #[.int .i64 k.T, .int .i64 k.O, .int .i64 k.S] 27)) R C S L r := h.new i0
  go_enter Try.func16, Try.ntmps16
  go_upto_region 1 with (fail)
  generalize w.alloc (.cells #[.int .i64 k.T, .int .i64 k.O, .int .i64 k.S] 27) = wb at i0 hb ⊢
  have hn := hb.n16
  have c1 := hb.f1
  rw [hh] at c1
  have c2 := hb.f2
  have c3 := hb.f3
  have kn := Lib.hid (none_any R C S L r wb hb)
  have hlk := hb.ms.lookup (p := p) (by omega)
  rw [show decide (p ∈ r.seen) = true by simp [hm]] at hlk
  have hlen := hb.ms.len 3
  have g1 : ¬ (p : Int) < 1 := by omega
  have g2 : ¬ (r.n : Int) + 1 ≤ (p : Int) := by omega
  have g3 : decide ((r.seen.length : Int) = (r.n : Int)) = false := by simp; omega
  have g4 : ¬ (r.seen.length : Int) = (r.n : Int) := by omega
  have w1 : IntKind.i64.wrap ((r.n : Int) + 1 - 1) = (r.n : Int) := by rw [show ((r.n : Int) + 1 - 1) = (r.n : Int) by omega]; exact IntWalk.i64_in (n := (r.n : Int)) (by constructor <;> omega)
  have I0 := Lib.hid i0
  clear hb h i0 hm hl
  go_wp2_with fail
  refine kn.out.mono ?_
  rintro e w1 ⟨rfl, rfl⟩
  go_wp2
  go_ret
  exact ⟨rfl, I0.out⟩
def Rn.seeOne (r : Rn) (p : Nat) : Rn := { r with seen := p :: r.seen, col := fun i => if i = p then r.num else r.col i }
set_option maxRecDepth 100000 in
set_option maxHeartbeats 1600000 in
theorem see_one (R C S L : Nat) (r : Rn) (p : Nat) (k : Ky) (w : World) (h : RM w R C S L r) (hp1 : 1 ≤ p) (hp : p ≤ r.n) (hh : r.half = 1) (hl : r.seen.length < r.n) (hm : p ∉ r.seen) :
    Calls Try.prog 16 #[.pointer (some ⟨R, 0, none⟩), .int .i64 (p : Int), .agg #[.int .i64 k.T, .int .i64 k.O, .int .i64 k.S], .int .i64 0] w fun e w' => e = .returned (.int .i64 0) ∧ RM w' R C S L (r.seeOne p) ∧ Chg (Four R C S L) w w' := by
  have i0 : Nw w (w.alloc (.cells #[.int .i64 k.T, .int .i64 k.O, .int .i64 k.S] 27)) := (Nw.refl w).alloc _
  have hb : RM (w.alloc (.cells #[.int .i64 k.T, .int .i64 k.O, .int .i64 k.S] 27)) R C S L r := h.new i0
  go_enter Try.func16, Try.ntmps16
  go_upto_region 1 with (fail)
  generalize w.alloc (.cells #[.int .i64 k.T, .int .i64 k.O, .int .i64 k.S] 27) = wb at i0 hb ⊢
  have hn := hb.n16
  have c1 := hb.f1
  rw [hh] at c1
  have c2 := hb.f2
  have c3 := hb.f3
  have kn := Lib.hid (none_any R C S L r wb hb)
  have hlk := hb.ms.lookup (p := p) (by omega)
  rw [show decide (p ∈ r.seen) = false by simp [hm]] at hlk
  have hlen := hb.ms.len 3
  obtain ⟨w2, hput, hs2, hc2⟩ := hb.ms.put (p := p) (by omega) hm (by omega)
  have h2 := hb.setS hs2 hc2 (by simp; omega)
  have d0 : w2.cell? ⟨R, 0, none⟩ = some (.int .i64 r.num) := h2.f0
  have d1 : w2.cell? ⟨R, 1, none⟩ = some (.int .i64 r.half) := h2.f1
  rw [hh] at d1
  have d2 : w2.cell? ⟨R, 2, none⟩ = some (.slice (some ⟨C, 0, none⟩) (r.n + 1) (r.n + 1)) := h2.f2
  have dc : w2.cell? ⟨C, p, none⟩ = some (.int .i64 (r.col p)) := h2.colAt hp
  have dy := h2.frz.2.1 p
  have h3 := (h2.setC (p := p) hp r.num).drew
  have k3 : Chg (Four R C S L) w (w2.setCell ⟨C, p, none⟩ (.int .i64 (r.num : Int))).drew := (((Chg.of_below i0 (Nat.le_refl _) (Four R C S L)).trans hc2 (fun i _ e => .inr (.inr (.inl e)))).setCell (p := ⟨C, p, none⟩) (.inl (.inr (.inl rfl))) _).drew
  have g1 : ¬ (p : Int) < 1 := by omega
  have g2 : ¬ (r.n : Int) + 1 ≤ (p : Int) := by omega
  have g2' : (p : Int) < (r.n : Int) + 1 := by omega
  have g3 : decide ((r.seen.length : Int) = (r.n : Int)) = false := by simp; omega
  have g4 : ¬ (r.seen.length : Int) = (r.n : Int) := by omega
  have w1 : IntKind.i64.wrap ((r.n : Int) + 1 - 1) = (r.n : Int) := by rw [show ((r.n : Int) + 1 - 1) = (r.n : Int) by omega]; exact IntWalk.i64_in (n := (r.n : Int)) (by constructor <;> omega)
  have H3 := Lib.hid h3
  have K3 := Lib.hid k3
  clear hb h i0 hm hl h2 hs2 hc2 h3 k3
  go_wp2_with fail
  refine kn.out.mono ?_
  rintro e w1 ⟨rfl, rfl⟩
  go_wp2_with fail
  go_region
  all_goals
    go_wp2_with fail
    go_ret
    exact ⟨rfl, H3.out, K3.out⟩
end Go.Proofs.Ytbgpbbepeemieaa
