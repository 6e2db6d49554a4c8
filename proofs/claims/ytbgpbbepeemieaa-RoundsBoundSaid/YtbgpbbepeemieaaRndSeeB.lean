/- See in the second half, and the turn to it. Helper. -/
import Derived.Test.YtbgpbbepeemieaaRndSee
import Derived.Test.YtbgpbbepeemieaaRndR20
namespace Go.Proofs.Ytbgpbbepeemieaa
open Go.RowKit
set_option linter.unusedVariables false
set_option linter.unusedSimpArgs false
set_option maxRecDepth 100000 in
set_option maxHeartbeats 3200000 in
theorem see_turn (R C S L : Nat) (r : Rn) (p : Nat) (k : Ky) (w : World) (h : RM w R C S L r) (hp1 : 1 ≤ p) (hp : p ≤ r.n) (hh : r.half = 1) (hl : r.seen.length = r.n) (h2 : 2 ≤ r.n) :
    Calls Try.prog 16 #[.pointer (some ⟨R, 0, none⟩), .int .i64 (p : Int), .agg #[.int .i64 k.T, .int .i64 k.O, .int .i64 k.S], .int .i64 0] w fun e w' => e = .returned (.int .i64 0) ∧ RM w' R C S L { { r with half := 2, seen := [] } with seen := p :: ([] : List Nat), rep := r.rep.min (k.min (r.least p)) } ∧ Chg (Four R C S L) w w' := by
  have i0 : Nw w (w.alloc (.cells #[.int .i64 k.T, .int .i64 k.O, .int .i64 k.S] 27)) := (Nw.refl w).alloc _
  have hb : RM (w.alloc (.cells #[.int .i64 k.T, .int .i64 k.O, .int .i64 k.S] 27)) R C S L r := h.new i0
  have hu : Blk (w.alloc (.cells #[.int .i64 k.T, .int .i64 k.O, .int .i64 k.S] 27)) w.heap.size 27 #[.int .i64 k.T, .int .i64 k.O, .int .i64 k.S] := Blk.last w _ _ rfl
  have hSlt : S < w.heap.size := h.ms.1.lt
  have hRlt : R < w.heap.size := h.st.lt
  go_enter Try.func16, Try.ntmps16
  go_upto_region 1 with (fail)
  generalize w.alloc (.cells #[.int .i64 k.T, .int .i64 k.O, .int .i64 k.S] 27) = wb at i0 hb hu ⊢
  obtain ⟨kb, hkb⟩ : ∃ kb, w.heap.size = kb := ⟨_, rfl⟩
  rw [hkb] at hu hSlt hRlt ⊢
  have hn := hb.n16
  have g1 : ¬ (p : Int) < 1 := by omega
  have g2 : ¬ (r.n : Int) + 1 ≤ (p : Int) := by omega
  have g2' : (p : Int) < (r.n : Int) + 1 := by omega
  have w1 : IntKind.i64.wrap ((r.n : Int) + 1 - 1) = (r.n : Int) := by rw [show ((r.n : Int) + 1 - 1) = (r.n : Int) by omega]; exact IntWalk.i64_in (n := (r.n : Int)) (by constructor <;> omega)
  have kn := Lib.hid (none_any R C S L r wb hb)
  have KB0 : Chg (Four R C S L) w wb := Chg.of_below i0 (Nat.le_refl _) (Four R C S L)
  have c1 := hb.f1
  rw [hh] at c1
  have c2 := hb.f2
  have c3 := hb.f3
  have hlen := hb.ms.len 3
  rw [hl] at hlen
  have y1 := hb.frz.1 1
  have h9 := hb.set1 2 (by omega)
  have u9 : Blk (wb.setCell ⟨R, 1, none⟩ (.int .i64 ((2 : Nat) : Int))) kb 27 #[.int .i64 k.T, .int .i64 k.O, .int .i64 k.S] := hu.far (p := ⟨R, 1, none⟩) (by show kb ≠ R; omega) _
  have k9 := KB0.setCell (p := ⟨R, 1, none⟩) (.inl (.inl rfl)) (.int .i64 ((2 : Nat) : Int))
  have H9 := Lib.hid h9
  have U9 := Lib.hid u9
  have K9 := Lib.hid k9
  clear h9 u9 k9 hb hu KB0 i0 h hkb
  go_upto_region 10 with (refine kn.out.mono ?_; rintro e w1 ⟨rfl, rfl⟩)
  have h9 : RM (w1.setCell ⟨R, 1, none⟩ (.int .i64 2)) R C S L { r with half := 2 } := H9.out
  have u9 : Blk (w1.setCell ⟨R, 1, none⟩ (.int .i64 2)) kb 27 #[.int .i64 k.T, .int .i64 k.O, .int .i64 k.S] := U9.out
  have k9 : Chg (Four R C S L) w (w1.setCell ⟨R, 1, none⟩ (.int .i64 2)) := K9.out
  clear c1 c2 c3 hlen y1 H9 U9 K9 kn
  generalize World.setCell _ _ _ = w9 at h9 u9 k9 ⊢
  have c3 : w9.cell? ⟨R, 3, none⟩ = some (.map (some S)) := h9.f3
  have H9 := Lib.hid h9
  have U9 := Lib.hid u9
  have K9 := Lib.hid k9
  clear h9 u9 k9
  go_upto_region 11 with (refine wpList_clear_sn rfl _ rfl rfl H9.out.ms ?_; intro wq hsq hcq)
  have hq : RM wq R C S L { r with half := 2, seen := [] } := H9.out.setS hsq hcq (Nat.zero_le _)
  have uq := U9.out.chg hcq (by show ¬ kb = S; omega)
  have kq := K9.out.trans hcq (fun i _ e => (.inr (.inr (.inl e)) : Four R C S L i))
  have hnm : p ∉ ([] : List Nat) := by simp
  have hlt : ([] : List Nat).length < r.n := by simp; omega
  clear c3 H9 U9 K9 hsq hcq
  have c1 : wq.cell? ⟨R, 1, none⟩ = some (.int .i64 2) := hq.f1
  have c3 : wq.cell? ⟨R, 3, none⟩ = some (.map (some S)) := hq.f3
  have hlk : (Instr.lookup 47 (.map (some S)) (.int .i64 (p : Int)) false).run Try.prog wq = .ok (.bool (decide (p ∈ ([] : List Nat)))) wq := hq.ms.lookup (p := p) (by omega)
  rw [show decide (p ∈ ([] : List Nat)) = false by simp] at hlk
  have hlen : (Builtin.len_ #[47] 3 #[.map (some S)]).run Try.prog wq = .ok (.int .i64 ((([] : List Nat)).length : Int)) wq := hq.ms.len 3
  have g3 : decide (((([] : List Nat)).length : Int) = (r.n : Int)) = false := by simp; omega
  have g4 : ¬ (((([] : List Nat)).length : Int) = (r.n : Int)) := by simp; omega
  obtain ⟨w2, hput, hs2, hc2⟩ := hq.ms.put (p := p) (by omega) hnm (by simp)
  have h2 : RM w2 R C S L { { r with half := 2, seen := [] } with seen := p :: ([] : List Nat) } := hq.setS hs2 hc2 (by simp; omega)
  have u2 := uq.chg hc2 (by show ¬ kb = S; omega)
  have k2 := kq.trans hc2 (fun i _ e => (.inr (.inr (.inl e)) : Four R C S L i))
  have d1 : w2.cell? ⟨R, 1, none⟩ = some (.int .i64 2) := h2.f1
  have H2 := Lib.hid h2
  have U2 := Lib.hid u2
  have K2 := Lib.hid k2
  clear hq uq kq h2 u2 k2 hs2 hc2
  go_upto_region 17 with (fail)
  clear c1 c3 hlk hlen g3 g4 hput d1
  refine region17 R C S L { { r with half := 2, seen := [] } with seen := p :: ([] : List Nat) } p kb k w2 H2.out hp (U2.out.cell 0) (U2.out.cell 1) (U2.out.cell 2) _ ?_
  intro t112 t113 t114 t115 t116 t117 t118 t119 t120 t121 t122 t123 t124 t125 t126 t127 t128 w17 h17
  obtain ⟨h17, k17⟩ := h17
  have k17 := K2.out.trans k17 (fun i _ e => e)
  have c3 : w17.cell? ⟨R, 3, none⟩ = some (.map (some S)) := h17.f3
  have hlen : (Builtin.len_ #[47] 3 #[.map (some S)]).run Try.prog w17 = .ok (.int .i64 ((p :: ([] : List Nat)).length : Int)) w17 := h17.ms.len 3
  have g5 : decide (((p :: ([] : List Nat)).length : Int) = (r.n : Int)) = false := by simp; omega
  have g6 : ¬ (((p :: ([] : List Nat)).length : Int) = (r.n : Int)) := by simp; omega
  generalize ((p :: ([] : List Nat)).length : Int) = len at hlen g5 g6
  have H17 := Lib.hid h17
  have K17 := Lib.hid k17
  clear h17 k17 H2 U2 K2
  go_wp2_with fail
  go_ret
  exact ⟨rfl, H17.out, K17.out⟩
end Go.Proofs.Ytbgpbbepeemieaa
