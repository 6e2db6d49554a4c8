/- See in the second half, and the turn to it. Helper. -/
import Derived.Test.YtbgpbbepeemieaaRndSee
import Derived.Test.YtbgpbbepeemieaaRndR20
namespace Go.Proofs.Ytbgpbbepeemieaa
open Go.RowKit
set_option linter.unusedVariables false
set_option linter.unusedSimpArgs false
set_option maxRecDepth 100000 in
set_option maxHeartbeats 3200000 in
theorem see_end (R C S L : Nat) (r : Rn) (p : Nat) (k : Ky) (w : World) (h : RM w R C S L r) (hp1 : 1 ≤ p) (hp : p ≤ r.n) (hh : r.half = 2) (hm : p ∉ r.seen) (hlt : r.seen.length + 1 = r.n) :
    Calls Try.prog 16 #[.pointer (some ⟨R, 0, none⟩), .int .i64 (p : Int), .agg #[.int .i64 k.T, .int .i64 k.O, .int .i64 k.S], .int .i64 0] w fun e w' => e = .returned (.int .i64 0) ∧ RM w' R C S L { r with seen := p :: r.seen, rep := r.rep.min (k.min (r.least p)), half := 0, bnd := (r.rep.min (k.min (r.least p))).min (r.least 0), is := true } ∧ Chg (Four R C S L) w w' := by
  have i0 : Nw w (w.alloc (.cells #[.int .i64 k.T, .int .i64 k.O, .int .i64 k.S] 27)) := (Nw.refl w).alloc _
  have hb : RM (w.alloc (.cells #[.int .i64 k.T, .int .i64 k.O, .int .i64 k.S] 27)) R C S L r := h.new i0
  have hu : Blk (w.alloc (.cells #[.int .i64 k.T, .int .i64 k.O, .int .i64 k.S] 27)) w.heap.size 27 #[.int .i64 k.T, .int .i64 k.O, .int .i64 k.S] := Blk.last w _ _ rfl
  have hSlt : S < w.heap.size := h.ms.1.lt
  have hRlt : R < w.heap.size := h.st.lt
  go_enter Try.func16, Try.ntmps16
  go_upto_region 1 with (fail)
  generalize w.alloc (.cells #[.int .i64 k.T, .int .i64 k.O, .int .i64 k.S] 27) = wb at i0 hb hu ⊢
  obtain ⟨kb, hkb⟩ : ∃ kb, w.heap.size = kb := ⟨_, rfl⟩
  rw [hkb] at hu hSlt hRlt ⊢
  have hn := hb.n16
  have g1 : ¬ (p : Int) < 1 := by omega
  have g2 : ¬ (r.n : Int) + 1 ≤ (p : Int) := by omega
  have g2' : (p : Int) < (r.n : Int) + 1 := by omega
  have w1 : IntKind.i64.wrap ((r.n : Int) + 1 - 1) = (r.n : Int) := by rw [show ((r.n : Int) + 1 - 1) = (r.n : Int) by omega]; exact IntWalk.i64_in (n := (r.n : Int)) (by constructor <;> omega)
  have kn := Lib.hid (none_any R C S L r wb hb)
  have KB0 : Chg (Four R C S L) w wb := Chg.of_below i0 (Nat.le_refl _) (Four R C S L)
  have c1 := hb.f1
  rw [hh] at c1
  have c2 := hb.f2
  have c3 := hb.f3
  have hlk := hb.ms.lookup (p := p) (by omega)
  rw [show decide (p ∈ r.seen) = false by simp [hm]] at hlk
  have HQ := Lib.hid hb
  have UQ := Lib.hid hu
  have KQ := Lib.hid KB0
  clear hb hu KB0 i0 h hkb
  go_upto_region 11 with (refine kn.out.mono ?_; rintro e wq ⟨rfl, rfl⟩)
  have hq := HQ.out
  have uq := UQ.out
  have kq := KQ.out
  have hnm := hm
  clear c1 c2 c3 hlk kn HQ UQ KQ
  have c1 : wq.cell? ⟨R, 1, none⟩ = some (.int .i64 2) := by have := hq.f1; simpa [hh] using this
  have c3 : wq.cell? ⟨R, 3, none⟩ = some (.map (some S)) := hq.f3
  have hlk : (Instr.lookup 47 (.map (some S)) (.int .i64 (p : Int)) false).run Try.prog wq = .ok (.bool (decide (p ∈ r.seen))) wq := hq.ms.lookup (p := p) (by omega)
  rw [show decide (p ∈ r.seen) = false by simpa using hnm] at hlk
  have hlen : (Builtin.len_ #[47] 3 #[.map (some S)]).run Try.prog wq = .ok (.int .i64 ((r.seen).length : Int)) wq := hq.ms.len 3
  have g3 : decide (((r.seen).length : Int) = (r.n : Int)) = false := by simp; omega
  have g4 : ¬ (((r.seen).length : Int) = (r.n : Int)) := by omega
  obtain ⟨w2, hput, hs2, hc2⟩ := hq.ms.put (p := p) (by omega) hnm (by omega)
  have h2 : RM w2 R C S L { r with seen := p :: r.seen } := hq.setS hs2 hc2 (by simp; omega)
  have u2 := uq.chg hc2 (by show ¬ kb = S; omega)
  have k2 := kq.trans hc2 (fun i _ e => (.inr (.inr (.inl e)) : Four R C S L i))
  have d1 : w2.cell? ⟨R, 1, none⟩ = some (.int .i64 2) := by have := h2.f1; simpa [hh] using this
  have H2 := Lib.hid h2
  have U2 := Lib.hid u2
  have K2 := Lib.hid k2
  clear hq uq kq h2 u2 k2 hs2 hc2
  go_upto_region 17 with (fail)
  clear c1 c3 hlk hlen g3 g4 hput d1
  refine region17 R C S L { r with seen := p :: r.seen } p kb k w2 H2.out hp (U2.out.cell 0) (U2.out.cell 1) (U2.out.cell 2) _ ?_
  intro t112 t113 t114 t115 t116 t117 t118 t119 t120 t121 t122 t123 t124 t125 t126 t127 t128 w17 h17
  obtain ⟨h17, k17⟩ := h17
  have k17 := K2.out.trans k17 (fun i _ e => e)
  have c3 : w17.cell? ⟨R, 3, none⟩ = some (.map (some S)) := h17.f3
  have hlen : (Builtin.len_ #[47] 3 #[.map (some S)]).run Try.prog w17 = .ok (.int .i64 ((p :: r.seen).length : Int)) w17 := h17.ms.len 3
  have e17 : (p :: r.seen).length = r.n := by simp; omega
  rw [e17] at hlen
  have y1 := h17.frz.1 1
  have c1 : w17.cell? ⟨R, 1, none⟩ = some (.int .i64 2) := by have := h17.f1; simpa [hh] using this
  have h19 := h17.set1 0 (by omega)
  have k19 := k17.setCell (p := ⟨R, 1, none⟩) (.inl (.inl rfl)) (.int .i64 ((0 : Nat) : Int))
  have H19 := Lib.hid h19
  have K19 := Lib.hid k19
  clear h17 k17 h19 k19 H2 U2 K2
  go_upto_region 20 with (fail)
  clear c1 c3 hlen y1
  refine region20 R C S L _ _ H19.out _ ?_
  intro t139 t140 t141 t142 t143 t144 t145 t146 t147 t148 t149 t150 t151 t152 t153 t154 t155 w20 h20
  obtain ⟨h20, k20⟩ := h20
  have k20 := K19.out.trans k20 (fun i _ e => e)
  go_wp2_with fail
  go_ret
  exact ⟨rfl, h20, k20⟩
end Go.Proofs.Ytbgpbbepeemieaa
