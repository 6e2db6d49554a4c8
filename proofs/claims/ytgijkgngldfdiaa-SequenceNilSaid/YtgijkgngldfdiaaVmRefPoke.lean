/- What the reference's run does: single cells turn. Helper. -/
import Derived.Test.YtgijkgngldfdiaaVmRefSend
namespace Go.Proofs.Ytgijkgngldfdiaa
open Go.RowKit
set_option linter.unusedVariables false
set_option linter.unusedSimpArgs false
theorem RefH.pc {w : World} {Hm : Nat → Prop} {XB KB : Nat} {c : Cfg} {s : Vm} (h : RefH w Hm XB KB c s) (p : Nat) : RefH w Hm XB KB c { s with pc := p } := ⟨h.ex, h.hX, h.hK, h.deep⟩
theorem RDone.pc {w w' : World} {Hm : Nat → Prop} {XB KB : Nat} {c : Cfg} {s : Vm} (h : RDone w w' Hm XB KB c s) (p : Nat) : RDone w w' Hm XB KB c { s with pc := p } := ⟨h.run.pc p, h.chg⟩
/-- Where the variables lie. -/
theorem RefH.varAt {w : World} {Hm : Nat → Prop} {XB KB : Nat} {c : Cfg} {s : Vm} (h : RefH w Hm XB KB c s) {i : Nat} (hi : i < s.vars.length) :
    ∃ b o, c.vA = some ⟨b, o, none⟩ ∧ c.VB = some b ∧ w.cell? ⟨b, o + i, none⟩ = some (.int .i64 s.vars[i]) ∧ w.frozen? ⟨b, o + i, none⟩ = false := by
  obtain ⟨sv, tv, SB, TB, A, cap, GB, hx, hk, hh, ho, hg⟩ := h.ex
  obtain ⟨hl, A', cc, hv, h1, h2, h3 | ⟨g, off, cur, e1, hg', hg2, h4, h5⟩⟩ := hh.v
  · have := h3.1
    omega
  · injection hv with e2 _ _
    subst e1
    refine ⟨g, off, e2, hg', ?_, hg2.frozen _⟩
    have h6 : ((cur.toList.drop off).take (s.vars.length * 1))[i]? = (ints s.vars)[i]? := by rw [h5]
    rw [List.getElem?_take_of_lt (by omega), List.getElem?_drop] at h6
    rw [hg2.cell, ← Array.getElem?_toList, h6, ints_get, List.getElem?_eq_getElem hi]; rfl
/-- A variable turns. -/
theorem RefH.pokeVar {w : World} {Hm : Nat → Prop} {XB KB : Nat} {c : Cfg} {s : Vm} (h : RefH w Hm XB KB c s) {i : Nat} (hi : i < s.vars.length) (x : Int) {b o : Nat} (e : c.vA = some ⟨b, o, none⟩) :
    RDone w (w.setCell ⟨b, o + i, none⟩ (.int .i64 x)) Hm XB KB c { s with vars := s.vars.set i x } := by
  obtain ⟨b', o', e', hVB, _, _⟩ := h.varAt hi
  rw [e] at e'
  injection e' with e'
  injection e' with e1 e2 _
  subst e1 e2
  obtain ⟨⟨sv, tv, SB, TB, A, cap, GB, hx, hk, hh, ho, hg⟩, hX, hK, hd⟩ := h
  obtain ⟨cur, hcur⟩ := hh.v.tyB b hVB
  have hHb : Hm b := hh.hv b hVB
  have keep : ∀ g t cs', t ≠ 2 → Blk w g t cs' → (w.setCell ⟨b, o + i, none⟩ (.int .i64 x)).heap[g]? = w.heap[g]? := fun g t cs' ht hg => Below.heap_setCell _ _ _ _ (show g ≠ b from hg.ne_ hcur ht)
  refine ⟨⟨⟨sv, tv, SB, TB, A, cap, GB, ?_, (keep KB _ _ (by decide) hk).trans hk, ⟨?_, ?_, ?_, fun g hg => .inl (hh.hv g hg), fun g hg => .inl (hh.hs g hg), fun g hg => .inl (hh.ht g hg)⟩, ?_, fun g e => ⟨.inl (hg g e).1, (hg g e).2⟩⟩, .inl hX, .inl hK, hd⟩, (Chg.refl Hm w).setCell (p := ⟨b, o + i, none⟩) (.inl hHb) _⟩
  · rw [show ({ s with vars := s.vars.set i x } : Vm).vars.length = s.vars.length from List.length_set]
    exact (keep XB _ _ (by decide) hx).trans hx
  · have := hh.v
    rw [e] at this
    have k := this.setAt hi (.int .i64 x)
    rw [e, show ({ s with vars := s.vars.set i x } : Vm).vars.length = s.vars.length from List.length_set, show ints ({ s with vars := s.vars.set i x } : Vm).vars = (ints s.vars).set i (.int .i64 x) by simp [ints, List.map_set]]
    exact k
  · exact hh.s.kept fun g hg => by obtain ⟨cur', hc⟩ := hh.s.tyB g hg; exact keep g _ cur' (by decide) hc
  · exact hh.t.kept fun g hg => by obtain ⟨cur', hc⟩ := hh.t.tyB g hg; exact keep g _ cur' (by decide) hc
  · exact ho.kept fun g e => Below.heap_setCell _ _ _ _ (show g ≠ b from fun h => (hg g e).2 (by rw [hVB, h]))
/-- How many were drawn turns. -/
theorem RefH.setDrawn {w : World} {Hm : Nat → Prop} {XB KB : Nat} {c : Cfg} {s : Vm} (h : RefH w Hm XB KB c s) (x : Int) :
    RDone w (w.setCell ⟨XB, 2, none⟩ (.int .i64 x)) Hm XB KB c { s with drawn := x } := by
  obtain ⟨⟨sv, tv, SB, TB, A, cap, GB, hx, hk, hh, ho, hg⟩, hX, hK, hd⟩ := h
  have keep : ∀ g t cs', t ≠ 94 → Blk w g t cs' → (w.setCell ⟨XB, 2, none⟩ (.int .i64 x)).heap[g]? = w.heap[g]? := fun g t cs' ht hg => Below.heap_setCell _ _ _ _ (show g ≠ XB from hg.ne_ hx ht)
  refine ⟨⟨⟨sv, tv, SB, TB, A, cap, GB, hx.set_ 2 _, (keep KB _ _ (by decide) hk).trans hk, ⟨?_, ?_, ?_, fun g hg => .inl (hh.hv g hg), fun g hg => .inl (hh.hs g hg), fun g hg => .inl (hh.ht g hg)⟩, ?_, fun g e => ⟨.inl (hg g e).1, (hg g e).2⟩⟩, .inl hX, .inl hK, hd⟩, (Chg.refl Hm w).setCell (p := ⟨XB, 2, none⟩) (.inl hX) _⟩
  · exact hh.v.kept fun g hg => by obtain ⟨cur', hc⟩ := hh.v.tyB g hg; exact keep g _ cur' (by decide) hc
  · exact hh.s.kept fun g hg => by obtain ⟨cur', hc⟩ := hh.s.tyB g hg; exact keep g _ cur' (by decide) hc
  · exact hh.t.kept fun g hg => by obtain ⟨cur', hc⟩ := hh.t.tyB g hg; exact keep g _ cur' (by decide) hc
  · exact ho.kept fun g e => by obtain ⟨cur', hc⟩ := ho.tyB g e; exact keep g _ cur' (by decide) hc
/-- What is not the tells turns not. -/
theorem RefH.toldTo {w4 w6 : World} {Hm : Nat → Prop} {XB KB : Nat} {c : Cfg} {s : Vm} {sv : Value} {SB TB GB TB2 : Option Nat} {A tA A2 : Option Addr} {cap tc c2 : Nat} {row : List Int}
    (hx : Blk w4 XB 94 #[.slice c.vA s.vars.length c.vc, .int .i64 s.sent, .int .i64 s.drawn, sv, .slice tA s.tells.length tc]) (hk : Blk w4 KB 145 #[.slice A s.stack.length cap])
    (hh : Held w4 Hm c sv (.slice tA s.tells.length tc) s.vars s.sends s.tells SB TB) (ho : Own w4 2 1 (.slice A s.stack.length cap) s.stack.length (ints s.stack) GB) (hg : ∀ g, GB = some g → Hm g ∧ c.VB ≠ some g)
    (hX : Hm XB) (hK : Hm KB) (hd : s.stack.length ≤ 16) (b6 : Chg (fun k => some k = TB) w4 w6)
    (hown : Own w6 98 6 (.slice A2 (s.tells.length + 1) c2) (s.tells.length + 1) (ints s.tells.flatten ++ ints row) TB2) (hat : ∀ g, TB2 = some g → TB = some g ∨ w4.heap.size ≤ g) :
    RDone w4 (w6.setCell ⟨XB, 4, none⟩ (.slice A2 (s.tells.length + 1) c2)) Hm XB KB c { s with tells := s.tells ++ [row] } := by
  have notS : ∀ g t cs', t ≠ 98 → Blk w4 g t cs' → ¬ some g = TB := fun g t cs' ht hb e => by
    obtain ⟨cur, hc⟩ := hh.t.tyB g e.symm
    exact absurd rfl (hb.ne_ hc ht)
  have hx6 := hx.chg b6 (notS _ _ _ (by decide) hx)
  have keep : ∀ g t cs', t ≠ 98 → t ≠ 94 → Blk w4 g t cs' → (w6.setCell ⟨XB, 4, none⟩ (.slice A2 (s.tells.length + 1) c2)).heap[g]? = w4.heap[g]? := fun g t cs' ht ht' hb => by
    have hne : g ≠ XB := hb.ne_ hx ht'
    rw [Below.heap_setCell _ _ _ _ hne]
    exact b6.block g hb.lt (notS _ _ _ ht hb)
  have hl : (s.tells ++ [row]).length = s.tells.length + 1 := by simp
  refine ⟨⟨⟨sv, .slice A2 (s.tells.length + 1) c2, SB, TB2, A, cap, GB, hx6.set_ 4 _, (keep KB _ _ (by decide) (by decide) hk).trans hk, ⟨?_, ?_, ?_, fun g e => .inl (hh.hv g e), fun g e => .inl (hh.hs g e), ?_⟩, ?_, fun g e => ⟨.inl (hg g e).1, (hg g e).2⟩⟩, .inl hX, .inl hK, hd⟩, ?_⟩
  · exact hh.v.kept fun g e => by obtain ⟨cur, hc⟩ := hh.v.tyB g e; exact keep g _ cur (by decide) (by decide) hc
  · exact hh.s.kept fun g e => by obtain ⟨cur, hc⟩ := hh.s.tyB g e; exact keep g _ cur (by decide) (by decide) hc
  · show Own _ _ _ _ (s.tells ++ [row]).length (ints (s.tells ++ [row]).flatten) _
    rw [hl, List.flatten_append, ints_append, show [row].flatten = row by simp]
    exact hown.kept fun g e => by
      obtain ⟨cur, hc⟩ := hown.tyB g e
      have hne : g ≠ XB := hc.ne_ hx6 (by decide)
      rw [Below.heap_setCell _ _ _ _ hne]
  · intro g e
    rcases hat g e with h | h
    · exact .inl (hh.ht g h)
    · exact .inr h
  · exact ho.kept fun g e => by obtain ⟨cur, hc⟩ := ho.tyB g e; exact keep g _ cur (by decide) (by decide) hc
  · exact (b6.mono (M' := Hm) fun i hi e => hh.ht i e.symm).setCell (p := ⟨XB, 4, none⟩) (.inl hX) _
end Go.Proofs.Ytgijkgngldfdiaa
