/- What the machine's instructions do. Helper. -/
import Derived.Test.YtgijkgngldfdiaaVmStack
import Derived.Test.YtgijkgngldfdiaaVmChance
namespace Go.Proofs.Ytgijkgngldfdiaa
open Go.RowKit
set_option linter.unusedVariables false
set_option linter.unusedSimpArgs false
theorem RunH.cells {w : World} {Hm : Nat → Prop} {R MB : Nat} {c : Cfg} {s : Vm} (h : RunH w Hm R MB c s) :
    w.cell? ⟨R, 0, none⟩ = some (.pointer (some ⟨MB, 0, none⟩)) ∧ w.cell? ⟨R, 1, none⟩ = some (.int .i64 c.time) ∧ w.cell? ⟨R, 6, none⟩ = some (.int .i64 c.data) ∧ w.cell? ⟨R, 7, none⟩ = some (.slice c.vA s.vars.length c.vc) ∧
      w.cell? ⟨R, 8, none⟩ = some (.int .i64 s.sent) ∧ w.cell? ⟨R, 9, none⟩ = some (.int .i64 s.drawn) ∧ w.cell? ⟨R, 29, none⟩ = some (.int .i64 (s.pc : Int)) := by
  obtain ⟨cs, sv, tv, SB, TB, hb, hr, hh⟩ := h.ex
  exact ⟨(hb.cell 0).trans hr.c0, (hb.cell 1).trans hr.c1, (hb.cell 6).trans hr.c6, (hb.cell 7).trans hr.c7, (hb.cell 8).trans hr.c8, (hb.cell 9).trans hr.c9, (hb.cell 29).trans hr.c29⟩
theorem RunH.free {w : World} {Hm : Nat → Prop} {R MB : Nat} {c : Cfg} {s : Vm} (h : RunH w Hm R MB c s) (j : Nat) : w.frozen? ⟨R, j, none⟩ = false := by
  obtain ⟨cs, sv, tv, SB, TB, hb, _⟩ := h.ex
  exact hb.frozen j
theorem RunH.varAt {w : World} {Hm : Nat → Prop} {R MB : Nat} {c : Cfg} {s : Vm} (h : RunH w Hm R MB c s) {i : Nat} (hi : i < s.vars.length) :
    ∃ b o, c.vA = some ⟨b, o, none⟩ ∧ c.VB = some b ∧ w.cell? ⟨b, o + i, none⟩ = some (.int .i64 s.vars[i]) ∧ w.frozen? ⟨b, o + i, none⟩ = false := by
  obtain ⟨cs, sv, tv, SB, TB, hb, hr, hh⟩ := h.ex
  obtain ⟨hl, A, cc, hv, h1, h2, h3 | ⟨g, off, cur, rfl, hg', hg, h4, h5⟩⟩ := hh.v
  · omega
  · injection hv with e1 e2 e3
    refine ⟨g, off, e1, hg', ?_, hg.frozen _⟩
    rw [hg.cell]
    have e : ((cur.toList.drop off).take (s.vars.length * 1))[i]? = cur[off + i]? := by
      rw [List.getElem?_take, if_pos (by omega), List.getElem?_drop]; simp
    rw [← e, h5, ints_get, List.getElem?_eq_getElem hi]
    rfl
/-- One cell of the run's own block turns. -/
theorem RunH.poke {w : World} {Hm : Nat → Prop} {R MB : Nat} {c : Cfg} {s s' : Vm} (h : RunH w Hm R MB c s) (j : Nat) (u : Value)
    (hs : ∀ cs sv tv, RunB cs R MB c sv tv s → RunB (cs.setIfInBounds j u) R MB c sv tv s') (e1 : s'.vars = s.vars) (e2 : s'.sends = s.sends) (e3 : s'.tells = s.tells) : Done w (w.setCell ⟨R, j, none⟩ u) Hm R MB c s' := by
  obtain ⟨⟨cs, sv, tv, SB, TB, hb, hr, hh⟩, hm, hR, hM, hMlt⟩ := h
  refine RunH.turn hM hMlt hR hm (hb.set_ j u) (hs cs sv tv hr) (SB := SB) (TB := TB) ?_ ((Chg.refl Hm w).setCell (p := ⟨R, j, none⟩) (.inl hR) u)
  rw [e1, e2, e3]
  exact hh.kept (fun g t cs' ht hg => Below.heap_setCell _ _ _ _ (show g ≠ R from hg.ne_ hb (by rcases ht with rfl | rfl | rfl <;> decide))) (fun k _ h => .inl h)
theorem Done.drew {w w' : World} {Hm : Nat → Prop} {R MB : Nat} {c : Cfg} {s : Vm} (h : Done w w' Hm R MB c s) : Done w w'.drew Hm R MB c s := ⟨h.run.new ((Below.refl _ _).drew), h.chg.drew⟩
theorem Done.many {w w' : World} {Hm : Nat → Prop} {R MB : Nat} {c : Cfg} {s : Vm} (h : Done w w' Hm R MB c s) (n : Nat) : Done w (w'.drewN n) Hm R MB c s := ⟨h.run.new ⟨rfl, rfl, rfl, Nat.le_refl _, fun _ _ => rfl⟩, h.chg.many n⟩
section
variable (Hm : Nat → Prop) (R MB : Nat) (c : Cfg) (s : Vm) (n : Int) (w : World)
set_option maxRecDepth 100000
theorem two_any (h : RunH w Hm R MB c s) :
    Calls Try.prog 110 #[.pointer (some ⟨R, 0, none⟩)] w fun e w' => e = .returned (.tuple #[.int .i64 s.pop.top, .int .i64 s.top]) ∧ Done w w' Hm R MB c s.pop.pop := by
  have k := take_any Hm R MB c s w h
  clear h
  obtain ⟨t1, h1⟩ : ∃ t, s.top = t := ⟨_, rfl⟩
  obtain ⟨t2, h2⟩ : ∃ t, s.pop.top = t := ⟨_, rfl⟩
  rw [h1] at k ⊢
  rw [h2]
  have K := Lib.hid k
  have HT := Lib.hid h2
  clear h1 h2 k
  go_enter Try.func110, Try.ntmps110
  go_wp2_with fail
  refine K.out.mono ?_
  rintro e w1 ⟨rfl, d1⟩
  have D1 := Lib.hid d1
  have k2 := take_any _ R MB c s.pop w1 d1.run
  rw [HT.out] at k2
  have K2 := Lib.hid k2
  clear d1 K k2
  go_wp2_with fail
  refine K2.out.mono ?_
  rintro e w2 ⟨rfl, d2⟩
  have D2 := Lib.hid (D1.out.then d2)
  clear d2 K2 D1
  go_wp2_with fail
  go_ret2
  exact ⟨rfl, D2.out⟩
theorem flag_any (b : Bool) : Calls Try.prog 111 #[.bool b] w fun e w' => e = .returned (.int .i64 (if b then 1 else 0)) ∧ w = w' := by
  cases b
  · go_enter Try.func111, Try.ntmps111
    go_wp2
    go_ret
    exact ⟨rfl, rfl⟩
  · go_enter Try.func111, Try.ntmps111
    go_wp2
    go_ret
    exact ⟨rfl, rfl⟩
theorem time_any (h : RunH w Hm R MB c s) :
    Calls Try.prog 86 #[.pointer (some ⟨R, 0, none⟩), .int .i64 n] w fun e w' => e = .returned (.tuple #[]) ∧ Done w w' Hm R MB c (s.push c.time) := by
  obtain ⟨_, c1, _⟩ := h.cells
  have K := Lib.hid (push_any Hm R MB c s c.time w h)
  clear h
  go_enter Try.func86, Try.ntmps86
  go_wp2_with fail
  refine K.out.mono ?_
  rintro e w1 ⟨rfl, d1⟩
  have D1 := Lib.hid d1
  clear d1
  go_wp2_with fail
  go_end0
  exact ⟨rfl, D1.out⟩
theorem data_any (h : RunH w Hm R MB c s) :
    Calls Try.prog 87 #[.pointer (some ⟨R, 0, none⟩), .int .i64 n] w fun e w' => e = .returned (.tuple #[]) ∧ Done w w' Hm R MB c (s.push c.data) := by
  obtain ⟨_, _, c1, _⟩ := h.cells
  have K := Lib.hid (push_any Hm R MB c s c.data w h)
  clear h
  go_enter Try.func87, Try.ntmps87
  go_wp2_with fail
  refine K.out.mono ?_
  rintro e w1 ⟨rfl, d1⟩
  have D1 := Lib.hid d1
  clear d1
  go_wp2_with fail
  go_end0
  exact ⟨rfl, D1.out⟩
theorem self_any (h : RunH w Hm R MB c s) :
    Calls Try.prog 88 #[.pointer (some ⟨R, 0, none⟩), .int .i64 n] w fun e w' => e = .returned (.tuple #[]) ∧ Done w w' Hm R MB c (s.push c.self) := by
  obtain ⟨c0, _⟩ := h.cells
  have c1 := h.mach.m2
  have K := Lib.hid (push_any Hm R MB c s c.self w h)
  clear h
  go_enter Try.func88, Try.ntmps88
  go_wp2_with fail
  refine K.out.mono ?_
  rintro e w1 ⟨rfl, d1⟩
  have D1 := Lib.hid d1
  clear d1
  go_wp2_with fail
  go_end0
  exact ⟨rfl, D1.out⟩
theorem load_any (i : Nat) (hi : i < s.vars.length) (h : RunH w Hm R MB c s) (hl : s.vars.length ≤ 4294967295) :
    Calls Try.prog 84 #[.pointer (some ⟨R, 0, none⟩), .int .i64 (i : Int)] w fun e w' => e = .returned (.tuple #[]) ∧ Done w w' Hm R MB c (s.push s.vars[i]) := by
  obtain ⟨_, _, _, c7, _⟩ := h.cells
  obtain ⟨b, o, e1, _, ci, _⟩ := h.varAt hi
  have K := Lib.hid (push_any Hm R MB c s s.vars[i] w h)
  rw [e1] at c7
  have g1 : (i : Int) < (s.vars.length : Int) := by omega
  clear h e1
  generalize s.vars[i] = x at *
  go_enter Try.func84, Try.ntmps84
  go_wp2_with fail
  refine K.out.mono ?_
  rintro e w1 ⟨rfl, d1⟩
  have D1 := Lib.hid d1
  clear d1
  go_wp2_with fail
  go_end0
  exact ⟨rfl, D1.out⟩
theorem jump_any (p : Nat) (h : RunH w Hm R MB c s) :
    Calls Try.prog 95 #[.pointer (some ⟨R, 0, none⟩), .int .i64 (p : Int)] w fun e w' => e = .returned (.tuple #[]) ∧ Done w w' Hm R MB c { s with pc := p } := by
  obtain ⟨_, _, _, _, _, _, c29⟩ := h.cells
  have f29 := h.free 29
  have D := Lib.hid (h.poke 29 (.int .i64 (p : Int)) (s' := { s with pc := p }) (fun cs sv tv hr => hr.setPc p) rfl rfl rfl)
  clear h
  go_enter Try.func95, Try.ntmps95
  go_wp2_with fail
  go_end0
  exact ⟨rfl, D.out⟩
theorem end_any (h : RunH w Hm R MB c s) :
    Calls Try.prog 99 #[.pointer (some ⟨R, 0, none⟩), .int .i64 n] w fun e w' => e = .returned (.tuple #[]) ∧ Done w w' Hm R MB c { s with pc := 129 } := by
  obtain ⟨_, _, _, _, _, _, c29⟩ := h.cells
  have f29 := h.free 29
  have D := Lib.hid (h.poke 29 (.int .i64 ((129 : Nat) : Int)) (s' := { s with pc := 129 }) (fun cs sv tv hr => hr.setPc 129) rfl rfl rfl)
  clear h
  go_enter Try.func99, Try.ntmps99
  go_wp2_with fail
  go_end0
  exact ⟨rfl, D.out⟩
theorem zero_any (p : Nat) (h : RunH w Hm R MB c s) :
    Calls Try.prog 96 #[.pointer (some ⟨R, 0, none⟩), .int .i64 (p : Int)] w fun e w' => e = .returned (.tuple #[]) ∧ Done w w' Hm R MB c (if s.top = 0 then { s.pop with pc := p } else s.pop) := by
  have K := Lib.hid (take_any Hm R MB c s w h)
  clear h
  by_cases ht : s.top = 0
  · rw [ht] at K
    rw [if_pos ht]
    clear ht
    go_enter Try.func96, Try.ntmps96
    go_wp2_with fail
    refine K.out.mono ?_
    rintro e w1 ⟨rfl, d1⟩
    obtain ⟨_, _, _, _, _, _, c29⟩ := d1.run.cells
    have f29 := d1.run.free 29
    have D := Lib.hid (d1.then (d1.run.poke 29 (.int .i64 (p : Int)) (s' := { s.pop with pc := p }) (fun cs sv tv hr => hr.setPc p) rfl rfl rfl))
    clear d1 K
    go_wp2_with fail
    go_end0
    exact ⟨rfl, D.out⟩
  · rw [if_neg ht]
    have g : (s.top == 0) = false := beq_eq_false_iff_ne.2 ht
    clear ht
    generalize s.top = t at *
    go_enter Try.func96, Try.ntmps96
    go_wp2_with fail
    refine K.out.mono ?_
    rintro e w1 ⟨rfl, d1⟩
    have D := Lib.hid d1
    clear d1 K
    go_wp2_with fail
    go_end0
    exact ⟨rfl, D.out⟩
end
end Go.Proofs.Ytgijkgngldfdiaa
