/- What the machine's instructions do: those that reckon, store, chance. Helper. -/
import Derived.Test.YtgijkgngldfdiaaVmOps
import Derived.Deep.RegionWith
import Derived.StillTailTactics
namespace Go.Proofs.Ytgijkgngldfdiaa
open Go.RowKit
set_option linter.unusedVariables false
set_option linter.unusedSimpArgs false
theorem take_set {α : Type} (l : List α) (off n i : Nat) (u : α) (h : i < n) : ((l.set (off + i) u).drop off).take n = ((l.drop off).take n).set i u := by
  apply List.ext_getElem?
  intro j
  rw [List.getElem?_take, List.getElem?_set, List.getElem?_drop, List.getElem?_set, List.getElem?_take, List.getElem?_drop]
  by_cases e : i = j
  · subst e
    simp only [if_true, if_pos h, List.length_take, List.length_drop]
    by_cases g : off + i < l.length
    · rw [if_pos g, if_pos (by omega)]
    · rw [if_neg g, if_neg (by omega)]
  · rw [if_neg e, if_neg (show ¬ off + i = off + j by omega)]
theorem Own.setAt {w : World} {e : TypeId} {g off n c : Nat} {xs : List Value} {blk : Option Nat} (h : Own w e 1 (.slice (some ⟨g, off, none⟩) n c) n xs blk) {i : Nat} (hi : i < n) (u : Value) :
    Own (w.setCell ⟨g, off + i, none⟩ u) e 1 (.slice (some ⟨g, off, none⟩) n c) n (xs.set i u) blk := by
  obtain ⟨hl, A, cc, hv, h1, h2, h3 | ⟨g', off', cur, rfl, rfl, hg, h4, h5⟩⟩ := h
  · injection hv with _ _ e3
    omega
  · injection hv with e1 e2 e3
    injection e1 with e1
    injection e1 with e1 e4 _
    subst e1 e4 e3
    refine ⟨by rw [List.length_set]; exact hl, _, _, rfl, h1, h2, .inr ⟨g, off, _, rfl, rfl, hg.set_ (off + i) u, by simpa using h4, ?_⟩⟩
    rw [Array.toList_setIfInBounds, take_set _ _ _ _ _ (by omega), h5]
theorem RunH.pokeVar {w : World} {Hm : Nat → Prop} {R MB : Nat} {c : Cfg} {s : Vm} (h : RunH w Hm R MB c s) {i : Nat} (hi : i < s.vars.length) (x : Int) {b o : Nat} (e : c.vA = some ⟨b, o, none⟩) :
    Done w (w.setCell ⟨b, o + i, none⟩ (.int .i64 x)) Hm R MB c { s with vars := s.vars.set i x } := by
  obtain ⟨b', o', e', hVB, _, _⟩ := h.varAt hi
  rw [e] at e'
  injection e' with e'
  injection e' with e1 e2 _
  subst e1 e2
  obtain ⟨⟨cs, sv, tv, SB, TB, hb, hr, hh⟩, hm, hR, hM, hMlt⟩ := h
  obtain ⟨cur, hcur⟩ := hh.v.tyB b hVB
  have hHb : Hm b := hh.hv b hVB
  have keep : ∀ g t cs', t ≠ 2 → Blk w g t cs' → (w.setCell ⟨b, o + i, none⟩ (.int .i64 x)).heap[g]? = w.heap[g]? := fun g t cs' ht hg => Below.heap_setCell _ _ _ _ (show g ≠ b from hg.ne_ hcur ht)
  refine RunH.turn hM hMlt hR hm ((keep R _ cs (by decide) hb).trans hb) (hr.setVars _ (by rw [List.length_set])) (SB := SB) (TB := TB) ⟨?_, ?_, ?_, fun g hg => .inl (hh.hv g hg), fun g hg => .inl (hh.hs g hg), fun g hg => .inl (hh.ht g hg)⟩ ((Chg.refl Hm w).setCell (p := ⟨b, o + i, none⟩) (.inl hHb) _)
  · have := hh.v
    rw [e] at this
    have k := this.setAt hi (.int .i64 x)
    rw [e, show ({ s with vars := s.vars.set i x } : Vm).vars.length = s.vars.length from List.length_set, show ints ({ s with vars := s.vars.set i x } : Vm).vars = (ints s.vars).set i (.int .i64 x) by simp [ints, List.map_set]]
    exact k
  · exact hh.s.kept fun g hg => by obtain ⟨cur', hc⟩ := hh.s.tyB g hg; exact keep g _ cur' (by decide) hc
  · exact hh.t.kept fun g hg => by obtain ⟨cur', hc⟩ := hh.t.tyB g hg; exact keep g _ cur' (by decide) hc
section
variable (Hm : Nat → Prop) (R MB : Nat) (c : Cfg) (s : Vm) (n : Int) (w : World)
set_option maxRecDepth 100000
theorem add_any (h : RunH w Hm R MB c s) :
    Calls Try.prog 90 #[.pointer (some ⟨R, 0, none⟩), .int .i64 n] w fun e w' => e = .returned (.tuple #[]) ∧ Done w w' Hm R MB c (s.pop.pop.push (wrap64 (s.pop.top + s.top))) := by
  have k := two_any Hm R MB c s w h
  clear h
  obtain ⟨t1, h1⟩ : ∃ t, s.top = t := ⟨_, rfl⟩
  obtain ⟨t2, h2⟩ : ∃ t, s.pop.top = t := ⟨_, rfl⟩
  rw [h1, h2] at k ⊢
  clear h1 h2
  have K := Lib.hid k
  clear k
  go_enter Try.func90, Try.ntmps90
  go_wp2_with fail
  refine K.out.mono ?_
  rintro e w1 ⟨rfl, d1⟩
  have D1 := Lib.hid d1
  have P := Lib.hid (push_any _ R MB c s.pop.pop (wrap64 (t2 + t1)) w1 d1.run)
  clear d1 K
  go_wp2_with fail
  refine P.out.mono ?_
  rintro e w2 ⟨rfl, d2⟩
  have D2 := Lib.hid (D1.out.then d2)
  clear d2 P D1
  go_wp2_with fail
  go_end0
  exact ⟨rfl, D2.out⟩
theorem sub_any (h : RunH w Hm R MB c s) :
    Calls Try.prog 91 #[.pointer (some ⟨R, 0, none⟩), .int .i64 n] w fun e w' => e = .returned (.tuple #[]) ∧ Done w w' Hm R MB c (s.pop.pop.push (wrap64 (s.pop.top - s.top))) := by
  have k := two_any Hm R MB c s w h
  clear h
  obtain ⟨t1, h1⟩ : ∃ t, s.top = t := ⟨_, rfl⟩
  obtain ⟨t2, h2⟩ : ∃ t, s.pop.top = t := ⟨_, rfl⟩
  rw [h1, h2] at k ⊢
  clear h1 h2
  have K := Lib.hid k
  clear k
  go_enter Try.func91, Try.ntmps91
  go_wp2_with fail
  refine K.out.mono ?_
  rintro e w1 ⟨rfl, d1⟩
  have D1 := Lib.hid d1
  have P := Lib.hid (push_any _ R MB c s.pop.pop (wrap64 (t2 - t1)) w1 d1.run)
  clear d1 K
  go_wp2_with fail
  refine P.out.mono ?_
  rintro e w2 ⟨rfl, d2⟩
  have D2 := Lib.hid (D1.out.then d2)
  clear d2 P D1
  go_wp2_with fail
  go_end0
  exact ⟨rfl, D2.out⟩
theorem mul_any (h : RunH w Hm R MB c s) :
    Calls Try.prog 92 #[.pointer (some ⟨R, 0, none⟩), .int .i64 n] w fun e w' => e = .returned (.tuple #[]) ∧ Done w w' Hm R MB c (s.pop.pop.push (wrap64 (s.pop.top * s.top))) := by
  have k := two_any Hm R MB c s w h
  clear h
  obtain ⟨t1, h1⟩ : ∃ t, s.top = t := ⟨_, rfl⟩
  obtain ⟨t2, h2⟩ : ∃ t, s.pop.top = t := ⟨_, rfl⟩
  rw [h1, h2] at k ⊢
  clear h1 h2
  have K := Lib.hid k
  clear k
  go_enter Try.func92, Try.ntmps92
  go_wp2_with fail
  refine K.out.mono ?_
  rintro e w1 ⟨rfl, d1⟩
  have D1 := Lib.hid d1
  have P := Lib.hid (push_any _ R MB c s.pop.pop (wrap64 (t2 * t1)) w1 d1.run)
  clear d1 K
  go_wp2_with fail
  refine P.out.mono ?_
  rintro e w2 ⟨rfl, d2⟩
  have D2 := Lib.hid (D1.out.then d2)
  clear d2 P D1
  go_wp2_with fail
  go_end0
  exact ⟨rfl, D2.out⟩
theorem less_any (h : RunH w Hm R MB c s) :
    Calls Try.prog 93 #[.pointer (some ⟨R, 0, none⟩), .int .i64 n] w fun e w' => e = .returned (.tuple #[]) ∧ Done w w' Hm R MB c (s.pop.pop.push (if s.pop.top < s.top then 1 else 0)) := by
  have k := two_any Hm R MB c s w h
  clear h
  obtain ⟨t1, h1⟩ : ∃ t, s.top = t := ⟨_, rfl⟩
  obtain ⟨t2, h2⟩ : ∃ t, s.pop.top = t := ⟨_, rfl⟩
  rw [h1, h2] at k ⊢
  clear h1 h2
  have K := Lib.hid k
  clear k
  by_cases ht : t2 < t1
  · rw [if_pos ht]
    have g1 : decide (t2 < t1) = true := by simp [ht]
    clear ht
    go_enter Try.func93, Try.ntmps93
    go_wp2_with fail
    refine K.out.mono ?_
    rintro e w1 ⟨rfl, d1⟩
    have D1 := Lib.hid d1
    have P := Lib.hid (push_any _ R MB c s.pop.pop 1 w1 d1.run)
    clear d1 K
    go_wp2_with fail
    refine (flag_any w1 true).mono ?_
    rintro e w2 ⟨rfl, rfl⟩
    go_wp2_with fail
    refine P.out.mono ?_
    rintro e w2 ⟨rfl, d2⟩
    have D2 := Lib.hid (D1.out.then d2)
    clear d2 P D1
    go_wp2_with fail
    go_end0
    exact ⟨rfl, D2.out⟩
  · rw [if_neg ht]
    have g1 : decide (t2 < t1) = false := by simp [ht]
    clear ht
    go_enter Try.func93, Try.ntmps93
    go_wp2_with fail
    refine K.out.mono ?_
    rintro e w1 ⟨rfl, d1⟩
    have D1 := Lib.hid d1
    have P := Lib.hid (push_any _ R MB c s.pop.pop 0 w1 d1.run)
    clear d1 K
    go_wp2_with fail
    refine (flag_any w1 false).mono ?_
    rintro e w2 ⟨rfl, rfl⟩
    go_wp2_with fail
    refine P.out.mono ?_
    rintro e w2 ⟨rfl, d2⟩
    have D2 := Lib.hid (D1.out.then d2)
    clear d2 P D1
    go_wp2_with fail
    go_end0
    exact ⟨rfl, D2.out⟩
theorem same_any (h : RunH w Hm R MB c s) :
    Calls Try.prog 94 #[.pointer (some ⟨R, 0, none⟩), .int .i64 n] w fun e w' => e = .returned (.tuple #[]) ∧ Done w w' Hm R MB c (s.pop.pop.push (if s.pop.top = s.top then 1 else 0)) := by
  have k := two_any Hm R MB c s w h
  clear h
  obtain ⟨t1, h1⟩ : ∃ t, s.top = t := ⟨_, rfl⟩
  obtain ⟨t2, h2⟩ : ∃ t, s.pop.top = t := ⟨_, rfl⟩
  rw [h1, h2] at k ⊢
  clear h1 h2
  have K := Lib.hid k
  clear k
  by_cases ht : t2 = t1
  · rw [if_pos ht]
    have g1 : decide (t2 = t1) = true := by simp [ht]
    have g2 : (t2 == t1) = true := by simp [ht]
    clear ht
    go_enter Try.func94, Try.ntmps94
    go_wp2_with fail
    refine K.out.mono ?_
    rintro e w1 ⟨rfl, d1⟩
    have D1 := Lib.hid d1
    have P := Lib.hid (push_any _ R MB c s.pop.pop 1 w1 d1.run)
    clear d1 K
    go_wp2_with fail
    refine (flag_any w1 true).mono ?_
    rintro e w2 ⟨rfl, rfl⟩
    go_wp2_with fail
    refine P.out.mono ?_
    rintro e w2 ⟨rfl, d2⟩
    have D2 := Lib.hid (D1.out.then d2)
    clear d2 P D1
    go_wp2_with fail
    go_end0
    exact ⟨rfl, D2.out⟩
  · rw [if_neg ht]
    have g1 : decide (t2 = t1) = false := by simp [ht]
    have g2 : (t2 == t1) = false := by simp [ht]
    clear ht
    go_enter Try.func94, Try.ntmps94
    go_wp2_with fail
    refine K.out.mono ?_
    rintro e w1 ⟨rfl, d1⟩
    have D1 := Lib.hid d1
    have P := Lib.hid (push_any _ R MB c s.pop.pop 0 w1 d1.run)
    clear d1 K
    go_wp2_with fail
    refine (flag_any w1 false).mono ?_
    rintro e w2 ⟨rfl, rfl⟩
    go_wp2_with fail
    refine P.out.mono ?_
    rintro e w2 ⟨rfl, d2⟩
    have D2 := Lib.hid (D1.out.then d2)
    clear d2 P D1
    go_wp2_with fail
    go_end0
    exact ⟨rfl, D2.out⟩
theorem store_any (i : Nat) (hi : i < s.vars.length) (h : RunH w Hm R MB c s) (hl : s.vars.length ≤ 4294967295) :
    Calls Try.prog 85 #[.pointer (some ⟨R, 0, none⟩), .int .i64 (i : Int)] w fun e w' => e = .returned (.tuple #[]) ∧ Done w w' Hm R MB c { s.pop with vars := s.vars.set i s.top } := by
  have h0 := h.new ((Below.refl w.heap.size w).drew)
  have c7 := h0.cells.2.2.2.1
  obtain ⟨b, o, e1⟩ : ∃ b o, c.vA = some ⟨b, o, none⟩ := by obtain ⟨b, o, e, _⟩ := h0.varAt hi; exact ⟨b, o, e⟩
  have k := take_any Hm R MB c s w.drew h0
  have HE := Lib.hid e1
  have HI := Lib.hid hi
  rw [e1] at c7
  have g1 : (i : Int) < (s.vars.length : Int) := by omega
  obtain ⟨q, hq⟩ : ∃ q, s.vars.length = q := ⟨_, rfl⟩
  have HQ := Lib.hid hq
  obtain ⟨t, ht⟩ : ∃ t, s.top = t := ⟨_, rfl⟩
  rw [ht] at k ⊢
  rw [hq] at c7 g1 hl
  have K := Lib.hid k
  clear h h0 e1 hi hq ht k
  go_enter Try.func85, Try.ntmps85
  go_wp2_with fail
  go_region_with (go_at_call 108; refine K.out.mono ?_; rintro e w7 ⟨rfl, d7⟩; have D7 := Lib.hid d7; have c7' := d7.run.cells.2.2.2.1; rw [HE.out, show s.pop.vars.length = q from HQ.out] at c7'; obtain ⟨b', o', e', _, x7, f7⟩ := d7.run.varAt (i := i) (show i < s.pop.vars.length from HI.out); rw [HE.out] at e'; injection e' with e'; injection e' with e1 e2 _; subst e1 e2; clear d7)
  all_goals
    go_wp2_with fail
    go_end0
    have D8 := D7.out.then (D7.out.run.pokeVar (i := i) (show i < s.pop.vars.length from HI.out) t HE.out)
    exact ⟨rfl, ⟨D8.run, Chg.trans (Chg.refl Hm w).drew D8.chg (fun _ _ h => h)⟩⟩
theorem chanceop_any (h : RunH w Hm R MB c s) :
    Calls Try.prog 89 #[.pointer (some ⟨R, 0, none⟩), .int .i64 n] w fun e w' => e = .returned (.tuple #[]) ∧ Done w w' Hm R MB c { s.push (chanceV c.seed s.drawn) with drawn := wrap64 (s.drawn + 1) } := by
  have h0 := h.new ((Below.refl w.heap.size w).drew)
  have c0 := h0.cells.1
  have c9 := h0.cells.2.2.2.2.2.1
  have m4 := h0.mach.m4
  obtain ⟨v, hv⟩ : ∃ v, chanceV c.seed s.drawn = v := ⟨_, rfl⟩
  have kc := fun W => chance_any c.seed s.drawn W
  rw [hv] at kc ⊢
  have KC := Lib.hid kc
  have K := Lib.hid (push_any Hm R MB c s v w.drew h0)
  have e9 : (s.push v).drawn = s.drawn := by unfold Vm.push; split <;> rfl
  have H9 := Lib.hid e9
  clear h h0 hv kc e9
  go_enter Try.func89, Try.ntmps89
  go_wp2_with fail
  go_still_tail 15, (by kernel_rfl)
  still_call ((KC.out _).mono (fun e w' h => ⟨h.1, h.2.symm⟩))
  repeat still_step
  refine wpStill_nil ?_
  change wpList _ _ _ _ _ w.drew
  go_wp2_with fail
  refine K.out.mono ?_
  rintro e w7 ⟨rfl, d7⟩
  have D7 := Lib.hid d7
  clear d7
  all_goals
    obtain ⟨_, _, _, _, _, c9', _⟩ := D7.out.run.cells
    rw [H9.out] at c9'
    have f9 := D7.out.run.free 9
    have D8 := D7.out.then (D7.out.run.poke 9 (.int .i64 (wrap64 (s.drawn + 1))) (s' := { s.push v with drawn := wrap64 (s.drawn + 1) }) (fun cs sv tv hr => hr.setDrawn _) rfl rfl rfl)
    have HD := Lib.hid D8
    clear D8 D7
    go_wp2_with fail
    go_end0
    exact ⟨rfl, ⟨HD.out.run, Chg.trans (Chg.refl Hm w).drew HD.out.chg (fun _ _ h => h)⟩⟩
end
end Go.Proofs.Ytgijkgngldfdiaa
