/- The machine's stack: push, take, two. Helper. -/
import Derived.Test.YtgijkgngldfdiaaVmState
import Derived.Test.YtgijkgngldfdiaaOpen
import Derived.Deep.QuietTactic
import Derived.BigQuiet
namespace Go.Proofs.Ytgijkgngldfdiaa
open Go.RowKit
set_option linter.unusedVariables false
set_option linter.unusedSimpArgs false
theorem info64 : (Try.prog.info? 2).map (fun i => (i.zero, i.size, i.bytes)) = some (some (.int .i64 0), 1, 8) := by kernel_rfl
set_option maxRecDepth 100000 in
set_option maxHeartbeats 800000 in
theorem push_any (Hm : Nat → Prop) (R MB : Nat) (c : Cfg) (s : Vm) (n : Int) (w : World) (h : RunH w Hm R MB c s) :
    Calls Try.prog 83 #[.pointer (some ⟨R, 0, none⟩), .int .i64 n] w fun e w' => e = .returned (.tuple #[]) ∧ Done w w' Hm R MB c (s.push n) := by
  obtain ⟨⟨cs, sv, tv, SB, TB, hb, hr, hh⟩, hm, hR, hM, hMlt⟩ := h
  have a28 : w.cell? ⟨R, 28, none⟩ = some (.slice (some ⟨R, 12, none⟩) s.stack.length 16) := (hb.cell 28).trans hr.c28
  have hdeep := hr.deep
  by_cases hlt : s.stack.length < 16
  · have gl : (s.stack.length : Int) < 16 := by omega
    obtain ⟨i0, hi0, hz0, hz1, hz2⟩ := info_parts info64
    have HI := Lib.hid hi0
    have HZ := Lib.hid hz1
    clear hi0 hz0 hz1 hz2
    have HB := Lib.hid hb
    have HR := Lib.hid hr
    have HH := Lib.hid hh
    have hlR := hb.lt
    obtain ⟨k, hk⟩ : ∃ k, s.stack.length = k := ⟨_, rfl⟩
    have HK := Lib.hid hk
    rw [hk] at a28 gl hlt hdeep
    clear hb hr hh hk
    have hcell : ∀ o : Obj, Blk (w.alloc o) R 132 cs := fun o => HB.out.alloc o
    have HC := Lib.hid hcell
    have HM := Lib.hid hm
    have HRR := Lib.hid hR
    have HMM := Lib.hid hM
    have HML := Lib.hid hMlt
    clear hcell hm hR hM hMlt hlR
    have f28 := HB.out.frozen 28
    go_enter Try.func83, Try.ntmps83
    go_wp2_with (at_builtin; go_loud (refine wpList_append_one_in _ rfl _ _ 40 rfl 2 132 i0 Try.underlying40 HI.out HZ.out R 12 k 16 cs rfl (HC.out _) (by have := HR.out.size; omega) (by omega) w.heap.size 0 1 (.int .i64 n) rfl ((Blk.last w _ _ rfl).cell 0) (by simp [Value.oneCell']) ?_; intro w2 hb2 hc2; have a28' : w2.cell? ⟨R, 28, none⟩ = some (.slice (some ⟨R, 12, none⟩) k 16) := (hb2.cell 28).trans ((set_other _ (by omega)).trans (by rw [HR.out.c28, HK.out])); have f28' := hb2.frozen 28))
    go_end0
    refine ⟨rfl, ?_⟩
    have hm := HM.out
    have hR := HRR.out
    have hM := HMM.out
    have hMlt := HML.out
    have hch : Chg Hm w (w2.setCell ⟨R, 28, none⟩ (.slice (some ⟨R, 12, none⟩) (k + 1) 16)) := (((Chg.refl Hm w).alloc _).trans hc2 (fun i hi e => by rw [e]; exact hR)).setCell (p := ⟨R, 28, none⟩) (.inl hR) _
    have hsz := HR.out.size
    have r := HR.out
    have e : s.push n = { s with stack := s.stack ++ [n] } := if_pos (by rw [HK.out]; exact hlt)
    rw [e]
    refine RunH.turn (SB := SB) (TB := TB) hM hMlt hR hm (hb2.set_ 28 _) (sv := sv) (tv := tv) ?_ ?_ hch
    · have o : ∀ j, j ≠ 28 → j ≠ 12 + k → ((cs.setIfInBounds (12 + k) (.int .i64 n)).setIfInBounds 28 (.slice (some ⟨R, 12, none⟩) (k + 1) 16))[j]? = cs[j]? := fun j h1 h2 => by
        rw [set_other _ h1, set_other _ h2]
      refine ⟨by simpa using hsz, ?_, ?_, ?_, ?_, ?_, ?_, ?_, ?_, ?_, ?_, ?_, ?_, fun j hj => ?_, ?_, ?_, by simp; have := HK.out; omega⟩
      · rw [o 0 (by omega) (by omega)]; exact r.c0
      · rw [o 1 (by omega) (by omega)]; exact r.c1
      · rw [o 2 (by omega) (by omega)]; exact r.c2
      · rw [o 3 (by omega) (by omega)]; exact r.c3
      · rw [o 4 (by omega) (by omega)]; exact r.c4
      · rw [o 5 (by omega) (by omega)]; exact r.c5
      · rw [o 6 (by omega) (by omega)]; exact r.c6
      · rw [o 7 (by omega) (by omega)]; exact r.c7
      · rw [o 8 (by omega) (by omega)]; exact r.c8
      · rw [o 9 (by omega) (by omega)]; exact r.c9
      · rw [o 10 (by omega) (by omega)]; exact r.c10
      · rw [o 11 (by omega) (by omega)]; exact r.c11
      · have hl : (s.stack ++ [n]).length = k + 1 := by simp [HK.out]
        have hj' : j < k + 1 := by rw [← hl]; exact hj
        rw [set_other _ (by omega)]
        by_cases ej : j = k
        · subst ej
          rw [set_same _ (by omega)]
          simp [← HK.out]
        · rw [set_other _ (by omega), r.room j (by rw [HK.out]; omega)]
          simp [List.getElem_append_left (show j < s.stack.length by rw [HK.out]; omega)]
      · rw [set_same _ (by simp; omega)]; simp [HK.out]
      · rw [o 29 (by omega) (by omega)]; exact r.c29
    · refine HH.out.kept (fun g t cs' ht hg => ?_) (fun k _ h => .inl h)
      have hne : g ≠ R := hg.ne_ HB.out (by rcases ht with rfl | rfl | rfl <;> decide)
      have hlt := hg.lt
      rw [Below.heap_setCell _ _ _ _ hne, hc2.block g (by simp; omega) hne, Below.heap_alloc _ _ _ hlt]
  · have gl : ¬ (s.stack.length : Int) < 16 := by omega
    have e : s.push n = s := if_neg hlt
    rw [e]
    have hx : RunH w Hm R MB c s := ⟨⟨cs, sv, tv, SB, TB, hb, hr, hh⟩, hm, hR, hM, hMlt⟩
    have HX := Lib.hid hx
    clear hx hb hr hh hm hlt e
    go_enter Try.func83, Try.ntmps83
    go_wp2_with fail
    go_end0
    exact ⟨rfl, Done.same HX.out (Below.refl _ _)⟩
set_option maxRecDepth 100000 in
set_option maxHeartbeats 800000 in
theorem take_any (Hm : Nat → Prop) (R MB : Nat) (c : Cfg) (s : Vm) (w : World) (h : RunH w Hm R MB c s) :
    Calls Try.prog 108 #[.pointer (some ⟨R, 0, none⟩)] w fun e w' => e = .returned (.int .i64 s.top) ∧ Done w w' Hm R MB c s.pop := by
  obtain ⟨⟨cs, sv, tv, SB, TB, hb, hr, hh⟩, hm, hR, hM, hMlt⟩ := h
  have a28 : w.cell? ⟨R, 28, none⟩ = some (.slice (some ⟨R, 12, none⟩) s.stack.length 16) := (hb.cell 28).trans hr.c28
  have hdeep := hr.deep
  rcases Nat.eq_zero_or_pos s.stack.length with h0 | hpos
  · have hs : s.stack = [] := List.eq_nil_of_length_eq_zero h0
    have e1 : s.top = 0 := by simp [Vm.top, hs]
    have e2 : s.pop = s := by simp [Vm.pop, hs]; cases s; simp_all
    rw [e1, e2]
    have hx : RunH w Hm R MB c s := ⟨⟨cs, sv, tv, SB, TB, hb, hr, hh⟩, hm, hR, hM, hMlt⟩
    have HX := Lib.hid hx
    rw [h0] at a28
    clear hx hb hr hh hm h0 e1 e2 hs hdeep hR hM hMlt
    go_enter Try.func108, Try.ntmps108
    go_wp2_with fail
    go_ret
    exact ⟨rfl, Done.same HX.out (Below.refl _ _)⟩
  · obtain ⟨k, hk⟩ : ∃ k, s.stack.length = k + 1 := ⟨s.stack.length - 1, by omega⟩
    have etop : s.top = s.stack[k]'(by omega) := by
      simp [Vm.top, List.getLast?_eq_getElem?, hk]
    have acell : w.cell? ⟨R, 12 + k, none⟩ = some (.int .i64 s.top) := (hb.cell (12 + k)).trans (by rw [etop]; exact hr.room k (by omega))
    have f28 := hb.frozen 28
    have HB := Lib.hid hb
    have HR := Lib.hid hr
    have HH := Lib.hid hh
    have HK := Lib.hid hk
    have HM := Lib.hid hm
    have HRR := Lib.hid hR
    have HMM := Lib.hid hM
    have HML := Lib.hid hMlt
    rw [hk] at a28 hdeep
    have g1 : ((k + 1 : Nat) : Int) = (k : Int) + 1 := by omega
    have g2 : (k : Int) < (k : Int) + 1 := by omega
    have g3 : IntKind.i64.wrap ((k : Int) + 1 - 1) = (k : Int) := by rw [show (k : Int) + 1 - 1 = (k : Int) by omega]; exact IntWalk.i64_in _ (by constructor <;> omega)
    have g4 : ((k : Int) + 1 == 0) = false := beq_eq_false_iff_ne.2 (by omega)
    have g5 : k < k + 1 := by omega
    have g6 : (k : Int) ≤ 16 := by omega
    have g7 : k ≤ 16 := by omega
    clear hb hr hh hm hR hM hMlt hk hpos etop
    generalize s.top = tp at *
    go_enter Try.func108, Try.ntmps108
    go_wp2_with fail
    go_quiet (fail)
    go_wp2_with fail
    go_region
    all_goals go_wp2_with fail
    all_goals go_ret
    all_goals
      refine ⟨rfl, ?_⟩
      have hpop := HR.out.popped
      rw [HK.out] at hpop
      have hbw : Blk (w.drewN nq) R 132 cs := HB.out
      refine RunH.turn (SB := SB) (TB := TB) HMM.out HML.out HRR.out HM.out (by exact (hbw.set_ 28 _).drew) (sv := sv) (tv := tv) hpop ?_ ?_
      · exact HH.out.kept (fun g t cs' ht hg => Below.heap_setCell _ _ _ _ (show g ≠ R from hg.ne_ HB.out (by rcases ht with rfl | rfl | rfl <;> decide))) (fun k _ h => .inl h)
      · exact ((Chg.many (Chg.refl Hm w) nq).setCell (p := ⟨R, 28, none⟩) (.inl HRR.out) _).drew
end Go.Proofs.Ytgijkgngldfdiaa
