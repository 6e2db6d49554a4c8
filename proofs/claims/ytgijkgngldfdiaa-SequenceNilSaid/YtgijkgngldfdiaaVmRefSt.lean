/- The reference's run in memory: its stack. Helper. -/
import Derived.Test.YtgijkgngldfdiaaVmStack
import Derived.Deep.RegionLaw
namespace Go.Proofs.Ytgijkgngldfdiaa
open Go.RowKit
set_option linter.unusedVariables false
set_option linter.unusedSimpArgs false
/-- The reference's run: a step, a stack; all that it has lies in the home Hm. -/
structure RefH (w : World) (Hm : Nat → Prop) (XB KB : Nat) (c : Cfg) (s : Vm) : Prop where
  ex : ∃ sv tv SB TB A cap GB, Blk w XB 94 #[.slice c.vA s.vars.length c.vc, .int .i64 s.sent, .int .i64 s.drawn, sv, tv] ∧ Blk w KB 145 #[.slice A s.stack.length cap] ∧
    Held w Hm c sv tv s.vars s.sends s.tells SB TB ∧ Own w 2 1 (.slice A s.stack.length cap) s.stack.length (ints s.stack) GB ∧ (∀ g, GB = some g → Hm g ∧ c.VB ≠ some g)
  hX : Hm XB
  hK : Hm KB
  deep : s.stack.length ≤ 16
theorem RefH.mono {w : World} {Hm Hm' : Nat → Prop} {XB KB : Nat} {c : Cfg} {s : Vm} (h : RefH w Hm XB KB c s) (hm : ∀ k, k < w.heap.size → Hm k → Hm' k) : RefH w Hm' XB KB c s := by
  obtain ⟨sv, tv, SB, TB, A, cap, GB, hx, hk, hh, ho, hg⟩ := h.ex
  exact ⟨⟨sv, tv, SB, TB, A, cap, GB, hx, hk, hh.kept (fun g t cs _ hb => rfl) hm, ho, fun g e => ⟨hm g (ho.lt g e) (hg g e).1, (hg g e).2⟩⟩, hm _ hx.lt h.hX, hm _ hk.lt h.hK, h.deep⟩
theorem RefH.tight {w : World} {Hm : Nat → Prop} {XB KB : Nat} {c : Cfg} {s : Vm} (h : RefH w Hm XB KB c s) : RefH w (fun k => Hm k ∧ k < w.heap.size) XB KB c s := h.mono fun k h1 h2 => ⟨h2, h1⟩
/-- What is not the run's own has turned, at most. -/
theorem RefH.far {w w' : World} {Hm : Nat → Prop} {XB KB : Nat} {c : Cfg} {s : Vm} (h : RefH w Hm XB KB c s) (hk : ∀ g, Hm g → g < w.heap.size → w'.heap[g]? = w.heap[g]?) : RefH w' Hm XB KB c s := by
  obtain ⟨sv, tv, SB, TB, A, cap, GB, hx, hkk, hh, ho, hg⟩ := h.ex
  refine ⟨⟨sv, tv, SB, TB, A, cap, GB, (hk XB h.hX hx.lt).trans hx, (hk KB h.hK hkk.lt).trans hkk, ⟨hh.v.kept fun g e => hk g (hh.hv g e) (hh.v.lt g e), hh.s.kept fun g e => hk g (hh.hs g e) (hh.s.lt g e), hh.t.kept fun g e => hk g (hh.ht g e) (hh.t.lt g e), hh.hv, hh.hs, hh.ht⟩, ho.kept fun g e => hk g (hg g e).1 (ho.lt g e), hg⟩, h.hX, h.hK, h.deep⟩
theorem RefH.new {w w' : World} {Hm : Nat → Prop} {XB KB : Nat} {c : Cfg} {s : Vm} (h : RefH w Hm XB KB c s) (hN : Nw w w') : RefH w' Hm XB KB c s := h.far fun g _ hg => Below.block hN g hg
/-- An operation is done. -/
structure RDone (w w' : World) (Hm : Nat → Prop) (XB KB : Nat) (c : Cfg) (s : Vm) : Prop where
  run : RefH w' (fun k => Hm k ∨ w.heap.size ≤ k) XB KB c s
  chg : Chg Hm w w'
theorem RDone.same {w w' : World} {Hm : Nat → Prop} {XB KB : Nat} {c : Cfg} {s : Vm} (h : RefH w Hm XB KB c s) (hN : Nw w w') : RDone w w' Hm XB KB c s :=
  ⟨(h.mono fun k _ g => .inl g).new hN, Chg.of_below hN (Nat.le_refl _) _⟩
theorem RDone.then {w w1 w2 : World} {Hm : Nat → Prop} {XB KB : Nat} {c : Cfg} {s1 s2 : Vm} (h : RDone w w1 Hm XB KB c s1) (k : RDone w1 w2 (fun k => Hm k ∨ w.heap.size ≤ k) XB KB c s2) : RDone w w2 Hm XB KB c s2 := by
  have hs := h.chg.size
  refine ⟨k.run.mono fun j _ hj => ?_, h.chg.trans k.chg fun i hi hm => ?_⟩
  · rcases hj with hj | hj
    · exact hj
    · exact .inr (by omega)
  · rcases hm with hm | hm
    · exact hm
    · omega
/-- The stack turns, nothing else. -/
theorem RefH.stk {w w' : World} {Hm : Nat → Prop} {XB KB : Nat} {c : Cfg} {s s' : Vm} {sv tv : Value} {SB TB GB GB' : Option Nat} {cs : Array Value} {A' : Option Addr} {cap' : Nat} (e1 : s'.vars = s.vars) (e2 : s'.sent = s.sent) (e3 : s'.drawn = s.drawn) (e4 : s'.sends = s.sends) (e5 : s'.tells = s.tells)
    (hX : Hm XB) (hK : Hm KB) (hx : Blk w XB 94 #[.slice c.vA s.vars.length c.vc, .int .i64 s.sent, .int .i64 s.drawn, sv, tv]) (hk : Blk w KB 145 cs) (hh : Held w Hm c sv tv s.vars s.sends s.tells SB TB)
    (hGo : ∀ g, GB = some g → ∃ cur, Blk w g 2 cur) (hG : ∀ g, GB = some g → Hm g ∧ c.VB ≠ some g)
    (hc : Chg (fun k => k = KB ∨ some k = GB) w w') (hk' : Blk w' KB 145 #[.slice A' s'.stack.length cap']) (ho : Own w' 2 1 (.slice A' s'.stack.length cap') s'.stack.length (ints s'.stack) GB') (hd : s'.stack.length ≤ 16)
    (hG' : ∀ g, GB' = some g → GB = some g ∨ w.heap.size ≤ g) : RDone w w' Hm XB KB c s' := by
  have keep : ∀ g t c', Blk w g t c' → t ≠ 2 → t ≠ 145 → w'.heap[g]? = w.heap[g]? := fun g t c' hb h1 h2 => hc.block g hb.lt (fun e => by
    rcases e with e | e
    · exact absurd e (hb.ne_ hk h2)
    · obtain ⟨cur, hcur⟩ := hGo g e.symm
      exact absurd rfl (hb.ne_ hcur h1))
  refine ⟨⟨⟨sv, tv, SB, TB, A', cap', GB', ?_, hk', ?_, ho, fun g hg => ?_⟩, .inl hX, .inl hK, hd⟩, hc.mono (fun i hi e => ?_)⟩
  · rw [e1, e2, e3]; exact (keep XB _ _ hx (by decide) (by decide)).trans hx
  · rw [e1, e4, e5]
    refine ⟨hh.v.kept fun g hg => ?_, hh.s.kept fun g hg => ?_, hh.t.kept fun g hg => ?_, fun g e => .inl (hh.hv g e), fun g e => .inl (hh.hs g e), fun g e => .inl (hh.ht g e)⟩
    · obtain ⟨cur, hb⟩ := hh.v.tyB g hg
      refine hc.block g hb.lt fun e => ?_
      rcases e with e | e
      · exact absurd e (hb.ne_ hk (by decide))
      · exact (hG g e.symm).2 hg
    · obtain ⟨cur, hb⟩ := hh.s.tyB g hg; exact keep g _ _ hb (by decide) (by decide)
    · obtain ⟨cur, hb⟩ := hh.t.tyB g hg; exact keep g _ _ hb (by decide) (by decide)
  · rcases hG' g hg with h | h
    · exact ⟨.inl (hG g h).1, (hG g h).2⟩
    · refine ⟨.inr h, fun e => ?_⟩
      have := hh.v.lt g e
      omega
  · rcases e with e | e
    · rw [e]; exact hK
    · exact (hG i e.symm).1
theorem infoI : (Try.prog.info? 2).map (fun i => (i.zero, i.size, i.bytes)) = some (some (.int .i64 0), 1, 8) := by kernel_rfl
section
variable (Hm : Nat → Prop) (XB KB : Nat) (c : Cfg) (s : Vm) (n : Int) (w : World)
set_option maxRecDepth 100000
set_option maxHeartbeats 800000
theorem rpush_any (h : RefH w Hm XB KB c s) :
    Calls Try.prog 79 #[.pointer (some ⟨KB, 0, none⟩), .int .i64 n] w fun e w' => e = .returned (.tuple #[]) ∧ RDone w w' Hm XB KB c (s.push n) := by
  obtain ⟨⟨sv, tv, SB, TB, A, cap, GB, hx, hk, hh, ho, hg⟩, hX, hK, hd⟩ := h
  have a0 : w.cell? ⟨KB, 0, none⟩ = some (.slice A s.stack.length cap) := hk.cell 0
  have f0 := hk.frozen 0
  by_cases hlt : s.stack.length < 16
  · have gl : (s.stack.length : Int) < 16 := by omega
    obtain ⟨i0, hi0, hz0, hz1, hz2⟩ := info_parts infoI
    have HL1 := Lib.hid hi0
    have HL2 := Lib.hid hz0
    have HL3 := Lib.hid hz1
    have HL4 := Lib.hid hz2
    have e : s.push n = { s with stack := s.stack ++ [n] } := if_pos hlt
    have HE := Lib.hid e
    have HX := Lib.hid hx
    have HK := Lib.hid hk
    have HH := Lib.hid hh
    have HO := Lib.hid ho
    have HG := Lib.hid hg
    have HB := Lib.hid (⟨hX, hK⟩ : Hm XB ∧ Hm KB)
    have hGK : GB ≠ some KB := fun e => by obtain ⟨cur, hc⟩ := ho.tyB KB e; exact absurd rfl (hc.ne_ hk (by decide))
    have HGK := Lib.hid hGK
    obtain ⟨k, hkk⟩ : ∃ k, s.stack.length = k := ⟨_, rfl⟩
    have HKK := Lib.hid hkk
    rw [hkk] at a0 gl hlt hd HO HK
    clear hx hk hh ho hg e hX hK hGK hkk hi0 hz0 hz1 hz2
    go_enter Try.func79, Try.ntmps79
    go_wp2_with (at_builtin; refine wpList_append_at _ rfl _ _ _ rfl 2 i0 _ 1 8 Try.underlying40 HL1.out HL2.out HL3.out HL4.out rfl (by omega) _ k (ints s.stack) GB rfl (HO.out.kept (fun g hg => Below.heap_alloc _ _ _ (HO.out.lt g hg))) _ 1 1 [.int .i64 n] rfl rfl (rd_last w _ [.int .i64 n]) (by simp [Value.oneCell']) (by simp only [maxLen]; omega) (by omega) ?_; intro A2 c2 w2 GB2 hown hchg hat; have hb2 : Blk w2 KB 145 _ := (HK.out.alloc _).chg hchg (fun h => HGK.out h.symm); have b0 : w2.cell? ⟨KB, 0, none⟩ = some (.slice A k cap) := hb2.cell 0; have z0 := hb2.frozen 0)
    go_end0
    rw [HE.out]
    refine ⟨rfl, ?_⟩
    have hl : (s.stack ++ [n]).length = k + 1 := by simp [HKK.out]
    refine RefH.stk (s := s) (sv := sv) (tv := tv) (SB := SB) (TB := TB) (GB := GB) (GB' := GB2) (A' := A2) (cap' := c2) rfl rfl rfl rfl rfl HB.out.1 HB.out.2 HX.out HK.out HH.out (fun g hg => HO.out.tyB g hg) HG.out
      ((((Chg.refl (fun k => k = KB ∨ some k = GB) w).alloc _).trans hchg (fun i hi e => .inr e)).setCell (p := ⟨KB, 0, none⟩) (.inl (.inl rfl)) _) ?_ ?_ (by rw [show ({ s with stack := s.stack ++ [n] } : Vm).stack.length = k + 1 from hl]; omega) ?_
    · rw [show ({ s with stack := s.stack ++ [n] } : Vm).stack.length = k + 1 from hl]; exact hb2.set_ 0 _
    · rw [show ({ s with stack := s.stack ++ [n] } : Vm).stack.length = k + 1 from hl, show ints ({ s with stack := s.stack ++ [n] } : Vm).stack = ints s.stack ++ [.int .i64 n] from ints_append _ _]
      exact hown.kept fun g hg => Below.heap_setCell _ _ _ _ (fun e => by
        obtain ⟨cur, hc⟩ := hown.tyB g hg
        exact absurd e (hc.ne_ hb2 (by decide)))
    · intro g hg
      rcases hat with e | e
      · exact .inl (by rw [← e]; exact hg)
      · rw [e] at hg; injection hg with hg; simp at hg; exact .inr (by omega)
  · have gl : ¬ (s.stack.length : Int) < 16 := by omega
    have e : s.push n = s := if_neg hlt
    rw [e]
    have HX := Lib.hid (show RefH w Hm XB KB c s from ⟨⟨sv, tv, SB, TB, A, cap, GB, hx, hk, hh, ho, hg⟩, hX, hK, hd⟩)
    clear hx hk hh ho hg hlt e hX hK hd
    go_enter Try.func79, Try.ntmps79
    go_wp2_with fail
    go_end0
    exact ⟨rfl, RDone.same HX.out (Nw.refl _)⟩
theorem rtake_any (h : RefH w Hm XB KB c s) :
    Calls Try.prog 80 #[.pointer (some ⟨KB, 0, none⟩)] w fun e w' => e = .returned (.int .i64 s.top) ∧ RDone w w' Hm XB KB c s.pop := by
  obtain ⟨⟨sv, tv, SB, TB, A, cap, GB, hx, hk, hh, ho, hg⟩, hX, hK, hd⟩ := h
  have a0 : w.cell? ⟨KB, 0, none⟩ = some (.slice A s.stack.length cap) := hk.cell 0
  have f0 := hk.frozen 0
  rcases Nat.eq_zero_or_pos s.stack.length with h0 | hpos
  · have hs : s.stack = [] := List.eq_nil_of_length_eq_zero h0
    have e1 : s.top = 0 := by simp [Vm.top, hs]
    have e2 : s.pop = s := by simp [Vm.pop, hs]; cases s; simp_all
    rw [e1, e2]
    have HX := Lib.hid (show RefH w Hm XB KB c s from ⟨⟨sv, tv, SB, TB, A, cap, GB, hx, hk, hh, ho, hg⟩, hX, hK, hd⟩)
    rw [h0] at a0
    clear hx hk hh ho hg h0 e1 e2 hs hX hK hd
    go_enter Try.func80, Try.ntmps80
    go_wp2_with fail
    go_ret
    exact ⟨rfl, RDone.same HX.out (Nw.refl _)⟩
  · obtain ⟨k, hkk⟩ : ∃ k, s.stack.length = k + 1 := ⟨s.stack.length - 1, by omega⟩
    have etop : s.top = s.stack[k]'(by omega) := by simp [Vm.top, List.getLast?_eq_getElem?, hkk]
    obtain ⟨A2, cp, e0, hrd, hle, hmx⟩ := ho.rd
    injection e0 with e0 e00 e01
    subst e0
    subst e01
    rcases hrd with hrd | ⟨b, o, rfl, hrd⟩
    · rw [← ints_length, hrd] at hkk; cases hkk
    have acell : w.cell? ⟨b, o + k, none⟩ = some (.int .i64 s.top) := hrd k _ (by rw [ints_get, List.getElem?_eq_getElem (by omega), etop]; rfl)
    have hrd2 : Rd w (some ⟨b, o, none⟩) (ints s.pop.stack) := by
      have := Rd.take (.inr ⟨b, o, rfl, hrd⟩ : Rd w (some ⟨b, o, none⟩) (ints s.stack)) k
      have e : (ints s.stack).take k = ints s.pop.stack := by simp [ints, Vm.pop, List.dropLast_eq_take, hkk, List.map_take]
      rw [← e]; exact this
    obtain ⟨i0, hi0, hz0, hz1, hz2⟩ := info_parts infoI
    have HL1 := Lib.hid hi0
    have HL2 := Lib.hid hz0
    have HL3 := Lib.hid hz1
    have HL4 := Lib.hid hz2
    have HX := Lib.hid hx
    have HK := Lib.hid hk
    have HH := Lib.hid hh
    have HO := Lib.hid ho
    have HG := Lib.hid hg
    have HB := Lib.hid (⟨hX, hK⟩ : Hm XB ∧ Hm KB)
    have HKK := Lib.hid hkk
    have HR2 := Lib.hid hrd2
    rw [hkk] at a0 hd hle HK
    have g1 : ((k + 1 : Nat) : Int) = (k : Int) + 1 := by omega
    have g2 : (k : Int) < (k : Int) + 1 := by omega
    have g3 : IntKind.i64.wrap ((k : Int) + 1 - 1) = (k : Int) := by rw [show (k : Int) + 1 - 1 = (k : Int) by omega]; exact IntWalk.i64_in _ (by constructor <;> omega)
    have g8 : IntKind.i64.wrap (k : Int) = (k : Int) := IntWalk.i64_in _ (by constructor <;> omega)
    have g9 : (0 : Int) ≤ (k : Int) := by omega
    have g4 : ((k : Int) + 1 == 0) = false := beq_eq_false_iff_ne.2 (by omega)
    have g5 : k < k + 1 := by omega
    have g6 : (k : Int) ≤ (cap : Int) := by omega
    have g7 : k ≤ cap := by omega
    clear hx hk hh ho hg hX hK hkk hi0 hz0 hz1 hz2 hrd hrd2 etop hpos hmx e00
    generalize s.top = tp at *
    go_enter Try.func80, Try.ntmps80
    go_wp2_with fail
    go_quiet (fail)
    have hGK : ∀ cur, Blk w KB 2 cur → False := fun cur hc => absurd rfl (hc.ne_ HK.out (by decide))
    have HGK := Lib.hid hGK
    have hlen : (ints s.pop.stack).length = k * 1 := by rw [ints_length]; simp [Vm.pop, HKK.out]
    have HLEN := Lib.hid hlen
    clear hGK hlen
    go_upto_region 4 with (fail)
    go_region_law (go_loud (refine step_append_at _ (by rfl) _ _ _ (by rfl) 2 i0 _ 1 8 Try.underlying40 HL1.out HL2.out HL3.out HL4.out rfl (by omega) (.slice none 0 0) 0 [] none (by rfl) (Own.nil _ _ _) _ k cap (ints s.pop.stack) (by rfl) HLEN.out (HR2.out.keep (fun p hp => rfl)) (ints_one _) (by simp only [maxLen]; omega) (by omega) ?_; intro A2 c2 w2 GB2 hown2 hchg hat2; have hb2 : Blk w2 KB 145 _ := Blk.chg (M := fun k => some k = none) (by exact HK.out) hchg (fun h => by cases h); have b0 : w2.cell? ⟨KB, 0, none⟩ = some (.slice (some ⟨b, o, none⟩) (k + 1) cap) := hb2.cell 0; have z0 := hb2.frozen 0))
    all_goals
      go_wp2_with fail
      go_ret
      refine ⟨rfl, ?_⟩
      have hl : s.pop.stack.length = k := by have := HLEN.out; rw [ints_length] at this; omega
      have hc : Chg (fun k => k = KB ∨ some k = GB) w (w2.setCell ⟨KB, 0, none⟩ (.slice A2 (0 + k) c2)) := (((Chg.refl (fun k => k = KB ∨ some k = GB) w).many (nq + 1)).trans hchg (fun i hi e => by cases e)).setCell (p := ⟨KB, 0, none⟩) (.inl (.inl rfl)) _
      rw [Nat.zero_add] at hc hown2
      refine RefH.stk (s := s) (s' := s.pop) (sv := sv) (tv := tv) (SB := SB) (TB := TB) (GB := GB) (GB' := GB2) (A' := A2) (cap' := c2) rfl rfl rfl rfl rfl HB.out.1 HB.out.2 HX.out HK.out HH.out (fun g hg => HO.out.tyB g hg) HG.out hc ?_ ?_ (by rw [hl]; omega) ?_
      · rw [hl]; exact hb2.set_ 0 _
      · rw [hl]
        exact hown2.kept fun g hg => Below.heap_setCell _ _ _ _ (fun e => by
          obtain ⟨cur, hcur⟩ := hown2.tyB g hg
          exact absurd e (hcur.ne_ hb2 (by decide)))
      · intro g hg
        rcases hat2 with e | e
        · rw [e] at hg; cases hg
        · rw [e] at hg; injection hg with hg; exact .inr (by rw [← hg]; exact Nat.le_refl _)
end
end Go.Proofs.Ytgijkgngldfdiaa
