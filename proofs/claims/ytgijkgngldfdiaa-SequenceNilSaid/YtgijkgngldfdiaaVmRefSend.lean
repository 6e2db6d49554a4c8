/- What the reference's run does: it sends. Helper. -/
import Derived.Test.YtgijkgngldfdiaaVmRefDo
import Derived.Test.YtgijkgngldfdiaaRegE
namespace Go.Proofs.Ytgijkgngldfdiaa
open Go.RowKit
set_option linter.unusedVariables false
set_option linter.unusedSimpArgs false
theorem clamp3 (d : Int) : (d < 1 ∧ clampD d = 1) ∨ (¬ d < 1 ∧ 1048576 < d ∧ clampD d = 1048576) ∨ (¬ d < 1 ∧ ¬ 1048576 < d ∧ clampD d = d) := by
  by_cases h1 : d < 1
  · exact .inl ⟨h1, by unfold clampD; rw [if_pos (by omega)]⟩
  · by_cases h2 : 1048576 < d
    · exact .inr (.inl ⟨h1, h2, by unfold clampD; rw [if_neg (by omega), if_neg (by omega)]⟩)
    · refine .inr (.inr ⟨h1, h2, ?_⟩)
      unfold clampD
      by_cases h3 : d ≤ 1
      · rw [if_pos h3]; omega
      · rw [if_neg h3, if_pos (by omega)]
theorem RDone.wide {w w1 wf : World} {Hm : Nat → Prop} {XB KB : Nat} {c : Cfg} {s : Vm} (n : Nw w w1) (h : RDone w1 wf (fun k => Hm k ∧ k < w.heap.size) XB KB c s) : RDone w wf Hm XB KB c s := by
  have hs : w.heap.size ≤ w1.heap.size := Below.size n
  refine ⟨h.run.mono fun k _ g => ?_, (Chg.of_below n (Nat.le_refl _) Hm).trans h.chg fun i _ g => g.1⟩
  rcases g with g | g
  · exact .inl g.1
  · exact .inr (by omega)
/-- What is not the sends turns not. -/
theorem RefH.sentTo {w4 w6 : World} {Hm : Nat → Prop} {XB KB : Nat} {c : Cfg} {s : Vm} {tv : Value} {SB TB GB SB2 : Option Nat} {A sA A2 : Option Addr} {cap sc c2 : Nat} {row : List Int} {x : Int}
    (hx : Blk w4 XB 94 #[.slice c.vA s.vars.length c.vc, .int .i64 s.sent, .int .i64 s.drawn, .slice sA s.sends.length sc, tv]) (hk : Blk w4 KB 145 #[.slice A s.stack.length cap])
    (hh : Held w4 Hm c (.slice sA s.sends.length sc) tv s.vars s.sends s.tells SB TB) (ho : Own w4 2 1 (.slice A s.stack.length cap) s.stack.length (ints s.stack) GB) (hg : ∀ g, GB = some g → Hm g ∧ c.VB ≠ some g)
    (hX : Hm XB) (hK : Hm KB) (hd : s.stack.length ≤ 16) (b6 : Chg (fun k => some k = SB) w4 w6)
    (hown : Own w6 44 6 (.slice A2 (s.sends.length + 1) c2) (s.sends.length + 1) (ints s.sends.flatten ++ ints row) SB2) (hat : ∀ g, SB2 = some g → SB = some g ∨ w4.heap.size ≤ g) :
    RDone w4 ((w6.setCell ⟨XB, 3, none⟩ (.slice A2 (s.sends.length + 1) c2)).setCell ⟨XB, 1, none⟩ (.int .i64 x)) Hm XB KB c { s with sent := x, sends := s.sends ++ [row] } := by
  have notS : ∀ g t cs', t ≠ 44 → Blk w4 g t cs' → ¬ some g = SB := fun g t cs' ht hb e => by
    obtain ⟨cur, hc⟩ := hh.s.tyB g e.symm
    exact absurd rfl (hb.ne_ hc ht)
  have hx6 := hx.chg b6 (notS _ _ _ (by decide) hx)
  have keep : ∀ g t cs', t ≠ 44 → t ≠ 94 → Blk w4 g t cs' → ((w6.setCell ⟨XB, 3, none⟩ (.slice A2 (s.sends.length + 1) c2)).setCell ⟨XB, 1, none⟩ (.int .i64 x)).heap[g]? = w4.heap[g]? := fun g t cs' ht ht' hb => by
    have hne : g ≠ XB := hb.ne_ hx ht'
    rw [Below.heap_setCell _ _ _ _ hne, Below.heap_setCell _ _ _ _ hne]
    exact b6.block g hb.lt (notS _ _ _ ht hb)
  have hl : (s.sends ++ [row]).length = s.sends.length + 1 := by simp
  refine ⟨⟨⟨.slice A2 (s.sends.length + 1) c2, tv, SB2, TB, A, cap, GB, (hx6.set_ 3 _).set_ 1 _, (keep KB _ _ (by decide) (by decide) hk).trans hk, ⟨?_, ?_, ?_, fun g e => .inl (hh.hv g e), ?_, fun g e => .inl (hh.ht g e)⟩, ?_, fun g e => ⟨.inl (hg g e).1, (hg g e).2⟩⟩, .inl hX, .inl hK, hd⟩, ?_⟩
  · exact hh.v.kept fun g e => by obtain ⟨cur, hc⟩ := hh.v.tyB g e; exact keep g _ cur (by decide) (by decide) hc
  · show Own _ _ _ _ (s.sends ++ [row]).length (ints (s.sends ++ [row]).flatten) _
    rw [hl, List.flatten_append, ints_append, show [row].flatten = row by simp]
    exact hown.kept fun g e => by
      obtain ⟨cur, hc⟩ := hown.tyB g e
      have hne : g ≠ XB := hc.ne_ hx6 (by decide)
      rw [Below.heap_setCell _ _ _ _ hne, Below.heap_setCell _ _ _ _ hne]
  · exact hh.t.kept fun g e => by obtain ⟨cur, hc⟩ := hh.t.tyB g e; exact keep g _ cur (by decide) (by decide) hc
  · intro g e
    rcases hat g e with h | h
    · exact .inl (hh.hs g h)
    · exact .inr h
  · exact ho.kept fun g e => by obtain ⟨cur, hc⟩ := ho.tyB g e; exact keep g _ cur (by decide) (by decide) hc
  · exact ((b6.mono (M' := Hm) fun i hi e => hh.hs i e.symm).setCell (p := ⟨XB, 3, none⟩) (.inl hX) _).setCell (p := ⟨XB, 1, none⟩) (.inl hX) _
section
variable (Hm : Nat → Prop) (XB KB : Nat) (c : Cfg) (s : Vm) (n : Int) (vars : Int) (kA : Option Addr) (kn kc : Nat) (w : World)
set_option maxRecDepth 100000
set_option maxHeartbeats 800000
theorem rsend_any (h : RefH w Hm XB KB c s) (hp : 1 ≤ c.procs ∧ c.procs ≤ 16) (ht : 0 ≤ c.time ∧ c.time ≤ 1099511627776) (hs : s.sends.length ≤ 4) :
    Calls Try.prog 82 #[.agg #[.int .i64 vars, .slice kA kn kc, .int .i64 c.self, .int .i64 c.procs, .int .i64 c.seed], .pointer (some ⟨XB, 0, none⟩), .agg #[.int .i64 c.time, .int .i64 c.origin, .int .i64 c.seq, .int .i64 c.dest, .int .i64 c.kind, .int .i64 c.data], .int .i64 n, .pointer (some ⟨KB, 0, none⟩)] w
      fun e w' => e = .returned (.tuple #[]) ∧ RDone w w' Hm XB KB c (Vm.sendV c s n) := by
  unfold Vm.sendV
  obtain ⟨w1, hw1⟩ : ∃ w1, (w.alloc (.cells #[.int .i64 vars, .slice kA kn kc, .int .i64 c.self, .int .i64 c.procs, .int .i64 c.seed] 123)).alloc (.cells #[.int .i64 c.time, .int .i64 c.origin, .int .i64 c.seq, .int .i64 c.dest, .int .i64 c.kind, .int .i64 c.data] 44) = w1 := ⟨_, rfl⟩
  have n1 : Nw w w1 := by rw [← hw1]; exact ((Nw.refl w).alloc _).alloc _
  have hbM : Blk w1 w.heap.size 123 #[.int .i64 vars, .slice kA kn kc, .int .i64 c.self, .int .i64 c.procs, .int .i64 c.seed] := by rw [← hw1]; exact (Blk.last w _ _ rfl).alloc _
  have hbE : Blk w1 (w.heap.size + 1) 44 #[.int .i64 c.time, .int .i64 c.origin, .int .i64 c.seq, .int .i64 c.dest, .int .i64 c.kind, .int .i64 c.data] := by rw [← hw1]; exact Blk.last _ _ _ (by simp)
  have h1 : RefH w1 (fun k => Hm k ∧ k < w.heap.size) XB KB c s := h.tight.new n1
  have k1 := rtake_any _ XB KB c s w1 h1
  obtain ⟨t1, e1⟩ : ∃ t, s.top = t := ⟨_, rfl⟩
  obtain ⟨t2, e2⟩ : ∃ t, s.pop.top = t := ⟨_, rfl⟩
  obtain ⟨t3, e3⟩ : ∃ t, s.pop.pop.top = t := ⟨_, rfl⟩
  rw [e1] at k1
  rw [e1, e2, e3]
  obtain ⟨s3, hs3⟩ : ∃ s3, s.pop.pop.pop = s3 := ⟨_, rfl⟩
  have hs4 : s3.sends.length ≤ 4 := by rw [← hs3]; exact hs
  have K1 := Lib.hid k1
  have H2 := Lib.hid e2
  have H3 := Lib.hid e3
  have HS3 := Lib.hid hs3
  rw [hs3]
  have HP := Lib.hid hp
  have HT := Lib.hid ht
  have HW := Lib.hid hw1
  have N1 := Lib.hid n1
  have HM1 := Lib.hid hbM
  have HE1 := Lib.hid hbE
  have H4 := Lib.hid hs4
  have H0 := Lib.hid h
  clear h h1 e1 e2 e3 k1 hs3 hp ht hs hs4 hw1 n1 hbM hbE
  go_enter Try.func82, Try.ntmps82
  go_upto_region 1 with (fail)
  rw [HW.out]
  go_wp2_with fail
  refine K1.out.mono ?_
  rintro e w2 ⟨rfl, d1⟩
  have D1 := Lib.hid d1
  have k2 := rtake_any _ XB KB c s.pop w2 d1.run
  rw [H2.out] at k2
  have K2 := Lib.hid k2
  clear d1 K1 k2
  go_wp2_with fail
  refine K2.out.mono ?_
  rintro e w3 ⟨rfl, d2⟩
  have D2 := Lib.hid (D1.out.then d2)
  have k3 := rtake_any _ XB KB c s.pop.pop w3 D2.out.run
  rw [H3.out, HS3.out] at k3
  have K3 := Lib.hid k3
  clear d2 K2 k3 D1
  go_wp2_with fail
  refine K3.out.mono ?_
  rintro e w4 ⟨rfl, d3⟩
  have D3 := Lib.hid (D2.out.then d3)
  clear d3 K3 D2 H2 H3 HS3
  have hbM := HM1.out.chg D3.out.chg (fun g => absurd g.2 (Nat.lt_irrefl _))
  have hbE := HE1.out.chg D3.out.chg (fun g => absurd g.2 (by omega))
  have m1 : w4.cell? ⟨w.heap.size, 2, none⟩ = some (.int .i64 c.self) := hbM.cell 2
  have m2 : w4.cell? ⟨w.heap.size, 3, none⟩ = some (.int .i64 c.procs) := hbM.cell 3
  have v0 : w4.cell? ⟨w.heap.size + 1, 0, none⟩ = some (.int .i64 c.time) := hbE.cell 0
  obtain ⟨p1, p2⟩ := HP.out
  obtain ⟨q1, q2⟩ := HT.out
  have r4 := D3.out.run
  have hs4 := H4.out
  obtain ⟨⟨sv, tv, SB, TB, A, cap, GB, hx, hk, hh, ho, hg⟩, hX, hK, hd⟩ := r4
  obtain ⟨sA, sc, rfl, _, _, _⟩ := hh.s.rd
  have x1 : w4.cell? ⟨XB, 1, none⟩ = some (.int .i64 s3.sent) := hx.cell 1
  have x3 : w4.cell? ⟨XB, 3, none⟩ = some (.slice sA s3.sends.length sc) := hx.cell 3
  have HX := Lib.hid hx
  have HH := Lib.hid hh
  have HBM := Lib.hid hbM
  have HBE := Lib.hid hbE
  have HXX := Lib.hid hX
  have HR4 := Lib.hid (⟨hk, ho, hg, hX, hK, hd⟩ : _ ∧ _ ∧ _ ∧ _ ∧ _ ∧ _)
  clear hx hk hh ho hg hX hK hd hbM hbE
  go_upto_if 21 with (fail)
  go_cut [11] (fun v wx => v = .int .i64 (if t2 < 1 then 1 else t2) ∧ wx = w4)
  case first =>
    by_cases h1 : t2 < 1
    · go_wp2_with fail
      go_meet
      exact ⟨by rw [if_pos h1], rfl⟩
    · go_wp2_with fail
      go_meet
      exact ⟨by rw [if_neg (by omega)], rfl⟩
  case rest =>
    obtain ⟨rfl, rfl⟩ := hcut
    obtain ⟨d1, hd1⟩ : ∃ d1, (if t2 < 1 then 1 else t2) = d1 := ⟨_, rfl⟩
    rw [hd1]
    have hD : (if 1048576 < d1 then 1048576 else d1) = clampD t2 := by rw [← hd1]; exact clamp_eq t2
    obtain ⟨D, hD2⟩ : ∃ D, clampD t2 = D := ⟨_, rfl⟩
    rw [hD2] at hD
    have hbd := clamp_bd t2
    rw [hD2] at hbd
    obtain ⟨b1, b2⟩ := hbd
    have HD := Lib.hid hD2
    have HDD := Lib.hid hD
    clear hd1 hD2 hD
    go_upto_if 23 with (fail)
    go_cut [11] (fun v wx => v = .int .i64 D ∧ wx = wc)
    case first =>
      by_cases h1 : 1048576 < d1
      · have e := HDD.out
        rw [if_pos h1] at e
        have HE := Lib.hid e
        clear e
        go_wp2_with fail
        go_meet
        exact ⟨by rw [HE.out], rfl⟩
      · have e := HDD.out
        rw [if_neg h1] at e
        have HE := Lib.hid e
        clear e
        go_wp2_with fail
        go_meet
        exact ⟨by rw [HE.out], rfl⟩
    case rest =>
      obtain ⟨rfl, rfl⟩ := hcut
      clear HDD
      obtain ⟨w4, hw4⟩ : ∃ w4, w4 = wc := ⟨_, rfl⟩
      subst hw4
      by_cases hbig : 1099511627776 < c.time + D
      · have e : Vm.sendTo c s3 t1 t2 t3 n = s3 := by unfold Vm.sendTo; rw [HD.out, if_pos (.inl hbig)]
        have HE := Lib.hid e
        clear e
        go_wp2_with fail
        refine bodyPost_ret (results_none rfl _ _ _) rfl ?_
        rw [HE.out]
        exact ⟨rfl, RDone.wide N1.out D3.out⟩
      · by_cases hln : s3.sends.length = 4
        · have e : Vm.sendTo c s3 t1 t2 t3 n = s3 := by unfold Vm.sendTo; rw [if_pos (.inr (by omega))]
          have HE := Lib.hid e
          have g4 : ((s3.sends.length : Int) == 4) = true := by simp; omega
          clear e hln
          go_wp2_with fail
          refine bodyPost_ret (results_none rfl _ _ _) rfl ?_
          rw [HE.out]
          exact ⟨rfl, RDone.wide N1.out D3.out⟩
        · have g4 : ((s3.sends.length : Int) == 4) = false := by simp; omega
          have HLN := Lib.hid hln
          clear hln
          go_upto_region 9 with (fail)
          go_cut [13] (fun v wx => ∃ Q, v = .pointer (some ⟨Q, 0, none⟩) ∧ Hid (Nw w4 wx ∧ Blk wx Q 38 #[.int .i64 (c.time + D), .int .i64 c.self, .int .i64 s3.sent]))
          case first =>
            have y0 : ∀ o, (w4.alloc o).cell? ⟨w.heap.size + 1, 0, none⟩ = some (.int .i64 c.time) := fun o => (HBE.out.alloc o).cell 0
            have y1 : ∀ o, (w4.alloc o).cell? ⟨w.heap.size, 2, none⟩ = some (.int .i64 c.self) := fun o => (HBM.out.alloc o).cell 2
            have y2 : ∀ o, (w4.alloc o).cell? ⟨XB, 1, none⟩ = some (.int .i64 s3.sent) := fun o => (HX.out.alloc o).cell 1
            go_region
            all_goals
              go_wp2_with fail
              go_meet
              exact ⟨_, rfl, Lib.hid ⟨((Nw.refl w4).alloc _).drew, Blk.last w4 _ _ rfl⟩⟩
          case rest =>
            obtain ⟨KQ, rfl, HKQ⟩ := hcut
            obtain ⟨w5, hw5⟩ : ∃ w5, w5 = wc := ⟨_, rfl⟩
            subst hw5
            have n5 := HKQ.out.1
            have e0 : w5.cell? ⟨KQ, 0, none⟩ = some (.int .i64 (c.time + D)) := HKQ.out.2.cell 0
            have e1 : w5.cell? ⟨KQ, 1, none⟩ = some (.int .i64 c.self) := HKQ.out.2.cell 1
            have e2 : w5.cell? ⟨KQ, 2, none⟩ = some (.int .i64 s3.sent) := HKQ.out.2.cell 2
            have u2 : w5.cell? ⟨w.heap.size, 3, none⟩ = some (.int .i64 c.procs) := n5.cell m2
            have u3 : w5.cell? ⟨XB, 3, none⟩ = some (.slice sA s3.sends.length sc) := n5.cell x3
            have hx5 := HX.out.below n5 HX.out.lt
            have f3 : w5.frozen? ⟨XB, 3, none⟩ = false := hx5.frozen 3
            obtain ⟨T, hT⟩ : ∃ T, toP t1 c.procs = T := ⟨_, rfl⟩
            have KT := Lib.hid (fun W => by have k := to_any W t1 c.procs p1 p2; rw [hT] at k; exact k : ∀ W, Calls Try.prog 107 #[.int .i64 t1, .int .i64 c.procs] W fun e w' => e = .returned (.int .i64 T) ∧ w' = W)
            have HT2 := Lib.hid hT
            obtain ⟨i0, hi0, hz0, hz1, hz2⟩ := info_parts infoEv
            have HL1 := Lib.hid hi0
            have HL2 := Lib.hid hz0
            have HL3 := Lib.hid hz1
            have HL4 := Lib.hid hz2
            have N5 := Lib.hid n5
            have HX5 := Lib.hid hx5
            obtain ⟨q, hq⟩ : ∃ q, s3.sends.length = q := ⟨_, rfl⟩
            have HQ := Lib.hid hq
            rw [hq] at u3 hs4
            have ho5 : Own w5 44 6 (.slice sA q sc) q (ints s3.sends.flatten) SB := by
              have k := HH.out.s
              rw [hq] at k
              exact k.kept fun g hg => n5.block g (k.lt g hg)
            have HO5 := Lib.hid ho5
            have hSR : SB ≠ some XB := fun e => by obtain ⟨cur, hc⟩ := ho5.tyB XB e; exact absurd rfl (hc.ne_ hx5 (by decide))
            have HSR := Lib.hid hSR
            clear hi0 hz0 hz1 hz2 ho5 hSR hq hT n5 hx5 m1 m2 v0 x1 x3
            have hkq : Blk w5 KQ 38 _ := HKQ.out.2
            have HSS : Hid (∀ W, Chg (fun k => some k = SB) w5 W → (fun W => Chg (fun k => some k = SB) w5 W ∧ W.cell? ⟨KQ, 0, none⟩ = some (.int .i64 (c.time + D)) ∧ W.cell? ⟨KQ, 1, none⟩ = some (.int .i64 c.self) ∧ W.cell? ⟨KQ, 2, none⟩ = some (.int .i64 s3.sent) ∧ W.cell? ⟨w.heap.size, 3, none⟩ = some (.int .i64 c.procs) ∧ W.cell? ⟨XB, 3, none⟩ = some (.slice sA q sc)) W) := Lib.hid fun W hc => by
              have q1 := hkq.chg hc (fun e => by obtain ⟨cur, hcc⟩ := HO5.out.tyB _ e.symm; exact absurd rfl (hkq.ne_ hcc (by decide)))
              have q2 := (HBM.out.below N5.out HBM.out.lt).chg hc (fun e => by obtain ⟨cur, hcc⟩ := HO5.out.tyB _ e.symm; exact absurd rfl ((HBM.out.below N5.out HBM.out.lt).ne_ hcc (by decide)))
              have q3 := HX5.out.chg hc (fun e => HSR.out e.symm)
              exact ⟨hc, q1.cell 0, q1.cell 1, q1.cell 2, q2.cell 3, (q3.cell 3).trans (by simp only [← HQ.out]; rfl)⟩
            clear hkq e0 e1 e2 u2 u3
            go_upto_region 10 with (fail)
            refine wp_region_E (fun W => Chg (fun k => some k = SB) w5 W ∧ W.cell? ⟨KQ, 0, none⟩ = some (.int .i64 (c.time + D)) ∧ W.cell? ⟨KQ, 1, none⟩ = some (.int .i64 c.self) ∧ W.cell? ⟨KQ, 2, none⟩ = some (.int .i64 s3.sent) ∧ W.cell? ⟨w.heap.size, 3, none⟩ = some (.int .i64 c.procs) ∧ W.cell? ⟨XB, 3, none⟩ = some (.slice sA q sc)) 17 (by kernel_rfl) ?_
            have hS := HSS.out w5.drew ((Chg.refl _ w5).drew)
            refine wpAnyE_takeT (i := 0) (v := ?_) rfl (by kernel_rfl) (by kernel_rfl) (by kernel_rfl) (by kernel_rfl) (by kernel_rfl) (fun _ _ _ h => h) (by rfl) ?_ hS ?_
            rotate_left
            · intro u hu
              try dsimp only at hu
              go_simp
              try with_reducible rfl
            try simp only [Act.put, List.setIfInBounds_toArray, List.set_cons_zero, List.set_cons_succ]
            refine wpAnyE_takeT (i := 1) (v := ?_) rfl (by kernel_rfl) (by kernel_rfl) (by kernel_rfl) (by kernel_rfl) (by kernel_rfl) (fun _ _ _ h => h) (by rfl) ?_ hS ?_
            rotate_left
            · intro u hu
              try dsimp only at hu
              go_simp
              try with_reducible rfl
            try simp only [Act.put, List.setIfInBounds_toArray, List.set_cons_zero, List.set_cons_succ]
            refine wpAnyE_takeT (i := 2) (v := ?_) rfl (by kernel_rfl) (by kernel_rfl) (by kernel_rfl) (by kernel_rfl) (by kernel_rfl) (fun _ _ _ h => h) (by rfl) ?_ hS ?_
            rotate_left
            · intro u hu
              try dsimp only at hu
              go_simp
              try with_reducible rfl
            try simp only [Act.put, List.setIfInBounds_toArray, List.set_cons_zero, List.set_cons_succ]
            refine wpAnyE_takeT (i := 3) (v := ?_) rfl (by kernel_rfl) (by kernel_rfl) (by kernel_rfl) (by kernel_rfl) (by kernel_rfl) (fun _ _ _ h => h) (by rfl) ?_ hS ?_
            rotate_left
            · intro u hu
              try dsimp only at hu
              go_simp
              try with_reducible rfl
            try simp only [Act.put, List.setIfInBounds_toArray, List.set_cons_zero, List.set_cons_succ]
            refine wpAnyE_takeT (i := 4) (v := ?_) rfl (by kernel_rfl) (by kernel_rfl) (by kernel_rfl) (by kernel_rfl) (by kernel_rfl) (fun _ _ _ h => h) (by rfl) ?_ hS ?_
            rotate_left
            · intro u hu
              try dsimp only at hu
              go_simp
              try with_reducible rfl
            try simp only [Act.put, List.setIfInBounds_toArray, List.set_cons_zero, List.set_cons_succ]
            refine wpAnyE_takeT (i := 5) (v := ?_) rfl (by kernel_rfl) (by kernel_rfl) (by kernel_rfl) (by kernel_rfl) (by kernel_rfl) (fun _ _ _ h => h) (by rfl) ?_ hS ?_
            rotate_left
            · intro u hu
              try dsimp only at hu
              go_simp
              try with_reducible rfl
            try simp only [Act.put, List.setIfInBounds_toArray, List.set_cons_zero, List.set_cons_succ]
            refine wpAnyE_takeT (i := 6) (v := ?_) rfl (by kernel_rfl) (by kernel_rfl) (by kernel_rfl) (by kernel_rfl) (by kernel_rfl) (fun _ _ _ h => h) (by rfl) ?_ hS ?_
            rotate_left
            · intro u hu
              try dsimp only at hu
              go_simp
              try with_reducible rfl
            try simp only [Act.put, List.setIfInBounds_toArray, List.set_cons_zero, List.set_cons_succ]
            refine wpAnyE_takeT (i := 7) (v := ?_) rfl (by kernel_rfl) (by kernel_rfl) (by kernel_rfl) (by kernel_rfl) (by kernel_rfl) (fun _ _ _ h => h) (by rfl) ?_ hS ?_
            rotate_left
            · intro u hu
              try dsimp only at hu
              go_simp
              try with_reducible rfl
            try simp only [Act.put, List.setIfInBounds_toArray, List.set_cons_zero, List.set_cons_succ]
            refine wpAnyE_takeT (i := 8) (v := ?_) rfl (by kernel_rfl) (by kernel_rfl) (by kernel_rfl) (by kernel_rfl) (by kernel_rfl) (fun _ _ _ h => h) (by rfl) ?_ hS ?_
            rotate_left
            · intro u hu
              try dsimp only at hu
              go_simp
              try with_reducible rfl
            try simp only [Act.put, List.setIfInBounds_toArray, List.set_cons_zero, List.set_cons_succ]
            refine wpAnyE_takeT (i := 10) (v := ?_) rfl (by kernel_rfl) (by kernel_rfl) (by kernel_rfl) (by kernel_rfl) (by kernel_rfl) (fun _ _ _ h => h) (by rfl) ?_ hS ?_
            rotate_left
            · intro u hu
              try dsimp only at hu
              go_simp
              try with_reducible rfl
            try simp only [Act.put, List.setIfInBounds_toArray, List.set_cons_zero, List.set_cons_succ]
            refine wpAnyE_takeT (i := 11) (v := ?_) rfl (by kernel_rfl) (by kernel_rfl) (by kernel_rfl) (by kernel_rfl) (by kernel_rfl) (fun _ _ _ h => h) (by rfl) ?_ hS ?_
            rotate_left
            · intro u hu
              try dsimp only at hu
              go_simp
              try with_reducible rfl
            try simp only [Act.put, List.setIfInBounds_toArray, List.set_cons_zero, List.set_cons_succ]
            refine wpAnyE_step (i := 9) (by kernel_rfl) rfl (by rfl) fun K hK => ?_
            go_simp
            go_at_call 107
            refine (KT.out _).mono ?_
            rintro e w9 ⟨rfl, rfl⟩
            refine hK _ _ (.inr (hS)) ?_
            clear hK K
            try simp only [Act.put, List.setIfInBounds_toArray, List.set_cons_zero, List.set_cons_succ]
            refine wpAnyE_step (i := 12) (by kernel_rfl) rfl (by rfl) fun K hK => ?_
            go_simp
            refine hK _ _ (.inr hS) ?_
            clear hK K
            try simp only [Act.put, List.setIfInBounds_toArray, List.set_cons_zero, List.set_cons_succ]
            refine wpAnyE_step (i := 13) (by kernel_rfl) rfl (by rfl) fun K hK => ?_
            go_simp
            refine hK _ _ (.inr (HSS.out _ ((Chg.refl _ w5).drew.alloc _))) ?_
            clear hK K
            try simp only [Act.put, List.setIfInBounds_toArray, List.set_cons_zero, List.set_cons_succ]
            refine wpAnyE_step (i := 14) (by kernel_rfl) rfl (by rfl) fun K hK => ?_
            refine wp_append_at _ _ _ _ (by rfl) 44 i0 _ 6 48 Try.underlying23 HL1.out HL2.out HL3.out HL4.out rfl (by omega) _ q (ints s3.sends.flatten) SB (by rfl) (HO5.out.kept (fun g hg => Below.heap_alloc _ _ _ (HO5.out.lt g hg))) _ 1 1 (ints [c.time + D, c.self, s3.sent, T, n, t3]) (by rfl) (by rfl) (rd_last_drew w5 _ (ints [c.time + D, c.self, s3.sent, T, n, t3])) (ints_one _) (by simp only [maxLen]; omega) (by omega) ?_
            intro A2 c2 w6 SB2 hown2 hchg hat2
            have hc6 : Chg (fun k => some k = SB) w5 w6 := ((Chg.refl (fun k => some k = SB) w5).drew.alloc _).trans hchg (fun i hi e => e)
            have HC6 := Lib.hid hc6
            have HO6 := Lib.hid hown2
            have HA6 := Lib.hid hat2
            have hb6 := HX5.out.chg hc6 (fun e => HSR.out e.symm)
            have HB6 := Lib.hid hb6
            clear hown2 hchg hat2
            have hS := HSS.out w6 hc6
            refine hK _ _ (.inr (HSS.out w6 hc6)) ?_
            clear hK K
            try simp only [Act.put, List.setIfInBounds_toArray, List.set_cons_zero, List.set_cons_succ]
            refine wpAnyE_step (i := 15) (by kernel_rfl) rfl (by rfl) fun K hK => ?_
            go_simp
            refine hK _ _ (.inr hS) ?_
            clear hK K
            try simp only [Act.put, List.setIfInBounds_toArray, List.set_cons_zero, List.set_cons_succ]
            refine wpAnyE_step (i := 16) (by kernel_rfl) rfl (by rfl) fun K hK => ?_
            go_simp
            refine hK _ _ (.inr hS) ?_
            clear hK K
            try simp only [Act.put, List.setIfInBounds_toArray, List.set_cons_zero, List.set_cons_succ]
            have f3 := hb6.frozen 3
            have b3 : w6.cell? ⟨XB, 3, none⟩ = some (.slice sA q sc) := (hb6.cell 3).trans (by simp only [← HQ.out]; rfl)
            clear hc6 hb6
            refine wpAnyE_step (i := 17) (by kernel_rfl) rfl (by rfl) fun K hK => ?_
            go_simp
            refine hK _ _ (.inl rfl) ?_
            clear hK K
            try simp only [Act.put, List.setIfInBounds_toArray, List.set_cons_zero, List.set_cons_succ]
            refine wpAnyE_done (by kernel_rfl) ?_ _
            have f1 : w6.frozen? ⟨XB, 1, none⟩ = false := HB6.out.frozen 1
            have c1 : w6.cell? ⟨XB, 1, none⟩ = some (.int .i64 s3.sent) := HB6.out.cell 1
            clear hS
            go_wp2_with fail
            go_end0
            have e : Vm.sendTo c s3 t1 t2 t3 n = { s3 with sent := wrap64 (s3.sent + 1), sends := s3.sends ++ [[c.time + D, c.self, s3.sent, T, n, t3]] } := by
              unfold Vm.sendTo; rw [HD.out, HT2.out, if_neg (fun h => h.elim (by omega) (by have := HLN.out; have := HQ.out; omega))]
            rw [e]
            refine ⟨rfl, RDone.wide N1.out (D3.out.then ?_)⟩
            have hq := HQ.out
            subst hq
            have hw5 := HO5.out
            obtain ⟨hk0, ho0, hg0, hX0, hK0, hd0⟩ := HR4.out
            have hsz := Below.size N5.out
            have hat : ∀ g, SB2 = some g → SB = some g ∨ w4.heap.size ≤ g := fun g hg => by
              rcases HA6.out with e | e
              · exact .inl (by rw [← e]; exact hg)
              · rw [e] at hg; injection hg with hg; simp at hg; exact .inr (by omega)
            exact RefH.sentTo (row := [c.time + D, c.self, s3.sent, T, n, t3]) HX.out hk0 HH.out ho0 hg0 hX0 hK0 hd0 ((Chg.of_below N5.out (Nat.le_refl _) _).trans HC6.out (fun i hi e => e)) HO6.out hat
end
end Go.Proofs.Ytgijkgngldfdiaa
