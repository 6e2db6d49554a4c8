/- What the machine's instructions do: send, tell. Helper. -/
import Derived.Test.YtgijkgngldfdiaaVmOps2
import Derived.Deep.RegionLaw
namespace Go.Proofs.Ytgijkgngldfdiaa
open Go.RowKit
set_option linter.unusedVariables false
set_option linter.unusedSimpArgs false
def clampD (d : Int) : Int := if d ≤ 1 then 1 else if d ≤ 1048576 then d else 1048576
def toP (x procs : Int) : Int := (x.tmod procs + procs - 1).tmod procs + 1
/-- What a send does (the stack is taken already). -/
def Vm.sendTo (c : Cfg) (s : Vm) (dst delay data kind : Int) : Vm :=
  if 1099511627776 < c.time + clampD delay ∨ 4 ≤ s.sends.length then s
  else { s with sent := wrap64 (s.sent + 1), sends := s.sends ++ [[c.time + clampD delay, c.self, s.sent, toP dst c.procs, kind, data]] }
def Vm.sendV (c : Cfg) (s : Vm) (kind : Int) : Vm := Vm.sendTo c s.pop.pop.pop s.top s.pop.top s.pop.pop.top kind
theorem clamp_bd (d : Int) : 1 ≤ clampD d ∧ clampD d ≤ 1048576 := by unfold clampD; split <;> (try split) <;> omega
theorem clamp_eq (d : Int) : (if 1048576 < if d < 1 then 1 else d then 1048576 else if d < 1 then 1 else d) = clampD d := by
  unfold clampD
  by_cases h1 : d < 1
  · simp [h1]; omega
  · simp only [if_neg h1]
    by_cases h2 : 1048576 < d
    · rw [if_pos h2, if_neg (by omega), if_neg (by omega)]
    · rw [if_neg h2]
      by_cases h3 : d ≤ 1
      · rw [if_pos h3]; omega
      · rw [if_neg h3, if_pos (by omega)]
theorem tmod_bd (x p : Int) (hp : 1 ≤ p) : -p < x.tmod p ∧ x.tmod p < p := by
  have h1 := Int.tmod_lt_of_pos x (show 0 < p by omega)
  have h2 := Int.tmod_lt_of_pos (-x) (show 0 < p by omega)
  rw [Int.neg_tmod] at h2
  omega
theorem toP_bd (x p : Int) (hp : 1 ≤ p) : 1 ≤ toP x p ∧ toP x p ≤ p := by
  have h := tmod_bd x p hp
  have h2 := tmod_bd (x.tmod p + p - 1) p hp
  have h3 : 0 ≤ (x.tmod p + p - 1).tmod p := Int.tmod_nonneg _ (by omega)
  unfold toP
  omega
theorem toP_eq (x p : Int) (hp : 1 ≤ p) (hp2 : p ≤ 16) : (wrap64 (wrap64 (x.tmod p + p) - 1)).tmod p = toP x p - 1 := by
  have h := tmod_bd x p hp
  have e1 : wrap64 (x.tmod p + p) = x.tmod p + p := by unfold wrap64; omega
  have e2 : wrap64 (x.tmod p + p - 1) = x.tmod p + p - 1 := by unfold wrap64; omega
  rw [e1, e2]
  unfold toP
  omega
theorem infoEv : (Try.prog.info? 44).map (fun i => (i.zero, i.size, i.bytes)) = some (some (.agg #[.int .i64 0, .int .i64 0, .int .i64 0, .int .i64 0, .int .i64 0, .int .i64 0]), 6, 48) := by kernel_rfl
section
variable (Hm : Nat → Prop) (R MB : Nat) (c : Cfg) (s : Vm) (n : Int) (w : World)
set_option maxRecDepth 100000
set_option maxHeartbeats 800000
theorem send_any (h : RunH w Hm R MB c s) (hp : 1 ≤ c.procs ∧ c.procs ≤ 16) (ht : 0 ≤ c.time ∧ c.time ≤ 1099511627776) :
    Calls Try.prog 97 #[.pointer (some ⟨R, 0, none⟩), .int .i64 n] w fun e w' => e = .returned (.tuple #[]) ∧ Done w w' Hm R MB c (Vm.sendV c s n) := by
  unfold Vm.sendV
  have k1 := take_any Hm R MB c s w h
  obtain ⟨t1, h1⟩ : ∃ t, s.top = t := ⟨_, rfl⟩
  obtain ⟨t2, h2⟩ : ∃ t, s.pop.top = t := ⟨_, rfl⟩
  obtain ⟨t3, h3⟩ : ∃ t, s.pop.pop.top = t := ⟨_, rfl⟩
  rw [h1] at k1
  rw [h1, h2, h3]
  obtain ⟨s3, hs3⟩ : ∃ s3, s.pop.pop.pop = s3 := ⟨_, rfl⟩
  have K1 := Lib.hid k1
  have H2 := Lib.hid h2
  have H3 := Lib.hid h3
  have HS3 := Lib.hid hs3
  rw [hs3]
  have HP := Lib.hid hp
  have HT := Lib.hid ht
  clear h h1 h2 h3 k1 hs3 hp ht
  go_enter Try.func97, Try.ntmps97
  go_wp2_with fail
  refine K1.out.mono ?_
  rintro e w1 ⟨rfl, d1⟩
  have D1 := Lib.hid d1
  have k2 := take_any _ R MB c s.pop w1 d1.run
  rw [H2.out] at k2
  have K2 := Lib.hid k2
  clear d1 K1 k2
  go_wp2_with fail
  refine K2.out.mono ?_
  rintro e w2 ⟨rfl, d2⟩
  have D2 := Lib.hid (D1.out.then d2)
  have k3 := take_any _ R MB c s.pop.pop w2 D2.out.run
  rw [H3.out, HS3.out] at k3
  have K3 := Lib.hid k3
  clear d2 K2 k3 D1
  go_wp2_with fail
  refine K3.out.mono ?_
  rintro e w3 ⟨rfl, d3⟩
  have D3 := Lib.hid (D2.out.then d3)
  clear d3 K3 D2 H2 H3 HS3
  have c0 := D3.out.run.cells.1
  have c1 := D3.out.run.cells.2.1
  have m3 := D3.out.run.mach.m3
  have pp := HP.out
  have tt := HT.out
  obtain ⟨p1, p2⟩ := pp
  obtain ⟨q1, q2⟩ := tt
  go_upto_region 4 with (fail)
  rw [toP_eq t1 c.procs p1 p2, clamp_eq t2]
  obtain ⟨d1, d2⟩ := clamp_bd t2
  obtain ⟨P1, P2⟩ := toP_bd t1 c.procs p1
  obtain ⟨D, hD⟩ : ∃ D, clampD t2 = D := ⟨_, rfl⟩
  obtain ⟨T, hT⟩ : ∃ T, toP t1 c.procs = T := ⟨_, rfl⟩
  have HDD := Lib.hid hD
  have HTT := Lib.hid hT
  rw [hD, hT]
  generalize (if t2 < 1 then (1 : Int) else t2) = mx
  generalize wrap64 (wrap64 (t1.tmod c.procs + c.procs) - 1) = mx2
  generalize wrap64 (t1.tmod c.procs + c.procs) = mx3
  rw [hD] at d1 d2
  rw [hT] at P1 P2
  have r3 := D3.out.run
  obtain ⟨⟨cs, sv, tv, SB, TB, hb, hr, hh⟩, hm, hR, hM, hMlt⟩ := r3
  obtain ⟨A, cap, rfl, _, _, _⟩ := hh.s.rd
  have c10 : w3.cell? ⟨R, 10, none⟩ = some (.slice A s3.sends.length cap) := (hb.cell 10).trans hr.c10
  have c8 : w3.cell? ⟨R, 8, none⟩ = some (.int .i64 s3.sent) := (hb.cell 8).trans hr.c8
  have m2 := hm.m2
  have f8 := hb.frozen 8
  have f10 := hb.frozen 10
  have hlR := hb.lt
  have hlM := hMlt
  have HB := Lib.hid hb
  have HR := Lib.hid hr
  have HH := Lib.hid hh
  have HM := Lib.hid hm
  have HRR := Lib.hid hR
  have HMM := Lib.hid hM
  have HML := Lib.hid hMlt
  clear hD hT hb hr hh hm hR hM hMlt m3
  by_cases hbig : 1099511627776 < c.time + D
  · have e : Vm.sendTo c s3 t1 t2 t3 n = s3 := by unfold Vm.sendTo; rw [HDD.out, if_pos (.inl hbig)]
    have HE := Lib.hid e
    clear e
    go_wp2_with fail
    refine bodyPost_ret (results_none rfl _ _ _) rfl ?_
    rw [HE.out]
    exact ⟨rfl, D3.out⟩
  · by_cases hln : 4 ≤ s3.sends.length
    · have e : Vm.sendTo c s3 t1 t2 t3 n = s3 := by unfold Vm.sendTo; rw [if_pos (.inr hln)]
      have HE := Lib.hid e
      have g4 : (4 : Int) ≤ (s3.sends.length : Int) := by omega
      clear e
      go_wp2_with fail
      refine bodyPost_ret (results_none rfl _ _ _) rfl ?_
      rw [HE.out]
      exact ⟨rfl, D3.out⟩
    · have e : Vm.sendTo c s3 t1 t2 t3 n = { s3 with sent := wrap64 (s3.sent + 1), sends := s3.sends ++ [[c.time + D, c.self, s3.sent, T, n, t3]] } := by
        unfold Vm.sendTo; rw [HDD.out, HTT.out, if_neg (fun h => h.elim hbig hln)]
      have HE := Lib.hid e
      have g4 : ¬ (4 : Int) ≤ (s3.sends.length : Int) := by omega
      clear e
      obtain ⟨q, hq⟩ : ∃ q, s3.sends.length = q := ⟨_, rfl⟩
      have HQ := Lib.hid hq
      rw [hq] at c10 hln g4
      clear hq
      go_wp2_with fail
      go_region
      all_goals
        obtain ⟨w4, hw4⟩ : ∃ w4, (w3.alloc (.cells #[.int .i64 (c.time + D), .int .i64 c.self, .int .i64 s3.sent, .int .i64 T, .int .i64 n, .int .i64 t3] 44)).drew = w4 := ⟨_, rfl⟩
        have hE : Blk w4 w3.heap.size 44 #[.int .i64 (c.time + D), .int .i64 c.self, .int .i64 s3.sent, .int .i64 T, .int .i64 n, .int .i64 t3] := by rw [← hw4]; exact Blk.last w3 _ _ rfl
        have b34 : Below w3.heap.size w3 w4 := by rw [← hw4]; exact ((Below.refl _ _).alloc (Nat.le_refl _) _).drew
        have hb4 := HB.out.below b34 hlR
        have a8 : w4.cell? ⟨R, 8, none⟩ = some (.int .i64 s3.sent) := (hb4.cell 8).trans HR.out.c8
        have z8 := hb4.frozen 8
        rw [hw4]
        have hne : R ≠ w3.heap.size := by omega
        have HNE := Lib.hid hne
        have HEv := Lib.hid hE
        have B34 := Lib.hid b34
        have hb5 : Blk (w4.setCell ⟨R, 8, none⟩ (.int .i64 (wrap64 (s3.sent + 1)))) R 132 _ := hb4.set_ 8 _
        have hE5 : Blk (w4.setCell ⟨R, 8, none⟩ (.int .i64 (wrap64 (s3.sent + 1)))) w3.heap.size 44 _ := hE.far (p := ⟨R, 8, none⟩) (fun e => hne e.symm) _
        have c45 : Chg (fun k => k = R) w4 (w4.setCell ⟨R, 8, none⟩ (.int .i64 (wrap64 (s3.sent + 1)))) := (Chg.refl (fun k => k = R) w4).setCell (p := ⟨R, 8, none⟩) (.inl rfl) _
        have HB5 := Lib.hid hb5
        have HE5 := Lib.hid hE5
        have C45 := Lib.hid c45
        clear c0 c1 c8 c10 m2 f8 f10 hw4 hE b34 hb4 hne hb5 hE5 c45
        go_upto_region 7 with (fail)
        generalize w4.setCell ⟨R, 8, none⟩ (.int .i64 (wrap64 (s3.sent + 1))) = w5 at *
        clear a8 z8
        obtain ⟨EB, hEB⟩ : ∃ EB, w3.heap.size = EB := ⟨_, rfl⟩
        have HEB := Lib.hid hEB
        rw [hEB] at HE5 ⊢
        clear hEB
        have e0 : w5.cell? ⟨EB, 0, none⟩ = some (.int .i64 (c.time + D)) := HE5.out.cell 0
        have e1 : w5.cell? ⟨EB, 1, none⟩ = some (.int .i64 c.self) := HE5.out.cell 1
        have e2 : w5.cell? ⟨EB, 2, none⟩ = some (.int .i64 s3.sent) := HE5.out.cell 2
        have e3 : w5.cell? ⟨EB, 3, none⟩ = some (.int .i64 T) := HE5.out.cell 3
        have e4 : w5.cell? ⟨EB, 4, none⟩ = some (.int .i64 n) := HE5.out.cell 4
        have e5 : w5.cell? ⟨EB, 5, none⟩ = some (.int .i64 t3) := HE5.out.cell 5
        have b10 : w5.cell? ⟨R, 10, none⟩ = some (.slice A q cap) := (HB5.out.cell 10).trans ((set_other _ (by decide)).trans (by rw [HR.out.c10, HQ.out]))
        have hb10 : ∀ o, (w5.alloc o).cell? ⟨R, 10, none⟩ = some (.slice A q cap) := fun o => ((HB5.out.alloc o).cell 10).trans ((set_other _ (by decide)).trans (by rw [HR.out.c10, HQ.out]))
        have ho5 : Own w5 44 6 (.slice A q cap) q (ints s3.sends.flatten) SB := by
          have k := HH.out.s
          rw [HQ.out] at k
          exact k.kept fun g hg => by
            obtain ⟨cur, hc⟩ := k.tyB g hg
            exact (C45.out.block g (Nat.lt_of_lt_of_le hc.lt B34.out.size) (hc.ne_ HB.out (by decide))).trans (B34.out.block g hc.lt)
        have HO5 := Lib.hid ho5
        have hSR : SB ≠ some R := fun e => by obtain ⟨cur, hc⟩ := ho5.tyB R e; exact absurd rfl (hc.ne_ HB5.out (by decide))
        have HSR := Lib.hid hSR
        obtain ⟨i0, hi0, hz0, hz1, hz2⟩ := info_parts infoEv
        have HL1 := Lib.hid hi0
        have HL2 := Lib.hid hz0
        have HL3 := Lib.hid hz1
        have HL4 := Lib.hid hz2
        clear hi0 hz0 hz1 hz2 ho5 hSR
        go_region_law ((refine step_append_at _ (by rfl) _ _ _ (by rfl) 44 i0 _ 6 48 Try.underlying23 HL1.out HL2.out HL3.out HL4.out rfl (by omega) _ q (ints s3.sends.flatten) SB (by rfl) (HO5.out.kept (fun g hg => Below.heap_alloc _ _ _ (HO5.out.lt g hg))) _ 1 1 (ints [c.time + D, c.self, s3.sent, T, n, t3]) (by rfl) (by rfl) (rd_last_drew w5 _ (ints [c.time + D, c.self, s3.sent, T, n, t3])) (ints_one _) (by simp only [maxLen]; omega) (by omega) ?_; intro A2 c2 w6 SB2 hown2 hchg hat2; have hb6 : Blk w6 R 132 _ := ((HB5.out.alloc _).drew).chg hchg (fun h => HSR.out h.symm); have hc6 : w6.cell? ⟨R, 10, none⟩ = some (.slice A q cap) := (hb6.cell 10).trans ((set_other _ (by decide)).trans (by rw [HR.out.c10, HQ.out])); have hf6 := hb6.frozen 10))
        all_goals
          have HC6 := Lib.hid hchg
          have HO6 := Lib.hid hown2
          have HB6 := Lib.hid hb6
          have HA6 := Lib.hid hat2
          clear hchg hown2 hb6 hat2
          go_wp2_with fail
          go_end0
          rw [HE.out]
          refine ⟨rfl, D3.out.then ?_⟩
          have hl : (s3.sends ++ [[c.time + D, c.self, s3.sent, T, n, t3]]).length = q + 1 := by rw [List.length_append, HQ.out]; rfl
          have keep : ∀ g t cs', (t = 2 ∨ t = 98) → Blk w3 g t cs' → (w6.setCell ⟨R, 10, none⟩ (.slice A2 (q + 1) c2)).heap[g]? = w3.heap[g]? := fun g t cs' ht hg => by
            have n1 : g ≠ R := hg.ne_ HB.out (by rcases ht with rfl | rfl <;> decide)
            have hlt4 := Nat.lt_of_lt_of_le hg.lt B34.out.size
            have hlt5 := Nat.lt_of_lt_of_le hlt4 C45.out.size
            have n2 : some g ≠ SB := fun e => by
              obtain ⟨cur, hc⟩ := HH.out.s.tyB g e.symm
              exact absurd rfl (hg.ne_ hc (by rcases ht with rfl | rfl <;> decide))
            rw [Below.heap_setCell _ _ _ _ n1, HC6.out.block g (by simp; omega) n2]
            exact (Below.heap_alloc _ _ _ hlt5).trans ((C45.out.block g hlt4 n1).trans (B34.out.block g hg.lt))
          refine RunH.turn (SB := SB2) (TB := TB) HMM.out HML.out HRR.out HM.out (HB6.out.set_ 10 _) ((HR.out.setSent (wrap64 (s3.sent + 1))).setSends (.slice A2 (q + 1) c2) (s3.sends ++ [[c.time + D, c.self, s3.sent, T, n, t3]])) ⟨?_, ?_, ?_, ?_, ?_, ?_⟩ ?_
          · exact HH.out.v.kept fun g hg => by obtain ⟨cur, hc⟩ := HH.out.v.tyB g hg; exact keep g _ cur (.inl rfl) hc
          · rw [show ({ s3 with sent := wrap64 (s3.sent + 1), sends := s3.sends ++ [[c.time + D, c.self, s3.sent, T, n, t3]] } : Vm).sends = s3.sends ++ [[c.time + D, c.self, s3.sent, T, n, t3]] from rfl, hl, List.flatten_append, ints_append]
            exact HO6.out.kept fun g hg => Below.heap_setCell _ _ _ _ (fun e => by
              obtain ⟨cur, hc⟩ := HO6.out.tyB g hg
              exact absurd e (hc.ne_ HB6.out (by decide)))
          · exact HH.out.t.kept fun g hg => by obtain ⟨cur, hc⟩ := HH.out.t.tyB g hg; exact keep g _ cur (.inr rfl) hc
          · exact fun g hg => .inl (HH.out.hv g hg)
          · intro g hg
            rcases HA6.out with e | e
            · exact .inl (HH.out.hs g (by rw [← e]; exact hg))
            · rw [e] at hg; injection hg with hg; simp at hg; have := C45.out.size; have := B34.out.size; exact .inr (by omega)
          · exact fun g hg => .inl (HH.out.ht g hg)
          · have k1 : Chg (fun k => Hm k ∨ w.heap.size ≤ k) w3 w5 := (Chg.of_below B34.out (Nat.le_refl _) _).trans C45.out (fun i hi e => by rw [e]; exact HRR.out)
            refine (((k1.alloc _).drew).trans HC6.out (fun i hi e => HH.out.hs i e.symm)).setCell (p := ⟨R, 10, none⟩) (.inl HRR.out) _
end
end Go.Proofs.Ytgijkgngldfdiaa
