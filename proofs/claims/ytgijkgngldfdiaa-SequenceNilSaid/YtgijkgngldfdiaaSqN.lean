/- New of a model. Helper. -/
import Derived.Test.YtgijkgngldfdiaaSqC
import Derived.Test.YtgijkgngldfdiaaSqD
namespace Go.Proofs.Ytgijkgngldfdiaa
open Go.RowKit
set_option linter.unusedVariables false
set_option linter.unusedSimpArgs false
theorem infoPtr : (Try.prog.info? 82).map (fun i => (i.zero, i.size, i.bytes)) = some (some (.pointer none), 1, 8) := by kernel_rfl
theorem infoSta : (Try.prog.info? 65).map (fun i => (i.zero, i.size, i.bytes)) = some (some (.agg #[.slice none 0 0, .int .i64 0, .int .i64 0]), 3, 40) := by kernel_rfl
theorem getD_at {m : Mdl} {i : Nat} (hi : i < m.procs.length) : m.procs.getD i Pr.z = m.procs[i] := by
  rw [List.getD_eq_getElem?_getD, List.getElem?_eq_getElem hi]; rfl
section
variable (m : Mdl) (pA fA : Option Addr) (pc fc : Nat) (w : World)
set_option maxRecDepth 100000
set_option maxHeartbeats 1600000
theorem modelStart_any (i : Nat) (hi : i < m.procs.length) (h : MAt w m pA fA) (hv : (m.procs.getD i Pr.z).vals.length ≤ 100000) :
    Calls Try.prog 32 #[.agg #[.slice pA m.procs.length pc, .slice fA m.first.length fc], .int .i64 ((i : Int) + 1)] w (CopiedOut w (m.procs.getD i Pr.z).vals 0 0) := by
  obtain ⟨w2, hw2⟩ : ∃ w2, (w.alloc (.cells #[.slice pA m.procs.length pc, .slice fA m.first.length fc] 25)).alloc (.cells #[.slice none 0 0, .int .i64 0, .int .i64 0] 65) = w2 := ⟨_, rfl⟩
  have n2 : Nw w w2 := by rw [← hw2]; exact ((Nw.refl w).alloc _).alloc _
  have hb : Blk w2 w.heap.size 25 #[.slice pA m.procs.length pc, .slice fA m.first.length fc] := by rw [← hw2]; exact (Blk.last w _ _ rfl).alloc _
  have hz : Blk w2 (w.heap.size + 1) 65 #[.slice none 0 0, .int .i64 0, .int .i64 0] := by rw [← hw2]; exact Blk.last _ _ _ (by simp)
  have hs2 : w2.heap.size = w.heap.size + 2 := by rw [← hw2]; simp
  obtain ⟨XB, hXB⟩ : ∃ XB, w.heap.size = XB := ⟨_, rfl⟩
  obtain ⟨b, o, ep, hp⟩ := (h.keep n2).proc hi
  rw [getD_at hi] at hv ⊢
  obtain ⟨P, hP⟩ : ∃ P, m.procs[i] = P := ⟨_, rfl⟩
  rw [hP] at hp hv ⊢
  obtain ⟨c0, ⟨kA, kc, c1, r1⟩, ⟨vA, vc, c2, r2⟩, c3, q1, q2⟩ := hp
  subst ep
  have K := Lib.hid (clone64_any w2 vA P.vals vc r2 (by omega))
  obtain ⟨N, hN⟩ : ∃ N, m.procs.length = N := ⟨_, rfl⟩
  obtain ⟨f, hf⟩ : ∃ f, m.first.length = f := ⟨_, rfl⟩
  obtain ⟨vn, hvn⟩ : ∃ vn, P.vals.length = vn := ⟨_, rfl⟩
  have hNm : N ≤ 9223372036854775807 := by have := h.pn; rw [hN] at this; simpa [maxLen] using this
  rw [hXB] at hb hz hs2
  rw [hN, hf] at hw2 hb ⊢
  rw [hN] at hi
  rw [hvn] at c2 K
  have x0 : w2.cell? ⟨XB, 0, none⟩ = some (.slice (some ⟨b, o, none⟩) N pc) := hb.cell 0
  have HZ := Lib.hid hz
  have HS2 := Lib.hid hs2
  have HW2 := Lib.hid hw2
  have HXB := Lib.hid hXB
  have N2 := Lib.hid n2
  have HVN := Lib.hid hvn
  clear h hP hN hf hvn hw2 hb hz hs2 hXB n2 c0 c1 c3 r1 r2 hv q1 q2
  have wi : IntKind.i64.wrap (i : Int) = (i : Int) := by simp [IntKind.wrap, IntKind.bits, IntKind.signed]; omega
  have wj : IntKind.i64.wrap ((i : Int) + 1 - 1) = (i : Int) := by rw [Int.add_sub_cancel]; exact wi
  have l1 : ((i : Int) + 1 < 1) = False := by simp; omega
  have l2 : ((N : Int) < (i : Int) + 1) = False := by simp; omega
  have k2 : (0 : Int) ≤ (i : Int) := by omega
  have k3 : (i : Int) < (N : Int) := by omega
  clear hi hNm
  go_enter Try.func32, Try.ntmps32
  go_upto_region 1 with (fail)
  rw [HW2.out, HXB.out]
  go_wp2_with fail
  refine K.out.mono ?_
  rintro r w3 ⟨A', c', blk, rfl, hown, hbl, hat⟩
  rw [HVN.out] at hown ⊢
  have hz3 := HZ.out.below (show Below w2.heap.size w2 w3 from hbl) HZ.out.lt
  have y0 : w3.cell? ⟨XB + 1, 0, none⟩ = some (.slice none 0 0) := hz3.cell 0
  have y1 : w3.cell? ⟨XB + 1, 1, none⟩ = some (.int .i64 0) := hz3.cell 1
  have y2 : w3.cell? ⟨XB + 1, 2, none⟩ = some (.int .i64 0) := hz3.cell 2
  have g0 := hz3.frozen 0
  have g1 := hz3.frozen 1
  have g2 := hz3.frozen 2
  have HO := Lib.hid hown
  have HAT := Lib.hid hat
  have N3 := Lib.hid (N2.out.step hbl)
  clear hown hat hbl hz3
  go_wp2_with fail
  refine bodyPost_ret (v := stV A' vn c' 0 0) (by simp [results, Try.results32, go_sem, y0, y1, y2, stV]) rfl ?_
  have hx : w.heap.size = XB := HXB.out
  have hs := HS2.out
  refine ⟨A', c', blk, by rw [HVN.out], ?_, ?_, fun g hg => by have := HAT.out g hg; omega⟩
  · rw [HVN.out]
    exact HO.out.kept fun g hg => by
      have hg2 := HAT.out g hg
      rw [Below.heap_setCell _ _ _ _ (by show g ≠ XB + 1; omega), Below.heap_setCell _ _ _ _ (by show g ≠ XB + 1; omega), Below.heap_setCell _ _ _ _ (by show g ≠ XB + 1; omega)]
  · exact ((N3.out.set (p := ⟨XB + 1, 0, none⟩) (by show _ ≤ XB + 1; omega) _).set (p := ⟨XB + 1, 1, none⟩) (by show _ ≤ XB + 1; omega) _).set (p := ⟨XB + 1, 2, none⟩) (by show _ ≤ XB + 1; omega) _
theorem seqNew_no (h : MAt w m pA fA) (hm : ¬ m.May) :
    Calls Try.prog 9 #[.agg #[.slice pA m.procs.length pc, .slice fA m.first.length fc]] w fun r w' => r = .returned (.tuple #[.pointer none, .int .i64 4]) ∧ Nw w w' := by
  obtain ⟨n, hn⟩ : ∃ n, m.procs.length = n := ⟨_, rfl⟩
  obtain ⟨f, hf⟩ : ∃ f, m.first.length = f := ⟨_, rfl⟩
  rw [hn, hf]
  obtain ⟨w1, hw1⟩ : ∃ w1, w.alloc (.cells #[.slice pA n pc, .slice fA f fc] 25) = w1 := ⟨_, rfl⟩
  have n1 : Nw w w1 := by rw [← hw1]; exact (Nw.refl w).alloc _
  have hb : Blk w1 w.heap.size 25 #[.slice pA n pc, .slice fA f fc] := by rw [← hw1]; exact Blk.last w _ _ rfl
  have x0 : w1.cell? ⟨w.heap.size, 0, none⟩ = some (.slice pA n pc) := hb.cell 0
  have x1 : w1.cell? ⟨w.heap.size, 1, none⟩ = some (.slice fA f fc) := hb.cell 1
  have K := modelMay_any m pA fA pc fc w1 (h.keep n1)
  rw [hn, hf] at K
  have HK := Lib.hid K
  have HW := Lib.hid hw1
  have N1 := Lib.hid n1
  clear h hn hf hw1 n1 hb K
  go_enter Try.func9, Try.ntmps9
  go_upto_region 1 with (fail)
  rw [HW.out]
  go_wp2_with fail
  refine HK.out.mono ?_
  rintro r w2 ⟨bb, rfl, hbb, n2⟩
  have hbf : bb = false := by
    cases bb with
    | false => rfl
    | true => exact absurd (hbb.1 rfl) hm
  subst hbf
  have N2 := Lib.hid (N1.out.step n2)
  clear hbb n2
  go_wp2_with fail
  go_ret2
  exact ⟨rfl, N2.out⟩
/-- A sequence is there. -/
def NewSeqOut (U : Nat → Prop) (w : World) (m : Mdl) (r : Ending) (w' : World) : Prop :=
  ∃ p ws, r = .returned (.tuple #[.pointer (some ⟨p.SB, 0, none⟩), .int .i64 0]) ∧ PSeq w' p m m.start ws ∧ Nw w w' ∧ (∀ g, p.T g → w.heap.size ≤ g) ∧ p.U = U
set_option maxHeartbeats 8000000
theorem seqNewU_any (U : Nat → Prop) (hU : ∀ g, U g → g < w.heap.size) (h : MAt w m pA fA) (hm : m.May) (hvl : ∀ i, i < m.procs.length → (m.procs.getD i Pr.z).vals.length ≤ 100000) :
    Calls Try.prog 9 #[.agg #[.slice pA m.procs.length pc, .slice fA m.first.length fc]] w (NewSeqOut U w m) := by
  have HU := Lib.hid hU
  clear hU
  obtain ⟨iP, hi0, hi1, hi2, hi3⟩ := info_parts infoPtr
  obtain ⟨iS, hj0, hj1, hj2, hj3⟩ := info_parts infoSta
  have HP1 := Lib.hid hi0
  have HP2 := Lib.hid hi1
  have HP3 := Lib.hid hi2
  have HP4 := Lib.hid hi3
  have HI1 := Lib.hid hj0
  have HI2 := Lib.hid hj1
  have HI3 := Lib.hid hj2
  have HI4 := Lib.hid hj3
  clear hi0 hi1 hi2 hi3 hj0 hj1 hj2 hj3
  have km : ∀ W : World, (Instr.makeMap 61 none).run Try.prog W = .ok (.map (some W.heap.size)) (W.alloc (.map #[] 0)) := fun W => run_makeMap _ W
  obtain ⟨n, hn⟩ : ∃ n, m.procs.length = n := ⟨_, rfl⟩
  obtain ⟨f, hf⟩ : ∃ f, m.first.length = f := ⟨_, rfl⟩
  have hn1 := hm.n1
  have hn16 := hm.n16
  have hf64 := hm.f64
  rw [hn] at hn1 hn16
  rw [hf] at hf64
  obtain ⟨w1, hw1⟩ : ∃ w1, w.alloc (.cells #[.slice pA m.procs.length pc, .slice fA m.first.length fc] 25) = w1 := ⟨_, rfl⟩
  have n1 : Nw w w1 := by rw [← hw1]; exact (Nw.refl w).alloc _
  obtain ⟨XB, hXB⟩ : ∃ XB, w.heap.size = XB := ⟨_, rfl⟩
  have hb : Blk w1 XB 25 #[.slice pA m.procs.length pc, .slice fA m.first.length fc] := by rw [← hw1]; exact Blk.last w _ _ hXB
  rw [hn, hf] at hw1 hb ⊢
  have x0 : w1.cell? ⟨XB, 0, none⟩ = some (.slice pA n pc) := hb.cell 0
  have x1 : w1.cell? ⟨XB, 1, none⟩ = some (.slice fA f fc) := hb.cell 1
  have K := modelMay_any m pA fA pc fc w1 (h.keep n1)
  rw [hn, hf] at K
  have HK := Lib.hid K
  have HW1 := Lib.hid hw1
  have HXB := Lib.hid hXB
  have N1 := Lib.hid n1
  have HM := Lib.hid (h.keep n1)
  have HMAY := Lib.hid hm
  have HN := Lib.hid hn
  have HF := Lib.hid hf
  have HVL := Lib.hid hvl
  have X0 := Lib.hid x0
  have X1 := Lib.hid x1
  have HLT := Lib.hid hb.lt
  clear h hn hf hw1 hXB n1 hb K hm hvl
  go_enter Try.func9, Try.ntmps9
  go_upto_region 1 with (fail)
  rw [HW1.out, HXB.out]
  go_wp2_with fail
  refine HK.out.mono ?_
  rintro r w2 ⟨bb, rfl, hbb, n2⟩
  have hbt : bb = true := hbb.2 HMAY.out
  subst hbt
  have N2 := Lib.hid (show Nw w1 w2 from n2)
  clear hbb n2 x0 x1
  go_upto_region 4 with (fail)
  obtain ⟨w3, hw3⟩ : ∃ w3, (w2.alloc (.map #[] 0)).alloc (.cells #[.slice none 0 0, .slice none 0 0, .slice none 0 0, .map (some w2.heap.size), .int .i64 0, .int .i64 (-1)] 63) = w3 := ⟨_, rfl⟩
  have n3 : Nw w2 w3 := by rw [← hw3]; exact ((Nw.refl w2).alloc _).alloc _
  have hL : Laid U w1 w3 m 0 (w2.heap.size + 1) w2.heap.size none 0 none none 0 none [] [] := by
    have hs := N2.out.size
    refine ⟨N2.out.step n3, ⟨by omega, hs, fun g e => (by cases e), fun g e => (by cases e)⟩, ?_, Own.nil _ _ _, Own.nil _ _ _, fun i hi => by omega, fun i hi => by omega, ?_, fun g q => Nat.lt_of_lt_of_le (HU.out g q) N1.out.size⟩
    · rw [← hw3]; exact Blk.last _ _ _ (by simp)
    · rw [← hw3]; exact (Sn.made w2).same (Below.heap_alloc _ _ _ (by simp))
  obtain ⟨PB, hPB⟩ : ∃ PB, w2.heap.size = PB := ⟨_, rfl⟩
  obtain ⟨SB, hSB⟩ : ∃ SB, PB + 1 = SB := ⟨_, rfl⟩
  rw [hPB, hSB] at hL
  have HSB := Lib.hid hSB
  have HPB := Lib.hid hPB
  have HW3 := Lib.hid hw3
  have HL0 := Lib.hid hL
  have x0 := hL.new.cell X0.out
  clear hSB hPB hw3 hL n3
  rw [HW3.out]
  simp only [HPB.out, HSB.out, Array.size_push, World.size_alloc]
  go_wp2_with fail
  go_loopw [20] (fun i wr => ∃ (k : Nat) (PA : Option Addr) (PC : Nat) (bP : Option Nat) (SA : Option Addr) (SC : Nat) (bS : Option Nat) (pts sts : List Value), k ≤ n ∧ i = .int .i64 k ∧ Hid (Laid U w1 wr m k SB PB PA PC bP SA SC bS pts sts)) (fun i _ => n - (intOf i).toNat)
  case atStart => exact ⟨0, none, 0, none, none, 0, none, [], [], Nat.zero_le _, rfl, HL0⟩
  case round =>
    obtain ⟨k, PA, PC, bP, SA, SC, bS, pts, sts, hk, rfl, HI⟩ := hrel
    by_cases hlt : k < n
    · have hlt' : k < m.procs.length := by rw [HN.out]; exact hlt
      obtain ⟨b, o, ep, hp⟩ := (HM.out.keep HI.out.new).proc hlt'
      have hpd := getD_at hlt'
      obtain ⟨P, hP⟩ : ∃ P, m.procs[k] = P := ⟨_, rfl⟩
      rw [hP] at hp hpd
      obtain ⟨c0, ⟨kA, kc, c1, r1⟩, ⟨vA, vc, c2, r2⟩, c3, q1, q2⟩ := hp
      have hcm := (HMAY.out.proc hlt').1
      rw [hpd] at hcm
      have g4 : (k : Int) < (n : Int) := by omega
      obtain ⟨w2, hw2⟩ : ∃ w2, wr.alloc (.cells #[.int .i64 P.vars, .slice kA P.ks.length kc, .slice vA P.vals.length vc, .int .i64 P.seed] 79) = w2 := ⟨_, rfl⟩
      have n2 : Nw wr w2 := by rw [← hw2]; exact (Nw.refl wr).alloc _
      obtain ⟨YB, hYB⟩ : ∃ YB, wr.heap.size = YB := ⟨_, rfl⟩
      have hb2 : Blk w2 YB 79 #[.int .i64 P.vars, .slice kA P.ks.length kc, .slice vA P.vals.length vc, .int .i64 P.seed] := by rw [← hw2]; exact Blk.last wr _ _ hYB
      have y0 : w2.cell? ⟨YB, 0, none⟩ = some (.int .i64 P.vars) := hb2.cell 0
      have y1 : w2.cell? ⟨YB, 1, none⟩ = some (.slice kA P.ks.length kc) := hb2.cell 1
      have y3 : w2.cell? ⟨YB, 3, none⟩ = some (.int .i64 P.seed) := hb2.cell 3
      have x0 := (HI.out.new.step n2).cell X0.out
      have KN := Lib.hid (new_ok P.vars kA P.ks kc ((k : Int) + 1) n P.seed w2 (r1.keep n2) hcm (by omega) (by omega))
      have HW2 := Lib.hid hw2
      have HYB := Lib.hid hYB
      have N2 := Lib.hid n2
      have HPD := Lib.hid hpd
      obtain ⟨b', o', hpa⟩ : ∃ b' o', pA = some ⟨b', o', none⟩ := ⟨b, o, ep⟩
      have wk : IntKind.i64.wrap ((k : Int) + 1) = (k : Int) + 1 := by simp [IntKind.wrap, IntKind.bits, IntKind.signed]; omega
      rw [ep] at x0
      have HEP := Lib.hid ep
      clear hP r1 r2 n2 hb2 hw2 hYB hpd hcm q1 q2 hpa b' o' hlt'
      have HLT' := Lib.hid hlt
      have HKN := Lib.hid hk
      have hk16 : k < 16 := by omega
      clear hk
      subst ep
      go_upto_region 7 with (fail)
      rw [HW2.out, HYB.out]
      go_wp2_with fail
      refine KN.out.mono ?_
      rintro r w3 ⟨MB, kA3, kc3, rfl, hma, hrk, hbl, hle, hkf⟩
      clear x0 y0 y1 y3 c0 c1 c2 c3
      go_upto_region 8 with (fail)
      have h03 : Nw wr w3 := N2.out.step hbl
      have hst := NewOut.stays (m := m) (i := k) (w := w2) (w' := w3) (MB := MB) (kA := kA3) (kc := kc3) (T := LU U SB PB bP bS) (by rw [HPD.out, HN.out]; exact hma) hle (by rw [HPD.out]; exact hkf) (fun g hg => Nat.lt_of_lt_of_le (HI.out.ltU g hg) N2.out.size)
      have hO1 := HI.out.pown.kept fun g hg => h03.block g (HI.out.pown.lt g hg)
      have hO2 := HI.out.sown.kept fun g hg => h03.block g (HI.out.sown.lt g hg)
      have hbx := HI.out.box.below h03 HI.out.box.lt
      have nP : ¬ some SB = bP := fun e => by
        obtain ⟨cs, hc⟩ := HI.out.pown.tyB SB e.symm
        exact absurd rfl (HI.out.box.ne_ hc (by decide))
      have nS : ¬ some SB = bS := fun e => by
        obtain ⟨cs, hc⟩ := HI.out.sown.tyB SB e.symm
        exact absurd rfl (HI.out.box.ne_ hc (by decide))
      have nPS : ∀ g, bP = some g → bS ≠ some g := fun g e1 e2 => by
        obtain ⟨cs, hc⟩ := HI.out.pown.tyB g e1
        obtain ⟨cs', hc'⟩ := HI.out.sown.tyB g e2
        exact absurd rfl (hc.ne_ hc' (by decide))
      have low : ∀ g, (some g = bP ∨ some g = bS) → w1.heap.size ≤ g := fun g q => by
        rcases q with q | q
        · exact HI.out.lo.2.2.1 g q.symm
        · exact HI.out.lo.2.2.2 g q.symm
      have hlow : ∀ W, Chg (fun g => some g = bP ∨ some g = bS) w3 W → Nw w1 W := fun W hW =>
        Below.trans (HI.out.new.step h03) (hW.below (fun i _ q => low i q) (HI.out.new.step h03).size)
      have hs : ∀ W, Chg (fun g => some g = bP ∨ some g = bS) w3 W → W.cell? ⟨SB, 0, none⟩ = some (.slice PA k PC) ∧ W.cell? ⟨SB, 1, none⟩ = some (.slice SA k SC) ∧ W.cell? ⟨XB, 0, none⟩ = some (.slice (some ⟨b, o, none⟩) n pc) ∧ W.cell? ⟨XB, 1, none⟩ = some (.slice fA f fc) := fun W hW => by
        have hb := hbx.chg hW (fun q => q.elim nP nS)
        exact ⟨hb.cell 0, hb.cell 1, (hlow W hW).cell X0.out, (hlow W hW).cell X1.out⟩
      obtain ⟨vl, hvls⟩ : ∃ vl, (m.procs.getD k Pr.z).vals = vl := ⟨_, rfl⟩
      have HVLS := Lib.hid hvls
      clear hvls
      have kst : ∀ W, Nw w1 W → Calls Try.prog 32 #[.agg #[.slice (some ⟨b, o, none⟩) n pc, .slice fA f fc], .int .i64 ((k : Int) + 1)] W (CopiedOut W vl 0 0) := fun W hW => by
        have K := modelStart_any m (some ⟨b, o, none⟩) fA pc fc W k (by rw [HN.out]; exact hlt) (HM.out.keep hW) (HVL.out k (by rw [HN.out]; exact hlt))
        rw [HN.out, HF.out, HVLS.out] at K
        exact K
      have HSTART := Lib.hid kst
      clear kst
      have HS := Lib.hid hs
      have HLOW := Lib.hid hlow
      have HNPS := Lib.hid nPS
      have HNB := Lib.hid (show ¬ (some SB = bP ∨ some SB = bS) from fun q => q.elim nP nS)
      have HBOX := Lib.hid hbx
      have HO1 := Lib.hid hO1
      have HO2 := Lib.hid hO2
      have HST := Lib.hid hst
      have H03 := Lib.hid h03
      clear hs hlow low nPS nP nS hbx hO1 hO2 hst h03 hma hrk hbl hle hkf
      refine wp_region_F (fun W => W.cell? ⟨SB, 0, none⟩ = some (.slice PA k PC) ∧ W.cell? ⟨SB, 1, none⟩ = some (.slice SA k SC) ∧ W.cell? ⟨XB, 0, none⟩ = some (.slice (some ⟨b, o, none⟩) n pc) ∧ W.cell? ⟨XB, 1, none⟩ = some (.slice fA f fc)) [21, 22, 23, 24] (by kernel_rfl) ?_
      have hS := HS.out w3.drew (Chg.refl _ w3).drew
      refine wpAnyF_takeT (i := 0) (v := ?_) rfl (by kernel_rfl) (by kernel_rfl) (by kernel_rfl) (by kernel_rfl) (by kernel_rfl) (by kernel_rfl) (fun _ _ _ h => h) (by rfl) ?_ hS ?_
      rotate_left
      · intro u hu
        try dsimp only at hu
        go_simp
        try with_reducible rfl
      try simp only [List.getElem_toArray, List.getElem_cons_succ, List.getElem_cons_zero, Act.put, List.setIfInBounds_toArray, List.set_cons_zero, List.set_cons_succ]
      refine wpAnyF_freeT (i := 1) (v := ?_) rfl (by kernel_rfl) (by kernel_rfl) (by kernel_rfl) (by kernel_rfl) (by kernel_rfl) (fun _ _ _ h => h) (by rfl) ?_ hS ?_
      rotate_left
      · intro u
        go_simp
        try with_reducible rfl
      try simp only [List.getElem_toArray, List.getElem_cons_succ, List.getElem_cons_zero, Act.put, List.setIfInBounds_toArray, List.set_cons_zero, List.set_cons_succ]
      refine wpAnyF_takeT (i := 2) (v := ?_) rfl (by kernel_rfl) (by kernel_rfl) (by kernel_rfl) (by kernel_rfl) (by kernel_rfl) (by kernel_rfl) (fun _ _ _ h => h) (by rfl) ?_ hS ?_
      rotate_left
      · intro u hu
        try dsimp only at hu
        go_simp
        try with_reducible rfl
      try simp only [List.getElem_toArray, List.getElem_cons_succ, List.getElem_cons_zero, Act.put, List.setIfInBounds_toArray, List.set_cons_zero, List.set_cons_succ]
      refine wpAnyF_takeT (i := 3) (v := ?_) rfl (by kernel_rfl) (by kernel_rfl) (by kernel_rfl) (by kernel_rfl) (by kernel_rfl) (by kernel_rfl) (fun _ _ _ h => h) (by rfl) ?_ hS ?_
      rotate_left
      · intro u hu
        try dsimp only at hu
        go_simp
        try with_reducible rfl
      try simp only [List.getElem_toArray, List.getElem_cons_succ, List.getElem_cons_zero, Act.put, List.setIfInBounds_toArray, List.set_cons_zero, List.set_cons_succ]
      refine wpAnyF_takeT (i := 4) (v := ?_) rfl (by kernel_rfl) (by kernel_rfl) (by kernel_rfl) (by kernel_rfl) (by kernel_rfl) (by kernel_rfl) (fun _ _ _ h => h) (by rfl) ?_ hS ?_
      rotate_left
      · intro u hu
        try dsimp only at hu
        go_simp
        try with_reducible rfl
      try simp only [List.getElem_toArray, List.getElem_cons_succ, List.getElem_cons_zero, Act.put, List.setIfInBounds_toArray, List.set_cons_zero, List.set_cons_succ]
      refine wpAnyF_takeT (i := 5) (v := ?_) rfl (by kernel_rfl) (by kernel_rfl) (by kernel_rfl) (by kernel_rfl) (by kernel_rfl) (by kernel_rfl) (fun _ _ _ h => h) (by rfl) ?_ hS ?_
      rotate_left
      · intro u hu
        try dsimp only at hu
        go_simp
        try with_reducible rfl
      try simp only [List.getElem_toArray, List.getElem_cons_succ, List.getElem_cons_zero, Act.put, List.setIfInBounds_toArray, List.set_cons_zero, List.set_cons_succ]
      refine wpAnyF_takeT (i := 6) (v := ?_) rfl (by kernel_rfl) (by kernel_rfl) (by kernel_rfl) (by kernel_rfl) (by kernel_rfl) (by kernel_rfl) (fun _ _ _ h => h) (by rfl) ?_ hS ?_
      rotate_left
      · intro u hu
        try dsimp only at hu
        go_simp
        try with_reducible rfl
      try simp only [List.getElem_toArray, List.getElem_cons_succ, List.getElem_cons_zero, Act.put, List.setIfInBounds_toArray, List.set_cons_zero, List.set_cons_succ]
      refine wpAnyF_takeT (i := 9) (v := ?_) rfl (by kernel_rfl) (by kernel_rfl) (by kernel_rfl) (by kernel_rfl) (by kernel_rfl) (by kernel_rfl) (fun _ _ _ h => h) (by rfl) ?_ hS ?_
      rotate_left
      · intro u hu
        try dsimp only at hu
        go_simp
        try with_reducible rfl
      try simp only [List.getElem_toArray, List.getElem_cons_succ, List.getElem_cons_zero, Act.put, List.setIfInBounds_toArray, List.set_cons_zero, List.set_cons_succ]
      refine wpAnyF_takeT (i := 10) (v := ?_) rfl (by kernel_rfl) (by kernel_rfl) (by kernel_rfl) (by kernel_rfl) (by kernel_rfl) (by kernel_rfl) (fun _ _ _ h => h) (by rfl) ?_ hS ?_
      rotate_left
      · intro u hu
        try dsimp only at hu
        go_simp
        try with_reducible rfl
      try simp only [List.getElem_toArray, List.getElem_cons_succ, List.getElem_cons_zero, Act.put, List.setIfInBounds_toArray, List.set_cons_zero, List.set_cons_succ]
      refine wpAnyF_takeT (i := 11) (v := ?_) rfl (by kernel_rfl) (by kernel_rfl) (by kernel_rfl) (by kernel_rfl) (by kernel_rfl) (by kernel_rfl) (fun _ _ _ h => h) (by rfl) ?_ hS ?_
      rotate_left
      · intro u hu
        try dsimp only at hu
        go_simp
        try with_reducible rfl
      try simp only [List.getElem_toArray, List.getElem_cons_succ, List.getElem_cons_zero, Act.put, List.setIfInBounds_toArray, List.set_cons_zero, List.set_cons_succ]
      refine wpAnyF_takeT (i := 12) (v := ?_) rfl (by kernel_rfl) (by kernel_rfl) (by kernel_rfl) (by kernel_rfl) (by kernel_rfl) (by kernel_rfl) (fun _ _ _ h => h) (by rfl) ?_ hS ?_
      rotate_left
      · intro u hu
        try dsimp only at hu
        go_simp
        try with_reducible rfl
      try simp only [List.getElem_toArray, List.getElem_cons_succ, List.getElem_cons_zero, Act.put, List.setIfInBounds_toArray, List.set_cons_zero, List.set_cons_succ]
      refine wpAnyF_takeT (i := 13) (v := ?_) rfl (by kernel_rfl) (by kernel_rfl) (by kernel_rfl) (by kernel_rfl) (by kernel_rfl) (by kernel_rfl) (fun _ _ _ h => h) (by rfl) ?_ hS ?_
      rotate_left
      · intro u hu
        try dsimp only at hu
        go_simp
        try with_reducible rfl
      try simp only [List.getElem_toArray, List.getElem_cons_succ, List.getElem_cons_zero, Act.put, List.setIfInBounds_toArray, List.set_cons_zero, List.set_cons_succ]
      refine wpAnyF_takeT (i := 14) (v := ?_) rfl (by kernel_rfl) (by kernel_rfl) (by kernel_rfl) (by kernel_rfl) (by kernel_rfl) (by kernel_rfl) (fun _ _ _ h => h) (by rfl) ?_ hS ?_
      rotate_left
      · intro u hu
        try dsimp only at hu
        go_simp
        try with_reducible rfl
      try simp only [List.getElem_toArray, List.getElem_cons_succ, List.getElem_cons_zero, Act.put, List.setIfInBounds_toArray, List.set_cons_zero, List.set_cons_succ]
      refine wpAnyF_takeT (i := 15) (v := ?_) rfl (by kernel_rfl) (by kernel_rfl) (by kernel_rfl) (by kernel_rfl) (by kernel_rfl) (by kernel_rfl) (fun _ _ _ h => h) (by rfl) ?_ hS ?_
      rotate_left
      · intro u hu
        try dsimp only at hu
        go_simp
        try with_reducible rfl
      try simp only [List.getElem_toArray, List.getElem_cons_succ, List.getElem_cons_zero, Act.put, List.setIfInBounds_toArray, List.set_cons_zero, List.set_cons_succ]
      refine wpAnyF_step (i := 7) (by kernel_rfl) rfl (by rfl) fun K hK => ?_
      go_simp
      refine hK _ _ (.inr (HS.out _ ((Chg.refl _ w3).drew.alloc _))) ?_
      clear hK K
      try simp only [List.getElem_toArray, List.getElem_cons_succ, List.getElem_cons_zero, Act.put, List.setIfInBounds_toArray, List.set_cons_zero, List.set_cons_succ]
      refine wpAnyF_step (i := 8) (by kernel_rfl) rfl (by rfl) fun K hK => ?_
      obtain ⟨w4, hw4⟩ : ∃ w4, (w3.alloc (.cells #[.pointer (some ⟨MB, 0, none⟩)] 82)).drew = w4 := ⟨_, rfl⟩
      have n4 : Nw w3 w4 := by rw [← hw4]; exact ((Nw.refl w3).alloc _).drew
      have hb4 : Blk w4 w3.heap.size 82 #[.pointer (some ⟨MB, 0, none⟩)] := by rw [← hw4]; exact (Blk.last w3 _ _ rfl).drew
      have o4 : Own w4 82 1 (.slice PA k PC) k pts bP := HO1.out.kept fun g hg => n4.block g (HO1.out.lt g hg)
      rw [hw4]
      have r4 : Rd w4 (some ⟨w3.heap.size, 0, none⟩) [.pointer (some ⟨MB, 0, none⟩)] := .inr ⟨_, 0, rfl, fun j u hu => by
        rw [hb4.cell]
        rcases j with _ | j
        · simpa using hu
        · simp at hu⟩
      have N4 := Lib.hid n4
      clear hw4 n4 hb4
      refine wp_append_at w4 _ _ 60 rfl 82 iP _ 1 8 Try.underlying60 HP1.out HP2.out HP3.out HP4.out rfl (by omega) _ k pts bP rfl o4 _ 1 1 [.pointer (some ⟨MB, 0, none⟩)] rfl rfl r4 (by intro u hu; simp at hu; subst hu; rfl) (by simp only [maxLen]; omega) (by omega) ?_
      intro A5 c5 w5 b5 hown5 hchg5 hat5
      have HO5 := Lib.hid hown5
      have HA5 := Lib.hid hat5
      have HC5 := Lib.hid hchg5
      have hc35 : Chg (fun g => some g = bP ∨ some g = bS) w3 w5 := (Chg.of_below N4.out (Nat.le_refl _) _).trans (hchg5.mono fun i _ q => .inl q) fun i _ q => q
      have HC35 := Lib.hid hc35
      clear hown5 hat5 hchg5 hc35 r4 o4
      refine hK _ _ (.inr (HS.out w5 HC35.out)) ?_
      clear hK K
      try simp only [List.getElem_toArray, List.getElem_cons_succ, List.getElem_cons_zero, Act.put, List.setIfInBounds_toArray, List.set_cons_zero, List.set_cons_succ]
      refine wpAnyF_step (i := 16) (by kernel_rfl) rfl (by rfl) fun K hK => ?_
      go_simp
      go_at_call 32
      have hx5 : Nw w1 w5 := HLOW.out w5 HC35.out
      refine (HSTART.out w5 hx5).mono ?_
      rintro r w6 ⟨A6, c6, b6, rfl, o6, n6, a6⟩
      unfold stV
      have HO6 := Lib.hid o6
      have N6 := Lib.hid (show Nw w5 w6 from n6)
      have HA6 := Lib.hid a6
      have hc36 : Chg (fun g => some g = bP ∨ some g = bS) w3 w6 := HC35.out.trans (Chg.of_below n6 (Nat.le_refl _) _) fun i _ q => q
      have HC36 := Lib.hid hc36
      clear o6 n6 a6 hc36 hx5
      refine hK _ _ (.inr (HS.out w6 HC36.out)) ?_
      clear hK K
      try simp only [List.getElem_toArray, List.getElem_cons_succ, List.getElem_cons_zero, Act.put, List.setIfInBounds_toArray, List.set_cons_zero, List.set_cons_succ]
      refine wpAnyF_step (i := 17) (by kernel_rfl) rfl (by rfl) fun K hK => ?_
      go_simp
      refine hK _ _ (.inr (HS.out _ (HC36.out.alloc _))) ?_
      clear hK K
      try simp only [List.getElem_toArray, List.getElem_cons_succ, List.getElem_cons_zero, Act.put, List.setIfInBounds_toArray, List.set_cons_zero, List.set_cons_succ]
      refine wpAnyF_step (i := 18) (by kernel_rfl) rfl (by rfl) fun K hK => ?_
      obtain ⟨w7, hw7⟩ : ∃ w7, (w6.alloc (.cells #[.slice A6 vl.length c6, .int .i64 0, .int .i64 0] 65)) = w7 := ⟨_, rfl⟩
      have n7 : Nw w6 w7 := by rw [← hw7]; exact (Nw.refl w6).alloc _
      have hb7 : Blk w7 w6.heap.size 65 #[.slice A6 vl.length c6, .int .i64 0, .int .i64 0] := by rw [← hw7]; exact Blk.last w6 _ _ rfl
      have hc67 : Chg (fun g => some g = bP ∨ some g = bS) w3 w7 := HC36.out.trans (Chg.of_below n7 (Nat.le_refl _) _) fun i _ q => q
      have o7 : Own w7 65 3 (.slice SA k SC) k sts bS := by
        have o5 := (HO2.out.kept fun g hg => N4.out.block g (HO2.out.lt g hg)).chg HC5.out (fun g e1 e2 => HNPS.out g e2.symm e1)
        have o6 := o5.kept fun g hg => N6.out.block g (o5.lt g hg)
        exact o6.kept fun g hg => n7.block g (o6.lt g hg)
      rw [hw7]
      have r7 : Rd w7 (some ⟨w6.heap.size, 0, none⟩) [.slice A6 vl.length c6, .int .i64 0, .int .i64 0] := .inr ⟨_, 0, rfl, fun j u hu => by
        rw [hb7.cell]
        rcases j with _ | _ | _ | j
        · simpa using hu
        · simpa using hu
        · simpa using hu
        · simp at hu⟩
      have N7 := Lib.hid n7
      clear hw7 n7 hb7
      refine wp_append_at w7 _ _ 39 rfl 65 iS _ 3 40 Try.underlying39 HI1.out HI2.out HI3.out HI4.out rfl (by omega) _ k sts bS rfl o7 _ 1 1 [.slice A6 vl.length c6, .int .i64 0, .int .i64 0] rfl rfl r7 (by intro u hu; simp at hu; rcases hu with rfl | rfl <;> rfl) (by simp only [maxLen]; omega) (by omega) ?_
      intro A8 c8 w8 b8 hown8 hchg8 hat8
      have HO8 := Lib.hid hown8
      have HA8 := Lib.hid hat8
      have HC8 := Lib.hid hchg8
      have hc38 : Chg (fun g => some g = bP ∨ some g = bS) w3 w8 := hc67.trans (hchg8.mono fun i _ q => .inr q) fun i _ q => q
      have HC38 := Lib.hid hc38
      have hb8 := HBOX.out.chg hc38 HNB.out
      have f0 := hb8.frozen 0
      have f1 := hb8.frozen 1
      have d0 : w8.cell? ⟨SB, 0, none⟩ = some (.slice PA k PC) := hb8.cell 0
      have d1 : w8.cell? ⟨SB, 1, none⟩ = some (.slice SA k SC) := hb8.cell 1
      clear hown8 hat8 hchg8 hc38 hc67 r7 o7 hb8
      have hS := HS.out w8 HC38.out
      refine hK _ _ (.inr (HS.out w8 HC38.out)) ?_
      clear hK K
      try simp only [List.getElem_toArray, List.getElem_cons_succ, List.getElem_cons_zero, Act.put, List.setIfInBounds_toArray, List.set_cons_zero, List.set_cons_succ]
      refine wpAnyF_step (i := 19) (by kernel_rfl) rfl (by rfl) fun K hK => ?_
      go_simp
      refine hK _ _ (.inr hS) ?_
      clear hK K
      try simp only [List.getElem_toArray, List.getElem_cons_succ, List.getElem_cons_zero, Act.put, List.setIfInBounds_toArray, List.set_cons_zero, List.set_cons_succ]
      refine wpAnyF_step (i := 20) (by kernel_rfl) rfl (by rfl) fun K hK => ?_
      go_simp
      refine hK _ _ (.inr hS) ?_
      clear hK K
      try simp only [List.getElem_toArray, List.getElem_cons_succ, List.getElem_cons_zero, Act.put, List.setIfInBounds_toArray, List.set_cons_zero, List.set_cons_succ]
      refine wpAnyF_step (i := 21) (by kernel_rfl) rfl (by rfl) fun K hK => ?_
      go_simp
      refine hK _ _ (.inl (by kernel_rfl)) ?_
      clear hK K
      try simp only [List.getElem_toArray, List.getElem_cons_succ, List.getElem_cons_zero, Act.put, List.setIfInBounds_toArray, List.set_cons_zero, List.set_cons_succ]
      refine wpAnyF_step (i := 22) (by kernel_rfl) rfl (by rfl) fun K hK => ?_
      go_simp
      refine hK _ _ (.inl (by kernel_rfl)) ?_
      clear hK K
      try simp only [List.getElem_toArray, List.getElem_cons_succ, List.getElem_cons_zero, Act.put, List.setIfInBounds_toArray, List.set_cons_zero, List.set_cons_succ]
      refine wpAnyF_step (i := 23) (by kernel_rfl) rfl (by rfl) fun K hK => ?_
      go_simp
      refine hK _ _ (.inl (by kernel_rfl)) ?_
      clear hK K
      try simp only [List.getElem_toArray, List.getElem_cons_succ, List.getElem_cons_zero, Act.put, List.setIfInBounds_toArray, List.set_cons_zero, List.set_cons_succ]
      refine wpAnyF_step (i := 24) (by kernel_rfl) rfl (by rfl) fun K hK => ?_
      go_simp
      refine hK _ _ (.inl (by kernel_rfl)) ?_
      clear hK K
      try simp only [List.getElem_toArray, List.getElem_cons_succ, List.getElem_cons_zero, Act.put, List.setIfInBounds_toArray, List.set_cons_zero, List.set_cons_succ]
      refine wpAnyF_done (by kernel_rfl) ?_ _
      go_wp2_with fail
      go_roundw
      case rel =>
        have e := HVLS.out
        subst e
        have hnx := HI.out.next (w1 := w4) (w2 := w5) (w3 := w7) (w4 := w8) (H03.out.step N4.out) (HST.out.keep (Chg.of_below N4.out (Nat.le_refl _) _) fun g q => .inl q) HO5.out HC5.out
          (fun g e => (HA5.out).elim (fun q => .inl (q.symm.trans e)) fun q => .inr (by rw [q] at e; injection e with e; omega))
          (HO6.out.kept fun g hg => N7.out.block g (HO6.out.lt g hg)) (N6.out.step N7.out) HA6.out HO8.out HC8.out
          (fun g e => (HA8.out).elim (fun q => .inl (q.symm.trans e)) fun q => .inr (by rw [q] at e; injection e with e; omega))
        exact ⟨k + 1, A5, c5, b5, A8, c8, b8, _, _, by omega, by go_num, Lib.hid hnx⟩
      case measure => simp [intOf]; omega
    · have hkk : k = n := by omega
      have hL := HI.out
      rw [hkk] at hL
      have x1 := hL.new.cell X1.out
      have HLD := Lib.hid hL
      have g4 : ¬ (k : Int) < (n : Int) := by omega
      clear HI hL hkk
      obtain ⟨wq, hwq⟩ : ∃ wq, wq = wr := ⟨_, rfl⟩
      subst hwq
      go_wp2_with fail
      go_loopw [65] (fun i wr => ∃ (j : Nat) (A : Option Addr) (c : Nat) (blk : Option Nat), j ≤ f ∧ i = .int .i64 j ∧ Hid (Waits wr SB (.slice PA n PC) (.slice SA n SC) (insAll [] (m.first.take j)) (.map (some PB)) (.int .i64 0) (.int .i64 (-1)) A c blk ∧ Chg (fun g => g = SB) wq wr ∧ ∀ g, blk = some g → wq.heap.size ≤ g)) (fun i _ => f - (intOf i).toNat)
      case atStart => exact ⟨0, none, 0, none, Nat.zero_le _, rfl, Lib.hid ⟨⟨HLD.out.box, Own.nil _ _ _⟩, Chg.refl _ _, fun g e => by cases e⟩⟩
      case round =>
        obtain ⟨j, A, c, blk, hj, rfl, HW⟩ := hrel
        have hNr : Nw w1 wr := Below.trans HLD.out.new (HW.out.2.1.below (fun i _ q => by rw [q]; exact HLD.out.lo.1) HLD.out.new.size)
        have HNR := Lib.hid hNr
        by_cases hlt : j < f
        · have hlt' : j < m.first.length := by rw [HF.out]; exact hlt
          obtain ⟨b, o, ep, c0, c1, c2, c3, c4, c5⟩ := (HM.out.keep hNr).ev hlt'
          have hsn := insAll_snoc [] m.first j hlt'
          obtain ⟨E, hE⟩ : ∃ E, m.first[j] = E := ⟨_, rfl⟩
          rw [hE] at c0 c1 c2 c3 c4 c5 hsn
          have g5 : (j : Int) < (f : Int) := by omega
          obtain ⟨w2, hw2⟩ : ∃ w2, wr.alloc (.cells #[.int .i64 E.k.T, .int .i64 E.k.O, .int .i64 E.k.S, .int .i64 E.p, .int .i64 E.q, .int .i64 E.d] 44) = w2 := ⟨_, rfl⟩
          have n2 : Nw wr w2 := by rw [← hw2]; exact (Nw.refl wr).alloc _
          obtain ⟨YB, hYB⟩ : ∃ YB, wr.heap.size = YB := ⟨_, rfl⟩
          have hb2 : Blk w2 YB 44 #[.int .i64 E.k.T, .int .i64 E.k.O, .int .i64 E.k.S, .int .i64 E.p, .int .i64 E.q, .int .i64 E.d] := by rw [← hw2]; exact Blk.last wr _ _ hYB
          have y0 : w2.cell? ⟨YB, 0, none⟩ = some (.int .i64 E.k.T) := hb2.cell 0
          have y1 : w2.cell? ⟨YB, 1, none⟩ = some (.int .i64 E.k.O) := hb2.cell 1
          have y2 : w2.cell? ⟨YB, 2, none⟩ = some (.int .i64 E.k.S) := hb2.cell 2
          have y3 : w2.cell? ⟨YB, 3, none⟩ = some (.int .i64 E.p) := hb2.cell 3
          have y4 : w2.cell? ⟨YB, 4, none⟩ = some (.int .i64 E.q) := hb2.cell 4
          have y5 : w2.cell? ⟨YB, 5, none⟩ = some (.int .i64 E.d) := hb2.cell 5
          have hsr := (first_twin HMAY.out j).1
          have hln : (insAll [] (m.first.take j)).length ≤ 90000 := by rw [insAll_length]; simp; omega
          have hw0 := HW.out.1
          obtain ⟨ws, hws⟩ : ∃ ws, insAll [] (m.first.take j) = ws := ⟨_, rfl⟩
          rw [hws] at hsr hln hw0 hsn
          have KW := Lib.hid (wait_any SB (.slice PA n PC) (.slice SA n SC) ws (.map (some PB)) (.int .i64 0) (.int .i64 (-1)) A c blk E w2 ⟨hw0.box.below n2 hw0.box.lt, hw0.own.kept fun g hg => n2.block g (hw0.own.lt g hg)⟩ hsr hln)
          have HSN := Lib.hid hsn
          have N2 := Lib.hid n2
          have HW2 := Lib.hid hw2
          have HYB := Lib.hid hYB
          have hcs := HW.out.2.1
          have hbs := HW.out.2.2
          have HCS := Lib.hid hcs
          have HBS := Lib.hid hbs
          subst ep
          clear hE n2 hw2 hYB hb2 hsr hln hw0 hws hsn hNr HW hcs hbs hlt'
          go_upto_region 13 with (fail)
          rw [HW2.out, HYB.out]
          go_wp2_with fail
          refine KW.out.mono ?_
          rintro r w3 ⟨rfl, A', c', blk', hwt, hchg, hat⟩
          have HWT := Lib.hid hwt
          have HCG := Lib.hid hchg
          have HAT := Lib.hid hat
          clear hwt hchg hat y0 y1 y2 y3 y4 y5 c0 c1 c2 c3 c4 c5
          go_wp2_with fail
          go_roundw
          case rel =>
            refine ⟨j + 1, A', c', blk', by omega, by go_num, Lib.hid ⟨by rw [HSN.out]; exact HWT.out, (HCS.out.trans (Chg.of_below N2.out (Nat.le_refl _) _) fun i _ q => q).trans HCG.out fun i hi q => ?_, fun g e => ?_⟩⟩
            · rcases q with q | q
              · exact q
              · have := HBS.out i q.symm; omega
            · rcases HAT.out g e with q | q
              · exact HBS.out g q
              · exact Nat.le_trans (Nat.le_trans HCS.out.size N2.out.size) q
          case measure => simp [intOf]; omega
        · have hjf : j = m.first.length := by rw [HF.out]; omega
          have hw0 := HW.out
          rw [hjf, List.take_length] at hw0
          obtain ⟨p, q1, q2, q3, q4, q5⟩ := Laid.pseq (w0 := w1) (w := wq) (w' := wr) (m := m) (SB := SB) (PB := PB) (by rw [HN.out]; exact HLD.out) HMAY.out (by rw [HN.out]; exact hw0.1) hw0.2.1 hw0.2.2
          have Q1 := Lib.hid q1
          have Q2 := Lib.hid q2
          have Q3 := Lib.hid q3
          have Q4 := Lib.hid q4
          have Q5 := Lib.hid q5
          have g5 : ¬ (j : Int) < (f : Int) := by have := HF.out; omega
          clear hw0 q1 q2 q3 q4 q5 hjf hNr HW
          go_wp2_with fail
          go_ret2
          exact ⟨p, _, by rw [Q1.out]; rfl, Q2.out, N1.out.step Q3.out, fun g q => Nat.le_trans N1.out.size (Q4.out g q), Q5.out⟩
theorem seqNew_any (h : MAt w m pA fA) (hm : m.May) (hvl : ∀ i, i < m.procs.length → (m.procs.getD i Pr.z).vals.length ≤ 100000) :
    Calls Try.prog 9 #[.agg #[.slice pA m.procs.length pc, .slice fA m.first.length fc]] w (NewSeqOut (fun _ => False) w m) := seqNewU_any m pA fA pc fc w (fun _ => False) (fun g q => q.elim) h hm hvl
end
end Go.Proofs.Ytgijkgngldfdiaa
