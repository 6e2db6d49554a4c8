/- The document's Much and May of a model. Helper. -/
import Derived.Test.YtgijkgngldfdiaaSqD
namespace Go.Proofs.Ytgijkgngldfdiaa
open Go.RowKit
set_option linter.unusedVariables false
set_option linter.unusedSimpArgs false
def SomeB (w : World) (e : Ending) (w' : World) : Prop := ∃ b, e = .returned (.bool b) ∧ Nw w w'
section
set_option maxRecDepth 100000
set_option maxHeartbeats 1600000
theorem much3_any (vars : Int) (kA : Option Addr) (ks : List (List (Int × Int))) (kc : Nat) (w : World) (hk : RKinds w kA ks) (hn : ks.length ≤ maxLen) :
    Calls Try.prog 26 #[.agg #[.int .i64 vars, .slice kA ks.length kc]] w (SomeB w) := by
  simp only [maxLen] at hn
  obtain ⟨w1, hw1⟩ : ∃ w1, w.alloc (.cells #[.int .i64 vars, .slice kA ks.length kc] 77) = w1 := ⟨_, rfl⟩
  have n1 : Nw w w1 := by rw [← hw1]; exact (Nw.refl w).alloc _
  have hbb : Blk w1 w.heap.size 77 #[.int .i64 vars, .slice kA ks.length kc] := by rw [← hw1]; exact Blk.last w _ _ rfl
  have p1 : w1.cell? ⟨w.heap.size, 1, none⟩ = some (.slice kA ks.length kc) := hbb.cell 1
  have HK := Lib.hid (hk.keep n1)
  have N1 := Lib.hid n1
  have HW := Lib.hid hw1
  obtain ⟨PB, hPB⟩ : ∃ PB, w.heap.size = PB := ⟨_, rfl⟩
  rw [hPB] at p1
  have HPB := Lib.hid hPB
  clear hk n1 hw1 hbb hPB
  by_cases h12 : (12 : Int) < (ks.length : Int)
  · go_enter Try.func26, Try.ntmps26
    go_upto_region 1 with (fail)
    rw [HW.out, HPB.out]
    go_wp2_with fail
    go_ret
    exact ⟨_, rfl, N1.out⟩
  · go_enter Try.func26, Try.ntmps26
    go_upto_region 1 with (fail)
    rw [HW.out, HPB.out]
    go_wp2_with fail
    go_loopw [3] (fun i wr => ∃ k : Nat, k ≤ ks.length ∧ i = .int .i64 k ∧ wr = w1) (fun i _ => ks.length - (intOf i).toNat)
    case atStart => exact ⟨0, Nat.zero_le _, rfl, rfl⟩
    case round =>
      obtain ⟨k, hk, rfl, rfl⟩ := hrel
      by_cases hlt : k < ks.length
      · obtain ⟨b, o, lA, lc, rfl, kc1, hins, hm⟩ := HK.out.get hlt
        have g1 : (k : Int) < (ks.length : Int) := by omega
        obtain ⟨m, hml⟩ : ∃ m, ks[k].length = m := ⟨_, rfl⟩
        rw [hml] at kc1 hm
        simp only [maxLen] at hm
        clear hins hml
        by_cases h200 : (200 : Int) < (m : Int)
        · go_wp2_with fail
          go_ret
          exact ⟨_, rfl, N1.out⟩
        · go_wp2_with fail
          go_roundw
          case rel => exact ⟨k + 1, by omega, by go_num, by first | rfl | trivial⟩
          case measure => simp [intOf]; omega
      · have g1 : ¬ (k : Int) < (ks.length : Int) := by omega
        go_wp2_with fail
        go_ret
        exact ⟨_, rfl, N1.out⟩
theorem refMuch_any (m : Mdl) (pA fA : Option Addr) (pc fc : Nat) (w : World) (h : MAt w m pA fA) :
    Calls Try.prog 6 #[.agg #[.slice pA m.procs.length pc, .slice fA m.first.length fc]] w (SomeB w) := by
  obtain ⟨n, hn⟩ : ∃ n, m.procs.length = n := ⟨_, rfl⟩
  obtain ⟨f, hf⟩ : ∃ f, m.first.length = f := ⟨_, rfl⟩
  have hpn : n ≤ 9223372036854775807 := by have := h.pn; rw [hn] at this; simpa [maxLen] using this
  have hfn : f ≤ 9223372036854775807 := by have := h.fn; rw [hf] at this; simpa [maxLen] using this
  obtain ⟨w1, hw1⟩ : ∃ w1, w.alloc (.cells #[.slice pA n pc, .slice fA f fc] 25) = w1 := ⟨_, rfl⟩
  have n1 : Nw w w1 := by rw [← hw1]; exact (Nw.refl w).alloc _
  obtain ⟨XB, hXB⟩ : ∃ XB, w.heap.size = XB := ⟨_, rfl⟩
  have hb : Blk w1 XB 25 #[.slice pA n pc, .slice fA f fc] := by rw [← hw1]; exact Blk.last w _ _ hXB
  have x0 : w1.cell? ⟨XB, 0, none⟩ = some (.slice pA n pc) := hb.cell 0
  have x1 : w1.cell? ⟨XB, 1, none⟩ = some (.slice fA f fc) := hb.cell 1
  have HN := Lib.hid hn
  have HM := Lib.hid (h.keep n1)
  have HW1 := Lib.hid hw1
  have HXB := Lib.hid hXB
  have N1 := Lib.hid n1
  have X0 := Lib.hid x0
  rw [hn, hf]
  clear h hn hf hw1 hXB n1 hb
  by_cases h1 : (20 : Int) < (n : Int)
  · go_enter Try.func6, Try.ntmps6
    go_upto_region 1 with (fail)
    rw [HW1.out, HXB.out]
    go_wp2_with fail
    go_ret
    exact ⟨_, rfl, N1.out⟩
  by_cases h2 : (80 : Int) < (f : Int)
  · go_enter Try.func6, Try.ntmps6
    go_upto_region 1 with (fail)
    rw [HW1.out, HXB.out]
    go_wp2_with fail
    go_ret
    exact ⟨_, rfl, N1.out⟩
  go_enter Try.func6, Try.ntmps6
  go_upto_region 1 with (fail)
  rw [HW1.out, HXB.out]
  go_wp2_with fail
  go_loopw [3] (fun i wr => ∃ k : Nat, k ≤ n ∧ i = .int .i64 k ∧ Hid (Nw w1 wr)) (fun i _ => n - (intOf i).toNat)
  case atStart => exact ⟨0, Nat.zero_le _, rfl, Lib.hid (Nw.refl w1)⟩
  case round =>
    obtain ⟨k, hk, rfl, HI⟩ := hrel
    have x0 := HI.out.cell X0.out
    by_cases hlt : k < n
    · have hlt' : k < m.procs.length := by rw [HN.out]; exact hlt
      obtain ⟨b, o, ep, hp⟩ := (HM.out.keep HI.out).proc hlt'
      obtain ⟨P, hP⟩ : ∃ P, m.procs[k] = P := ⟨_, rfl⟩
      rw [hP] at hp
      obtain ⟨c0, ⟨kA, kc, c1, r1⟩, ⟨vA, vc, c2, r2⟩, c3, q1, q2⟩ := hp
      have g4 : (k : Int) < (n : Int) := by omega
      have KC := Lib.hid (much3_any P.vars kA P.ks kc wr r1 q1)
      have hqv : (P.vals.length : Int) ≤ 9223372036854775807 := by simp only [maxLen] at q2; omega
      obtain ⟨vn, hvn⟩ : ∃ vn, P.vals.length = vn := ⟨_, rfl⟩
      rw [hvn] at c2 hqv
      subst ep
      have X0' := Lib.hid x0
      have C2' := Lib.hid c2
      clear hP r1 r2 c3 hvn q1 q2 hlt'
      go_wp2_with fail
      refine KC.out.mono ?_
      rintro e w3 ⟨bb, rfl, n3⟩
      have x0 := n3.cell X0'.out
      have c2 := n3.cell C2'.out
      have N3 := Lib.hid (HI.out.step n3)
      clear n3 c0 c1
      cases bb with
      | true =>
        go_wp2_with fail
        go_ret
        exact ⟨_, rfl, N1.out.step N3.out⟩
      | false =>
        by_cases h20 : (20 : Int) < (vn : Int)
        · go_wp2_with fail
          go_ret
          exact ⟨_, rfl, N1.out.step N3.out⟩
        · go_wp2_with fail
          go_roundw
          case rel => exact ⟨k + 1, by omega, by go_num, N3⟩
          case measure => simp [intOf]; omega
    · have g4 : ¬ (k : Int) < (n : Int) := by omega
      go_wp2_with fail
      go_ret
      exact ⟨_, rfl, N1.out.step HI.out⟩
set_option maxHeartbeats 6400000
theorem refModelMay_any (m : Mdl) (pA fA : Option Addr) (pc fc : Nat) (w : World) (h : MAt w m pA fA) :
    Calls Try.prog 8 #[.agg #[.slice pA m.procs.length pc, .slice fA m.first.length fc]] w (MayOut w m) := by
  obtain ⟨n, hn⟩ : ∃ n, m.procs.length = n := ⟨_, rfl⟩
  obtain ⟨f, hf⟩ : ∃ f, m.first.length = f := ⟨_, rfl⟩
  have hpn : n ≤ 9223372036854775807 := by have := h.pn; rw [hn] at this; simpa [maxLen] using this
  have hfn : f ≤ 9223372036854775807 := by have := h.fn; rw [hf] at this; simpa [maxLen] using this
  obtain ⟨w1, hw1⟩ : ∃ w1, w.alloc (.cells #[.slice pA n pc, .slice fA f fc] 25) = w1 := ⟨_, rfl⟩
  have n1 : Nw w w1 := by rw [← hw1]; exact (Nw.refl w).alloc _
  obtain ⟨XB, hXB⟩ : ∃ XB, w.heap.size = XB := ⟨_, rfl⟩
  have hb : Blk w1 XB 25 #[.slice pA n pc, .slice fA f fc] := by rw [← hw1]; exact Blk.last w _ _ hXB
  have x0 : w1.cell? ⟨XB, 0, none⟩ = some (.slice pA n pc) := hb.cell 0
  have x1 : w1.cell? ⟨XB, 1, none⟩ = some (.slice fA f fc) := hb.cell 1
  have HN := Lib.hid hn
  have HF := Lib.hid hf
  have HM := Lib.hid (h.keep n1)
  have HW1 := Lib.hid hw1
  have HXB := Lib.hid hXB
  have N1 := Lib.hid n1
  have X0 := Lib.hid x0
  have X1 := Lib.hid x1
  rw [hn, hf]
  clear h hn hf hw1 hXB n1 hb
  by_cases h1 : (n : Int) < 1
  · go_enter Try.func8, Try.ntmps8
    go_upto_region 1 with (fail)
    rw [HW1.out, HXB.out]
    go_wp2_with fail
    go_ret
    exact mayOut_no (fun hm => by have := hm.n1; rw [HN.out] at this; omega) N1.out
  have g1 : ((n : Int) < 1) = False := by simpa using h1
  by_cases h2 : (16 : Int) < (n : Int)
  · clear h1
    go_enter Try.func8, Try.ntmps8
    go_upto_region 1 with (fail)
    rw [HW1.out, HXB.out]
    go_wp2_with fail
    go_ret
    exact mayOut_no (fun hm => by have := hm.n16; rw [HN.out] at this; omega) N1.out
  have g2 : ((16 : Int) < (n : Int)) = False := by simpa using h2
  by_cases h3 : (64 : Int) < (f : Int)
  · clear h1 h2
    go_enter Try.func8, Try.ntmps8
    go_upto_region 1 with (fail)
    rw [HW1.out, HXB.out]
    go_wp2_with fail
    go_ret
    exact mayOut_no (fun hm => by have := hm.f64; rw [HF.out] at this; omega) N1.out
  have g3 : ((64 : Int) < (f : Int)) = False := by simpa using h3
  have n1 : 1 ≤ n := by omega
  have n16 : n ≤ 16 := by omega
  have f64 : f ≤ 64 := by omega
  clear h1 h2 h3
  go_enter Try.func8, Try.ntmps8
  go_upto_region 1 with (fail)
  rw [HW1.out, HXB.out]
  go_wp2_with fail
  go_loopw [4] (fun i wr => ∃ k : Nat, k ≤ n ∧ i = .int .i64 k ∧ Hid (Nw w1 wr ∧ ∀ j (hj : j < m.procs.length), j < k → m.procs[j].may = true)) (fun i _ => n - (intOf i).toNat)
  case atStart => exact ⟨0, Nat.zero_le _, rfl, Lib.hid ⟨Nw.refl w1, fun j hj h => by omega⟩⟩
  case round =>
    obtain ⟨k, hk, rfl, HI⟩ := hrel
    by_cases hlt : k < n
    · have hlt' : k < m.procs.length := by rw [HN.out]; exact hlt
      obtain ⟨b, o, ep, hp⟩ := (HM.out.keep HI.out.1).proc hlt'
      obtain ⟨P, hP⟩ : ∃ P, m.procs[k] = P := ⟨_, rfl⟩
      rw [hP] at hp
      have HP := Lib.hid hP
      obtain ⟨c0, ⟨kA, kc, c1, r1⟩, ⟨vA, vc, c2, r2⟩, c3, q1, q2⟩ := hp
      have g4 : (k : Int) < (n : Int) := by omega
      have kcf := fun W (hN : Nw wr W) => refProg_any P.vars kA P.ks kc W (r1.keep hN) q1
      have hqv : (P.vals.length : Int) ≤ 9223372036854775807 := by simp only [maxLen] at q2; omega
      obtain ⟨bd, hbd⟩ : ∃ bd, codeMay P.vars P.ks = bd := ⟨_, rfl⟩
      rw [hbd] at kcf
      have HBD := Lib.hid hbd
      obtain ⟨vn, hvn⟩ : ∃ vn, P.vals.length = vn := ⟨_, rfl⟩
      have HVN := Lib.hid hvn
      obtain ⟨pv, hpv⟩ : ∃ pv, P.vars = pv := ⟨_, rfl⟩
      have HPV := Lib.hid hpv
      rw [hvn] at c2 hqv
      rw [hpv] at c0 kcf
      have KC := Lib.hid kcf
      have x0 := HI.out.1.cell X0.out
      subst ep
      have hss : ∀ W, Nw wr W → W.cell? ⟨XB, 0, none⟩ = some (.slice (some ⟨b, o, none⟩) n pc) ∧ W.cell? ⟨b, o + k * 4, none⟩ = some (.int .i64 pv) ∧ W.cell? ⟨b, o + k * 4 + 1, none⟩ = some (.slice kA P.ks.length kc) ∧ W.cell? ⟨b, o + k * 4 + 2, none⟩ = some (.slice vA vn vc) :=
        fun W hW => ⟨hW.cell x0, hW.cell c0, hW.cell c1, hW.cell c2⟩
      have HSS := Lib.hid hss
      clear hP r1 r2 hbd hvn hpv q1 q2 c0 c1 c2 c3 x0 x1 hss kcf
      have hmk : m.May → bd = true ∧ (vn : Int) = pv := fun hm => by
        have := may_proc hm hlt'
        rw [HP.out, HBD.out, HVN.out, HPV.out] at this
        simpa using this
      have HMK := Lib.hid hmk
      clear hmk
      cases bd with
      | false =>
        go_upto_region 7 with (fail)
        refine wp_region_F (fun W => W.cell? ⟨XB, 0, none⟩ = some (.slice (some ⟨b, o, none⟩) n pc) ∧ W.cell? ⟨b, o + k * 4, none⟩ = some (.int .i64 pv) ∧ W.cell? ⟨b, o + k * 4 + 1, none⟩ = some (.slice kA P.ks.length kc) ∧ W.cell? ⟨b, o + k * 4 + 2, none⟩ = some (.slice vA vn vc)) [24] (by kernel_rfl) ?_
        have hS := HSS.out wr.drew (Nw.refl wr).drew
        refine wpAnyF_takeT (i := 0) (v := ?_) rfl (by kernel_rfl) (by kernel_rfl) (by kernel_rfl) (by kernel_rfl) (by kernel_rfl) (by kernel_rfl) (fun _ _ _ h => h) (by rfl) ?_ hS ?_
        rotate_left
        · intro u hu
          try dsimp only at hu
          go_simp
          try with_reducible rfl
        try simp only [List.getElem_toArray, List.getElem_cons_succ, List.getElem_cons_zero, Act.put, List.setIfInBounds_toArray, List.set_cons_zero, List.set_cons_succ]
        refine wpAnyF_takeT (i := 1) (v := ?_) rfl (by kernel_rfl) (by kernel_rfl) (by kernel_rfl) (by kernel_rfl) (by kernel_rfl) (by kernel_rfl) (fun _ _ _ h => h) (by rfl) ?_ hS ?_
        rotate_left
        · intro u hu
          try dsimp only at hu
          go_simp
          try with_reducible rfl
        try simp only [List.getElem_toArray, List.getElem_cons_succ, List.getElem_cons_zero, Act.put, List.setIfInBounds_toArray, List.set_cons_zero, List.set_cons_succ]
        refine wpAnyF_takeT (i := 2) (v := ?_) rfl (by kernel_rfl) (by kernel_rfl) (by kernel_rfl) (by kernel_rfl) (by kernel_rfl) (by kernel_rfl) (fun _ _ _ h => h) (by rfl) ?_ hS ?_
        rotate_left
        · intro u hu
          try dsimp only at hu
          go_simp
          try with_reducible rfl
        try simp only [List.getElem_toArray, List.getElem_cons_succ, List.getElem_cons_zero, Act.put, List.setIfInBounds_toArray, List.set_cons_zero, List.set_cons_succ]
        refine wpAnyF_takeT (i := 3) (v := ?_) rfl (by kernel_rfl) (by kernel_rfl) (by kernel_rfl) (by kernel_rfl) (by kernel_rfl) (by kernel_rfl) (fun _ _ _ h => h) (by rfl) ?_ hS ?_
        rotate_left
        · intro u hu
          try dsimp only at hu
          go_simp
          try with_reducible rfl
        try simp only [List.getElem_toArray, List.getElem_cons_succ, List.getElem_cons_zero, Act.put, List.setIfInBounds_toArray, List.set_cons_zero, List.set_cons_succ]
        refine wpAnyF_takeT (i := 4) (v := ?_) rfl (by kernel_rfl) (by kernel_rfl) (by kernel_rfl) (by kernel_rfl) (by kernel_rfl) (by kernel_rfl) (fun _ _ _ h => h) (by rfl) ?_ hS ?_
        rotate_left
        · intro u hu
          try dsimp only at hu
          go_simp
          try with_reducible rfl
        try simp only [List.getElem_toArray, List.getElem_cons_succ, List.getElem_cons_zero, Act.put, List.setIfInBounds_toArray, List.set_cons_zero, List.set_cons_succ]
        refine wpAnyF_takeT (i := 5) (v := ?_) rfl (by kernel_rfl) (by kernel_rfl) (by kernel_rfl) (by kernel_rfl) (by kernel_rfl) (by kernel_rfl) (fun _ _ _ h => h) (by rfl) ?_ hS ?_
        rotate_left
        · intro u hu
          try dsimp only at hu
          go_simp
          try with_reducible rfl
        try simp only [List.getElem_toArray, List.getElem_cons_succ, List.getElem_cons_zero, Act.put, List.setIfInBounds_toArray, List.set_cons_zero, List.set_cons_succ]
        refine wpAnyF_step (i := 6) (by kernel_rfl) rfl (by rfl) fun K hK => ?_
        go_simp
        go_at_call 28
        refine (KC.out wr.drew (Nw.refl wr).drew).mono ?_
        rintro e w3 ⟨rfl, b3⟩
        have n3 : Nw wr w3 := (Nw.refl wr).drew.step b3
        have N3 := Lib.hid n3
        clear b3 n3
        have hS := HSS.out w3 N3.out
        refine hK _ _ (.inr (HSS.out w3 N3.out)) ?_
        clear hK K
        try simp only [List.getElem_toArray, List.getElem_cons_succ, List.getElem_cons_zero, Act.put, List.setIfInBounds_toArray, List.set_cons_zero, List.set_cons_succ]
        refine wpAnyF_step (i := 7) (by kernel_rfl) rfl (by rfl) fun K hK => ?_
        go_simp
        refine hK _ _ (.inr hS) ?_
        clear hK K
        try simp only [List.getElem_toArray, List.getElem_cons_succ, List.getElem_cons_zero, Act.put, List.setIfInBounds_toArray, List.set_cons_zero, List.set_cons_succ]
        refine wpAnyF_step (i := 8) (by kernel_rfl) rfl (by rfl) fun K hK => ?_
        go_simp
        refine hK _ _ (.inr hS) ?_
        clear hK K
        try simp only [List.getElem_toArray, List.getElem_cons_succ, List.getElem_cons_zero, Act.put, List.setIfInBounds_toArray, List.set_cons_zero, List.set_cons_succ]
        refine wpAnyF_leaveT (i := 9) rfl (by kernel_rfl) (by kernel_rfl) (by kernel_rfl) (by kernel_rfl) (by kernel_rfl) (fun _ _ _ h => h) (by rfl) hS ?_
        try simp only [List.getElem_toArray, List.getElem_cons_succ, List.getElem_cons_zero, Act.put, List.setIfInBounds_toArray, List.set_cons_zero, List.set_cons_succ]
        refine wpAnyF_leaveT (i := 10) rfl (by kernel_rfl) (by kernel_rfl) (by kernel_rfl) (by kernel_rfl) (by kernel_rfl) (fun _ _ _ h => h) (by rfl) hS ?_
        try simp only [List.getElem_toArray, List.getElem_cons_succ, List.getElem_cons_zero, Act.put, List.setIfInBounds_toArray, List.set_cons_zero, List.set_cons_succ]
        refine wpAnyF_leaveT (i := 11) rfl (by kernel_rfl) (by kernel_rfl) (by kernel_rfl) (by kernel_rfl) (by kernel_rfl) (fun _ _ _ h => h) (by rfl) hS ?_
        try simp only [List.getElem_toArray, List.getElem_cons_succ, List.getElem_cons_zero, Act.put, List.setIfInBounds_toArray, List.set_cons_zero, List.set_cons_succ]
        refine wpAnyF_leaveT (i := 12) rfl (by kernel_rfl) (by kernel_rfl) (by kernel_rfl) (by kernel_rfl) (by kernel_rfl) (fun _ _ _ h => h) (by rfl) hS ?_
        try simp only [List.getElem_toArray, List.getElem_cons_succ, List.getElem_cons_zero, Act.put, List.setIfInBounds_toArray, List.set_cons_zero, List.set_cons_succ]
        refine wpAnyF_leaveT (i := 13) rfl (by kernel_rfl) (by kernel_rfl) (by kernel_rfl) (by kernel_rfl) (by kernel_rfl) (fun _ _ _ h => h) (by rfl) hS ?_
        try simp only [List.getElem_toArray, List.getElem_cons_succ, List.getElem_cons_zero, Act.put, List.setIfInBounds_toArray, List.set_cons_zero, List.set_cons_succ]
        refine wpAnyF_leaveT (i := 14) rfl (by kernel_rfl) (by kernel_rfl) (by kernel_rfl) (by kernel_rfl) (by kernel_rfl) (fun _ _ _ h => h) (by rfl) hS ?_
        try simp only [List.getElem_toArray, List.getElem_cons_succ, List.getElem_cons_zero, Act.put, List.setIfInBounds_toArray, List.set_cons_zero, List.set_cons_succ]
        refine wpAnyF_leaveT (i := 15) rfl (by kernel_rfl) (by kernel_rfl) (by kernel_rfl) (by kernel_rfl) (by kernel_rfl) (fun _ _ _ h => h) (by rfl) hS ?_
        try simp only [List.getElem_toArray, List.getElem_cons_succ, List.getElem_cons_zero, Act.put, List.setIfInBounds_toArray, List.set_cons_zero, List.set_cons_succ]
        refine wpAnyF_leaveT (i := 16) rfl (by kernel_rfl) (by kernel_rfl) (by kernel_rfl) (by kernel_rfl) (by kernel_rfl) (fun _ _ _ h => h) (by rfl) hS ?_
        try simp only [List.getElem_toArray, List.getElem_cons_succ, List.getElem_cons_zero, Act.put, List.setIfInBounds_toArray, List.set_cons_zero, List.set_cons_succ]
        refine wpAnyF_leaveT (i := 17) rfl (by kernel_rfl) (by kernel_rfl) (by kernel_rfl) (by kernel_rfl) (by kernel_rfl) (fun _ _ _ h => h) (by rfl) hS ?_
        try simp only [List.getElem_toArray, List.getElem_cons_succ, List.getElem_cons_zero, Act.put, List.setIfInBounds_toArray, List.set_cons_zero, List.set_cons_succ]
        refine wpAnyF_leaveT (i := 18) rfl (by kernel_rfl) (by kernel_rfl) (by kernel_rfl) (by kernel_rfl) (by kernel_rfl) (fun _ _ _ h => h) (by rfl) hS ?_
        try simp only [List.getElem_toArray, List.getElem_cons_succ, List.getElem_cons_zero, Act.put, List.setIfInBounds_toArray, List.set_cons_zero, List.set_cons_succ]
        refine wpAnyF_leaveT (i := 19) rfl (by kernel_rfl) (by kernel_rfl) (by kernel_rfl) (by kernel_rfl) (by kernel_rfl) (fun _ _ _ h => h) (by rfl) hS ?_
        try simp only [List.getElem_toArray, List.getElem_cons_succ, List.getElem_cons_zero, Act.put, List.setIfInBounds_toArray, List.set_cons_zero, List.set_cons_succ]
        refine wpAnyF_leaveT (i := 20) rfl (by kernel_rfl) (by kernel_rfl) (by kernel_rfl) (by kernel_rfl) (by kernel_rfl) (fun _ _ _ h => h) (by rfl) hS ?_
        try simp only [List.getElem_toArray, List.getElem_cons_succ, List.getElem_cons_zero, Act.put, List.setIfInBounds_toArray, List.set_cons_zero, List.set_cons_succ]
        refine wpAnyF_leaveT (i := 21) rfl (by kernel_rfl) (by kernel_rfl) (by kernel_rfl) (by kernel_rfl) (by kernel_rfl) (fun _ _ _ h => h) (by rfl) hS ?_
        try simp only [List.getElem_toArray, List.getElem_cons_succ, List.getElem_cons_zero, Act.put, List.setIfInBounds_toArray, List.set_cons_zero, List.set_cons_succ]
        refine wpAnyF_leaveT (i := 22) rfl (by kernel_rfl) (by kernel_rfl) (by kernel_rfl) (by kernel_rfl) (by kernel_rfl) (fun _ _ _ h => h) (by rfl) hS ?_
        try simp only [List.getElem_toArray, List.getElem_cons_succ, List.getElem_cons_zero, Act.put, List.setIfInBounds_toArray, List.set_cons_zero, List.set_cons_succ]
        refine wpAnyF_leaveT (i := 23) rfl (by kernel_rfl) (by kernel_rfl) (by kernel_rfl) (by kernel_rfl) (by kernel_rfl) (fun _ _ _ h => h) (by rfl) hS ?_
        try simp only [List.getElem_toArray, List.getElem_cons_succ, List.getElem_cons_zero, Act.put, List.setIfInBounds_toArray, List.set_cons_zero, List.set_cons_succ]
        refine wpAnyF_step (i := 24) (by kernel_rfl) rfl (by rfl) fun K hK => ?_
        go_simp
        refine hK _ _ (.inl (by kernel_rfl)) ?_
        clear hK K
        try simp only [List.getElem_toArray, List.getElem_cons_succ, List.getElem_cons_zero, Act.put, List.setIfInBounds_toArray, List.set_cons_zero, List.set_cons_succ]
        refine wpAnyF_done (by kernel_rfl) ?_ _
        go_wp2_with fail
        go_ret
        exact mayOut_no (fun hm => by have := (HMK.out hm).1; cases this) (N1.out.step (HI.out.1.step N3.out))
      | true =>
        by_cases hv : (vn : Int) = pv
        · have g5 : ((vn : Int) == pv) = true := beq_iff_eq.2 hv
          go_upto_region 7 with (fail)
          refine wp_region_F (fun W => W.cell? ⟨XB, 0, none⟩ = some (.slice (some ⟨b, o, none⟩) n pc) ∧ W.cell? ⟨b, o + k * 4, none⟩ = some (.int .i64 pv) ∧ W.cell? ⟨b, o + k * 4 + 1, none⟩ = some (.slice kA P.ks.length kc) ∧ W.cell? ⟨b, o + k * 4 + 2, none⟩ = some (.slice vA vn vc)) [24] (by kernel_rfl) ?_
          have hS := HSS.out wr.drew (Nw.refl wr).drew
          refine wpAnyF_takeT (i := 0) (v := ?_) rfl (by kernel_rfl) (by kernel_rfl) (by kernel_rfl) (by kernel_rfl) (by kernel_rfl) (by kernel_rfl) (fun _ _ _ h => h) (by rfl) ?_ hS ?_
          rotate_left
          · intro u hu
            try dsimp only at hu
            go_simp
            try with_reducible rfl
          try simp only [List.getElem_toArray, List.getElem_cons_succ, List.getElem_cons_zero, Act.put, List.setIfInBounds_toArray, List.set_cons_zero, List.set_cons_succ]
          refine wpAnyF_takeT (i := 1) (v := ?_) rfl (by kernel_rfl) (by kernel_rfl) (by kernel_rfl) (by kernel_rfl) (by kernel_rfl) (by kernel_rfl) (fun _ _ _ h => h) (by rfl) ?_ hS ?_
          rotate_left
          · intro u hu
            try dsimp only at hu
            go_simp
            try with_reducible rfl
          try simp only [List.getElem_toArray, List.getElem_cons_succ, List.getElem_cons_zero, Act.put, List.setIfInBounds_toArray, List.set_cons_zero, List.set_cons_succ]
          refine wpAnyF_takeT (i := 2) (v := ?_) rfl (by kernel_rfl) (by kernel_rfl) (by kernel_rfl) (by kernel_rfl) (by kernel_rfl) (by kernel_rfl) (fun _ _ _ h => h) (by rfl) ?_ hS ?_
          rotate_left
          · intro u hu
            try dsimp only at hu
            go_simp
            try with_reducible rfl
          try simp only [List.getElem_toArray, List.getElem_cons_succ, List.getElem_cons_zero, Act.put, List.setIfInBounds_toArray, List.set_cons_zero, List.set_cons_succ]
          refine wpAnyF_takeT (i := 3) (v := ?_) rfl (by kernel_rfl) (by kernel_rfl) (by kernel_rfl) (by kernel_rfl) (by kernel_rfl) (by kernel_rfl) (fun _ _ _ h => h) (by rfl) ?_ hS ?_
          rotate_left
          · intro u hu
            try dsimp only at hu
            go_simp
            try with_reducible rfl
          try simp only [List.getElem_toArray, List.getElem_cons_succ, List.getElem_cons_zero, Act.put, List.setIfInBounds_toArray, List.set_cons_zero, List.set_cons_succ]
          refine wpAnyF_takeT (i := 4) (v := ?_) rfl (by kernel_rfl) (by kernel_rfl) (by kernel_rfl) (by kernel_rfl) (by kernel_rfl) (by kernel_rfl) (fun _ _ _ h => h) (by rfl) ?_ hS ?_
          rotate_left
          · intro u hu
            try dsimp only at hu
            go_simp
            try with_reducible rfl
          try simp only [List.getElem_toArray, List.getElem_cons_succ, List.getElem_cons_zero, Act.put, List.setIfInBounds_toArray, List.set_cons_zero, List.set_cons_succ]
          refine wpAnyF_takeT (i := 5) (v := ?_) rfl (by kernel_rfl) (by kernel_rfl) (by kernel_rfl) (by kernel_rfl) (by kernel_rfl) (by kernel_rfl) (fun _ _ _ h => h) (by rfl) ?_ hS ?_
          rotate_left
          · intro u hu
            try dsimp only at hu
            go_simp
            try with_reducible rfl
          try simp only [List.getElem_toArray, List.getElem_cons_succ, List.getElem_cons_zero, Act.put, List.setIfInBounds_toArray, List.set_cons_zero, List.set_cons_succ]
          refine wpAnyF_step (i := 6) (by kernel_rfl) rfl (by rfl) fun K hK => ?_
          go_simp
          go_at_call 28
          refine (KC.out wr.drew (Nw.refl wr).drew).mono ?_
          rintro e w3 ⟨rfl, b3⟩
          have n3 : Nw wr w3 := (Nw.refl wr).drew.step b3
          have N3 := Lib.hid n3
          clear b3 n3
          have hS := HSS.out w3 N3.out
          refine hK _ _ (.inr (HSS.out w3 N3.out)) ?_
          clear hK K
          try simp only [List.getElem_toArray, List.getElem_cons_succ, List.getElem_cons_zero, Act.put, List.setIfInBounds_toArray, List.set_cons_zero, List.set_cons_succ]
          refine wpAnyF_step (i := 7) (by kernel_rfl) rfl (by rfl) fun K hK => ?_
          go_simp
          refine hK _ _ (.inr hS) ?_
          clear hK K
          try simp only [List.getElem_toArray, List.getElem_cons_succ, List.getElem_cons_zero, Act.put, List.setIfInBounds_toArray, List.set_cons_zero, List.set_cons_succ]
          refine wpAnyF_step (i := 8) (by kernel_rfl) rfl (by rfl) fun K hK => ?_
          go_simp
          refine hK _ _ (.inr hS) ?_
          clear hK K
          try simp only [List.getElem_toArray, List.getElem_cons_succ, List.getElem_cons_zero, Act.put, List.setIfInBounds_toArray, List.set_cons_zero, List.set_cons_succ]
          refine wpAnyF_takeT (i := 9) (v := ?_) rfl (by kernel_rfl) (by kernel_rfl) (by kernel_rfl) (by kernel_rfl) (by kernel_rfl) (by kernel_rfl) (fun _ _ _ h => h) (by rfl) ?_ hS ?_
          rotate_left
          · intro u hu
            try dsimp only at hu
            go_simp
            try with_reducible rfl
          try simp only [List.getElem_toArray, List.getElem_cons_succ, List.getElem_cons_zero, Act.put, List.setIfInBounds_toArray, List.set_cons_zero, List.set_cons_succ]
          refine wpAnyF_takeT (i := 10) (v := ?_) rfl (by kernel_rfl) (by kernel_rfl) (by kernel_rfl) (by kernel_rfl) (by kernel_rfl) (by kernel_rfl) (fun _ _ _ h => h) (by rfl) ?_ hS ?_
          rotate_left
          · intro u hu
            try dsimp only at hu
            go_simp
            try with_reducible rfl
          try simp only [List.getElem_toArray, List.getElem_cons_succ, List.getElem_cons_zero, Act.put, List.setIfInBounds_toArray, List.set_cons_zero, List.set_cons_succ]
          refine wpAnyF_takeT (i := 11) (v := ?_) rfl (by kernel_rfl) (by kernel_rfl) (by kernel_rfl) (by kernel_rfl) (by kernel_rfl) (by kernel_rfl) (fun _ _ _ h => h) (by rfl) ?_ hS ?_
          rotate_left
          · intro u hu
            try dsimp only at hu
            go_simp
            try with_reducible rfl
          try simp only [List.getElem_toArray, List.getElem_cons_succ, List.getElem_cons_zero, Act.put, List.setIfInBounds_toArray, List.set_cons_zero, List.set_cons_succ]
          refine wpAnyF_takeT (i := 12) (v := ?_) rfl (by kernel_rfl) (by kernel_rfl) (by kernel_rfl) (by kernel_rfl) (by kernel_rfl) (by kernel_rfl) (fun _ _ _ h => h) (by rfl) ?_ hS ?_
          rotate_left
          · intro u hu
            try dsimp only at hu
            go_simp
            try with_reducible rfl
          try simp only [List.getElem_toArray, List.getElem_cons_succ, List.getElem_cons_zero, Act.put, List.setIfInBounds_toArray, List.set_cons_zero, List.set_cons_succ]
          refine wpAnyF_takeT (i := 13) (v := ?_) rfl (by kernel_rfl) (by kernel_rfl) (by kernel_rfl) (by kernel_rfl) (by kernel_rfl) (by kernel_rfl) (fun _ _ _ h => h) (by rfl) ?_ hS ?_
          rotate_left
          · intro u hu
            try dsimp only at hu
            go_simp
            try with_reducible rfl
          try simp only [List.getElem_toArray, List.getElem_cons_succ, List.getElem_cons_zero, Act.put, List.setIfInBounds_toArray, List.set_cons_zero, List.set_cons_succ]
          refine wpAnyF_takeT (i := 14) (v := ?_) rfl (by kernel_rfl) (by kernel_rfl) (by kernel_rfl) (by kernel_rfl) (by kernel_rfl) (by kernel_rfl) (fun _ _ _ h => h) (by rfl) ?_ hS ?_
          rotate_left
          · intro u hu
            try dsimp only at hu
            go_simp
            try with_reducible rfl
          try simp only [List.getElem_toArray, List.getElem_cons_succ, List.getElem_cons_zero, Act.put, List.setIfInBounds_toArray, List.set_cons_zero, List.set_cons_succ]
          refine wpAnyF_takeT (i := 15) (v := ?_) rfl (by kernel_rfl) (by kernel_rfl) (by kernel_rfl) (by kernel_rfl) (by kernel_rfl) (by kernel_rfl) (fun _ _ _ h => h) (by rfl) ?_ hS ?_
          rotate_left
          · intro u hu
            try dsimp only at hu
            go_simp
            try with_reducible rfl
          try simp only [List.getElem_toArray, List.getElem_cons_succ, List.getElem_cons_zero, Act.put, List.setIfInBounds_toArray, List.set_cons_zero, List.set_cons_succ]
          refine wpAnyF_takeT (i := 16) (v := ?_) rfl (by kernel_rfl) (by kernel_rfl) (by kernel_rfl) (by kernel_rfl) (by kernel_rfl) (by kernel_rfl) (fun _ _ _ h => h) (by rfl) ?_ hS ?_
          rotate_left
          · intro u hu
            try dsimp only at hu
            go_simp
            try with_reducible rfl
          try simp only [List.getElem_toArray, List.getElem_cons_succ, List.getElem_cons_zero, Act.put, List.setIfInBounds_toArray, List.set_cons_zero, List.set_cons_succ]
          refine wpAnyF_takeT (i := 17) (v := ?_) rfl (by kernel_rfl) (by kernel_rfl) (by kernel_rfl) (by kernel_rfl) (by kernel_rfl) (by kernel_rfl) (fun _ _ _ h => h) (by rfl) ?_ hS ?_
          rotate_left
          · intro u hu
            try dsimp only at hu
            go_simp
            try with_reducible rfl
          try simp only [List.getElem_toArray, List.getElem_cons_succ, List.getElem_cons_zero, Act.put, List.setIfInBounds_toArray, List.set_cons_zero, List.set_cons_succ]
          refine wpAnyF_takeT (i := 18) (v := ?_) rfl (by kernel_rfl) (by kernel_rfl) (by kernel_rfl) (by kernel_rfl) (by kernel_rfl) (by kernel_rfl) (fun _ _ _ h => h) (by rfl) ?_ hS ?_
          rotate_left
          · intro u hu
            try dsimp only at hu
            go_simp
            try with_reducible rfl
          try simp only [List.getElem_toArray, List.getElem_cons_succ, List.getElem_cons_zero, Act.put, List.setIfInBounds_toArray, List.set_cons_zero, List.set_cons_succ]
          refine wpAnyF_takeT (i := 19) (v := ?_) rfl (by kernel_rfl) (by kernel_rfl) (by kernel_rfl) (by kernel_rfl) (by kernel_rfl) (by kernel_rfl) (fun _ _ _ h => h) (by rfl) ?_ hS ?_
          rotate_left
          · intro u hu
            try dsimp only at hu
            go_simp
            try with_reducible rfl
          try simp only [List.getElem_toArray, List.getElem_cons_succ, List.getElem_cons_zero, Act.put, List.setIfInBounds_toArray, List.set_cons_zero, List.set_cons_succ]
          refine wpAnyF_takeT (i := 20) (v := ?_) rfl (by kernel_rfl) (by kernel_rfl) (by kernel_rfl) (by kernel_rfl) (by kernel_rfl) (by kernel_rfl) (fun _ _ _ h => h) (by rfl) ?_ hS ?_
          rotate_left
          · intro u hu
            try dsimp only at hu
            go_simp
            try with_reducible rfl
          try simp only [List.getElem_toArray, List.getElem_cons_succ, List.getElem_cons_zero, Act.put, List.setIfInBounds_toArray, List.set_cons_zero, List.set_cons_succ]
          refine wpAnyF_takeT (i := 21) (v := ?_) rfl (by kernel_rfl) (by kernel_rfl) (by kernel_rfl) (by kernel_rfl) (by kernel_rfl) (by kernel_rfl) (fun _ _ _ h => h) (by rfl) ?_ hS ?_
          rotate_left
          · intro u hu
            try dsimp only at hu
            go_simp
            try with_reducible rfl
          try simp only [List.getElem_toArray, List.getElem_cons_succ, List.getElem_cons_zero, Act.put, List.setIfInBounds_toArray, List.set_cons_zero, List.set_cons_succ]
          refine wpAnyF_takeT (i := 22) (v := ?_) rfl (by kernel_rfl) (by kernel_rfl) (by kernel_rfl) (by kernel_rfl) (by kernel_rfl) (by kernel_rfl) (fun _ _ _ h => h) (by rfl) ?_ hS ?_
          rotate_left
          · intro u hu
            try dsimp only at hu
            go_simp
            try with_reducible rfl
          try simp only [List.getElem_toArray, List.getElem_cons_succ, List.getElem_cons_zero, Act.put, List.setIfInBounds_toArray, List.set_cons_zero, List.set_cons_succ]
          refine wpAnyF_takeT (i := 23) (v := ?_) rfl (by kernel_rfl) (by kernel_rfl) (by kernel_rfl) (by kernel_rfl) (by kernel_rfl) (by kernel_rfl) (fun _ _ _ h => h) (by rfl) ?_ hS ?_
          rotate_left
          · intro u hu
            try dsimp only at hu
            go_simp
            try with_reducible rfl
          try simp only [List.getElem_toArray, List.getElem_cons_succ, List.getElem_cons_zero, Act.put, List.setIfInBounds_toArray, List.set_cons_zero, List.set_cons_succ]
          refine wpAnyF_step (i := 24) (by kernel_rfl) rfl (by rfl) fun K hK => ?_
          go_simp
          refine hK _ _ (.inl (by kernel_rfl)) ?_
          clear hK K
          try simp only [List.getElem_toArray, List.getElem_cons_succ, List.getElem_cons_zero, Act.put, List.setIfInBounds_toArray, List.set_cons_zero, List.set_cons_succ]
          refine wpAnyF_done (by kernel_rfl) ?_ _
          go_wp2_with fail
          go_roundw
          case rel => exact ⟨k + 1, by omega, by go_num, Lib.hid ⟨HI.out.1.step N3.out, fun j hj h => by
            by_cases e : j = k
            · subst e; show (codeMay _ _ && _) = true; rw [HP.out, HBD.out, HVN.out, HPV.out]; simp [hv]
            · exact HI.out.2 j hj (by omega)⟩⟩
          case measure => simp [intOf]; omega
        · have g5 : ((vn : Int) == pv) = false := beq_eq_false_iff_ne.2 hv
          go_upto_region 7 with (fail)
          refine wp_region_F (fun W => W.cell? ⟨XB, 0, none⟩ = some (.slice (some ⟨b, o, none⟩) n pc) ∧ W.cell? ⟨b, o + k * 4, none⟩ = some (.int .i64 pv) ∧ W.cell? ⟨b, o + k * 4 + 1, none⟩ = some (.slice kA P.ks.length kc) ∧ W.cell? ⟨b, o + k * 4 + 2, none⟩ = some (.slice vA vn vc)) [24] (by kernel_rfl) ?_
          have hS := HSS.out wr.drew (Nw.refl wr).drew
          refine wpAnyF_takeT (i := 0) (v := ?_) rfl (by kernel_rfl) (by kernel_rfl) (by kernel_rfl) (by kernel_rfl) (by kernel_rfl) (by kernel_rfl) (fun _ _ _ h => h) (by rfl) ?_ hS ?_
          rotate_left
          · intro u hu
            try dsimp only at hu
            go_simp
            try with_reducible rfl
          try simp only [List.getElem_toArray, List.getElem_cons_succ, List.getElem_cons_zero, Act.put, List.setIfInBounds_toArray, List.set_cons_zero, List.set_cons_succ]
          refine wpAnyF_takeT (i := 1) (v := ?_) rfl (by kernel_rfl) (by kernel_rfl) (by kernel_rfl) (by kernel_rfl) (by kernel_rfl) (by kernel_rfl) (fun _ _ _ h => h) (by rfl) ?_ hS ?_
          rotate_left
          · intro u hu
            try dsimp only at hu
            go_simp
            try with_reducible rfl
          try simp only [List.getElem_toArray, List.getElem_cons_succ, List.getElem_cons_zero, Act.put, List.setIfInBounds_toArray, List.set_cons_zero, List.set_cons_succ]
          refine wpAnyF_takeT (i := 2) (v := ?_) rfl (by kernel_rfl) (by kernel_rfl) (by kernel_rfl) (by kernel_rfl) (by kernel_rfl) (by kernel_rfl) (fun _ _ _ h => h) (by rfl) ?_ hS ?_
          rotate_left
          · intro u hu
            try dsimp only at hu
            go_simp
            try with_reducible rfl
          try simp only [List.getElem_toArray, List.getElem_cons_succ, List.getElem_cons_zero, Act.put, List.setIfInBounds_toArray, List.set_cons_zero, List.set_cons_succ]
          refine wpAnyF_takeT (i := 3) (v := ?_) rfl (by kernel_rfl) (by kernel_rfl) (by kernel_rfl) (by kernel_rfl) (by kernel_rfl) (by kernel_rfl) (fun _ _ _ h => h) (by rfl) ?_ hS ?_
          rotate_left
          · intro u hu
            try dsimp only at hu
            go_simp
            try with_reducible rfl
          try simp only [List.getElem_toArray, List.getElem_cons_succ, List.getElem_cons_zero, Act.put, List.setIfInBounds_toArray, List.set_cons_zero, List.set_cons_succ]
          refine wpAnyF_takeT (i := 4) (v := ?_) rfl (by kernel_rfl) (by kernel_rfl) (by kernel_rfl) (by kernel_rfl) (by kernel_rfl) (by kernel_rfl) (fun _ _ _ h => h) (by rfl) ?_ hS ?_
          rotate_left
          · intro u hu
            try dsimp only at hu
            go_simp
            try with_reducible rfl
          try simp only [List.getElem_toArray, List.getElem_cons_succ, List.getElem_cons_zero, Act.put, List.setIfInBounds_toArray, List.set_cons_zero, List.set_cons_succ]
          refine wpAnyF_takeT (i := 5) (v := ?_) rfl (by kernel_rfl) (by kernel_rfl) (by kernel_rfl) (by kernel_rfl) (by kernel_rfl) (by kernel_rfl) (fun _ _ _ h => h) (by rfl) ?_ hS ?_
          rotate_left
          · intro u hu
            try dsimp only at hu
            go_simp
            try with_reducible rfl
          try simp only [List.getElem_toArray, List.getElem_cons_succ, List.getElem_cons_zero, Act.put, List.setIfInBounds_toArray, List.set_cons_zero, List.set_cons_succ]
          refine wpAnyF_step (i := 6) (by kernel_rfl) rfl (by rfl) fun K hK => ?_
          go_simp
          go_at_call 28
          refine (KC.out wr.drew (Nw.refl wr).drew).mono ?_
          rintro e w3 ⟨rfl, b3⟩
          have n3 : Nw wr w3 := (Nw.refl wr).drew.step b3
          have N3 := Lib.hid n3
          clear b3 n3
          have hS := HSS.out w3 N3.out
          refine hK _ _ (.inr (HSS.out w3 N3.out)) ?_
          clear hK K
          try simp only [List.getElem_toArray, List.getElem_cons_succ, List.getElem_cons_zero, Act.put, List.setIfInBounds_toArray, List.set_cons_zero, List.set_cons_succ]
          refine wpAnyF_step (i := 7) (by kernel_rfl) rfl (by rfl) fun K hK => ?_
          go_simp
          refine hK _ _ (.inr hS) ?_
          clear hK K
          try simp only [List.getElem_toArray, List.getElem_cons_succ, List.getElem_cons_zero, Act.put, List.setIfInBounds_toArray, List.set_cons_zero, List.set_cons_succ]
          refine wpAnyF_step (i := 8) (by kernel_rfl) rfl (by rfl) fun K hK => ?_
          go_simp
          refine hK _ _ (.inr hS) ?_
          clear hK K
          try simp only [List.getElem_toArray, List.getElem_cons_succ, List.getElem_cons_zero, Act.put, List.setIfInBounds_toArray, List.set_cons_zero, List.set_cons_succ]
          refine wpAnyF_takeT (i := 9) (v := ?_) rfl (by kernel_rfl) (by kernel_rfl) (by kernel_rfl) (by kernel_rfl) (by kernel_rfl) (by kernel_rfl) (fun _ _ _ h => h) (by rfl) ?_ hS ?_
          rotate_left
          · intro u hu
            try dsimp only at hu
            go_simp
            try with_reducible rfl
          try simp only [List.getElem_toArray, List.getElem_cons_succ, List.getElem_cons_zero, Act.put, List.setIfInBounds_toArray, List.set_cons_zero, List.set_cons_succ]
          refine wpAnyF_takeT (i := 10) (v := ?_) rfl (by kernel_rfl) (by kernel_rfl) (by kernel_rfl) (by kernel_rfl) (by kernel_rfl) (by kernel_rfl) (fun _ _ _ h => h) (by rfl) ?_ hS ?_
          rotate_left
          · intro u hu
            try dsimp only at hu
            go_simp
            try with_reducible rfl
          try simp only [List.getElem_toArray, List.getElem_cons_succ, List.getElem_cons_zero, Act.put, List.setIfInBounds_toArray, List.set_cons_zero, List.set_cons_succ]
          refine wpAnyF_takeT (i := 11) (v := ?_) rfl (by kernel_rfl) (by kernel_rfl) (by kernel_rfl) (by kernel_rfl) (by kernel_rfl) (by kernel_rfl) (fun _ _ _ h => h) (by rfl) ?_ hS ?_
          rotate_left
          · intro u hu
            try dsimp only at hu
            go_simp
            try with_reducible rfl
          try simp only [List.getElem_toArray, List.getElem_cons_succ, List.getElem_cons_zero, Act.put, List.setIfInBounds_toArray, List.set_cons_zero, List.set_cons_succ]
          refine wpAnyF_takeT (i := 12) (v := ?_) rfl (by kernel_rfl) (by kernel_rfl) (by kernel_rfl) (by kernel_rfl) (by kernel_rfl) (by kernel_rfl) (fun _ _ _ h => h) (by rfl) ?_ hS ?_
          rotate_left
          · intro u hu
            try dsimp only at hu
            go_simp
            try with_reducible rfl
          try simp only [List.getElem_toArray, List.getElem_cons_succ, List.getElem_cons_zero, Act.put, List.setIfInBounds_toArray, List.set_cons_zero, List.set_cons_succ]
          refine wpAnyF_takeT (i := 13) (v := ?_) rfl (by kernel_rfl) (by kernel_rfl) (by kernel_rfl) (by kernel_rfl) (by kernel_rfl) (by kernel_rfl) (fun _ _ _ h => h) (by rfl) ?_ hS ?_
          rotate_left
          · intro u hu
            try dsimp only at hu
            go_simp
            try with_reducible rfl
          try simp only [List.getElem_toArray, List.getElem_cons_succ, List.getElem_cons_zero, Act.put, List.setIfInBounds_toArray, List.set_cons_zero, List.set_cons_succ]
          refine wpAnyF_takeT (i := 14) (v := ?_) rfl (by kernel_rfl) (by kernel_rfl) (by kernel_rfl) (by kernel_rfl) (by kernel_rfl) (by kernel_rfl) (fun _ _ _ h => h) (by rfl) ?_ hS ?_
          rotate_left
          · intro u hu
            try dsimp only at hu
            go_simp
            try with_reducible rfl
          try simp only [List.getElem_toArray, List.getElem_cons_succ, List.getElem_cons_zero, Act.put, List.setIfInBounds_toArray, List.set_cons_zero, List.set_cons_succ]
          refine wpAnyF_takeT (i := 15) (v := ?_) rfl (by kernel_rfl) (by kernel_rfl) (by kernel_rfl) (by kernel_rfl) (by kernel_rfl) (by kernel_rfl) (fun _ _ _ h => h) (by rfl) ?_ hS ?_
          rotate_left
          · intro u hu
            try dsimp only at hu
            go_simp
            try with_reducible rfl
          try simp only [List.getElem_toArray, List.getElem_cons_succ, List.getElem_cons_zero, Act.put, List.setIfInBounds_toArray, List.set_cons_zero, List.set_cons_succ]
          refine wpAnyF_takeT (i := 16) (v := ?_) rfl (by kernel_rfl) (by kernel_rfl) (by kernel_rfl) (by kernel_rfl) (by kernel_rfl) (by kernel_rfl) (fun _ _ _ h => h) (by rfl) ?_ hS ?_
          rotate_left
          · intro u hu
            try dsimp only at hu
            go_simp
            try with_reducible rfl
          try simp only [List.getElem_toArray, List.getElem_cons_succ, List.getElem_cons_zero, Act.put, List.setIfInBounds_toArray, List.set_cons_zero, List.set_cons_succ]
          refine wpAnyF_takeT (i := 17) (v := ?_) rfl (by kernel_rfl) (by kernel_rfl) (by kernel_rfl) (by kernel_rfl) (by kernel_rfl) (by kernel_rfl) (fun _ _ _ h => h) (by rfl) ?_ hS ?_
          rotate_left
          · intro u hu
            try dsimp only at hu
            go_simp
            try with_reducible rfl
          try simp only [List.getElem_toArray, List.getElem_cons_succ, List.getElem_cons_zero, Act.put, List.setIfInBounds_toArray, List.set_cons_zero, List.set_cons_succ]
          refine wpAnyF_takeT (i := 18) (v := ?_) rfl (by kernel_rfl) (by kernel_rfl) (by kernel_rfl) (by kernel_rfl) (by kernel_rfl) (by kernel_rfl) (fun _ _ _ h => h) (by rfl) ?_ hS ?_
          rotate_left
          · intro u hu
            try dsimp only at hu
            go_simp
            try with_reducible rfl
          try simp only [List.getElem_toArray, List.getElem_cons_succ, List.getElem_cons_zero, Act.put, List.setIfInBounds_toArray, List.set_cons_zero, List.set_cons_succ]
          refine wpAnyF_takeT (i := 19) (v := ?_) rfl (by kernel_rfl) (by kernel_rfl) (by kernel_rfl) (by kernel_rfl) (by kernel_rfl) (by kernel_rfl) (fun _ _ _ h => h) (by rfl) ?_ hS ?_
          rotate_left
          · intro u hu
            try dsimp only at hu
            go_simp
            try with_reducible rfl
          try simp only [List.getElem_toArray, List.getElem_cons_succ, List.getElem_cons_zero, Act.put, List.setIfInBounds_toArray, List.set_cons_zero, List.set_cons_succ]
          refine wpAnyF_takeT (i := 20) (v := ?_) rfl (by kernel_rfl) (by kernel_rfl) (by kernel_rfl) (by kernel_rfl) (by kernel_rfl) (by kernel_rfl) (fun _ _ _ h => h) (by rfl) ?_ hS ?_
          rotate_left
          · intro u hu
            try dsimp only at hu
            go_simp
            try with_reducible rfl
          try simp only [List.getElem_toArray, List.getElem_cons_succ, List.getElem_cons_zero, Act.put, List.setIfInBounds_toArray, List.set_cons_zero, List.set_cons_succ]
          refine wpAnyF_takeT (i := 21) (v := ?_) rfl (by kernel_rfl) (by kernel_rfl) (by kernel_rfl) (by kernel_rfl) (by kernel_rfl) (by kernel_rfl) (fun _ _ _ h => h) (by rfl) ?_ hS ?_
          rotate_left
          · intro u hu
            try dsimp only at hu
            go_simp
            try with_reducible rfl
          try simp only [List.getElem_toArray, List.getElem_cons_succ, List.getElem_cons_zero, Act.put, List.setIfInBounds_toArray, List.set_cons_zero, List.set_cons_succ]
          refine wpAnyF_takeT (i := 22) (v := ?_) rfl (by kernel_rfl) (by kernel_rfl) (by kernel_rfl) (by kernel_rfl) (by kernel_rfl) (by kernel_rfl) (fun _ _ _ h => h) (by rfl) ?_ hS ?_
          rotate_left
          · intro u hu
            try dsimp only at hu
            go_simp
            try with_reducible rfl
          try simp only [List.getElem_toArray, List.getElem_cons_succ, List.getElem_cons_zero, Act.put, List.setIfInBounds_toArray, List.set_cons_zero, List.set_cons_succ]
          refine wpAnyF_takeT (i := 23) (v := ?_) rfl (by kernel_rfl) (by kernel_rfl) (by kernel_rfl) (by kernel_rfl) (by kernel_rfl) (by kernel_rfl) (fun _ _ _ h => h) (by rfl) ?_ hS ?_
          rotate_left
          · intro u hu
            try dsimp only at hu
            go_simp
            try with_reducible rfl
          try simp only [List.getElem_toArray, List.getElem_cons_succ, List.getElem_cons_zero, Act.put, List.setIfInBounds_toArray, List.set_cons_zero, List.set_cons_succ]
          refine wpAnyF_step (i := 24) (by kernel_rfl) rfl (by rfl) fun K hK => ?_
          go_simp
          refine hK _ _ (.inl (by kernel_rfl)) ?_
          clear hK K
          try simp only [List.getElem_toArray, List.getElem_cons_succ, List.getElem_cons_zero, Act.put, List.setIfInBounds_toArray, List.set_cons_zero, List.set_cons_succ]
          refine wpAnyF_done (by kernel_rfl) ?_ _
          go_wp2_with fail
          go_ret
          exact mayOut_no (fun hm => hv (HMK.out hm).2) (N1.out.step (HI.out.1.step N3.out))
    · have g4 : ¬ (k : Int) < (n : Int) := by omega
      have hpm : ∀ j (hj : j < m.procs.length), m.procs[j].may = true := fun j hj => HI.out.2 j hj (by have := HN.out; omega)
      have HPM := Lib.hid hpm
      have NR := Lib.hid HI.out.1
      have x0 := NR.out.cell X0.out
      have x1 := NR.out.cell X1.out
      clear hpm HI
      go_wp2_with fail
      go_loopw [5] (fun i wr => ∃ k : Nat, k ≤ f ∧ i = .int .i64 k ∧ Hid (Nw w1 wr ∧ ∀ j (hj : j < m.first.length), j < k → firstB m.procs.length m.first[j] j = true)) (fun i _ => f - (intOf i).toNat)
      case atStart => exact ⟨0, Nat.zero_le _, rfl, Lib.hid ⟨NR.out, fun j hj h => by omega⟩⟩
      case round =>
        obtain ⟨k, hk, rfl, HI⟩ := hrel
        have x1 := HI.out.1.cell X1.out
        by_cases hlt : k < f
        · have hlt' : k < m.first.length := by rw [HF.out]; exact hlt
          obtain ⟨b, o, ep, c0, c1, c2, c3, c4, c5⟩ := (HM.out.keep HI.out.1).ev hlt'
          obtain ⟨E, hE⟩ : ∃ E, m.first[k] = E := ⟨_, rfl⟩
          rw [hE] at c0 c1 c2 c3 c4 c5
          have HE := Lib.hid hE
          have g4 : (k : Int) < (f : Int) := by omega
          obtain ⟨w2, hw2⟩ : ∃ w2, wr.alloc (.cells #[.int .i64 E.k.T, .int .i64 E.k.O, .int .i64 E.k.S, .int .i64 E.p, .int .i64 E.q, .int .i64 E.d] 44) = w2 := ⟨_, rfl⟩
          have n2 : Nw wr w2 := by rw [← hw2]; exact (Nw.refl wr).alloc _
          obtain ⟨YB, hYB⟩ : ∃ YB, wr.heap.size = YB := ⟨_, rfl⟩
          have hb2 : Blk w2 YB 44 #[.int .i64 E.k.T, .int .i64 E.k.O, .int .i64 E.k.S, .int .i64 E.p, .int .i64 E.q, .int .i64 E.d] := by rw [← hw2]; exact Blk.last wr _ _ hYB
          have y0 : w2.cell? ⟨YB, 0, none⟩ = some (.int .i64 E.k.T) := hb2.cell 0
          have y1 : w2.cell? ⟨YB, 1, none⟩ = some (.int .i64 E.k.O) := hb2.cell 1
          have y2 : w2.cell? ⟨YB, 2, none⟩ = some (.int .i64 E.k.S) := hb2.cell 2
          have y3 : w2.cell? ⟨YB, 3, none⟩ = some (.int .i64 E.p) := hb2.cell 3
          have y4 : w2.cell? ⟨YB, 4, none⟩ = some (.int .i64 E.q) := hb2.cell 4
          have y5 : w2.cell? ⟨YB, 5, none⟩ = some (.int .i64 E.d) := hb2.cell 5
          have KC := Lib.hid (refMay_any E.k.T E.k.O E.k.S E.p E.q E.d n w2)
          have N12 := Lib.hid (HI.out.1.step n2)
          have HW2 := Lib.hid hw2
          have HYB := Lib.hid hYB
          obtain ⟨bd, hbd⟩ : ∃ bd, MayB E.k.T E.k.O E.k.S E.p E.q E.d n = bd := ⟨_, rfl⟩
          rw [hbd] at KC
          have hfb : firstB m.procs.length m.first[k] k = (bd && decide (E.k.O = 0) && decide (E.k.S = (k : Int))) := by
            rw [HE.out, HN.out, ← hbd]; rfl
          have HFB := Lib.hid hfb
          have Y1 := Lib.hid y1
          have Y2 := Lib.hid y2
          subst ep
          have hno : (bd && decide (E.k.O = 0) && decide (E.k.S = (k : Int))) = false → ¬ m.May := fun h hm => by
            have := hm.ev k hlt'
            rw [HFB.out, h] at this
            cases this
          have HNO := Lib.hid hno
          clear hno hE n2 hb2 hw2 hYB hbd hfb
          cases bd with
          | false =>
            go_upto_region 13 with (fail)
            rw [HW2.out, HYB.out]
            go_wp2_with fail
            refine KC.out.mono ?_
            rintro e w3 ⟨rfl, b3⟩
            have B3 := Lib.hid b3
            clear b3 y0 y1 y2 y3 y4 y5 c0 c1 c2 c3 c4 c5 x0 x1
            go_wp2_with fail
            go_ret
            exact mayOut_no (HNO.out rfl) ((N1.out.step N12.out).step B3.out)
          | true =>
            by_cases ho : E.k.O = 0
            · have g5 : (E.k.O == 0) = true := beq_iff_eq.2 ho
              have HO := Lib.hid ho
              clear ho
              by_cases hs : E.k.S = (k : Int)
              · have g6 : (E.k.S == (k : Int)) = true := beq_iff_eq.2 hs
                have HS := Lib.hid hs
                clear hs
                go_upto_region 13 with (fail)
                rw [HW2.out, HYB.out]
                go_wp2_with fail
                refine KC.out.mono ?_
                rintro e w3 ⟨rfl, b3⟩
                have z1 := (show Nw w2 w3 from b3).cell Y1.out
                have z2 := (show Nw w2 w3 from b3).cell Y2.out
                have B3 := Lib.hid b3
                clear b3 y0 y1 y2 y3 y4 y5 c0 c1 c2 c3 c4 c5 x0 x1
                go_wp2_with fail
                go_roundw
                case rel => exact ⟨k + 1, by omega, by go_num, Lib.hid ⟨N12.out.step B3.out, fun j hj h => by
                  by_cases e : j = k
                  · subst e; rw [HFB.out]; simp [HO.out, HS.out]
                  · exact HI.out.2 j hj (by omega)⟩⟩
                case measure => simp [intOf]; omega
              · have g6 : (E.k.S == (k : Int)) = false := beq_eq_false_iff_ne.2 hs
                go_upto_region 13 with (fail)
                rw [HW2.out, HYB.out]
                go_wp2_with fail
                refine KC.out.mono ?_
                rintro e w3 ⟨rfl, b3⟩
                have z1 := (show Nw w2 w3 from b3).cell Y1.out
                have z2 := (show Nw w2 w3 from b3).cell Y2.out
                have B3 := Lib.hid b3
                clear b3 y0 y1 y2 y3 y4 y5 c0 c1 c2 c3 c4 c5 x0 x1
                go_wp2_with fail
                go_ret
                exact mayOut_no (HNO.out (by simp [hs])) ((N1.out.step N12.out).step B3.out)
            · have g5 : (E.k.O == 0) = false := beq_eq_false_iff_ne.2 ho
              go_upto_region 13 with (fail)
              rw [HW2.out, HYB.out]
              go_wp2_with fail
              refine KC.out.mono ?_
              rintro e w3 ⟨rfl, b3⟩
              have z1 := (show Nw w2 w3 from b3).cell Y1.out
              have z2 := (show Nw w2 w3 from b3).cell Y2.out
              have B3 := Lib.hid b3
              clear b3 y0 y1 y2 y3 y4 y5 c0 c1 c2 c3 c4 c5 x0 x1
              go_wp2_with fail
              go_ret
              exact mayOut_no (HNO.out (by simp [ho])) ((N1.out.step N12.out).step B3.out)
        · have g4 : ¬ (k : Int) < (f : Int) := by omega
          have hfm : ∀ j (hj : j < m.first.length), firstB m.procs.length m.first[j] j = true := fun j hj => HI.out.2 j hj (by have := HF.out; omega)
          go_wp2_with fail
          go_ret
          refine ⟨true, rfl, ?_, N1.out.step HI.out.1⟩
          refine ⟨fun _ => ⟨by rw [HN.out]; exact n1, by rw [HN.out]; exact n16, by rw [HF.out]; exact f64, fun p hp => ?_, fun i hi => hfm i hi⟩, fun _ => rfl⟩
          obtain ⟨j, hj, rfl⟩ := List.getElem_of_mem hp
          exact HPM.out j hj
end
end Go.Proofs.Ytgijkgngldfdiaa
