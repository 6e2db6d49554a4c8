/- Do both look the same? Helper. -/
import Derived.Test.YtgijkgngldfdiaaSqK
import Derived.BigQuiet
namespace Go.Proofs.Ytgijkgngldfdiaa
open Go.RowKit
set_option linter.unusedVariables false
set_option linter.unusedSimpArgs false
section
variable (p : PMem) (r : RMem) (m : Mdl) (s : Sq) (ws : List Ev) (w : World)
set_option maxRecDepth 100000
set_option maxHeartbeats 6400000
theorem lawSame_any (hP : PSeq w p m s ws) (hR : RSeq w r m s) : Calls Try.prog 11 #[.pointer (some ⟨p.SB, 0, none⟩), .pointer (some ⟨r.RB, 0, none⟩)] w (fun e w' => e = .returned (.bool true) ∧ Nw w w') := by
  have nq : ∀ q, Nw w (w.drewN q) := fun q => Below.many (Nw.refl w) q
  obtain ⟨fl, hfl⟩ : ∃ fl, s.last.T = fl := ⟨_, rfl⟩
  obtain ⟨dn, hdn⟩ : ∃ dn, s.done = dn := ⟨_, rfl⟩
  obtain ⟨n, hn⟩ : ∃ n, s.w.length = n := ⟨_, rfl⟩
  obtain ⟨N, hN⟩ : ∃ N, m.procs.length = N := ⟨_, rfl⟩
  have kf := fun q => floor_any p m s ws (w.drewN q) (hP.new (nq q))
  have kd := fun q => done_any p m s ws (w.drewN q) (hP.new (nq q))
  have kw := fun q => waits_any p m s ws (w.drewN q) (hP.new (nq q))
  rw [hfl] at kf
  rw [hdn] at kd
  rw [hn] at kw
  have KF := Lib.hid kf
  have KD := Lib.hid kd
  have KW := Lib.hid kw
  have b3 : w.cell? ⟨r.RB, 3, none⟩ = some (.slice r.wA n r.wc) := (hR.box.cell 3).trans (by rw [hn]; rfl)
  have b5 : w.cell? ⟨r.RB, 5, none⟩ = some (.int .i64 (dn : Int)) := (hR.box.cell 5).trans (by rw [hdn]; rfl)
  have b6 : w.cell? ⟨r.RB, 6, none⟩ = some (.int .i64 fl) := (hR.box.cell 6).trans (by rw [hfl]; rfl)
  have HP := Lib.hid hP
  have HR := Lib.hid hR
  have HN := Lib.hid hN
  have HW := Lib.hid hn
  have B3 := Lib.hid b3
  clear hP hR nq hfl hdn hn hN kf kd kw
  go_enter Try.func11, Try.ntmps11
  go_wp2_with fail
  go_quiet ((first | (go_at_call 22; exact Calls.quiet_of_same (KF.out _)) | (go_at_call 23; exact Calls.quiet_of_same (KD.out _)) | (go_at_call 24; exact Calls.quiet_of_same (KW.out _))))
  obtain ⟨w1, hw1⟩ : ∃ w1, w.drewN nq = w1 := ⟨_, rfl⟩
  have N1 := Lib.hid (show Nw w w1 from by rw [← hw1]; exact Below.many (Nw.refl w) _)
  rw [hw1]
  have KX := Lib.hid (next_any p m s ws w1 (HP.out.new N1.out))
  clear hw1 b3 b5 b6 KF KD KW
  obtain ⟨hd, hhd⟩ : ∃ hd, ws.headD evZ = hd := ⟨_, rfl⟩
  obtain ⟨nb, hnb⟩ : ∃ nb, (!ws.isEmpty) = nb := ⟨_, rfl⟩
  have HHD := Lib.hid hhd
  have HNB := Lib.hid hnb
  clear hhd hnb
  go_wp2_with fail
  refine KX.out.mono ?_
  rintro x w2 ⟨rfl, b2⟩
  rw [HHD.out, HNB.out]
  unfold ev6
  obtain ⟨EB, hEB⟩ : ∃ EB, w2.heap.size = EB := ⟨_, rfl⟩
  obtain ⟨w3, hw3⟩ : ∃ w3, w2.alloc (.cells #[.int .i64 hd.k.T, .int .i64 hd.k.O, .int .i64 hd.k.S, .int .i64 hd.p, .int .i64 hd.q, .int .i64 hd.d] 44) = w3 := ⟨_, rfl⟩
  have hbE : Blk w3 EB 44 #[.int .i64 hd.k.T, .int .i64 hd.k.O, .int .i64 hd.k.S, .int .i64 hd.p, .int .i64 hd.q, .int .i64 hd.d] := by rw [← hw3]; exact Blk.last w2 _ _ hEB
  have N3 := Lib.hid (show Nw w w3 from (N1.out.step b2).step (by rw [← hw3]; exact (Nw.refl w2).alloc _))
  have HW3 := Lib.hid hw3
  have HEB := Lib.hid hEB
  have HBE := Lib.hid hbE
  have KL := Lib.hid (refLeast_any r m s w3 (HR.out.new N3.out))
  clear b2 hEB hw3 hbE KX
  go_upto_region 4 with (fail)
  rw [HW3.out, HEB.out]
  go_wp2_with fail
  refine KL.out.mono ?_
  rintro x w4 ⟨n34, hcase⟩
  obtain ⟨lv, rfl, hcl⟩ : ∃ lv : Int, x = .returned (.int .i64 lv) ∧ ((s.w = [] ∧ lv = -1) ∨ ∃ j, ∃ hj : j < s.w.length, lv = (j : Int) ∧ ∀ y ∈ s.w, y.k.less s.w[j].k = false) := by
    rcases hcase with ⟨h1, rfl⟩ | ⟨j, hj, rfl, hm⟩
    · exact ⟨-1, rfl, .inl ⟨h1, rfl⟩⟩
    · exact ⟨j, rfl, .inr ⟨j, hj, rfl, hm⟩⟩
  have N4 := Lib.hid (N3.out.step n34)
  have HCL := Lib.hid hcl
  have hbE4 := HBE.out.below n34 HBE.out.lt
  have e0 : w4.cell? ⟨EB, 0, none⟩ = some (.int .i64 hd.k.T) := hbE4.cell 0
  have e1 : w4.cell? ⟨EB, 1, none⟩ = some (.int .i64 hd.k.O) := hbE4.cell 1
  have e2 : w4.cell? ⟨EB, 2, none⟩ = some (.int .i64 hd.k.S) := hbE4.cell 2
  have e3 : w4.cell? ⟨EB, 3, none⟩ = some (.int .i64 hd.p) := hbE4.cell 3
  have e4 : w4.cell? ⟨EB, 4, none⟩ = some (.int .i64 hd.q) := hbE4.cell 4
  have e5 : w4.cell? ⟨EB, 5, none⟩ = some (.int .i64 hd.d) := hbE4.cell 5
  have b3 := N4.out.cell B3.out
  clear n34 hcase hcl hbE4 KL
  go_upto_region 5 with (fail)
  go_cut [62] (fun v wx => v = .bool false ∧ Hid (Nw w wx))
  case first =>
    rcases HCL.out with ⟨h1, rfl⟩ | ⟨j, hj, rfl, hm⟩
    · have hws : ws = [] := List.eq_nil_of_length_eq_zero (by rw [HP.out.twin.perm.length_eq, h1]; rfl)
      have hnb : nb = false := by rw [← HNB.out, hws]; rfl
      subst hnb
      have g1 : decide ((0 : Int) ≤ -1) = false := by decide
      go_quiet (fail)
      go_wp2_with fail
      go_meet
      exact ⟨rfl, Lib.hid (Below.many N4.out _)⟩
    · have hne : ws ≠ [] := fun h => by have := HP.out.twin.perm.length_eq; rw [h] at this; simp at this; omega
      obtain ⟨y, t, hwt⟩ := List.exists_cons_of_ne_nil hne
      have hnb : nb = true := by rw [← HNB.out, hwt]; rfl
      have hhd : hd = y := by rw [← HHD.out, hwt]; rfl
      have hsr := HP.out.twin.srt
      have hpm := HP.out.twin.perm
      rw [hwt] at hsr hpm
      have hjy := (head_least hsr hpm hj hm).1
      subst hnb hhd
      have hrd4 : Rd w4 r.wA (ints (rows s.w)) := by
        obtain ⟨_, _, ea, hrd, _, _⟩ := HR.out.wown.rd
        injection ea with e1 _ e3
        subst e1
        exact hrd.keep fun p hp => Below.cell N4.out hp
      obtain ⟨wb, wo, ew, c0, c1, c2, c3, c4, c5⟩ := ev_at hrd4 hj
      simp only [hjy] at c0 c1 c2 c3 c4 c5
      rw [ew] at b3
      have g1 : decide ((0 : Int) ≤ (j : Int)) = true := by simp
      have k2 : (0 : Int) ≤ (j : Int) := by omega
      have k3 : (j : Int) < (n : Int) := by have := HW.out; omega
      clear hrd4 hne hwt hsr hpm hjy hj hm ew
      go_quiet (fail)
      go_wp2_with fail
      go_meet
      exact ⟨rfl, Lib.hid (Below.many N4.out _)⟩
  case rest =>
    obtain ⟨rfl, N5⟩ := hcut
    obtain ⟨w5, hw5⟩ : ∃ w5, w5 = wc := ⟨_, rfl⟩
    subst hw5
    clear e0 e1 e2 e3 e4 e5 b3
    have hn16 := HR.out.ok.may.n16
    rw [HN.out] at hn16
    have B2 := Lib.hid ((HR.out.box.cell 2).trans (by rw [HN.out]; rfl) : w.cell? ⟨r.RB, 2, none⟩ = some (.slice (some ⟨r.sB, r.so, none⟩) N r.sc))
    go_wp2_with fail
    go_loopw [8] (fun i wr => ∃ k : Nat, k ≤ N + 2 ∧ i = .int .i64 k ∧ Hid (Nw w wr)) (fun i _ => N + 2 - (intOf i).toNat)
    case atStart => exact ⟨0, Nat.zero_le _, rfl, N5⟩
    case round =>
      obtain ⟨k, hk, rfl, NR⟩ := hrel
      have b2 := NR.out.cell B2.out
      have wN : IntKind.i64.wrap ((N : Int) + 1) = (N : Int) + 1 := IntWalk.i64_in _ (by constructor <;> omega)
      by_cases hlt : k < N + 2
      · have g4 : (k : Int) ≤ (N : Int) + 1 := by omega
        have KS := Lib.hid (state_any wr p m s ws (k : Int) (HP.out.new NR.out) (by simp [Lit.wf, IntKind.min, IntKind.max, IntKind.bits, IntKind.signed]; omega) (fun i => by
          rcases Nat.lt_or_ge i m.procs.length with hi | hi
          · have h1 := (HP.out.ok.st i hi).1
            have h2 := (HP.out.ok.may.proc hi).1
            have h3 := may_vars h2
            unfold stOk at h1
            simp only [Bool.and_eq_true, decide_eq_true_eq] at h1
            omega
          · rw [List.getD_eq_getElem?_getD, List.getElem?_eq_none (by rw [HP.out.ok.len]; exact hi)]
            simp [St.z]))
        go_wp2_with fail
        refine KS.out.mono ?_
        clear b2
        intro x w6 hout
        unfold StateOut at hout
        by_cases hin : 1 ≤ (k : Int) ∧ (k : Int) ≤ (m.procs.length : Int)
        · rw [if_pos hin] at hout
          obtain ⟨A, c, blk, rfl, ho, hfr, n6⟩ := hout
          unfold stV
          obtain ⟨i, hi⟩ : ∃ i : Nat, k = i + 1 := ⟨k - 1, by omega⟩
          subst hi
          rw [show (((i + 1 : Nat) : Int) - 1).toNat = i by omega] at ho ⊢
          have hiN : i < N := by have := HN.out; omega
          obtain ⟨cur, hst, hsts⟩ := HR.out.sts
          obtain ⟨a, va, ⟨q0, q1, q2⟩, hrs⟩ := hsts i (by rw [HN.out]; exact hiN)
          rw [← hst.cell] at q0 q1 q2
          obtain ⟨T, hT⟩ : ∃ T, s.sts.getD i St.z = T := ⟨_, rfl⟩
          rw [hT] at q0 q1 q2 hrs ho ⊢
          have hTl : T.vars.length ≤ 8 := by
            have h1 := (HP.out.ok.st i (by rw [HN.out]; exact hiN)).1
            have h2 := (HP.out.ok.may.proc (i := i) (by rw [HN.out]; exact hiN)).1
            have h3 := may_vars h2
            unfold stOk at h1
            simp only [Bool.and_eq_true, decide_eq_true_eq] at h1
            rw [hT] at h1
            omega
          obtain ⟨ZB, hZB⟩ : ∃ ZB, w6.heap.size = ZB := ⟨_, rfl⟩
          obtain ⟨w7, hw7⟩ : ∃ w7, w6.alloc (.cells #[.slice A T.vars.length c, .int .i64 T.sent, .int .i64 T.drawn] 65) = w7 := ⟨_, rfl⟩
          have hbZ : Blk w7 ZB 65 #[.slice A T.vars.length c, .int .i64 T.sent, .int .i64 T.drawn] := by rw [← hw7]; exact Blk.last w6 _ _ hZB
          have n67 : Nw w6 w7 := by rw [← hw7]; exact (Nw.refl w6).alloc _
          have n7 : Nw w w7 := (NR.out.step n6).step n67
          have ho7 := ho.kept (w' := w7) fun g hg => n67.block g (ho.lt g hg)
          have hA7 : Rd w7 A (ints T.vars) := by
            obtain ⟨_, _, ea, hrd, _⟩ := ho7.rd
            injection ea with e1 _ _
            subst e1
            exact hrd
          have ha7 : Rd w7 a (ints T.vars) := hrs.here.keep fun p hp => Below.cell n7 hp
          have KSS := Lib.hid (fun W (hW : Nw w7 W) => sameState_yes W A a c va T.vars T.sent T.drawn (hA7.keep fun p hp => Below.cell hW hp) (ha7.keep fun p hp => Below.cell hW hp) (by omega))
          have hsz : w.heap.size ≤ ZB := by rw [← hZB]; exact (NR.out.step n6).size
          have hfr' : ∀ g, blk = some g → w.heap.size ≤ g := fun g hg => Nat.le_trans NR.out.size (hfr g hg)
          obtain ⟨vn, hvn⟩ : ∃ vn, T.vars.length = vn := ⟨_, rfl⟩
          have hss : ∀ W, Nw w7 W → W.cell? ⟨ZB, 0, none⟩ = some (.slice A vn c) ∧ W.cell? ⟨ZB, 1, none⟩ = some (.int .i64 T.sent) ∧ W.cell? ⟨ZB, 2, none⟩ = some (.int .i64 T.drawn) ∧ W.cell? ⟨r.RB, 2, none⟩ = some (.slice (some ⟨r.sB, r.so, none⟩) N r.sc) ∧ W.cell? ⟨r.sB, r.so + i * 3, none⟩ = some (.slice a vn va) ∧ W.cell? ⟨r.sB, r.so + i * 3 + 1, none⟩ = some (.int .i64 T.sent) ∧ W.cell? ⟨r.sB, r.so + i * 3 + 2, none⟩ = some (.int .i64 T.drawn) := fun W hW =>
            ⟨by rw [← hvn]; exact hW.cell (hbZ.cell 0), hW.cell (hbZ.cell 1), hW.cell (hbZ.cell 2), (n7.step hW).cell B2.out, by rw [← hvn]; exact (n7.step hW).cell q0, (n7.step hW).cell q1, (n7.step hW).cell q2⟩
          have HSS := Lib.hid hss
          have hb2 := n7.cell B2.out
          rw [hvn] at KSS hw7 hTl
          have HW7 := Lib.hid hw7
          have HZB := Lib.hid hZB
          have HBZ := Lib.hid hbZ
          have HO7 := Lib.hid ho7
          have N7 := Lib.hid n7
          have HFR := Lib.hid hfr'
          have HSZ := Lib.hid hsz
          have HVN := Lib.hid hvn
          rw [hvn]
          have l1 : (((i + 1 : Nat) : Int) < 1) = False := by simp; omega
          have l2 : ((N : Int) < ((i + 1 : Nat) : Int)) = False := by simp; omega
          have k1 : IntKind.i64.wrap (((i + 1 : Nat) : Int) - 1) = (i : Int) := by rw [show (((i + 1 : Nat) : Int) - 1) = (i : Int) by omega]; exact IntWalk.i64_in _ (by constructor <;> omega)
          have k2 : (0 : Int) ≤ (i : Int) := by omega
          have k3 : (i : Int) < (N : Int) := by omega
          have k4 : IntKind.i64.wrap (i : Int) = (i : Int) := IntWalk.i64_in _ (by constructor <;> omega)
          have k5 : IntKind.i64.wrap ((i : Int) + 1 - 1) = (i : Int) := by rw [Int.add_sub_cancel]; exact k4
          have HHK := Lib.hid hk
          clear hin ho hfr n6 hst hsts q0 q1 q2 hrs hT hw7 hZB hbZ n67 n7 ho7 hA7 ha7 hsz hfr' hss hvn hk g4
          go_upto_region 11 with (fail)
          rw [HW7.out, HZB.out]
          go_upto_region 14 with (fail)
          clear hb2 l1 l2
          refine wp_region_F (fun W => W.cell? ⟨ZB, 0, none⟩ = some (.slice A vn c) ∧ W.cell? ⟨ZB, 1, none⟩ = some (.int .i64 T.sent) ∧ W.cell? ⟨ZB, 2, none⟩ = some (.int .i64 T.drawn) ∧ W.cell? ⟨r.RB, 2, none⟩ = some (.slice (some ⟨r.sB, r.so, none⟩) N r.sc) ∧ W.cell? ⟨r.sB, r.so + i * 3, none⟩ = some (.slice a vn va) ∧ W.cell? ⟨r.sB, r.so + i * 3 + 1, none⟩ = some (.int .i64 T.sent) ∧ W.cell? ⟨r.sB, r.so + i * 3 + 2, none⟩ = some (.int .i64 T.drawn)) [14] (by kernel_rfl) ?_
          have hS := HSS.out w7.drew (Nw.refl w7).drew
          refine wpAnyF_takeT (i := 0) (v := ?_) rfl (by kernel_rfl) (by kernel_rfl) (by kernel_rfl) (by kernel_rfl) (by kernel_rfl) (by kernel_rfl) (fun _ _ _ h => h) (by rfl) ?_ hS ?_
          rotate_left
          · intro u hu
            try dsimp only at hu
            go_simp
            try with_reducible rfl
          try simp only [List.getElem_toArray, List.getElem_cons_succ, List.getElem_cons_zero, Act.put, List.setIfInBounds_toArray, List.set_cons_zero, List.set_cons_succ]
          refine wpAnyF_takeT (i := 1) (v := ?_) rfl (by kernel_rfl) (by kernel_rfl) (by kernel_rfl) (by kernel_rfl) (by kernel_rfl) (by kernel_rfl) (fun _ _ _ h => h) (by rfl) ?_ hS ?_
          rotate_left
          · intro u hu
            try dsimp only at hu
            go_simp
            try with_reducible rfl
          try simp only [List.getElem_toArray, List.getElem_cons_succ, List.getElem_cons_zero, Act.put, List.setIfInBounds_toArray, List.set_cons_zero, List.set_cons_succ]
          refine wpAnyF_takeT (i := 2) (v := ?_) rfl (by kernel_rfl) (by kernel_rfl) (by kernel_rfl) (by kernel_rfl) (by kernel_rfl) (by kernel_rfl) (fun _ _ _ h => h) (by rfl) ?_ hS ?_
          rotate_left
          · intro u hu
            try dsimp only at hu
            go_simp
            try with_reducible rfl
          try simp only [List.getElem_toArray, List.getElem_cons_succ, List.getElem_cons_zero, Act.put, List.setIfInBounds_toArray, List.set_cons_zero, List.set_cons_succ]
          refine wpAnyF_takeT (i := 3) (v := ?_) rfl (by kernel_rfl) (by kernel_rfl) (by kernel_rfl) (by kernel_rfl) (by kernel_rfl) (by kernel_rfl) (fun _ _ _ h => h) (by rfl) ?_ hS ?_
          rotate_left
          · intro u hu
            try dsimp only at hu
            go_simp
            try with_reducible rfl
          try simp only [List.getElem_toArray, List.getElem_cons_succ, List.getElem_cons_zero, Act.put, List.setIfInBounds_toArray, List.set_cons_zero, List.set_cons_succ]
          refine wpAnyF_takeT (i := 4) (v := ?_) rfl (by kernel_rfl) (by kernel_rfl) (by kernel_rfl) (by kernel_rfl) (by kernel_rfl) (by kernel_rfl) (fun _ _ _ h => h) (by rfl) ?_ hS ?_
          rotate_left
          · intro u hu
            try dsimp only at hu
            go_simp
            try with_reducible rfl
          try simp only [List.getElem_toArray, List.getElem_cons_succ, List.getElem_cons_zero, Act.put, List.setIfInBounds_toArray, List.set_cons_zero, List.set_cons_succ]
          refine wpAnyF_takeT (i := 5) (v := ?_) rfl (by kernel_rfl) (by kernel_rfl) (by kernel_rfl) (by kernel_rfl) (by kernel_rfl) (by kernel_rfl) (fun _ _ _ h => h) (by rfl) ?_ hS ?_
          rotate_left
          · intro u hu
            try dsimp only at hu
            go_simp
            try with_reducible rfl
          try simp only [List.getElem_toArray, List.getElem_cons_succ, List.getElem_cons_zero, Act.put, List.setIfInBounds_toArray, List.set_cons_zero, List.set_cons_succ]
          refine wpAnyF_takeT (i := 6) (v := ?_) rfl (by kernel_rfl) (by kernel_rfl) (by kernel_rfl) (by kernel_rfl) (by kernel_rfl) (by kernel_rfl) (fun _ _ _ h => h) (by rfl) ?_ hS ?_
          rotate_left
          · intro u hu
            try dsimp only at hu
            go_simp
            try with_reducible rfl
          try simp only [List.getElem_toArray, List.getElem_cons_succ, List.getElem_cons_zero, Act.put, List.setIfInBounds_toArray, List.set_cons_zero, List.set_cons_succ]
          refine wpAnyF_takeT (i := 7) (v := ?_) rfl (by kernel_rfl) (by kernel_rfl) (by kernel_rfl) (by kernel_rfl) (by kernel_rfl) (by kernel_rfl) (fun _ _ _ h => h) (by rfl) ?_ hS ?_
          rotate_left
          · intro u hu
            try dsimp only at hu
            go_simp
            try with_reducible rfl
          try simp only [List.getElem_toArray, List.getElem_cons_succ, List.getElem_cons_zero, Act.put, List.setIfInBounds_toArray, List.set_cons_zero, List.set_cons_succ]
          refine wpAnyF_takeT (i := 8) (v := ?_) rfl (by kernel_rfl) (by kernel_rfl) (by kernel_rfl) (by kernel_rfl) (by kernel_rfl) (by kernel_rfl) (fun _ _ _ h => h) (by rfl) ?_ hS ?_
          rotate_left
          · intro u hu
            try dsimp only at hu
            go_simp
            try with_reducible rfl
          try simp only [List.getElem_toArray, List.getElem_cons_succ, List.getElem_cons_zero, Act.put, List.setIfInBounds_toArray, List.set_cons_zero, List.set_cons_succ]
          refine wpAnyF_takeT (i := 9) (v := ?_) rfl (by kernel_rfl) (by kernel_rfl) (by kernel_rfl) (by kernel_rfl) (by kernel_rfl) (by kernel_rfl) (fun _ _ _ h => h) (by rfl) ?_ hS ?_
          rotate_left
          · intro u hu
            try dsimp only at hu
            go_simp
            try with_reducible rfl
          try simp only [List.getElem_toArray, List.getElem_cons_succ, List.getElem_cons_zero, Act.put, List.setIfInBounds_toArray, List.set_cons_zero, List.set_cons_succ]
          refine wpAnyF_takeT (i := 10) (v := ?_) rfl (by kernel_rfl) (by kernel_rfl) (by kernel_rfl) (by kernel_rfl) (by kernel_rfl) (by kernel_rfl) (fun _ _ _ h => h) (by rfl) ?_ hS ?_
          rotate_left
          · intro u hu
            try dsimp only at hu
            go_simp
            try with_reducible rfl
          try simp only [List.getElem_toArray, List.getElem_cons_succ, List.getElem_cons_zero, Act.put, List.setIfInBounds_toArray, List.set_cons_zero, List.set_cons_succ]
          refine wpAnyF_takeT (i := 11) (v := ?_) rfl (by kernel_rfl) (by kernel_rfl) (by kernel_rfl) (by kernel_rfl) (by kernel_rfl) (by kernel_rfl) (fun _ _ _ h => h) (by rfl) ?_ hS ?_
          rotate_left
          · intro u hu
            try dsimp only at hu
            go_simp
            try with_reducible rfl
          try simp only [List.getElem_toArray, List.getElem_cons_succ, List.getElem_cons_zero, Act.put, List.setIfInBounds_toArray, List.set_cons_zero, List.set_cons_succ]
          refine wpAnyF_step (i := 12) (by kernel_rfl) rfl (by rfl) fun K hK => ?_
          go_simp
          go_at_call 36
          refine (KSS.out w7.drew (Nw.refl w7).drew).mono ?_
          rintro x w8 ⟨rfl, b8⟩
          have N8 := Lib.hid (show Nw w7 w8 from (Nw.refl w7).drew.step b8)
          clear b8
          have hS := HSS.out w8 N8.out
          refine hK _ _ (.inr (HSS.out w8 N8.out)) ?_
          clear hK K
          try simp only [List.getElem_toArray, List.getElem_cons_succ, List.getElem_cons_zero, Act.put, List.setIfInBounds_toArray, List.set_cons_zero, List.set_cons_succ]
          refine wpAnyF_step (i := 13) (by kernel_rfl) rfl (by rfl) fun K hK => ?_
          go_simp
          refine hK _ _ (.inr hS) ?_
          clear hK K
          try simp only [List.getElem_toArray, List.getElem_cons_succ, List.getElem_cons_zero, Act.put, List.setIfInBounds_toArray, List.set_cons_zero, List.set_cons_succ]
          refine wpAnyF_step (i := 14) (by kernel_rfl) rfl (by rfl) fun K hK => ?_
          go_simp
          refine hK _ _ (.inl (by kernel_rfl)) ?_
          clear hK K
          try simp only [List.getElem_toArray, List.getElem_cons_succ, List.getElem_cons_zero, Act.put, List.setIfInBounds_toArray, List.set_cons_zero, List.set_cons_succ]
          refine wpAnyF_done (by kernel_rfl) ?_ _
          have hz8 := HBZ.out.below N8.out HBZ.out.lt
          rw [HVN.out] at hz8
          have hI0 : Nw w w8 ∧ Blk w8 ZB 65 #[.slice A vn c, .int .i64 T.sent, .int .i64 T.drawn] ∧ (vn = 0 ∨ ∃ g off cs, A = some ⟨g, off, none⟩ ∧ w.heap.size ≤ g ∧ Blk w8 g 2 cs ∧ ∀ j, j < vn → ∃ z : Int, cs[off + j]? = some (.int .i64 z)) := by
            refine ⟨N7.out.step N8.out, hz8, ?_⟩
            by_cases h0 : vn = 0
            · exact .inl h0
            · have ho8 := HO7.out.kept fun g hg => N8.out.block g (HO7.out.lt g hg)
              obtain ⟨g, off, cs, eA, eb, hg, hcs⟩ := own_at ho8 (by have := HVN.out; omega)
              refine .inr ⟨g, off, cs, eA, HFR.out g eb, hg, fun j hj => ?_⟩
              rw [hcs j (by have := HVN.out; omega)]
              exact ⟨T.vars.getD j 0, by simp [ints, List.getD_eq_getElem?_getD, show j < T.vars.length by have := HVN.out; omega]⟩
          have HI0 := Lib.hid hI0
          clear hz8 hI0 k1 k2 k3 k4 k5
          go_wp2_with fail
          go_loopw [11] (fun i wr => ∃ q : Nat, q ≤ vn ∧ i = .int .i64 q ∧ Hid (Nw w wr ∧ Blk wr ZB 65 #[.slice A vn c, .int .i64 T.sent, .int .i64 T.drawn] ∧ (vn = 0 ∨ ∃ g off cs, A = some ⟨g, off, none⟩ ∧ w.heap.size ≤ g ∧ Blk wr g 2 cs ∧ ∀ j, j < vn → ∃ z : Int, cs[off + j]? = some (.int .i64 z)))) (fun i _ => vn - (intOf i).toNat)
          case atStart => exact ⟨0, Nat.zero_le _, rfl, HI0⟩
          case round =>
            obtain ⟨q, hq, rfl, HJ⟩ := hrel
            have z0 : wr.cell? ⟨ZB, 0, none⟩ = some (.slice A vn c) := HJ.out.2.1.cell 0
            by_cases hlt : q < vn
            · have g5 : (q : Int) < (vn : Int) := by omega
              obtain ⟨hnw, hbz, h0 | ⟨g, off, cs, eA, hge, hg, hcs⟩⟩ := HJ.out
              · omega
              · obtain ⟨z, hz⟩ := hcs q hlt
                have cz : wr.cell? ⟨g, off + q, none⟩ = some (.int .i64 z) := (hg.cell _).trans hz
                have fz := hg.frozen (off + q)
                have HNW := Lib.hid hnw
                have HBZ' := Lib.hid hbz
                have HG := Lib.hid hg
                have HCS := Lib.hid hcs
                have HGE := Lib.hid hge
                have HZ := Lib.hid hz
                have hne : ¬ ZB = g := hbz.ne_ hg (by decide)
                have HNE := Lib.hid hne
                have HEA := Lib.hid eA
                rw [eA] at z0
                clear hnw hbz hg hcs hge hz eA HJ
                go_wp2_with fail
                go_roundw
                case rel =>
                  refine ⟨q + 1, by omega, by go_num, Lib.hid ⟨HNW.out.set HGE.out _, HBZ'.out.far (show ZB ≠ g from HNE.out) _, .inr ⟨g, off, _, HEA.out, HGE.out, HG.out.set_ _ _, fun j hj => ?_⟩⟩⟩
                  by_cases e : j = q
                  · subst e
                    have hsz : off + j < cs.size := by
                      rcases Nat.lt_or_ge (off + j) cs.size with h | h
                      · exact h
                      · have := HZ.out; rw [Array.getElem?_eq_none h] at this; cases this
                    exact ⟨_, set_same _ hsz⟩
                  · obtain ⟨z', hz'⟩ := HCS.out j hj
                    exact ⟨z', (set_other _ (by omega)).trans hz'⟩
                case measure => simp [intOf]; omega
            · have g5 : ¬ (q : Int) < (vn : Int) := by omega
              have HNW := Lib.hid HJ.out.1
              clear HJ
              go_wp2_with fail
              go_roundw
              case rel => exact ⟨i + 1 + 1, by omega, by go_num, HNW⟩
              case measure => simp [intOf]; omega
        · rw [if_neg hin] at hout
          obtain ⟨rfl, n6⟩ := hout
          unfold stV
          have N6 := Lib.hid (NR.out.step n6)
          have b2 := N6.out.cell B2.out
          have hin' := hin
          rw [HN.out] at hin'
          have b2' := ((Nw.refl w6).alloc (.cells #[.slice none 0 0, .int .i64 0, .int .i64 0] 65)).cell b2
          clear n6 b2
          by_cases h1 : (k : Int) < 1
          · go_wp2_with fail
            go_roundw
            case rel => exact ⟨k + 1, by omega, by go_num, Lib.hid (N6.out.alloc _)⟩
            case measure => simp [intOf]; omega
          · have h2 : (N : Int) < (k : Int) := by omega
            go_wp2_with fail
            go_roundw
            case rel => exact ⟨k + 1, by omega, by go_num, Lib.hid (N6.out.alloc _)⟩
            case measure => simp [intOf]; omega
      · have g4 : ¬ (k : Int) ≤ (N : Int) + 1 := by omega
        go_wp2_with fail
        go_ret
        exact ⟨rfl, NR.out⟩
end
end Go.Proofs.Ytgijkgngldfdiaa
