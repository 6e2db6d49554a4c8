/- Messages: what known() encodes. Helper. -/
import Derived.Test.YtnbcjjgilndlaaaRdEncQ
import Derived.Test.YtnbcjjgilndlaaaRdDecS
import Derived.Test.YtnbcjjgilndlaaaRdSameS
import Derived.Test.YtnbcjjgilndlaaaRdReg
namespace Go.Proofs.Ytnbcjjgilndlaaa
open Go.RowKit
set_option linter.unusedVariables false
set_option linter.unusedSimpArgs false
set_option maxRecDepth 100000
set_option maxHeartbeats 6400000
theorem beN_beW1 (v : Int) (hv : 0 ≤ v ∧ v ≤ 16) : (beN (beW v 1) : Int) = v := by
  simp only [beW, beN, List.foldl_cons, List.foldl_nil]
  have h0 := byteOf_cell v 0
  rw [IntKind.wrap_u8] at h0
  simp only [Nat.mul_zero, Int.reducePow] at h0
  omega
theorem cloneNil (w : World) : Calls Try.prog 39 #[.slice none 0 0] w fun e w' => e = .returned (.slice none 0 0) ∧ Nw w w' := by
  have hq : ∀ W, (binOp .eql 38 (.slice none 0 0) (.slice none 0 0)).run Try.prog W = .ok (.bool true) W := fun W => rfl
  go_enter Try.func39, Try.ntmps39
  go_wp2_with fail
  go_ret
  exact ⟨rfl, Nw.refl w⟩
theorem encErr (w : World) (v : Int) (hv : 0 ≤ v ∧ v ≤ 16) :
    Calls Try.prog 21 #[.agg #[.int .i64 5, .int .u32 0, .int .i64 v, .int .i64 0, .slice none 0 0, .int .i64 0, .int .i64 0, .int .i64 0, .int .i64 0, .int .i64 0, .int .i64 0, .int .u32 0, .int .i64 0, .int .i64 0, .int .i64 0, .int .i64 0, .int .i64 0, .int .i64 0]] w fun e w' => ∃ A c, e = .returned (.tuple #[.slice A 2 c, .int .i64 0]) ∧ BytesAt w' A (5 :: beW v 1) ∧ 2 ≤ c ∧ Nw w w' := by
  obtain ⟨w1, hw1⟩ : ∃ w1, w.alloc (.cells #[.int .i64 5, .int .u32 0, .int .i64 v, .int .i64 0, .slice none 0 0, .int .i64 0, .int .i64 0, .int .i64 0, .int .i64 0, .int .i64 0, .int .i64 0, .int .u32 0, .int .i64 0, .int .i64 0, .int .i64 0, .int .i64 0, .int .i64 0, .int .i64 0] 42) = w1 := ⟨_, rfl⟩
  have hM : Blk w1 w.heap.size 42 #[.int .i64 5, .int .u32 0, .int .i64 v, .int .i64 0, .slice none 0 0, .int .i64 0, .int .i64 0, .int .i64 0, .int .i64 0, .int .i64 0, .int .i64 0, .int .u32 0, .int .i64 0, .int .i64 0, .int .i64 0, .int .i64 0, .int .i64 0, .int .i64 0] := by rw [← hw1]; exact Blk.last w _ _ rfl
  have n1 : Nw w w1 := by rw [← hw1]; exact (Nw.refl w).alloc _
  have s1 : w1.heap.size = w.heap.size + 1 := by rw [← hw1]; simp
  have k0 : w1.cell? ⟨w.heap.size, 0, none⟩ = some (.int .i64 5) := (hM.cell 0).trans rfl
  have HW1 := Lib.hid hw1
  have HM := Lib.hid hM
  have N1 := Lib.hid n1
  have S1 := Lib.hid s1
  have HV := Lib.hid hv
  have KA := Lib.hid (fun (W : World) (hs : W.heap.size = w.heap.size + 1) => by have := tells_any W; rw [hs] at this; exact this)
  clear hw1 hM n1 s1 hv
  go_enter Try.func21, Try.ntmps21
  go_upto_region 1 with (fail)
  rw [HW1.out]
  go_cut [4, 5] from 10 to 17 (fun s4 s5 wx => s4 = .slice (some ⟨w.heap.size + 1 + 5, 0, none⟩) 1 1 ∧ s5 = .bool true ∧ Hid (Nw w1 wx ∧ tellsAt wx (w.heap.size + 1)))
  case first =>
   as_aux_lemma =>
    go_region_with (go_at_call 31; refine (KA.out w1.drew S1.out).mono ?_; rintro e w4 ⟨rfl, h4, b4⟩; have i4 : Nw w1 w4 := Nw.step (show Nw w1 w1.drew from (Nw.refl w1).drew) (by have hs : w1.drew.heap.size = w.heap.size + 1 := S1.out; rw [hs]; exact b4); have kk := i4.cell k0; have lk := look_run Try.underlying80 Try.underlying37 h4.tab 5 _ _ rfl; have H4 := Lib.hid h4; have I4 := Lib.hid i4; clear h4 i4 b4)
    all_goals
      go_wp2_with fail
      go_meet
      exact ⟨rfl, rfl, Lib.hid ⟨I4.out, H4.out⟩⟩
  case rest =>
    obtain ⟨rfl, rfl, HX⟩ := hcut
    obtain ⟨d, hd⟩ := stRs
    have HD := Lib.hid hd
    have HI := Lib.hid (show (Try.prog.info? 42).map (·.size) = some (#[.int .i64 5, .int .u32 0, .int .i64 v, .int .i64 0, .slice none 0 0, .int .i64 0, .int .i64 0, .int .i64 0, .int .i64 0, .int .i64 0, .int .i64 0, .int .u32 0, .int .i64 0, .int .i64 0, .int .i64 0, .int .i64 0, .int .i64 0, .int .i64 0] : Array Value).size by kernel_rfl)
    have H1 := Lib.hid (show (#[.int .i64 5, .int .u32 0, .int .i64 v, .int .i64 0, .slice none 0 0, .int .i64 0, .int .i64 0, .int .i64 0, .int .i64 0, .int .i64 0, .int .i64 0, .int .u32 0, .int .i64 0, .int .i64 0, .int .i64 0, .int .i64 0, .int .i64 0, .int .i64 0] : Array Value).all (·.oneCell') = true by simp [Value.oneCell'])
    have HQ := Lib.hid (show Blk wc w.heap.size 42 #[.int .i64 5, .int .u32 0, .int .i64 v, .int .i64 0, .slice none 0 0, .int .i64 0, .int .i64 0, .int .i64 0, .int .i64 0, .int .i64 0, .int .i64 0, .int .u32 0, .int .i64 0, .int .i64 0, .int .i64 0, .int .i64 0, .int .i64 0, .int .i64 0] from HM.out.below HX.out.1 HM.out.lt)
    have HEN := Lib.hid (show Nw w wc from N1.out.trans (HX.out.1.mono N1.out.size))
    have HTB := Lib.hid (HX.out.2.p5)
    clear k0 hd
    go_upto_region 3 with (first | (refine wpList_load_row rfl 42 _ rfl w.heap.size rfl 42 #[.int .i64 5, .int .u32 0, .int .i64 v, .int .i64 0, .slice none 0 0, .int .i64 0, .int .i64 0, .int .i64 0, .int .i64 0, .int .i64 0, .int .i64 0, .int .u32 0, .int .i64 0, .int .i64 0, .int .i64 0, .int .i64 0, .int .i64 0, .int .i64 0] (0, 0) (.struct d) HQ.out HD.out rfl HI.out ?_) | (refine wpList_store_row rfl 42 _ _ rfl wc.heap.size #[.int .i64 5, .int .u32 0, .int .i64 v, .int .i64 0, .slice none 0 0, .int .i64 0, .int .i64 0, .int .i64 0, .int .i64 0, .int .i64 0, .int .i64 0, .int .u32 0, .int .i64 0, .int .i64 0, .int .i64 0, .int .i64 0, .int .i64 0, .int .i64 0] rfl rfl 42 _ (heap_last _ _ rfl) HI.out rfl H1.out ?_; rw [World.setRow_alloc_new]))
    obtain ⟨w2, hw2⟩ : ∃ w2, wc.alloc (.cells #[.int .i64 5, .int .u32 0, .int .i64 v, .int .i64 0, .slice none 0 0, .int .i64 0, .int .i64 0, .int .i64 0, .int .i64 0, .int .i64 0, .int .i64 0, .int .u32 0, .int .i64 0, .int .i64 0, .int .i64 0, .int .i64 0, .int .i64 0, .int .i64 0] 42) = w2 := ⟨_, rfl⟩
    obtain ⟨M, hMe⟩ : ∃ M, wc.heap.size = M := ⟨_, rfl⟩
    rw [hw2, hMe]
    have n2 : Nw wc w2 := by rw [← hw2]; exact (Nw.refl wc).alloc _
    have hM2 : Blk w2 M 42 #[.int .i64 5, .int .u32 0, .int .i64 v, .int .i64 0, .slice none 0 0, .int .i64 0, .int .i64 0, .int .i64 0, .int .i64 0, .int .i64 0, .int .i64 0, .int .u32 0, .int .i64 0, .int .i64 0, .int .i64 0, .int .i64 0, .int .i64 0, .int .i64 0] := by rw [← hw2]; exact Blk.last wc _ _ hMe
    have hQ2 : Blk w2 w.heap.size 42 #[.int .i64 5, .int .u32 0, .int .i64 v, .int .i64 0, .slice none 0 0, .int .i64 0, .int .i64 0, .int .i64 0, .int .i64 0, .int .i64 0, .int .i64 0, .int .u32 0, .int .i64 0, .int .i64 0, .int .i64 0, .int .i64 0, .int .i64 0, .int .i64 0] := HQ.out.below n2 HQ.out.lt
    have hT2 : Blk w2 (w.heap.size + 1 + 5) 116 #[.func (.func 66) #[] #[]] := HTB.out.below n2 HTB.out.lt
    have hlo : w.heap.size + 1 + 5 < M := by rw [← hMe]; exact HTB.out.lt
    have c4 : w2.cell? ⟨w.heap.size, 4, none⟩ = some (.slice none 0 0) := (hQ2.cell 4).trans rfl
    have HM2 := Lib.hid hM2
    have HQ2 := Lib.hid hQ2
    have HT2 := Lib.hid hT2
    have HLO := Lib.hid hlo
    have HN2 := Lib.hid (show Nw w w2 from HEN.out.trans (n2.mono HEN.out.size))
    clear hw2 hMe n2 hM2 hQ2 hT2 hlo
    go_wp2_with fail
    refine (cloneNil w2).mono ?_
    rintro e w3 ⟨rfl, n3⟩
    have hM3 : Blk w3 M 42 #[.int .i64 5, .int .u32 0, .int .i64 v, .int .i64 0, .slice none 0 0, .int .i64 0, .int .i64 0, .int .i64 0, .int .i64 0, .int .i64 0, .int .i64 0, .int .u32 0, .int .i64 0, .int .i64 0, .int .i64 0, .int .i64 0, .int .i64 0, .int .i64 0] := HM2.out.below n3 HM2.out.lt
    have d4 : w3.cell? ⟨M, 4, none⟩ = some (.slice none 0 0) := (hM3.cell 4).trans rfl
    have z4 := hM3.frozen 4
    have HM3 := Lib.hid hM3
    have N3 := Lib.hid n3
    clear hM3 n3 c4
    go_upto_region 4 with (fail)
    obtain ⟨w4, hw4⟩ : ∃ w4, w3.setCell ⟨M, 4, none⟩ (.slice none 0 0) = w4 := ⟨_, rfl⟩
    rw [hw4]
    have hM4 : Blk w4 M 42 #[.int .i64 5, .int .u32 0, .int .i64 v, .int .i64 0, .slice none 0 0, .int .i64 0, .int .i64 0, .int .i64 0, .int .i64 0, .int .i64 0, .int .i64 0, .int .u32 0, .int .i64 0, .int .i64 0, .int .i64 0, .int .i64 0, .int .i64 0, .int .i64 0] := by rw [← hw4]; exact HM3.out.set_ 4 _
    have hlo := HLO.out
    have hQ4 : Blk w4 w.heap.size 42 #[.int .i64 5, .int .u32 0, .int .i64 v, .int .i64 0, .slice none 0 0, .int .i64 0, .int .i64 0, .int .i64 0, .int .i64 0, .int .i64 0, .int .i64 0, .int .u32 0, .int .i64 0, .int .i64 0, .int .i64 0, .int .i64 0, .int .i64 0, .int .i64 0] := by rw [← hw4]; exact (HQ2.out.below N3.out HQ2.out.lt).far (p := ⟨M, 4, none⟩) (by show w.heap.size ≠ M; omega) _
    have hT4 : Blk w4 (w.heap.size + 1 + 5) 116 #[.func (.func 66) #[] #[]] := by rw [← hw4]; exact (HT2.out.below N3.out HT2.out.lt).far (p := ⟨M, 4, none⟩) (by show w.heap.size + 1 + 5 ≠ M; omega) _
    have hn4 : Nw w w4 := by rw [← hw4]; exact Nw.set (HN2.out.trans (N3.out.mono HN2.out.size)) (by show w.heap.size ≤ M; omega) _
    have e0 : w4.cell? ⟨w.heap.size, 0, none⟩ = some (.int .i64 5) := (hQ4.cell 0).trans rfl
    have HM4 := Lib.hid hM4
    have HQ4 := Lib.hid hQ4
    have HT4 := Lib.hid hT4
    have HN4 := Lib.hid hn4
    clear hw4 hM4 hlo hQ4 hT4 hn4 d4 z4
    go_upto_region 5 with (fail)
    obtain ⟨wc, hwc⟩ : ∃ W, (w4.alloc (.cells #[.int .u8 ((5 : UInt8).toNat : Int)] 5)).alloc (.cells #[.slice (some ⟨w4.heap.size, 0, none⟩) 1 1, .bool false] 76) = W := ⟨_, rfl⟩
    have HE := Lib.hid (show Enc w wc 42 116 (w.heap.size + 1 + 5) 66 #[.int .i64 5, .int .u32 0, .int .i64 v, .int .i64 0, .slice none 0 0, .int .i64 0, .int .i64 0, .int .i64 0, .int .i64 0, .int .i64 0, .int .i64 0, .int .u32 0, .int .i64 0, .int .i64 0, .int .i64 0, .int .i64 0, .int .i64 0, .int .i64 0] 5 (w4.heap.size + 1) M (some w4.heap.size) by
      have hm := HM4.out.lt
      have hlo := HLO.out
      rw [← hwc]
      refine ⟨⟨some ⟨w4.heap.size, 0, none⟩, 1, Blk.last _ _ _ (by simp), (own7 w4 5 rfl).kept fun g hg => ?_⟩, (HM4.out.alloc _).alloc _, by omega, (HN4.out.alloc _).alloc _, (HT4.out.alloc _).alloc _, (HQ4.out.alloc _).alloc _, by omega, by omega, _, rfl, by omega⟩
      injection hg with hg
      rw [← hg]
      exact Below.heap_alloc _ _ _ (by simp))
    obtain ⟨P, hPe⟩ : ∃ P, w4.heap.size + 1 = P := ⟨_, rfl⟩
    obtain ⟨blk, hbk⟩ : ∃ blk, some w4.heap.size = blk := ⟨_, rfl⟩
    rw [hPe, hbk] at HE
    have HWC := Lib.hid hwc
    have HPE := Lib.hid hPe
    clear hwc hPe hbk e0
    rw [show (w4.alloc (.cells #[.int .u8 5] 5)).alloc (.cells #[.slice (some ⟨w4.heap.size, 0, none⟩) 1 1, .bool false] 76) = wc from HWC.out, HPE.out]
    as_aux_lemma =>
      have hsz : w.heap.size + 1 + 5 < wc.heap.size := HE.out.tabs.lt
      have hP := HE.out.p
      have hMP := HE.out.m
      have hne := HE.out.ne
      obtain ⟨g, hg1, hg2⟩ := HE.out.b
      have hst : WrSt (wc.alloc (.cells #[.bool false] 4)) (wc.alloc (.cells #[.bool false] 4)) P M 42 [5] blk blk #[.int .i64 5, .int .u32 0, .int .i64 v, .int .i64 0, .slice none 0 0, .int .i64 0, .int .i64 0, .int .i64 0, .int .i64 0, .int .i64 0, .int .i64 0, .int .u32 0, .int .i64 0, .int .i64 0, .int .i64 0, .int .i64 0, .int .i64 0, .int .i64 0] :=
        ⟨HE.out.pen.alloc _, .inl rfl, HE.out.msg.alloc _, hne, by decide, Chg.refl _ _⟩
      have KO := overR_any wc P M (w.heap.size + 1 + 5) 0 1 [66]
        (fun i W => (i = 0 ∧ WrSt (wc.alloc (.cells #[.bool false] 4)) W P M 42 [5] blk blk #[.int .i64 5, .int .u32 0, .int .i64 v, .int .i64 0, .slice none 0 0, .int .i64 0, .int .i64 0, .int .i64 0, .int .i64 0, .int .i64 0, .int .i64 0, .int .u32 0, .int .i64 0, .int .i64 0, .int .i64 0, .int .i64 0, .int .i64 0, .int .i64 0]) ∨ (i = 1 ∧ ∃ blk', WrSt (wc.alloc (.cells #[.bool false] 4)) W P M 42 ([5] ++ beW v 1) blk' blk #[.int .i64 5, .int .u32 0, .int .i64 v, .int .i64 0, .slice none 0 0, .int .i64 0, .int .i64 0, .int .i64 0, .int .i64 0, .int .i64 0, .int .i64 0, .int .u32 0, .int .i64 0, .int .i64 0, .int .i64 0, .int .i64 0, .int .i64 0, .int .i64 0]))
        (fun i h args W => by
          have : i = 0 := by simpa using h
          subst this
          exact enters_of Try.func66 (by kernel_rfl) rfl args W)
        (fun i W hq j hj => by
          have : j = 0 := by simpa using hj
          subst this
          have hch : Chg (fun i => i = P ∨ i = M ∨ some i = blk) (wc.alloc (.cells #[.bool false] 4)) W := hq.elim (fun h => h.2.chg) (fun h => h.2.elim fun _ h => h.chg)
          exact (((HE.out.tabs.alloc _).chg hch (by rw [hg1]; rintro (q | q | q) <;> first | omega | (injection q with q; omega))).cell 0).trans rfl)
        (.inl ⟨rfl, hst⟩)
        (fun i W hq => by
          have hch : Chg (fun i => i = P ∨ i = M ∨ some i = blk) (wc.alloc (.cells #[.bool false] 4)) W := hq.elim (fun h => h.2.chg) (fun h => h.2.elim fun _ h => h.chg)
          have e1 := HE.out.pen.lt
          have e2 := HE.out.msg.lt
          have hb : Blk W wc.heap.size 4 #[.bool false] := (Blk.last wc _ _ rfl).chg hch (by rintro (q | q | q) <;> first | omega | (have := HE.out.pen.blt _ q.symm; omega))
          exact ⟨(hb.cell 0).trans rfl, hb.frozen 0⟩)
        (fun i h W hq => by
          have : i = 0 := by simpa using h
          subst this
          rcases hq with ⟨_, hq⟩ | ⟨h, _⟩
          · exact (tellErr_wr _ W P M _ _ _ _ v hq rfl HV.out (by simp)).mono fun e w' ⟨h1, h2⟩ => ⟨h1, .inr ⟨rfl, h2⟩⟩
          · cases h)
        (fun W hq => by
          rcases hq with ⟨h, _⟩ | ⟨_, _, hq⟩
          · cases h
          · obtain ⟨A, c, h1, _⟩ := hq.pen
            exact ⟨A, _, c, (h1.cell 0).trans rfl, .inl ((h1.cell 1).trans rfl)⟩) (by simp)
      have KOV := Lib.hid KO
      have HPM := Lib.hid (And.intro hP (And.intro hMP hne))
      have HG := Lib.hid (And.intro hg1 hg2)
      clear KO hst hsz hP hMP hne hg1 hg2
      go_wp2_with fail
      refine KOV.out.mono ?_
      as_aux_lemma =>
        rintro e w6 ⟨rfl, W, hW, hw6⟩
        rcases hW with ⟨h, _⟩ | ⟨_, blk', hW⟩
        · cases h
        have hlow : w.heap.size < wc.heap.size := HE.out.own.lt
        have hch := hW.chg
        have e1 := HE.out.pen.lt
        have e2 := HE.out.msg.lt
        have hob : Blk W w.heap.size 42 #[.int .i64 5, .int .u32 0, .int .i64 v, .int .i64 0, .slice none 0 0, .int .i64 0, .int .i64 0, .int .i64 0, .int .i64 0, .int .i64 0, .int .i64 0, .int .u32 0, .int .i64 0, .int .i64 0, .int .i64 0, .int .i64 0, .int .i64 0, .int .i64 0] := (HE.out.own.alloc _).chg hch (by have := HPM.out; rw [HG.out.1]; have := HG.out.2; rintro (q | q | q) <;> first | omega | (injection q with q; omega))
        have ho6 : Blk w6 w.heap.size 42 #[.int .i64 5, .int .u32 0, .int .i64 v, .int .i64 0, .slice none 0 0, .int .i64 0, .int .i64 0, .int .i64 0, .int .i64 0, .int .i64 0, .int .i64 0, .int .u32 0, .int .i64 0, .int .i64 0, .int .i64 0, .int .i64 0, .int .i64 0, .int .i64 0] := by rw [hw6]; exact hob.far (p := ⟨wc.heap.size, 0, none⟩) (by show w.heap.size ≠ wc.heap.size; omega) _
        have hp6 : PenW w6 P ([5] ++ beW v 1) blk' := by
          rw [hw6]
          refine hW.pen.far (p := ⟨wc.heap.size, 0, none⟩) (by show P ≠ wc.heap.size; omega) ?_ _
          rcases hW.new with q | ⟨g, q, hg⟩
          · rw [q]; intro q2; have q3 := HE.out.pen.blt _ q2; exact absurd q3 (by show ¬ wc.heap.size < wc.heap.size; omega)
          · rw [q]; intro q2; injection q2 with q2; simp at hg; have q2 : g = wc.heap.size := q2; omega
        have hn6 : Nw w w6 := by
          have h1 : Below w.heap.size w (wc.alloc (.cells #[.bool false] 4)) := Below.alloc HE.out.nw (by omega) _
          have h2 : Below w.heap.size w W := h1.trans (hch.below (fun i hi hq => by have := HPM.out; have := HG.out.2; rw [HG.out.1] at hq; rcases hq with q | q | q <;> first | omega | (injection q with q; omega)) (by simp; omega))
          rw [hw6]
          exact Nw.set h2 (by show w.heap.size ≤ wc.heap.size; omega) _
        clear hW hw6 hch hob KOV e1 e2 hlow
        obtain ⟨A, c, hpb, hpo⟩ := hp6
        obtain ⟨A', c', e, hrd, hcc, _⟩ := hpo.rd
        injection e with e1 _ e3
        subst e1 e3
        have hlen : ([5] ++ beW v 1 : List UInt8).length = 2 := rfl
        rw [hlen] at hpb hcc
        have hby : BytesAt w6 A (5 :: beW v 1) := hrd
        have KD := Lib.hid (decErr w6 A c (beW v 1) hby rfl hcc (by have := beN_beW1 v HV.out; have := HV.out; omega))
        have p0 : w6.cell? ⟨P, 0, none⟩ = some (.slice A 2 c) := (hpb.cell 0).trans rfl
        have HPB := Lib.hid hpb
        have HBY := Lib.hid (And.intro hby hcc)
        have HO6 := Lib.hid ho6
        have HN6 := Lib.hid hn6
        clear hpb hpo hrd hcc hlen hby ho6 hn6
        go_wp2_with fail
        refine KD.out.mono ?_
        as_aux_lemma =>
          rintro e w7 ⟨rfl, n7⟩
          obtain ⟨w8, hw8⟩ : ∃ w8, w7.alloc (.cells #[.int .i64 5, .int .u32 0, .int .i64 (beN (beW v 1) : Int), .int .i64 0, .slice none 0 0, .int .i64 0, .int .i64 0, .int .i64 0, .int .i64 0, .int .i64 0, .int .i64 0, .int .u32 0, .int .i64 0, .int .i64 0, .int .i64 0, .int .i64 0, .int .i64 0, .int .i64 0] 42) = w8 := ⟨_, rfl⟩
          obtain ⟨B8, hB8⟩ : ∃ B8, w7.heap.size = B8 := ⟨_, rfl⟩
          have hb8 : Blk w8 B8 42 #[.int .i64 5, .int .u32 0, .int .i64 (beN (beW v 1) : Int), .int .i64 0, .slice none 0 0, .int .i64 0, .int .i64 0, .int .i64 0, .int .i64 0, .int .i64 0, .int .i64 0, .int .u32 0, .int .i64 0, .int .i64 0, .int .i64 0, .int .i64 0, .int .i64 0, .int .i64 0] := by rw [← hw8]; exact Blk.last w7 _ _ hB8
          have n78 : Nw w7 w8 := by rw [← hw8]; exact (Nw.refl w7).alloc _
          have n68 : Nw w6 w8 := Below.trans n7 (n78.mono n7.size)
          have ho8 : Blk w8 w.heap.size 42 #[.int .i64 5, .int .u32 0, .int .i64 v, .int .i64 0, .slice none 0 0, .int .i64 0, .int .i64 0, .int .i64 0, .int .i64 0, .int .i64 0, .int .i64 0, .int .u32 0, .int .i64 0, .int .i64 0, .int .i64 0, .int .i64 0, .int .i64 0, .int .i64 0] := HO6.out.below n68 HO6.out.lt
          have hp8 : Blk w8 P 76 #[.slice A 2 c, .bool false] := HPB.out.below n68 HPB.out.lt
          have HW8 := Lib.hid (And.intro hw8 hB8)
          have HP8 := Lib.hid hp8
          have HN8 := Lib.hid (show Nw w w8 from HN6.out.trans (n68.mono HN6.out.size))
          have HBY8 := Lib.hid (HBY.out.1.below n68 (Nat.le_refl _))
          obtain ⟨d8, hd8⟩ := stRs
          have HD8 := Lib.hid hd8
          have HB8 := Lib.hid hb8
          have HO8 := Lib.hid ho8
          have HI8 := Lib.hid (show (Try.prog.info? 42).map (·.size) = some (#[.int .i64 5, .int .u32 0, .int .i64 (beN (beW v 1) : Int), .int .i64 0, .slice none 0 0, .int .i64 0, .int .i64 0, .int .i64 0, .int .i64 0, .int .i64 0, .int .i64 0, .int .u32 0, .int .i64 0, .int .i64 0, .int .i64 0, .int .i64 0, .int .i64 0, .int .i64 0] : Array Value).size by kernel_rfl)
          have HJ8 := Lib.hid (show (Try.prog.info? 42).map (·.size) = some (#[.int .i64 5, .int .u32 0, .int .i64 v, .int .i64 0, .slice none 0 0, .int .i64 0, .int .i64 0, .int .i64 0, .int .i64 0, .int .i64 0, .int .i64 0, .int .u32 0, .int .i64 0, .int .i64 0, .int .i64 0, .int .i64 0, .int .i64 0, .int .i64 0] : Array Value).size by kernel_rfl)
          clear hd8
          clear hw8 hB8 hb8 n78 n68 ho8 hp8 p0
          go_upto_region 8 with (fail)
          rw [HW8.out.1, HW8.out.2]
          as_aux_lemma =>
            have KS := Lib.hid (by
              have h := sameRs_any w8 ⟨5, 0, (beN (beW v 1) : Int), 0, [], 0, 0, 0, 0, 0, 0, 0, 0, 0, 0, 0, 0, 0⟩ ⟨5, 0, v, 0, [], 0, 0, 0, 0, 0, 0, 0, 0, 0, 0, 0, 0, 0⟩ none none 0 0 (.inl rfl) (.inl rfl) (by simp) (by simp)
              rw [decide_eq_true (by rw [beN_beW1 v HV.out])] at h
              exact h)
            go_wp2_with (first | (refine wpList_load_row_g (by rfl) 42 _ rfl B8 rfl 42 #[.int .i64 5, .int .u32 0, .int .i64 (beN (beW v 1) : Int), .int .i64 0, .slice none 0 0, .int .i64 0, .int .i64 0, .int .i64 0, .int .i64 0, .int .i64 0, .int .i64 0, .int .u32 0, .int .i64 0, .int .i64 0, .int .i64 0, .int .i64 0, .int .i64 0, .int .i64 0] (0, 0) (.struct d8) HB8.out HD8.out rfl HI8.out ?_) | (refine wpList_load_row_g (by rfl) 42 _ rfl w.heap.size rfl 42 #[.int .i64 5, .int .u32 0, .int .i64 v, .int .i64 0, .slice none 0 0, .int .i64 0, .int .i64 0, .int .i64 0, .int .i64 0, .int .i64 0, .int .i64 0, .int .u32 0, .int .i64 0, .int .i64 0, .int .i64 0, .int .i64 0, .int .i64 0, .int .i64 0] (0, 0) (.struct d8) HO8.out HD8.out rfl HJ8.out ?_))
            refine KS.out.mono ?_
            as_aux_lemma =>
              rintro e w9 ⟨rfl, n9⟩
              have p9 : w9.cell? ⟨P, 0, none⟩ = some (.slice A 2 c) := n9.cell ((HP8.out.cell 0).trans rfl)
              have HN9 := Lib.hid (show Nw w w9 from HN8.out.trans (n9.mono HN8.out.size))
              have HB9 := Lib.hid (HBY8.out.below n9 (Nat.le_refl _))
              clear n9
              go_wp2_with fail
              go_ret2
              exact ⟨A, c, rfl, HB9.out, HBY.out.2, HN9.out⟩
end Go.Proofs.Ytnbcjjgilndlaaa
