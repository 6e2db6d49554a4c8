/- Messages: what known() decodes. Helper. -/
import Derived.Test.YtnbcjjgilndlaaaRdAsks
import Derived.Test.YtnbcjjgilndlaaaRdSm
import Derived.Test.YtnbcjjgilndlaaaRdOver
import Derived.Laws.Rows
import Derived.Laws.ResultCell
import Derived.Laws.CopyOwn
namespace Go.Proofs.Ytnbcjjgilndlaaa
open Go.RowKit
set_option linter.unusedVariables false
set_option linter.unusedSimpArgs false
set_option maxRecDepth 100000
set_option maxHeartbeats 6400000
theorem results_rowB {P : Program} {fn : Func} {p u : Tmp} {ty : TypeId} (h : fn.results = #[.cell p ty, .tmp u]) (tmps : Array Value) (w : World) (g : Nat) (t : TypeId) (cs : Array Value) (fr : Nat × Nat) {d : TypeDesc} (hst : ∃ x, d = .struct x)
    (hp : tmps.getD p undef = .pointer (some ⟨g, 0, none⟩)) (hg : w.heap[g]? = some (.cells cs t fr))
    (hu : P.underlying ty = some d) (hi : (P.info? ty).map (·.size) = some cs.size) :
    (results fn tmps).run P w = .ok (.tuple #[.agg cs, tmps.getD u undef]) w := by
  obtain ⟨x, rfl⟩ := hst
  have hp' : tmps[p]?.getD undef = .pointer (some ⟨g, 0, none⟩) := by simpa using hp
  simp [results, h, hp', asAddr, run_loadVar_row w g t ty cs fr _ hg hu rfl hi]
theorem stRq : ∃ d, Try.prog.underlying 33 = some (.struct d) := ⟨_, Try.underlying33⟩
theorem stRs : ∃ d, Try.prog.underlying 42 = some (.struct d) := ⟨_, Try.underlying42⟩
theorem decPause (w : World) (A : Option Addr) (c : Nat) (bs : List UInt8) (hb : BytesAt w A (7 :: bs)) (hl : bs.length = 4) (hc : 5 ≤ c) :
    Calls Try.prog 9 #[.slice A 5 c] w fun e w' => e = .returned (.tuple #[.agg #[.int .i64 7, .int .u32 (beN bs : Int), .int .i64 0, .slice none 0 0, .int .i64 0, .int .i64 0, .int .i64 0, .int .i64 0, .int .i64 0, .int .i64 0, .int .u32 0, .int .i64 0, .int .i64 0, .int .i64 0, .int .i64 0, .int .i64 0, .int .i64 0], .int .i64 0]) ∧ Nw w w' := by
  obtain ⟨b, off, rfl, hblt, c0⟩ := hb.get (k := 0) (by simp)
  simp only [List.getElem_cons_zero, Nat.add_zero] at c0
  have c0' : w.cell? ⟨b, off, none⟩ = some (.int .u8 7) := c0
  obtain ⟨w1, hw1⟩ : ∃ w1, (w.alloc (.cells #[.int .i64 0, .int .u32 0, .int .i64 0, .slice none 0 0, .int .i64 0, .int .i64 0, .int .i64 0, .int .i64 0, .int .i64 0, .int .i64 0, .int .u32 0, .int .i64 0, .int .i64 0, .int .i64 0, .int .i64 0, .int .i64 0, .int .i64 0] 33)).alloc (.cells #[.int .i64 7, .int .u32 0, .int .i64 0, .slice none 0 0, .int .i64 0, .int .i64 0, .int .i64 0, .int .i64 0, .int .i64 0, .int .i64 0, .int .u32 0, .int .i64 0, .int .i64 0, .int .i64 0, .int .i64 0, .int .i64 0, .int .i64 0] 33) = w1 := ⟨_, rfl⟩
  have hR : Blk w1 w.heap.size 33 #[.int .i64 0, .int .u32 0, .int .i64 0, .slice none 0 0, .int .i64 0, .int .i64 0, .int .i64 0, .int .i64 0, .int .i64 0, .int .i64 0, .int .u32 0, .int .i64 0, .int .i64 0, .int .i64 0, .int .i64 0, .int .i64 0, .int .i64 0] := by rw [← hw1]; exact (Blk.last w _ _ rfl).alloc _
  have hM : Blk w1 (w.heap.size + 1) 33 #[.int .i64 7, .int .u32 0, .int .i64 0, .slice none 0 0, .int .i64 0, .int .i64 0, .int .i64 0, .int .i64 0, .int .i64 0, .int .i64 0, .int .u32 0, .int .i64 0, .int .i64 0, .int .i64 0, .int .i64 0, .int .i64 0, .int .i64 0] := by rw [← hw1]; exact Blk.last _ _ _ (by simp)
  have n1 : Nw w w1 := by rw [← hw1]; exact ((Nw.refl w).alloc _).alloc _
  have s1 : w1.heap.size = w.heap.size + 2 := by rw [← hw1]; simp
  have k0 : w1.cell? ⟨w.heap.size + 1, 0, none⟩ = some (.int .i64 7) := (hM.cell 0).trans rfl
  have HW1 := Lib.hid hw1
  have HR := Lib.hid hR
  have HM := Lib.hid hM
  have N1 := Lib.hid n1
  have S1 := Lib.hid s1
  have HB := Lib.hid hb
  have HBL := Lib.hid hblt
  have HL := Lib.hid (And.intro hl (And.intro hc True.intro))
  have KA := Lib.hid (fun (W : World) (hs : W.heap.size = w.heap.size + 2) => by have := asks_any W; rw [hs] at this; exact this)
  obtain ⟨q1, hq1⟩ : ∃ q1 : Array Value, q1 = #[.int .i64 7, .int .u32 (beN bs : Int), .int .i64 0, .slice none 0 0, .int .i64 0, .int .i64 0, .int .i64 0, .int .i64 0, .int .i64 0, .int .i64 0, .int .u32 0, .int .i64 0, .int .i64 0, .int .i64 0, .int .i64 0, .int .i64 0, .int .i64 0] := ⟨_, rfl⟩
  have HQ1 := Lib.hid hq1
  rw [← hq1]
  clear hb hl hc c0 hw1 hR hM n1 s1 hq1
  go_enter Try.func9, Try.ntmps9
  go_upto_region 4 with (fail)
  rw [HW1.out]
  clear c0' hblt
  go_cut [5, 6] from 16 to 23 (fun s5 s6 wx => s5 = .slice (some ⟨w.heap.size + 2 + 7, 0, none⟩) 1 1 ∧ s6 = .bool true ∧ Hid (Nw w1 wx ∧ asksAt wx (w.heap.size + 2)))
  case first =>
    go_region_with (go_at_call 29; refine (KA.out w1.drew S1.out).mono ?_; rintro e w4 ⟨rfl, h4, b4⟩; have i4 : Nw w1 w4 := Nw.step (show Nw w1 w1.drew from (Nw.refl w1).drew) (by have hs : w1.drew.heap.size = w.heap.size + 2 := S1.out; rw [hs]; exact b4); have kk := i4.cell k0; have lk := look_run Try.underlying71 Try.underlying24 h4.tab 7 _ _ rfl; have H4 := Lib.hid h4; have I4 := Lib.hid i4; clear h4 i4 b4)
    all_goals
      go_wp2_with fail
      go_meet
      exact ⟨rfl, rfl, Lib.hid ⟨I4.out, H4.out⟩⟩
  case rest =>
    obtain ⟨rfl, rfl, HX⟩ := hcut
    have HWC := Lib.hid (show Nw w wc from N1.out.trans (HX.out.1.mono N1.out.size))
    have hc1 : ¬ (c : Int) = 1 := by have := HL.out; omega
    have hc2 : (1 : Int) ≤ (c : Int) := by have := HL.out; omega
    obtain ⟨wp, hwp⟩ : ∃ wp, wc.alloc (.cells #[.slice (some ⟨b, off + 1, none⟩) 4 (c - 1), .bool true] 76) = wp := ⟨_, rfl⟩
    obtain ⟨P, hPe⟩ : ∃ P, wc.heap.size = P := ⟨_, rfl⟩
    have hPb : Blk wp P 76 #[.slice (some ⟨b, off + 1, none⟩) 4 (c - 1), .bool true] := by rw [← hwp]; exact Blk.last wc _ _ hPe
    have hsz : wp.heap.size = P + 1 := by rw [← hwp, ← hPe]; simp
    have hlow : w.heap.size + 2 ≤ P := by rw [← hPe, ← S1.out]; exact HX.out.1.size
    have hcw : Nw wc wp := by rw [← hwp]; exact (Nw.refl wc).alloc _
    have hMp : Blk wp (w.heap.size + 1) 33 #[.int .i64 7, .int .u32 0, .int .i64 0, .slice none 0 0, .int .i64 0, .int .i64 0, .int .i64 0, .int .i64 0, .int .i64 0, .int .i64 0, .int .u32 0, .int .i64 0, .int .i64 0, .int .i64 0, .int .i64 0, .int .i64 0, .int .i64 0] := (HM.out.below HX.out.1 HM.out.lt).below hcw (HM.out.below HX.out.1 HM.out.lt).lt
    have hFp : Blk wp (w.heap.size + 2 + 7) 102 #[.func (.func 48) #[] #[]] := HX.out.2.p7.below hcw HX.out.2.p7.lt
    have hRp : Blk wp w.heap.size 33 #[.int .i64 0, .int .u32 0, .int .i64 0, .slice none 0 0, .int .i64 0, .int .i64 0, .int .i64 0, .int .i64 0, .int .i64 0, .int .i64 0, .int .u32 0, .int .i64 0, .int .i64 0, .int .i64 0, .int .i64 0, .int .i64 0, .int .i64 0] := (HR.out.below HX.out.1 HR.out.lt).below hcw (HR.out.below HX.out.1 HR.out.lt).lt
    have hfl : w.heap.size + 2 + 7 < P := by rw [← hPe]; exact HX.out.2.p7.lt
    have hst : RdSt (wp.alloc (.cells #[.bool false] 4)) (wp.alloc (.cells #[.bool false] 4)) P (w.heap.size + 1) 33 (some ⟨b, off + 1, none⟩) (c - 1) bs #[.int .i64 7, .int .u32 0, .int .i64 0, .slice none 0 0, .int .i64 0, .int .i64 0, .int .i64 0, .int .i64 0, .int .i64 0, .int .i64 0, .int .u32 0, .int .i64 0, .int .i64 0, .int .i64 0, .int .i64 0, .int .i64 0, .int .i64 0] := by
      refine ⟨by rw [HL.out.1]; exact hPb.alloc _, hMp.alloc _, ?_, by have := HL.out; omega, fun a ha => ?_, by omega, Chg.refl _ _⟩
      · have h1 := ((HB.out.below HWC.out (Nat.le_refl _)).below hcw (Nat.le_refl _)).below ((Below.refl _ wp).alloc (Nat.le_refl _) (.cells #[.bool false] 4)) (Nat.le_refl _)
        have h2 := h1.cut c (k := 1) (by simp) (by simp [HL.out.1]; have := HL.out; omega)
        rw [if_neg (by have := HL.out; omega)] at h2
        simpa [add_plain] using h2
      · injection ha with ha
        rw [← ha]
        have := HBL.out
        simp only [World.size_alloc, hsz]
        exact ⟨by show b ≠ P; omega, by show b ≠ w.heap.size + 1; omega, by show b < P + 1 + 1; omega⟩
    have KO := overQ_any wp P (w.heap.size + 1) (w.heap.size + 2 + 7) 0 1 [48]
      (fun i W => (i = 0 ∧ RdSt (wp.alloc (.cells #[.bool false] 4)) W P (w.heap.size + 1) 33 (some ⟨b, off + 1, none⟩) (c - 1) bs #[.int .i64 7, .int .u32 0, .int .i64 0, .slice none 0 0, .int .i64 0, .int .i64 0, .int .i64 0, .int .i64 0, .int .i64 0, .int .i64 0, .int .u32 0, .int .i64 0, .int .i64 0, .int .i64 0, .int .i64 0, .int .i64 0, .int .i64 0]) ∨ (i = 1 ∧ RdSt (wp.alloc (.cells #[.bool false] 4)) W P (w.heap.size + 1) 33 (cutA (some ⟨b, off + 1, none⟩) (c - 1) 4) (c - 1 - 4) (bs.drop 4) q1))
      (fun i h args W => by
        have : i = 0 := by simpa using h
        subst this
        exact enters_of Try.func48 (by kernel_rfl) rfl args W)
      (fun i W hq j hj => by
        have : j = 0 := by simpa using hj
        subst this
        have hch : Chg (fun i => i = P ∨ i = w.heap.size + 1) (wp.alloc (.cells #[.bool false] 4)) W := hq.elim (fun h => h.2.chg) (fun h => h.2.chg)
        exact (((hFp.alloc _).chg hch (by omega)).cell 0).trans rfl)
      (.inl ⟨rfl, hst⟩)
      (fun i W hq => by
        have hch : Chg (fun i => i = P ∨ i = w.heap.size + 1) (wp.alloc (.cells #[.bool false] 4)) W := hq.elim (fun h => h.2.chg) (fun h => h.2.chg)
        have hb : Blk W wp.heap.size 4 #[.bool false] := (Blk.last wp _ _ rfl).chg hch (by rw [hsz]; omega)
        exact ⟨(hb.cell 0).trans rfl, hb.frozen 0⟩)
      (fun i h W hq => by
        have : i = 0 := by simpa using h
        subst this
        rcases hq with ⟨_, hq⟩ | ⟨h, _⟩
        · refine (askId_rd _ W P (w.heap.size + 1) _ _ _ _ 0 hq rfl (by have := HL.out; omega)).mono fun e w' ⟨h1, h2⟩ => ⟨h1, .inr ⟨rfl, ?_⟩⟩
          have hbe : bs.take 4 = bs := List.take_of_length_le (by have := HL.out; omega)
          rw [hbe] at h2
          rw [HQ1.out]
          exact h2
        · cases h)
      (fun W hq => by
        rcases hq with ⟨h, _⟩ | ⟨_, hq⟩
        · cases h
        · refine ⟨_, _, _, (hq.pen.cell 0).trans rfl, .inr ⟨(hq.pen.cell 1).trans rfl, by simp [HL.out.1]⟩⟩) (by simp)
    have KOV := Lib.hid KO
    have HPE := Lib.hid (And.intro hPe hwp)
    have HSZ := Lib.hid (And.intro hsz hlow)
    have HRP := Lib.hid hRp
    have HCW := Lib.hid hcw
    clear KO hPe hwp hsz hlow hRp hst hFp hMp hPb hfl hcw
    go_wp2_with fail
    rw [HPE.out.2, HPE.out.1]
    refine KOV.out.mono ?_
    rintro e w6 ⟨rfl, W, hW, hw6⟩
    rcases hW with ⟨h, _⟩ | ⟨_, hW⟩
    · cases h
    have hP1 := HSZ.out.1
    have hP2 := HSZ.out.2
    have hRW : Blk W w.heap.size 33 #[.int .i64 0, .int .u32 0, .int .i64 0, .slice none 0 0, .int .i64 0, .int .i64 0, .int .i64 0, .int .i64 0, .int .i64 0, .int .i64 0, .int .u32 0, .int .i64 0, .int .i64 0, .int .i64 0, .int .i64 0, .int .i64 0, .int .i64 0] := (HRP.out.alloc _).chg hW.chg (by omega)
    have hM6 : Blk w6 (w.heap.size + 1) 33 q1 := by rw [hw6]; exact hW.msg.far (p := ⟨wp.heap.size, 0, none⟩) (by rw [hP1]; show w.heap.size + 1 ≠ P + 1; omega) _
    have hR6 : Blk w6 w.heap.size 33 #[.int .i64 0, .int .u32 0, .int .i64 0, .slice none 0 0, .int .i64 0, .int .i64 0, .int .i64 0, .int .i64 0, .int .i64 0, .int .i64 0, .int .u32 0, .int .i64 0, .int .i64 0, .int .i64 0, .int .i64 0, .int .i64 0, .int .i64 0] := by rw [hw6]; exact hRW.far (p := ⟨wp.heap.size, 0, none⟩) (by rw [hP1]; show w.heap.size ≠ P + 1; omega) _
    have hN6 : Nw w w6 := by
      have h1 : Below w.heap.size w (wp.alloc (.cells #[.bool false] 4)) := Below.alloc (HWC.out.trans (HCW.out.mono HWC.out.size)) (by rw [hP1]; omega) _
      have h2 : Below w.heap.size w W := h1.trans (hW.chg.below (fun i hi hq => by omega) (by simp [hP1]; omega))
      rw [hw6]
      exact Nw.set h2 (by rw [hP1]; show w.heap.size ≤ P + 1; omega) _
    obtain ⟨d, hd⟩ := stRq
    have HD := Lib.hid hd
    have HM6 := Lib.hid hM6
    have HR6 := Lib.hid hR6
    have HI := Lib.hid (show (Try.prog.info? 33).map (·.size) = some q1.size by rw [HQ1.out]; kernel_rfl)
    have H1 := Lib.hid (show q1.all (·.oneCell') = true by rw [HQ1.out]; simp [Value.oneCell'])
    have HS := Lib.hid (show (#[.int .i64 0, .int .u32 0, .int .i64 0, .slice none 0 0, .int .i64 0, .int .i64 0, .int .i64 0, .int .i64 0, .int .i64 0, .int .i64 0, .int .u32 0, .int .i64 0, .int .i64 0, .int .i64 0, .int .i64 0, .int .i64 0, .int .i64 0] : Array Value).size = q1.size by rw [HQ1.out]; rfl)
    have HRS := Lib.hid (setRow_heap w6 w.heap.size _ q1 33 _ hR6)
    have HN7 := Lib.hid (show Nw w (w6.setRow w.heap.size q1) from below_setRow hN6 (Nat.le_refl _) q1)
    clear hM6 hR6 hN6 hd hRW hP1 hP2 hw6 hW KOV k0 hc1 hc2
    go_wp2_with (first | (refine wpList_load_row rfl 33 _ rfl (w.heap.size + 1) rfl 33 q1 (0, 0) (.struct d) HM6.out HD.out rfl HI.out ?_) | (refine wpList_store_row rfl 33 _ _ rfl w.heap.size q1 rfl rfl 33 _ HR6.out HI.out HS.out H1.out ?_))
    refine bodyPost_ret (results_rowB rfl _ _ w.heap.size 33 q1 (0, 0) ⟨d, rfl⟩ rfl HRS.out HD.out HI.out) rfl ⟨rfl, HN7.out⟩
end Go.Proofs.Ytnbcjjgilndlaaa
