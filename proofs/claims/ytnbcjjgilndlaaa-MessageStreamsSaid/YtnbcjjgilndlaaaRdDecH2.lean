/- Messages: bytes of a kind decoded. Helper. -/
import Derived.Test.YtnbcjjgilndlaaaRdDecQ
import Derived.Test.YtnbcjjgilndlaaaRdOv
import Derived.Test.YtnbcjjgilndlaaaRdOvU
namespace Go.Proofs.Ytnbcjjgilndlaaa
open Go.RowKit
set_option linter.unusedVariables false
set_option linter.unusedSimpArgs false
set_option maxRecDepth 100000
set_option maxHeartbeats 6400000
theorem ints_keep {w w' : World} {G : Nat} {l : List Int} (h : IntsAt w (some ⟨G, 0, none⟩) l) (hk : w'.heap[G]? = w.heap[G]?) : IntsAt w' (some ⟨G, 0, none⟩) l := by
  rcases h with h | ⟨b, o, e, h⟩
  · exact .inl h
  · refine .inr ⟨b, o, e, fun j u hu => ?_⟩
    have h1 := h j u hu
    injection e with e
    injection e with e
    unfold World.cell? at h1 ⊢
    show (match w'.heap[b]? with | _ => _) = _
    rw [← e, hk, e]; exact h1
theorem setRow_farS (w : World) (g : Nat) (cs : Array Value) (k : Nat) (h : k ≠ g) : (w.setRow g cs).heap[k]? = w.heap[k]? := by
  simp only [World.setRow, Array.getElem?_modify]
  rw [if_neg (fun e => h e.symm)]
theorem decS2 (w : World) (A : Option Addr) (n c : Nat) (bs : List UInt8) (hb : BytesAt w A (2 :: bs)) (hn : bs.length + 1 = n) (hc : n ≤ c) :
    Calls Try.prog 10 #[.slice A n c] w fun e w' => Nw w w' ∧ (((13 ≤ bs.length ∧ beN ((bs.drop 12).take 1) ≤ 8 ∧ bs.length = 13 + 8 * beN ((bs.drop 12).take 1)) ∧ ∃ G, e = .returned (.tuple #[.agg #[.int .i64 2, .int .u32 (beN (bs.take 4) : Int), .int .i64 0, .int .i64 (s64 (beN ((bs.drop 4).take 8))), .slice (some ⟨G, 0, none⟩) (beN ((bs.drop 12).take 1)) (beN ((bs.drop 12).take 1)), .int .i64 0, .int .i64 0, .int .i64 0, .int .i64 0, .int .i64 0, .int .i64 0, .int .u32 0, .int .i64 0, .int .i64 0, .int .i64 0, .int .i64 0, .int .i64 0, .int .i64 0], .int .i64 0]) ∧ IntsAt w' (some ⟨G, 0, none⟩) (nums (bs.drop 13) (beN ((bs.drop 12).take 1))) ∧ w.heap.size ≤ G) ∨ (¬ (13 ≤ bs.length ∧ beN ((bs.drop 12).take 1) ≤ 8 ∧ bs.length = 13 + 8 * beN ((bs.drop 12).take 1)) ∧ e = .returned (.tuple #[.agg #[.int .i64 0, .int .u32 0, .int .i64 0, .int .i64 0, .slice none 0 0, .int .i64 0, .int .i64 0, .int .i64 0, .int .i64 0, .int .i64 0, .int .i64 0, .int .u32 0, .int .i64 0, .int .i64 0, .int .i64 0, .int .i64 0, .int .i64 0, .int .i64 0], .int .i64 14]))) := by
  obtain ⟨b, off, rfl, hblt, c0⟩ := hb.get (k := 0) (by simp)
  simp only [List.getElem_cons_zero, Nat.add_zero] at c0
  have c0' : w.cell? ⟨b, off, none⟩ = some (.int .u8 2) := c0
  obtain ⟨w1, hw1⟩ : ∃ w1, (w.alloc (.cells #[.int .i64 0, .int .u32 0, .int .i64 0, .int .i64 0, .slice none 0 0, .int .i64 0, .int .i64 0, .int .i64 0, .int .i64 0, .int .i64 0, .int .i64 0, .int .u32 0, .int .i64 0, .int .i64 0, .int .i64 0, .int .i64 0, .int .i64 0, .int .i64 0] 42)).alloc (.cells #[.int .i64 2, .int .u32 0, .int .i64 0, .int .i64 0, .slice none 0 0, .int .i64 0, .int .i64 0, .int .i64 0, .int .i64 0, .int .i64 0, .int .i64 0, .int .u32 0, .int .i64 0, .int .i64 0, .int .i64 0, .int .i64 0, .int .i64 0, .int .i64 0] 42) = w1 := ⟨_, rfl⟩
  have hR : Blk w1 w.heap.size 42 #[.int .i64 0, .int .u32 0, .int .i64 0, .int .i64 0, .slice none 0 0, .int .i64 0, .int .i64 0, .int .i64 0, .int .i64 0, .int .i64 0, .int .i64 0, .int .u32 0, .int .i64 0, .int .i64 0, .int .i64 0, .int .i64 0, .int .i64 0, .int .i64 0] := by rw [← hw1]; exact (Blk.last w _ _ rfl).alloc _
  have hM : Blk w1 (w.heap.size + 1) 42 #[.int .i64 2, .int .u32 0, .int .i64 0, .int .i64 0, .slice none 0 0, .int .i64 0, .int .i64 0, .int .i64 0, .int .i64 0, .int .i64 0, .int .i64 0, .int .u32 0, .int .i64 0, .int .i64 0, .int .i64 0, .int .i64 0, .int .i64 0, .int .i64 0] := by rw [← hw1]; exact Blk.last _ _ _ (by simp)
  have n1 : Nw w w1 := by rw [← hw1]; exact ((Nw.refl w).alloc _).alloc _
  have s1 : w1.heap.size = w.heap.size + 2 := by rw [← hw1]; simp
  have k0 : w1.cell? ⟨w.heap.size + 1, 0, none⟩ = some (.int .i64 2) := (hM.cell 0).trans rfl
  have g0 : ((n : Int) == 0) = false := by simp; omega
  have g1 : (1 : Int) ≤ (n : Int) := by omega
  have g2 : (n : Int) ≤ (c : Int) := by omega
  have g3 : (0 : Int) < (n : Int) := by omega
  have HW1 := Lib.hid hw1
  have HR := Lib.hid hR
  have HM := Lib.hid hM
  have N1 := Lib.hid n1
  have S1 := Lib.hid s1
  have HB := Lib.hid hb
  have HBL := Lib.hid hblt
  have HL := Lib.hid (And.intro hn hc)
  have KA := Lib.hid (fun (W : World) (hs : W.heap.size = w.heap.size + 2) => by have := tells_any W; rw [hs] at this; exact this)
  clear hb hn hc c0 hw1 hR hM n1 s1
  go_enter Try.func10, Try.ntmps10
  go_upto_region 4 with (fail)
  rw [HW1.out]
  clear c0' hblt g0 g1 g2 g3
  go_cut [5, 6] from 16 to 23 (fun s5 s6 wx => s5 = .slice (some ⟨w.heap.size + 2 + 2, 0, none⟩) 3 3 ∧ s6 = .bool true ∧ Hid (Nw w1 wx ∧ tellsAt wx (w.heap.size + 2)))
  case first =>
   as_aux_lemma =>
    go_region_with (go_at_call 31; refine (KA.out w1.drew S1.out).mono ?_; rintro e w4 ⟨rfl, h4, b4⟩; have i4 : Nw w1 w4 := Nw.step (show Nw w1 w1.drew from (Nw.refl w1).drew) (by have hs : w1.drew.heap.size = w.heap.size + 2 := S1.out; rw [hs]; exact b4); have kk := i4.cell k0; have lk := look_run Try.underlying80 Try.underlying37 h4.tab 2 _ _ rfl; have H4 := Lib.hid h4; have I4 := Lib.hid i4; clear h4 i4 b4)
    all_goals
      go_wp2_with fail
      go_meet
      exact ⟨rfl, rfl, Lib.hid ⟨I4.out, H4.out⟩⟩
  case rest =>
    obtain ⟨rfl, rfl, HX⟩ := hcut
    have HWC := Lib.hid (show Nw w wc from N1.out.trans (HX.out.1.mono N1.out.size))
    obtain ⟨P, hPe⟩ : ∃ P, wc.heap.size = P := ⟨_, rfl⟩
    have hlow : w.heap.size + 2 ≤ P := by rw [← hPe, ← S1.out]; exact HX.out.1.size
    have hfl : w.heap.size + 2 + 2 < P := by rw [← hPe]; exact HX.out.2.p2.lt
    have KOV := Lib.hid (fun (wp : World) (A1 : Option Addr) (c1 : Nat) (hwp : wc.alloc (.cells #[.slice A1 bs.length c1, .bool true] 76) = wp) (hby : BytesAt wp A1 bs) (hc1 : bs.length ≤ c1) (hA1 : ∀ a, A1 = some a → a.block = b) => by
      have hsz : wp.heap.size = P + 1 := by rw [← hwp, ← hPe]; simp
      have hcw : Nw wc wp := by rw [← hwp]; exact (Nw.refl wc).alloc _
      have hPb : Blk wp P 76 #[.slice A1 bs.length c1, .bool true] := by rw [← hwp]; exact Blk.last wc _ _ hPe
      have hMp : Blk wp (w.heap.size + 1) 42 #[.int .i64 2, .int .u32 0, .int .i64 0, .int .i64 0, .slice none 0 0, .int .i64 0, .int .i64 0, .int .i64 0, .int .i64 0, .int .i64 0, .int .i64 0, .int .u32 0, .int .i64 0, .int .i64 0, .int .i64 0, .int .i64 0, .int .i64 0, .int .i64 0] := (HM.out.below HX.out.1 HM.out.lt).below hcw (HM.out.below HX.out.1 HM.out.lt).lt
      have hFp : Blk wp (w.heap.size + 2 + 2) 116 #[.func (.func 65) #[] #[], .func (.func 68) #[] #[], .func (.func 69) #[] #[]] := HX.out.2.p2.below hcw HX.out.2.p2.lt
      have hRp : Blk wp w.heap.size 42 #[.int .i64 0, .int .u32 0, .int .i64 0, .int .i64 0, .slice none 0 0, .int .i64 0, .int .i64 0, .int .i64 0, .int .i64 0, .int .i64 0, .int .i64 0, .int .u32 0, .int .i64 0, .int .i64 0, .int .i64 0, .int .i64 0, .int .i64 0, .int .i64 0] := (HR.out.below HX.out.1 HR.out.lt).below hcw (HR.out.below HX.out.1 HR.out.lt).lt
      have hbl := HBL.out
      have K := tell2_over wp P (w.heap.size + 1) (w.heap.size + 2 + 2) A1 c1 bs ⟨hPb.alloc _, hMp.alloc _, hby.below ((Below.refl _ wp).alloc (Nat.le_refl _) _) (Nat.le_refl _), hc1, (fun a ha => by rw [hA1 a ha]; simp only [World.size_alloc, hsz]; exact ⟨by omega, by omega, by omega⟩), by omega, Chg.refl _ _⟩ hFp hPb.lt hMp.lt (by omega) (by omega)
      refine (K.mono fun e w6 h => ?_ : Calls Try.prog _ _ wp fun e w6 => Nw w w6 ∧ Blk w6 w.heap.size 42 #[.int .i64 0, .int .u32 0, .int .i64 0, .int .i64 0, .slice none 0 0, .int .i64 0, .int .i64 0, .int .i64 0, .int .i64 0, .int .i64 0, .int .i64 0, .int .u32 0, .int .i64 0, .int .i64 0, .int .i64 0, .int .i64 0, .int .i64 0, .int .i64 0] ∧ (((13 ≤ bs.length ∧ beN ((bs.drop 12).take 1) ≤ 8 ∧ bs.length = 13 + 8 * beN ((bs.drop 12).take 1)) ∧ e = Ending.returned (.bool false) ∧ ∃ G, Blk w6 (w.heap.size + 1) 42 #[.int .i64 2, .int .u32 (beN (bs.take 4) : Int), .int .i64 0, .int .i64 (s64 (beN ((bs.drop 4).take 8))), .slice (some ⟨G, 0, none⟩) (beN ((bs.drop 12).take 1)) (beN ((bs.drop 12).take 1)), .int .i64 0, .int .i64 0, .int .i64 0, .int .i64 0, .int .i64 0, .int .i64 0, .int .u32 0, .int .i64 0, .int .i64 0, .int .i64 0, .int .i64 0, .int .i64 0, .int .i64 0] ∧ IntsAt w6 (some ⟨G, 0, none⟩) (nums (bs.drop 13) (beN ((bs.drop 12).take 1))) ∧ w.heap.size < G) ∨ (¬ (13 ≤ bs.length ∧ beN ((bs.drop 12).take 1) ≤ 8 ∧ bs.length = 13 + 8 * beN ((bs.drop 12).take 1)) ∧ e = Ending.returned (.bool true))))
      have fin : ∀ W, Chg (fun i => i = P ∨ i = w.heap.size + 1) (wp.alloc (.cells #[.bool false] 4)) W → Nw w W ∧ Blk W w.heap.size 42 #[.int .i64 0, .int .u32 0, .int .i64 0, .int .i64 0, .slice none 0 0, .int .i64 0, .int .i64 0, .int .i64 0, .int .i64 0, .int .i64 0, .int .i64 0, .int .u32 0, .int .i64 0, .int .i64 0, .int .i64 0, .int .i64 0, .int .i64 0, .int .i64 0] := fun W hch => by
        have h1 : Below w.heap.size w (wp.alloc (.cells #[.bool false] 4)) := Below.alloc (HWC.out.trans (hcw.mono HWC.out.size)) (by rw [hsz]; omega) _
        exact ⟨h1.trans (hch.below (fun i hi hq => by omega) (by simp [hsz]; omega)), (hRp.alloc _).chg hch (by omega)⟩
      rcases h with ⟨hok, he, W, G, hm, hby2, hg2, hch, hw6⟩ | ⟨hok, he, W, hch, hw6⟩
      · obtain ⟨f1, f2⟩ := fin W hch
        rw [hw6]
        exact ⟨Nw.set f1 (by rw [hsz]; show w.heap.size ≤ P + 1; omega) _, f2.far (p := ⟨wp.heap.size, 0, none⟩) (by rw [hsz]; show w.heap.size ≠ P + 1; omega) _, .inl ⟨hok, he, G, hm.far (p := ⟨wp.heap.size, 0, none⟩) (by rw [hsz]; show w.heap.size + 1 ≠ P + 1; omega) _, ints_keep hby2 (Below.heap_setCell _ ⟨wp.heap.size, 0, none⟩ _ _ (by show G ≠ wp.heap.size; omega)), by omega⟩⟩
      · obtain ⟨f1, f2⟩ := fin W hch
        rw [hw6]
        exact ⟨Nw.set (f1.alloc _) (by rw [hsz]; show w.heap.size ≤ P + 1; omega) _, (f2.alloc _).far (p := ⟨wp.heap.size, 0, none⟩) (by rw [hsz]; show w.heap.size ≠ P + 1; omega) _, .inr ⟨hok, he⟩⟩)
    obtain ⟨d, hd⟩ := stRs
    have HD := Lib.hid hd
    have HJ := Lib.hid (show (Try.prog.info? 42).map (·.size) = some (#[.int .i64 0, .int .u32 0, .int .i64 0, .int .i64 0, .slice none 0 0, .int .i64 0, .int .i64 0, .int .i64 0, .int .i64 0, .int .i64 0, .int .i64 0, .int .u32 0, .int .i64 0, .int .i64 0, .int .i64 0, .int .i64 0, .int .i64 0, .int .i64 0] : Array Value).size by kernel_rfl)
    have H2 := Lib.hid (show (#[.int .i64 0, .int .u32 0, .int .i64 0, .int .i64 0, .slice none 0 0, .int .i64 0, .int .i64 0, .int .i64 0, .int .i64 0, .int .i64 0, .int .i64 0, .int .u32 0, .int .i64 0, .int .i64 0, .int .i64 0, .int .i64 0, .int .i64 0, .int .i64 0] : Array Value).all (·.oneCell') = true by simp [Value.oneCell'])
    have HPE := Lib.hid hPe
    clear hlow hfl hPe hd k0
    have g1 : (1 : Int) ≤ (n : Int) := by have := HL.out; omega
    have g2 : (n : Int) ≤ (c : Int) := by have := HL.out; omega
    by_cases hcc : c = 1
    · have hc1 : (c : Int) = 1 := by omega
      have hn1 : n = 1 := by have := HL.out; omega
      have hb0 : bs = [] := by have := HL.out; exact List.eq_nil_of_length_eq_zero (by omega)
      subst hcc hn1
      have hbl : bs.length = 0 := by rw [hb0]; rfl
      as_aux_lemma =>
        obtain ⟨wp, hwp⟩ : ∃ wp, wc.alloc (.cells #[.slice (some ⟨b, off, none⟩) bs.length (0), .bool true] 76) = wp := ⟨_, rfl⟩
        have KO := Lib.hid (KOV.out wp (some ⟨b, off, none⟩) (0) hwp (by
          have hcw : Nw wc wp := by rw [← hwp]; exact (Nw.refl wc).alloc _
          have hby := (HB.out.below HWC.out (Nat.le_refl _)).below hcw (Nat.le_refl _)
          rw [hb0]; exact .inl rfl) (by have := HL.out; omega) (fun a ha => by injection ha with ha; rw [← ha]))
        have HWP := Lib.hid hwp
        clear hwp
        rw [hbl] at HWP
        go_wp2_with fail
        rw [HWP.out, HPE.out]
        refine KO.out.mono ?_
        rintro e w6 ⟨n6, r6, hcase⟩
        have HN6 := Lib.hid n6
        have HR6 := Lib.hid r6
        have HRS := Lib.hid (fun q1 => setRow_heap w6 w.heap.size _ q1 42 _ r6)
        have HRZ := Lib.hid (setRow_heap w6 w.heap.size _ #[.int .i64 0, .int .u32 0, .int .i64 0, .int .i64 0, .slice none 0 0, .int .i64 0, .int .i64 0, .int .i64 0, .int .i64 0, .int .i64 0, .int .i64 0, .int .u32 0, .int .i64 0, .int .i64 0, .int .i64 0, .int .i64 0, .int .i64 0, .int .i64 0] 42 _ r6)
        clear n6 r6
        rcases hcase with ⟨hok, rfl, G, hm, hby, hg2⟩ | ⟨hok, rfl⟩
        · obtain ⟨qv, hqv⟩ : ∃ qv : Array Value, #[.int .i64 2, .int .u32 (beN (bs.take 4) : Int), .int .i64 0, .int .i64 (s64 (beN ((bs.drop 4).take 8))), .slice (some ⟨G, 0, none⟩) (beN ((bs.drop 12).take 1)) (beN ((bs.drop 12).take 1)), .int .i64 0, .int .i64 0, .int .i64 0, .int .i64 0, .int .i64 0, .int .i64 0, .int .u32 0, .int .i64 0, .int .i64 0, .int .i64 0, .int .i64 0, .int .i64 0, .int .i64 0] = qv := ⟨_, rfl⟩
          rw [hqv] at hm
          have HQV := Lib.hid hqv
          have HM6 := Lib.hid hm
          have HBY6 := Lib.hid hby
          have HG6 := Lib.hid hg2
          have HI := Lib.hid (show (Try.prog.info? 42).map (·.size) = some qv.size by rw [← hqv]; kernel_rfl)
          have H1 := Lib.hid (show qv.all (·.oneCell') = true by rw [← hqv]; simp [Value.oneCell'])
          have HS := Lib.hid (show (#[.int .i64 0, .int .u32 0, .int .i64 0, .int .i64 0, .slice none 0 0, .int .i64 0, .int .i64 0, .int .i64 0, .int .i64 0, .int .i64 0, .int .i64 0, .int .u32 0, .int .i64 0, .int .i64 0, .int .i64 0, .int .i64 0, .int .i64 0, .int .i64 0] : Array Value).size = qv.size by rw [← hqv]; rfl)
          clear hm hby hg2 hqv
          go_wp2_with (first | (refine wpList_load_row rfl 42 _ rfl (w.heap.size + 1) rfl 42 qv (0, 0) (.struct d) HM6.out HD.out rfl HI.out ?_) | (refine wpList_store_row rfl 42 _ _ rfl w.heap.size qv rfl rfl 42 _ HR6.out HI.out HS.out H1.out ?_))
          exact bodyPost_ret (results_rowB rfl _ _ w.heap.size 42 qv (0, 0) ⟨d, rfl⟩ rfl (HRS.out _) HD.out HI.out) rfl ⟨below_setRow HN6.out (Nat.le_refl _) _, .inl ⟨hok, G, by rw [HQV.out]; rfl, ints_keep HBY6.out (setRow_farS _ _ _ _ (by have := HG6.out; omega)), by have := HG6.out; omega⟩⟩
        · go_wp2_with (refine wpList_store_row rfl 42 _ _ rfl w.heap.size #[.int .i64 0, .int .u32 0, .int .i64 0, .int .i64 0, .slice none 0 0, .int .i64 0, .int .i64 0, .int .i64 0, .int .i64 0, .int .i64 0, .int .i64 0, .int .u32 0, .int .i64 0, .int .i64 0, .int .i64 0, .int .i64 0, .int .i64 0, .int .i64 0] rfl rfl 42 _ HR6.out HJ.out rfl H2.out ?_)
          exact bodyPost_ret (results_rowB rfl _ _ w.heap.size 42 #[.int .i64 0, .int .u32 0, .int .i64 0, .int .i64 0, .slice none 0 0, .int .i64 0, .int .i64 0, .int .i64 0, .int .i64 0, .int .i64 0, .int .i64 0, .int .u32 0, .int .i64 0, .int .i64 0, .int .i64 0, .int .i64 0, .int .i64 0, .int .i64 0] (0, 0) ⟨d, rfl⟩ rfl HRZ.out HD.out HJ.out) rfl ⟨below_setRow HN6.out (Nat.le_refl _) #[.int .i64 0, .int .u32 0, .int .i64 0, .int .i64 0, .slice none 0 0, .int .i64 0, .int .i64 0, .int .i64 0, .int .i64 0, .int .i64 0, .int .i64 0, .int .u32 0, .int .i64 0, .int .i64 0, .int .i64 0, .int .i64 0, .int .i64 0, .int .i64 0], .inr ⟨hok, rfl⟩⟩
    · have hc1 : ¬ (c : Int) = 1 := by omega
      have hbl : bs.length = n - 1 := by have := HL.out; omega
      as_aux_lemma =>
        obtain ⟨wp, hwp⟩ : ∃ wp, wc.alloc (.cells #[.slice (some ⟨b, off + 1, none⟩) bs.length (c - 1), .bool true] 76) = wp := ⟨_, rfl⟩
        have KO := Lib.hid (KOV.out wp (some ⟨b, off + 1, none⟩) (c - 1) hwp (by
          have hcw : Nw wc wp := by rw [← hwp]; exact (Nw.refl wc).alloc _
          have hby := (HB.out.below HWC.out (Nat.le_refl _)).below hcw (Nat.le_refl _)
          have h2 := hby.cut c (k := 1) (by simp) (by simp; have := HL.out; omega); rw [if_neg (by omega)] at h2; simpa [add_plain] using h2) (by have := HL.out; omega) (fun a ha => by injection ha with ha; rw [← ha]))
        have HWP := Lib.hid hwp
        clear hwp
        rw [hbl] at HWP
        go_wp2_with fail
        rw [HWP.out, HPE.out]
        refine KO.out.mono ?_
        rintro e w6 ⟨n6, r6, hcase⟩
        have HN6 := Lib.hid n6
        have HR6 := Lib.hid r6
        have HRS := Lib.hid (fun q1 => setRow_heap w6 w.heap.size _ q1 42 _ r6)
        have HRZ := Lib.hid (setRow_heap w6 w.heap.size _ #[.int .i64 0, .int .u32 0, .int .i64 0, .int .i64 0, .slice none 0 0, .int .i64 0, .int .i64 0, .int .i64 0, .int .i64 0, .int .i64 0, .int .i64 0, .int .u32 0, .int .i64 0, .int .i64 0, .int .i64 0, .int .i64 0, .int .i64 0, .int .i64 0] 42 _ r6)
        clear n6 r6
        rcases hcase with ⟨hok, rfl, G, hm, hby, hg2⟩ | ⟨hok, rfl⟩
        · obtain ⟨qv, hqv⟩ : ∃ qv : Array Value, #[.int .i64 2, .int .u32 (beN (bs.take 4) : Int), .int .i64 0, .int .i64 (s64 (beN ((bs.drop 4).take 8))), .slice (some ⟨G, 0, none⟩) (beN ((bs.drop 12).take 1)) (beN ((bs.drop 12).take 1)), .int .i64 0, .int .i64 0, .int .i64 0, .int .i64 0, .int .i64 0, .int .i64 0, .int .u32 0, .int .i64 0, .int .i64 0, .int .i64 0, .int .i64 0, .int .i64 0, .int .i64 0] = qv := ⟨_, rfl⟩
          rw [hqv] at hm
          have HQV := Lib.hid hqv
          have HM6 := Lib.hid hm
          have HBY6 := Lib.hid hby
          have HG6 := Lib.hid hg2
          have HI := Lib.hid (show (Try.prog.info? 42).map (·.size) = some qv.size by rw [← hqv]; kernel_rfl)
          have H1 := Lib.hid (show qv.all (·.oneCell') = true by rw [← hqv]; simp [Value.oneCell'])
          have HS := Lib.hid (show (#[.int .i64 0, .int .u32 0, .int .i64 0, .int .i64 0, .slice none 0 0, .int .i64 0, .int .i64 0, .int .i64 0, .int .i64 0, .int .i64 0, .int .i64 0, .int .u32 0, .int .i64 0, .int .i64 0, .int .i64 0, .int .i64 0, .int .i64 0, .int .i64 0] : Array Value).size = qv.size by rw [← hqv]; rfl)
          clear hm hby hg2 hqv
          go_wp2_with (first | (refine wpList_load_row rfl 42 _ rfl (w.heap.size + 1) rfl 42 qv (0, 0) (.struct d) HM6.out HD.out rfl HI.out ?_) | (refine wpList_store_row rfl 42 _ _ rfl w.heap.size qv rfl rfl 42 _ HR6.out HI.out HS.out H1.out ?_))
          exact bodyPost_ret (results_rowB rfl _ _ w.heap.size 42 qv (0, 0) ⟨d, rfl⟩ rfl (HRS.out _) HD.out HI.out) rfl ⟨below_setRow HN6.out (Nat.le_refl _) _, .inl ⟨hok, G, by rw [HQV.out]; rfl, ints_keep HBY6.out (setRow_farS _ _ _ _ (by have := HG6.out; omega)), by have := HG6.out; omega⟩⟩
        · go_wp2_with (refine wpList_store_row rfl 42 _ _ rfl w.heap.size #[.int .i64 0, .int .u32 0, .int .i64 0, .int .i64 0, .slice none 0 0, .int .i64 0, .int .i64 0, .int .i64 0, .int .i64 0, .int .i64 0, .int .i64 0, .int .u32 0, .int .i64 0, .int .i64 0, .int .i64 0, .int .i64 0, .int .i64 0, .int .i64 0] rfl rfl 42 _ HR6.out HJ.out rfl H2.out ?_)
          exact bodyPost_ret (results_rowB rfl _ _ w.heap.size 42 #[.int .i64 0, .int .u32 0, .int .i64 0, .int .i64 0, .slice none 0 0, .int .i64 0, .int .i64 0, .int .i64 0, .int .i64 0, .int .i64 0, .int .i64 0, .int .u32 0, .int .i64 0, .int .i64 0, .int .i64 0, .int .i64 0, .int .i64 0, .int .i64 0] (0, 0) ⟨d, rfl⟩ rfl HRZ.out HD.out HJ.out) rfl ⟨below_setRow HN6.out (Nat.le_refl _) #[.int .i64 0, .int .u32 0, .int .i64 0, .int .i64 0, .slice none 0 0, .int .i64 0, .int .i64 0, .int .i64 0, .int .i64 0, .int .i64 0, .int .i64 0, .int .u32 0, .int .i64 0, .int .i64 0, .int .i64 0, .int .i64 0, .int .i64 0, .int .i64 0], .inr ⟨hok, rfl⟩⟩
end Go.Proofs.Ytnbcjjgilndlaaa
