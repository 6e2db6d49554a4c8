/- Messages: which requests may be, by the document. Helper. -/
import Derived.Test.YtnbcjjgilndlaaaRdRefU
import Derived.Test.YtnbcjjgilndlaaaRdSm
import Derived.Test.YtnbcjjgilndlaaaRdDecQ
namespace Go.Proofs.Ytnbcjjgilndlaaa
open Go.RowKit
set_option linter.unusedVariables false
set_option linter.unusedSimpArgs false
set_option maxRecDepth 100000
def Rq.zero : Rq := ⟨0, 0, 0, [], 0, 0, 0, 0, 0, 0, 0, 0, 0, 0, 0, 0, 0⟩
/-- What a request's kind names. -/
def onlyQ (q : Rq) : Rq :=
  if q.k = 1 then { Rq.zero with k := q.k, id := q.id, ver := q.ver }
  else if q.k = 2 then { Rq.zero with k := q.k, id := q.id, md := q.md }
  else if q.k = 3 then { Rq.zero with k := q.k, id := q.id, T := q.T, O := q.O, S := q.S, tt := q.tt, kd := q.kd, da := q.da }
  else if q.k = 4 then { Rq.zero with k := q.k, id := q.id, nu := q.nu, bp := q.bp, bk := q.bk, bt := q.bt }
  else if q.k = 5 then { Rq.zero with k := q.k, id := q.id, nu := q.nu }
  else if q.k = 6 then { Rq.zero with k := q.k, id := q.id, pr := q.pr }
  else if q.k = 10 then { Rq.zero with k := q.k, id := q.id, nm := q.nm, dn := q.dn }
  else { Rq.zero with k := q.k, id := q.id }
def inQ (q : Rq) : Prop := 1 ≤ q.k ∧ q.k ≤ 12 ∧ (0 ≤ q.ver ∧ q.ver ≤ 255) ∧ (0 ≤ q.pr ∧ q.pr ≤ 255) ∧ (0 ≤ q.tt ∧ q.tt ≤ 255) ∧ (0 ≤ q.kd ∧ q.kd ≤ 255) ∧ q.O = 0 ∧ q.S = 0 ∧ (0 ≤ q.bp ∧ q.bp ≤ 255) ∧ -1 ≤ q.bk ∧ q.bk ≤ 254
instance (q : Rq) : Decidable (inQ q) := by unfold inQ; infer_instance
def okQ (q : Rq) : Prop := inQ q ∧ (q.k = 2 → 1 ≤ q.md.length ∧ q.md.length ≤ 4091)
instance (q : Rq) : Decidable (okQ q) := by unfold okQ; infer_instance
/-- May a request be? -/
def mayQ (q : Rq) : Bool := decide (okQ q) && decide (onlyQ q = q)
theorem mayQ_out {q : Rq} (h : ¬ inQ q) : mayQ q = false := by simp [mayQ, okQ, h]
theorem mayQ_no {q : Rq} (h : ¬ okQ q) : mayQ q = false := by simp [mayQ, h]
theorem mayQ_yes {q : Rq} (h : okQ q) : mayQ q = decide (onlyQ q = q) := by simp [mayQ, h]
set_option maxHeartbeats 6400000 in
theorem may7_in (w : World) (q : Rq) (A : Option Addr) (c : Nat) (hA : BytesAt w A q.md) (hmd : q.md.length ≤ 100000) (hin : inQ q) :
    Calls Try.prog 18 #[.agg (q.c A c).toArray] w fun e w' => e = .returned (.bool (mayQ q)) ∧ Nw w w' := by
  obtain ⟨x0, x1, x2, x3, x4, x5, x6, x7, x8, x9, x10, x11, x12, x13, x14, x15, x16⟩ := q
  have HIN := Lib.hid hin
  obtain ⟨h0, h1, h2, h3, h4, h5, h6, h7, h8, h9, h10⟩ := hin
  dsimp only at hA hmd h0 h1 h2 h3 h4 h5 h6 h7 h8 h9 h10
  subst h6 h7
  obtain ⟨w1, hw1⟩ : ∃ w1, w.alloc (.cells #[.int .i64 x0, .int .u32 x1, .int .i64 x2, .slice A x3.length c, .int .i64 x4, .int .i64 0, .int .i64 0, .int .i64 x7, .int .i64 x8, .int .i64 x9, .int .u32 x10, .int .i64 x11, .int .i64 x12, .int .i64 x13, .int .i64 x14, .int .i64 x15, .int .i64 x16] 33) = w1 := ⟨_, rfl⟩
  have b1 : Blk w1 w.heap.size 33 #[.int .i64 x0, .int .u32 x1, .int .i64 x2, .slice A x3.length c, .int .i64 x4, .int .i64 0, .int .i64 0, .int .i64 x7, .int .i64 x8, .int .i64 x9, .int .u32 x10, .int .i64 x11, .int .i64 x12, .int .i64 x13, .int .i64 x14, .int .i64 x15, .int .i64 x16] := by rw [← hw1]; exact Blk.last w _ _ rfl
  have n1 : Nw w w1 := by rw [← hw1]; exact (Nw.refl w).alloc _
  have u0 : w1.cell? ⟨w.heap.size, 0, none⟩ = some (.int .i64 x0) := (b1.cell 0).trans rfl
  have u2 : w1.cell? ⟨w.heap.size, 2, none⟩ = some (.int .i64 x2) := (b1.cell 2).trans rfl
  have u5 : w1.cell? ⟨w.heap.size, 5, none⟩ = some (.int .i64 0) := (b1.cell 5).trans rfl
  have u6 : w1.cell? ⟨w.heap.size, 6, none⟩ = some (.int .i64 0) := (b1.cell 6).trans rfl
  have u7 : w1.cell? ⟨w.heap.size, 7, none⟩ = some (.int .i64 x7) := (b1.cell 7).trans rfl
  have u8 : w1.cell? ⟨w.heap.size, 8, none⟩ = some (.int .i64 x8) := (b1.cell 8).trans rfl
  have u11 : w1.cell? ⟨w.heap.size, 11, none⟩ = some (.int .i64 x11) := (b1.cell 11).trans rfl
  have u12 : w1.cell? ⟨w.heap.size, 12, none⟩ = some (.int .i64 x12) := (b1.cell 12).trans rfl
  have u14 : w1.cell? ⟨w.heap.size, 14, none⟩ = some (.int .i64 x14) := (b1.cell 14).trans rfl
  have g0 : ¬ x0 < 1 := by omega
  have g1 : ¬ 12 < x0 := by omega
  have g9 : ¬ x12 < -1 := by omega
  have g10 : ¬ 254 < x12 := by omega
  have HW1 := Lib.hid hw1
  have B1 := Lib.hid b1
  have N1 := Lib.hid n1
  have HA := Lib.hid hA
  have HM := Lib.hid hmd
  have E8 := Lib.hid (fun W n => eight_any W n)
  obtain ⟨d, hd⟩ := stRq
  have HD := Lib.hid hd
  simp only [Rq.c]
  clear hw1 b1 n1 hA hmd hd
  go_enter Try.func18, Try.ntmps18
  have d2 : decide ((0 ≤ x2 ∧ x2 ≤ 255)) = true := decide_eq_true h2
  have d3 : decide ((0 ≤ x14 ∧ x14 ≤ 255)) = true := decide_eq_true h3
  have d4 : decide ((0 ≤ x7 ∧ x7 ≤ 255)) = true := decide_eq_true h4
  have d5 : decide ((0 ≤ x8 ∧ x8 ≤ 255)) = true := decide_eq_true h5
  have d8 : decide ((0 ≤ x11 ∧ x11 ≤ 255)) = true := decide_eq_true h8
  go_upto_region 3 with (go_at_call 37; (try rw [HW1.out]); refine (E8.out _ _).mono ?_; rintro e w' ⟨rfl, hw⟩; rw [hw]; clear hw w'; (first | rw [d2] | rw [d3] | rw [d4] | rw [d5] | rw [d8]))
  clear g0 g1 g9 g10 d2 d3 d4 d5 d8 u2 u5 u6 u7 u8 u11 u12 u14
  have H2 := Lib.hid (show ∀ a b : Int, (#[.int .i64 a, .int .u32 b, .int .i64 0, .slice none 0 0, .int .i64 0, .int .i64 0, .int .i64 0, .int .i64 0, .int .i64 0, .int .i64 0, .int .u32 0, .int .i64 0, .int .i64 0, .int .i64 0, .int .i64 0, .int .i64 0, .int .i64 0] : Array Value).all (·.oneCell') = true from fun a b => by simp [Value.oneCell'])
  have HJ := Lib.hid (show ∀ a b : Int, (Try.prog.info? 33).map (·.size) = some (#[.int .i64 a, .int .u32 b, .int .i64 0, .slice none 0 0, .int .i64 0, .int .i64 0, .int .i64 0, .int .i64 0, .int .i64 0, .int .i64 0, .int .u32 0, .int .i64 0, .int .i64 0, .int .i64 0, .int .i64 0, .int .i64 0, .int .i64 0] : Array Value).size from fun a b => by kernel_rfl)
  by_cases k1 : x0 = 1
  · subst k1
    as_aux_lemma =>
      have HF := Lib.hid (show Value.bool (decide ((⟨1, x1, x2, [], 0, 0, 0, 0, 0, 0, 0, 0, 0, 0, 0, 0, 0⟩ : Rq) = ⟨1, x1, x2, x3, x4, 0, 0, x7, x8, x9, x10, x11, x12, x13, x14, x15, x16⟩)) = Value.bool (mayQ ⟨1, x1, x2, x3, x4, 0, 0, x7, x8, x9, x10, x11, x12, x13, x14, x15, x16⟩) by
        rw [mayQ_yes (show okQ ⟨1, x1, x2, x3, x4, 0, 0, x7, x8, x9, x10, x11, x12, x13, x14, x15, x16⟩ from ⟨HIN.out, by simp⟩)]
        simp [onlyQ, Rq.zero])
      have u1 : w1.cell? ⟨w.heap.size, 1, none⟩ = some (.int .u32 x1) := (B1.out.cell 1).trans rfl
      go_upto_region 5 with (fail)
      go_upto_region 6 with (refine wpList_store_row rfl 33 _ _ rfl w1.heap.size #[.int .i64 1, .int .u32 x1, .int .i64 0, .slice none 0 0, .int .i64 0, .int .i64 0, .int .i64 0, .int .i64 0, .int .i64 0, .int .i64 0, .int .u32 0, .int .i64 0, .int .i64 0, .int .i64 0, .int .i64 0, .int .i64 0, .int .i64 0] rfl rfl 33 _ (heap_last _ _ rfl) (HJ.out _ _) rfl (H2.out _ _) ?_; rw [World.setRow_alloc_new])
      obtain ⟨w2, hw2⟩ : ∃ w2, w1.alloc (.cells #[.int .i64 1, .int .u32 x1, .int .i64 0, .slice none 0 0, .int .i64 0, .int .i64 0, .int .i64 0, .int .i64 0, .int .i64 0, .int .i64 0, .int .u32 0, .int .i64 0, .int .i64 0, .int .i64 0, .int .i64 0, .int .i64 0, .int .i64 0] 33) = w2 := ⟨_, rfl⟩
      obtain ⟨P, hP⟩ : ∃ P, w1.heap.size = P := ⟨_, rfl⟩
      rw [hw2, hP]
      have b2 : Blk w2 P 33 #[.int .i64 1, .int .u32 x1, .int .i64 0, .slice none 0 0, .int .i64 0, .int .i64 0, .int .i64 0, .int .i64 0, .int .i64 0, .int .i64 0, .int .u32 0, .int .i64 0, .int .i64 0, .int .i64 0, .int .i64 0, .int .i64 0, .int .i64 0] := by rw [← hw2]; exact Blk.last w1 _ _ hP
      have n2 : Nw w1 w2 := by rw [← hw2]; exact (Nw.refl w1).alloc _
      have o2 : Blk w2 w.heap.size 33 #[.int .i64 1, .int .u32 x1, .int .i64 x2, .slice A x3.length c, .int .i64 x4, .int .i64 0, .int .i64 0, .int .i64 x7, .int .i64 x8, .int .i64 x9, .int .u32 x10, .int .i64 x11, .int .i64 x12, .int .i64 x13, .int .i64 x14, .int .i64 x15, .int .i64 x16] := B1.out.below n2 B1.out.lt
      clear u0 u1
      have u0 : w2.cell? ⟨w.heap.size, 0, none⟩ = some (.int .i64 1) := (o2.cell 0).trans rfl
      have u2 : w2.cell? ⟨w.heap.size, 2, none⟩ = some (.int .i64 x2) := (o2.cell 2).trans rfl
      have v2 : w2.cell? ⟨P, 2, none⟩ = some (.int .i64 0) := (b2.cell 2).trans rfl
      have z2 := b2.frozen 2
      have B2 := Lib.hid b2
      have N2 := Lib.hid n2
      have O2 := Lib.hid o2
      have HWP := Lib.hid (And.intro hw2 hP)
      clear b2 n2 o2 hw2 hP
      go_upto_region 23 with (fail)
      obtain ⟨w3, hw3⟩ : ∃ w3, (w2.setCell ⟨P, 2, none⟩ (.int .i64 x2)) = w3 := ⟨_, rfl⟩
      rw [hw3]
      have b3 : Blk w3 P 33 #[.int .i64 1, .int .u32 x1, .int .i64 x2, .slice none 0 0, .int .i64 0, .int .i64 0, .int .i64 0, .int .i64 0, .int .i64 0, .int .i64 0, .int .u32 0, .int .i64 0, .int .i64 0, .int .i64 0, .int .i64 0, .int .i64 0, .int .i64 0] := by rw [← hw3]; exact (B2.out.set_ 2 (.int .i64 x2))
      have o3 : Blk w3 w.heap.size 33 #[.int .i64 1, .int .u32 x1, .int .i64 x2, .slice A x3.length c, .int .i64 x4, .int .i64 0, .int .i64 0, .int .i64 x7, .int .i64 x8, .int .i64 x9, .int .u32 x10, .int .i64 x11, .int .i64 x12, .int .i64 x13, .int .i64 x14, .int .i64 x15, .int .i64 x16] := by rw [← hw3]; exact (O2.out.far (p := ⟨P, 2, none⟩) (by have := N1.out.size; have := B1.out.lt; have := HWP.out.2; show w.heap.size ≠ P; omega) (.int .i64 x2))
      have n3 : Nw w w3 := by rw [← hw3]; exact (Nw.set (Nw.trans N1.out N2.out) (by have := N1.out.size; have := HWP.out.2; show w.heap.size ≤ P; omega) (.int .i64 x2))
      have B3 := Lib.hid b3
      have O3 := Lib.hid o3
      have N3 := Lib.hid n3
      clear b3 o3 n3 hw3 u0 u2 v2 z2
      have HI3 := Lib.hid (show (Try.prog.info? 33).map (·.size) = some (#[.int .i64 1, .int .u32 x1, .int .i64 x2, .slice none 0 0, .int .i64 0, .int .i64 0, .int .i64 0, .int .i64 0, .int .i64 0, .int .i64 0, .int .u32 0, .int .i64 0, .int .i64 0, .int .i64 0, .int .i64 0, .int .i64 0, .int .i64 0] : Array Value).size by kernel_rfl)
      have HIQ := Lib.hid (show (Try.prog.info? 33).map (·.size) = some (#[.int .i64 1, .int .u32 x1, .int .i64 x2, .slice A x3.length c, .int .i64 x4, .int .i64 0, .int .i64 0, .int .i64 x7, .int .i64 x8, .int .i64 x9, .int .u32 x10, .int .i64 x11, .int .i64 x12, .int .i64 x13, .int .i64 x14, .int .i64 x15, .int .i64 x16] : Array Value).size by kernel_rfl)
      go_wp2_with (first | (refine wpList_load_row rfl 33 _ rfl P rfl 33 #[.int .i64 1, .int .u32 x1, .int .i64 x2, .slice none 0 0, .int .i64 0, .int .i64 0, .int .i64 0, .int .i64 0, .int .i64 0, .int .i64 0, .int .u32 0, .int .i64 0, .int .i64 0, .int .i64 0, .int .i64 0, .int .i64 0, .int .i64 0] (0, 0) (.struct d) B3.out HD.out rfl HI3.out ?_) | (refine wpList_load_row rfl 33 _ rfl w.heap.size rfl 33 #[.int .i64 1, .int .u32 x1, .int .i64 x2, .slice A x3.length c, .int .i64 x4, .int .i64 0, .int .i64 0, .int .i64 x7, .int .i64 x8, .int .i64 x9, .int .u32 x10, .int .i64 x11, .int .i64 x12, .int .i64 x13, .int .i64 x14, .int .i64 x15, .int .i64 x16] (0, 0) (.struct d) O3.out HD.out rfl HIQ.out ?_))
      refine (refRq_any w3 ⟨1, x1, x2, [], 0, 0, 0, 0, 0, 0, 0, 0, 0, 0, 0, 0, 0⟩ ⟨1, x1, x2, x3, x4, 0, 0, x7, x8, x9, x10, x11, x12, x13, x14, x15, x16⟩ none A 0 c (.inl rfl) (Rd.nw HA.out N3.out) (by have := HM.out; simp; try omega) (by have := HM.out; simp; omega)).mono ?_
      rintro e w4 ⟨rfl, n4⟩
      rw [HF.out]
      have N4 := Lib.hid n4
      clear n4
      go_wp2_with fail
      go_ret
      exact ⟨rfl, Nw.trans N3.out N4.out⟩
  by_cases k2 : x0 = 2
  · subst k2
    have u3 : w1.cell? ⟨w.heap.size, 3, none⟩ = some (.slice A x3.length c) := (B1.out.cell 3).trans rfl
    by_cases L1 : 1 ≤ x3.length
    · have l1 : ¬ (x3.length : Int) < 1 := by omega
      by_cases L2 : x3.length ≤ 4091
      · have l2 : ¬ (4091 : Int) < (x3.length : Int) := by omega
        as_aux_lemma =>
          have HF := Lib.hid (show Value.bool (decide ((⟨2, x1, 0, x3, 0, 0, 0, 0, 0, 0, 0, 0, 0, 0, 0, 0, 0⟩ : Rq) = ⟨2, x1, x2, x3, x4, 0, 0, x7, x8, x9, x10, x11, x12, x13, x14, x15, x16⟩)) = Value.bool (mayQ ⟨2, x1, x2, x3, x4, 0, 0, x7, x8, x9, x10, x11, x12, x13, x14, x15, x16⟩) by
            rw [mayQ_yes (show okQ ⟨2, x1, x2, x3, x4, 0, 0, x7, x8, x9, x10, x11, x12, x13, x14, x15, x16⟩ from ⟨HIN.out, by simp; exact ⟨L1, L2⟩⟩)]
            simp [onlyQ, Rq.zero])
          have u1 : w1.cell? ⟨w.heap.size, 1, none⟩ = some (.int .u32 x1) := (B1.out.cell 1).trans rfl
          go_upto_region 5 with (fail)
          go_upto_region 6 with (refine wpList_store_row rfl 33 _ _ rfl w1.heap.size #[.int .i64 2, .int .u32 x1, .int .i64 0, .slice none 0 0, .int .i64 0, .int .i64 0, .int .i64 0, .int .i64 0, .int .i64 0, .int .i64 0, .int .u32 0, .int .i64 0, .int .i64 0, .int .i64 0, .int .i64 0, .int .i64 0, .int .i64 0] rfl rfl 33 _ (heap_last _ _ rfl) (HJ.out _ _) rfl (H2.out _ _) ?_; rw [World.setRow_alloc_new])
          obtain ⟨w2, hw2⟩ : ∃ w2, w1.alloc (.cells #[.int .i64 2, .int .u32 x1, .int .i64 0, .slice none 0 0, .int .i64 0, .int .i64 0, .int .i64 0, .int .i64 0, .int .i64 0, .int .i64 0, .int .u32 0, .int .i64 0, .int .i64 0, .int .i64 0, .int .i64 0, .int .i64 0, .int .i64 0] 33) = w2 := ⟨_, rfl⟩
          obtain ⟨P, hP⟩ : ∃ P, w1.heap.size = P := ⟨_, rfl⟩
          rw [hw2, hP]
          have b2 : Blk w2 P 33 #[.int .i64 2, .int .u32 x1, .int .i64 0, .slice none 0 0, .int .i64 0, .int .i64 0, .int .i64 0, .int .i64 0, .int .i64 0, .int .i64 0, .int .u32 0, .int .i64 0, .int .i64 0, .int .i64 0, .int .i64 0, .int .i64 0, .int .i64 0] := by rw [← hw2]; exact Blk.last w1 _ _ hP
          have n2 : Nw w1 w2 := by rw [← hw2]; exact (Nw.refl w1).alloc _
          have o2 : Blk w2 w.heap.size 33 #[.int .i64 2, .int .u32 x1, .int .i64 x2, .slice A x3.length c, .int .i64 x4, .int .i64 0, .int .i64 0, .int .i64 x7, .int .i64 x8, .int .i64 x9, .int .u32 x10, .int .i64 x11, .int .i64 x12, .int .i64 x13, .int .i64 x14, .int .i64 x15, .int .i64 x16] := B1.out.below n2 B1.out.lt
          clear u0 u1 u3
          have u0 : w2.cell? ⟨w.heap.size, 0, none⟩ = some (.int .i64 2) := (o2.cell 0).trans rfl
          have u3 : w2.cell? ⟨w.heap.size, 3, none⟩ = some (.slice A x3.length c) := (o2.cell 3).trans rfl
          have v3 : w2.cell? ⟨P, 3, none⟩ = some (.slice none 0 0) := (b2.cell 3).trans rfl
          have z3 := b2.frozen 3
          have B2 := Lib.hid b2
          have N2 := Lib.hid n2
          have O2 := Lib.hid o2
          have HWP := Lib.hid (And.intro hw2 hP)
          clear b2 n2 o2 hw2 hP
          go_upto_region 23 with (fail)
          obtain ⟨w3, hw3⟩ : ∃ w3, (w2.setCell ⟨P, 3, none⟩ (.slice A x3.length c)) = w3 := ⟨_, rfl⟩
          rw [hw3]
          have b3 : Blk w3 P 33 #[.int .i64 2, .int .u32 x1, .int .i64 0, .slice A x3.length c, .int .i64 0, .int .i64 0, .int .i64 0, .int .i64 0, .int .i64 0, .int .i64 0, .int .u32 0, .int .i64 0, .int .i64 0, .int .i64 0, .int .i64 0, .int .i64 0, .int .i64 0] := by rw [← hw3]; exact (B2.out.set_ 3 (.slice A x3.length c))
          have o3 : Blk w3 w.heap.size 33 #[.int .i64 2, .int .u32 x1, .int .i64 x2, .slice A x3.length c, .int .i64 x4, .int .i64 0, .int .i64 0, .int .i64 x7, .int .i64 x8, .int .i64 x9, .int .u32 x10, .int .i64 x11, .int .i64 x12, .int .i64 x13, .int .i64 x14, .int .i64 x15, .int .i64 x16] := by rw [← hw3]; exact (O2.out.far (p := ⟨P, 3, none⟩) (by have := N1.out.size; have := B1.out.lt; have := HWP.out.2; show w.heap.size ≠ P; omega) (.slice A x3.length c))
          have n3 : Nw w w3 := by rw [← hw3]; exact (Nw.set (Nw.trans N1.out N2.out) (by have := N1.out.size; have := HWP.out.2; show w.heap.size ≤ P; omega) (.slice A x3.length c))
          have B3 := Lib.hid b3
          have O3 := Lib.hid o3
          have N3 := Lib.hid n3
          clear b3 o3 n3 hw3 u0 u3 v3 z3
          have HI3 := Lib.hid (show (Try.prog.info? 33).map (·.size) = some (#[.int .i64 2, .int .u32 x1, .int .i64 0, .slice A x3.length c, .int .i64 0, .int .i64 0, .int .i64 0, .int .i64 0, .int .i64 0, .int .i64 0, .int .u32 0, .int .i64 0, .int .i64 0, .int .i64 0, .int .i64 0, .int .i64 0, .int .i64 0] : Array Value).size by kernel_rfl)
          have HIQ := Lib.hid (show (Try.prog.info? 33).map (·.size) = some (#[.int .i64 2, .int .u32 x1, .int .i64 x2, .slice A x3.length c, .int .i64 x4, .int .i64 0, .int .i64 0, .int .i64 x7, .int .i64 x8, .int .i64 x9, .int .u32 x10, .int .i64 x11, .int .i64 x12, .int .i64 x13, .int .i64 x14, .int .i64 x15, .int .i64 x16] : Array Value).size by kernel_rfl)
          go_wp2_with (first | (refine wpList_load_row rfl 33 _ rfl P rfl 33 #[.int .i64 2, .int .u32 x1, .int .i64 0, .slice A x3.length c, .int .i64 0, .int .i64 0, .int .i64 0, .int .i64 0, .int .i64 0, .int .i64 0, .int .u32 0, .int .i64 0, .int .i64 0, .int .i64 0, .int .i64 0, .int .i64 0, .int .i64 0] (0, 0) (.struct d) B3.out HD.out rfl HI3.out ?_) | (refine wpList_load_row rfl 33 _ rfl w.heap.size rfl 33 #[.int .i64 2, .int .u32 x1, .int .i64 x2, .slice A x3.length c, .int .i64 x4, .int .i64 0, .int .i64 0, .int .i64 x7, .int .i64 x8, .int .i64 x9, .int .u32 x10, .int .i64 x11, .int .i64 x12, .int .i64 x13, .int .i64 x14, .int .i64 x15, .int .i64 x16] (0, 0) (.struct d) O3.out HD.out rfl HIQ.out ?_))
          refine (refRq_any w3 ⟨2, x1, 0, x3, 0, 0, 0, 0, 0, 0, 0, 0, 0, 0, 0, 0, 0⟩ ⟨2, x1, x2, x3, x4, 0, 0, x7, x8, x9, x10, x11, x12, x13, x14, x15, x16⟩ A A c c (Rd.nw HA.out N3.out) (Rd.nw HA.out N3.out) (by have := HM.out; simp; try omega) (by have := HM.out; simp; omega)).mono ?_
          rintro e w4 ⟨rfl, n4⟩
          rw [HF.out]
          have N4 := Lib.hid n4
          clear n4
          go_wp2_with fail
          go_ret
          exact ⟨rfl, Nw.trans N3.out N4.out⟩
      · have l2 : (4091 : Int) < (x3.length : Int) := by omega
        as_aux_lemma =>
          go_wp2_with fail
          go_ret
          exact ⟨(congrArg (fun b => Ending.returned (.bool b)) (mayQ_no (show ¬ okQ ⟨2, x1, x2, x3, x4, 0, 0, x7, x8, x9, x10, x11, x12, x13, x14, x15, x16⟩ from fun h => by have := h.2 rfl; dsimp only at this; omega))).symm, N1.out⟩
    · have l1 : (x3.length : Int) < 1 := by omega
      as_aux_lemma =>
        go_wp2_with fail
        go_ret
        exact ⟨(congrArg (fun b => Ending.returned (.bool b)) (mayQ_no (show ¬ okQ ⟨2, x1, x2, x3, x4, 0, 0, x7, x8, x9, x10, x11, x12, x13, x14, x15, x16⟩ from fun h => by have := h.2 rfl; dsimp only at this; omega))).symm, N1.out⟩
  by_cases k3 : x0 = 3
  · subst k3
    as_aux_lemma =>
      have HF := Lib.hid (show Value.bool (decide ((⟨3, x1, 0, [], x4, 0, 0, x7, x8, x9, 0, 0, 0, 0, 0, 0, 0⟩ : Rq) = ⟨3, x1, x2, x3, x4, 0, 0, x7, x8, x9, x10, x11, x12, x13, x14, x15, x16⟩)) = Value.bool (mayQ ⟨3, x1, x2, x3, x4, 0, 0, x7, x8, x9, x10, x11, x12, x13, x14, x15, x16⟩) by
        rw [mayQ_yes (show okQ ⟨3, x1, x2, x3, x4, 0, 0, x7, x8, x9, x10, x11, x12, x13, x14, x15, x16⟩ from ⟨HIN.out, by simp⟩)]
        simp [onlyQ, Rq.zero])
      have u1 : w1.cell? ⟨w.heap.size, 1, none⟩ = some (.int .u32 x1) := (B1.out.cell 1).trans rfl
      go_upto_region 5 with (fail)
      go_upto_region 6 with (refine wpList_store_row rfl 33 _ _ rfl w1.heap.size #[.int .i64 3, .int .u32 x1, .int .i64 0, .slice none 0 0, .int .i64 0, .int .i64 0, .int .i64 0, .int .i64 0, .int .i64 0, .int .i64 0, .int .u32 0, .int .i64 0, .int .i64 0, .int .i64 0, .int .i64 0, .int .i64 0, .int .i64 0] rfl rfl 33 _ (heap_last _ _ rfl) (HJ.out _ _) rfl (H2.out _ _) ?_; rw [World.setRow_alloc_new])
      obtain ⟨w2, hw2⟩ : ∃ w2, w1.alloc (.cells #[.int .i64 3, .int .u32 x1, .int .i64 0, .slice none 0 0, .int .i64 0, .int .i64 0, .int .i64 0, .int .i64 0, .int .i64 0, .int .i64 0, .int .u32 0, .int .i64 0, .int .i64 0, .int .i64 0, .int .i64 0, .int .i64 0, .int .i64 0] 33) = w2 := ⟨_, rfl⟩
      obtain ⟨P, hP⟩ : ∃ P, w1.heap.size = P := ⟨_, rfl⟩
      rw [hw2, hP]
      have b2 : Blk w2 P 33 #[.int .i64 3, .int .u32 x1, .int .i64 0, .slice none 0 0, .int .i64 0, .int .i64 0, .int .i64 0, .int .i64 0, .int .i64 0, .int .i64 0, .int .u32 0, .int .i64 0, .int .i64 0, .int .i64 0, .int .i64 0, .int .i64 0, .int .i64 0] := by rw [← hw2]; exact Blk.last w1 _ _ hP
      have n2 : Nw w1 w2 := by rw [← hw2]; exact (Nw.refl w1).alloc _
      have o2 : Blk w2 w.heap.size 33 #[.int .i64 3, .int .u32 x1, .int .i64 x2, .slice A x3.length c, .int .i64 x4, .int .i64 0, .int .i64 0, .int .i64 x7, .int .i64 x8, .int .i64 x9, .int .u32 x10, .int .i64 x11, .int .i64 x12, .int .i64 x13, .int .i64 x14, .int .i64 x15, .int .i64 x16] := B1.out.below n2 B1.out.lt
      clear u0 u1
      have u0 : w2.cell? ⟨w.heap.size, 0, none⟩ = some (.int .i64 3) := (o2.cell 0).trans rfl
      have u4 : w2.cell? ⟨w.heap.size, 4, none⟩ = some (.int .i64 x4) := (o2.cell 4).trans rfl
      have u5 : w2.cell? ⟨w.heap.size, 5, none⟩ = some (.int .i64 0) := (o2.cell 5).trans rfl
      have u6 : w2.cell? ⟨w.heap.size, 6, none⟩ = some (.int .i64 0) := (o2.cell 6).trans rfl
      have u7 : w2.cell? ⟨w.heap.size, 7, none⟩ = some (.int .i64 x7) := (o2.cell 7).trans rfl
      have u8 : w2.cell? ⟨w.heap.size, 8, none⟩ = some (.int .i64 x8) := (o2.cell 8).trans rfl
      have u9 : w2.cell? ⟨w.heap.size, 9, none⟩ = some (.int .i64 x9) := (o2.cell 9).trans rfl
      have v4 : w2.cell? ⟨P, 4, none⟩ = some (.int .i64 0) := (b2.cell 4).trans rfl
      have z4 := b2.frozen 4
      have v5 : w2.cell? ⟨P, 5, none⟩ = some (.int .i64 0) := (b2.cell 5).trans rfl
      have z5 := b2.frozen 5
      have v6 : w2.cell? ⟨P, 6, none⟩ = some (.int .i64 0) := (b2.cell 6).trans rfl
      have z6 := b2.frozen 6
      have v7 : w2.cell? ⟨P, 7, none⟩ = some (.int .i64 0) := (b2.cell 7).trans rfl
      have z7 := b2.frozen 7
      have v8 : w2.cell? ⟨P, 8, none⟩ = some (.int .i64 0) := (b2.cell 8).trans rfl
      have z8 := b2.frozen 8
      have v9 : w2.cell? ⟨P, 9, none⟩ = some (.int .i64 0) := (b2.cell 9).trans rfl
      have z9 := b2.frozen 9
      have B2 := Lib.hid b2
      have N2 := Lib.hid n2
      have O2 := Lib.hid o2
      have HWP := Lib.hid (And.intro hw2 hP)
      clear b2 n2 o2 hw2 hP
      go_upto_region 23 with (fail)
      obtain ⟨w3, hw3⟩ : ∃ w3, ((((((w2.setCell ⟨P, 4, none⟩ (.int .i64 x4)).setCell ⟨P, 5, none⟩ (.int .i64 0)).setCell ⟨P, 6, none⟩ (.int .i64 0)).setCell ⟨P, 7, none⟩ (.int .i64 x7)).setCell ⟨P, 8, none⟩ (.int .i64 x8)).setCell ⟨P, 9, none⟩ (.int .i64 x9)) = w3 := ⟨_, rfl⟩
      rw [hw3]
      have b3 : Blk w3 P 33 #[.int .i64 3, .int .u32 x1, .int .i64 0, .slice none 0 0, .int .i64 x4, .int .i64 0, .int .i64 0, .int .i64 x7, .int .i64 x8, .int .i64 x9, .int .u32 0, .int .i64 0, .int .i64 0, .int .i64 0, .int .i64 0, .int .i64 0, .int .i64 0] := by rw [← hw3]; exact ((((((B2.out.set_ 4 (.int .i64 x4)).set_ 5 (.int .i64 0)).set_ 6 (.int .i64 0)).set_ 7 (.int .i64 x7)).set_ 8 (.int .i64 x8)).set_ 9 (.int .i64 x9))
      have o3 : Blk w3 w.heap.size 33 #[.int .i64 3, .int .u32 x1, .int .i64 x2, .slice A x3.length c, .int .i64 x4, .int .i64 0, .int .i64 0, .int .i64 x7, .int .i64 x8, .int .i64 x9, .int .u32 x10, .int .i64 x11, .int .i64 x12, .int .i64 x13, .int .i64 x14, .int .i64 x15, .int .i64 x16] := by rw [← hw3]; exact ((((((O2.out.far (p := ⟨P, 4, none⟩) (by have := N1.out.size; have := B1.out.lt; have := HWP.out.2; show w.heap.size ≠ P; omega) (.int .i64 x4)).far (p := ⟨P, 5, none⟩) (by have := N1.out.size; have := B1.out.lt; have := HWP.out.2; show w.heap.size ≠ P; omega) (.int .i64 0)).far (p := ⟨P, 6, none⟩) (by have := N1.out.size; have := B1.out.lt; have := HWP.out.2; show w.heap.size ≠ P; omega) (.int .i64 0)).far (p := ⟨P, 7, none⟩) (by have := N1.out.size; have := B1.out.lt; have := HWP.out.2; show w.heap.size ≠ P; omega) (.int .i64 x7)).far (p := ⟨P, 8, none⟩) (by have := N1.out.size; have := B1.out.lt; have := HWP.out.2; show w.heap.size ≠ P; omega) (.int .i64 x8)).far (p := ⟨P, 9, none⟩) (by have := N1.out.size; have := B1.out.lt; have := HWP.out.2; show w.heap.size ≠ P; omega) (.int .i64 x9))
      have n3 : Nw w w3 := by rw [← hw3]; exact (Nw.set (Nw.set (Nw.set (Nw.set (Nw.set (Nw.set (Nw.trans N1.out N2.out) (by have := N1.out.size; have := HWP.out.2; show w.heap.size ≤ P; omega) (.int .i64 x4)) (by have := N1.out.size; have := HWP.out.2; show w.heap.size ≤ P; omega) (.int .i64 0)) (by have := N1.out.size; have := HWP.out.2; show w.heap.size ≤ P; omega) (.int .i64 0)) (by have := N1.out.size; have := HWP.out.2; show w.heap.size ≤ P; omega) (.int .i64 x7)) (by have := N1.out.size; have := HWP.out.2; show w.heap.size ≤ P; omega) (.int .i64 x8)) (by have := N1.out.size; have := HWP.out.2; show w.heap.size ≤ P; omega) (.int .i64 x9))
      have B3 := Lib.hid b3
      have O3 := Lib.hid o3
      have N3 := Lib.hid n3
      clear b3 o3 n3 hw3 u0 u4 v4 z4 u5 v5 z5 u6 v6 z6 u7 v7 z7 u8 v8 z8 u9 v9 z9
      have HI3 := Lib.hid (show (Try.prog.info? 33).map (·.size) = some (#[.int .i64 3, .int .u32 x1, .int .i64 0, .slice none 0 0, .int .i64 x4, .int .i64 0, .int .i64 0, .int .i64 x7, .int .i64 x8, .int .i64 x9, .int .u32 0, .int .i64 0, .int .i64 0, .int .i64 0, .int .i64 0, .int .i64 0, .int .i64 0] : Array Value).size by kernel_rfl)
      have HIQ := Lib.hid (show (Try.prog.info? 33).map (·.size) = some (#[.int .i64 3, .int .u32 x1, .int .i64 x2, .slice A x3.length c, .int .i64 x4, .int .i64 0, .int .i64 0, .int .i64 x7, .int .i64 x8, .int .i64 x9, .int .u32 x10, .int .i64 x11, .int .i64 x12, .int .i64 x13, .int .i64 x14, .int .i64 x15, .int .i64 x16] : Array Value).size by kernel_rfl)
      go_wp2_with (first | (refine wpList_load_row rfl 33 _ rfl P rfl 33 #[.int .i64 3, .int .u32 x1, .int .i64 0, .slice none 0 0, .int .i64 x4, .int .i64 0, .int .i64 0, .int .i64 x7, .int .i64 x8, .int .i64 x9, .int .u32 0, .int .i64 0, .int .i64 0, .int .i64 0, .int .i64 0, .int .i64 0, .int .i64 0] (0, 0) (.struct d) B3.out HD.out rfl HI3.out ?_) | (refine wpList_load_row rfl 33 _ rfl w.heap.size rfl 33 #[.int .i64 3, .int .u32 x1, .int .i64 x2, .slice A x3.length c, .int .i64 x4, .int .i64 0, .int .i64 0, .int .i64 x7, .int .i64 x8, .int .i64 x9, .int .u32 x10, .int .i64 x11, .int .i64 x12, .int .i64 x13, .int .i64 x14, .int .i64 x15, .int .i64 x16] (0, 0) (.struct d) O3.out HD.out rfl HIQ.out ?_))
      refine (refRq_any w3 ⟨3, x1, 0, [], x4, 0, 0, x7, x8, x9, 0, 0, 0, 0, 0, 0, 0⟩ ⟨3, x1, x2, x3, x4, 0, 0, x7, x8, x9, x10, x11, x12, x13, x14, x15, x16⟩ none A 0 c (.inl rfl) (Rd.nw HA.out N3.out) (by have := HM.out; simp; try omega) (by have := HM.out; simp; omega)).mono ?_
      rintro e w4 ⟨rfl, n4⟩
      rw [HF.out]
      have N4 := Lib.hid n4
      clear n4
      go_wp2_with fail
      go_ret
      exact ⟨rfl, Nw.trans N3.out N4.out⟩
  by_cases k4 : x0 = 4
  · subst k4
    as_aux_lemma =>
      have HF := Lib.hid (show Value.bool (decide ((⟨4, x1, 0, [], 0, 0, 0, 0, 0, 0, x10, x11, x12, x13, 0, 0, 0⟩ : Rq) = ⟨4, x1, x2, x3, x4, 0, 0, x7, x8, x9, x10, x11, x12, x13, x14, x15, x16⟩)) = Value.bool (mayQ ⟨4, x1, x2, x3, x4, 0, 0, x7, x8, x9, x10, x11, x12, x13, x14, x15, x16⟩) by
        rw [mayQ_yes (show okQ ⟨4, x1, x2, x3, x4, 0, 0, x7, x8, x9, x10, x11, x12, x13, x14, x15, x16⟩ from ⟨HIN.out, by simp⟩)]
        simp [onlyQ, Rq.zero])
      have u1 : w1.cell? ⟨w.heap.size, 1, none⟩ = some (.int .u32 x1) := (B1.out.cell 1).trans rfl
      go_upto_region 5 with (fail)
      go_upto_region 6 with (refine wpList_store_row rfl 33 _ _ rfl w1.heap.size #[.int .i64 4, .int .u32 x1, .int .i64 0, .slice none 0 0, .int .i64 0, .int .i64 0, .int .i64 0, .int .i64 0, .int .i64 0, .int .i64 0, .int .u32 0, .int .i64 0, .int .i64 0, .int .i64 0, .int .i64 0, .int .i64 0, .int .i64 0] rfl rfl 33 _ (heap_last _ _ rfl) (HJ.out _ _) rfl (H2.out _ _) ?_; rw [World.setRow_alloc_new])
      obtain ⟨w2, hw2⟩ : ∃ w2, w1.alloc (.cells #[.int .i64 4, .int .u32 x1, .int .i64 0, .slice none 0 0, .int .i64 0, .int .i64 0, .int .i64 0, .int .i64 0, .int .i64 0, .int .i64 0, .int .u32 0, .int .i64 0, .int .i64 0, .int .i64 0, .int .i64 0, .int .i64 0, .int .i64 0] 33) = w2 := ⟨_, rfl⟩
      obtain ⟨P, hP⟩ : ∃ P, w1.heap.size = P := ⟨_, rfl⟩
      rw [hw2, hP]
      have b2 : Blk w2 P 33 #[.int .i64 4, .int .u32 x1, .int .i64 0, .slice none 0 0, .int .i64 0, .int .i64 0, .int .i64 0, .int .i64 0, .int .i64 0, .int .i64 0, .int .u32 0, .int .i64 0, .int .i64 0, .int .i64 0, .int .i64 0, .int .i64 0, .int .i64 0] := by rw [← hw2]; exact Blk.last w1 _ _ hP
      have n2 : Nw w1 w2 := by rw [← hw2]; exact (Nw.refl w1).alloc _
      have o2 : Blk w2 w.heap.size 33 #[.int .i64 4, .int .u32 x1, .int .i64 x2, .slice A x3.length c, .int .i64 x4, .int .i64 0, .int .i64 0, .int .i64 x7, .int .i64 x8, .int .i64 x9, .int .u32 x10, .int .i64 x11, .int .i64 x12, .int .i64 x13, .int .i64 x14, .int .i64 x15, .int .i64 x16] := B1.out.below n2 B1.out.lt
      clear u0 u1
      have u0 : w2.cell? ⟨w.heap.size, 0, none⟩ = some (.int .i64 4) := (o2.cell 0).trans rfl
      have u10 : w2.cell? ⟨w.heap.size, 10, none⟩ = some (.int .u32 x10) := (o2.cell 10).trans rfl
      have u11 : w2.cell? ⟨w.heap.size, 11, none⟩ = some (.int .i64 x11) := (o2.cell 11).trans rfl
      have u12 : w2.cell? ⟨w.heap.size, 12, none⟩ = some (.int .i64 x12) := (o2.cell 12).trans rfl
      have u13 : w2.cell? ⟨w.heap.size, 13, none⟩ = some (.int .i64 x13) := (o2.cell 13).trans rfl
      have v10 : w2.cell? ⟨P, 10, none⟩ = some (.int .u32 0) := (b2.cell 10).trans rfl
      have z10 := b2.frozen 10
      have v11 : w2.cell? ⟨P, 11, none⟩ = some (.int .i64 0) := (b2.cell 11).trans rfl
      have z11 := b2.frozen 11
      have v12 : w2.cell? ⟨P, 12, none⟩ = some (.int .i64 0) := (b2.cell 12).trans rfl
      have z12 := b2.frozen 12
      have v13 : w2.cell? ⟨P, 13, none⟩ = some (.int .i64 0) := (b2.cell 13).trans rfl
      have z13 := b2.frozen 13
      have B2 := Lib.hid b2
      have N2 := Lib.hid n2
      have O2 := Lib.hid o2
      have HWP := Lib.hid (And.intro hw2 hP)
      clear b2 n2 o2 hw2 hP
      go_upto_region 23 with (fail)
      obtain ⟨w3, hw3⟩ : ∃ w3, ((((w2.setCell ⟨P, 10, none⟩ (.int .u32 x10)).setCell ⟨P, 11, none⟩ (.int .i64 x11)).setCell ⟨P, 12, none⟩ (.int .i64 x12)).setCell ⟨P, 13, none⟩ (.int .i64 x13)) = w3 := ⟨_, rfl⟩
      rw [hw3]
      have b3 : Blk w3 P 33 #[.int .i64 4, .int .u32 x1, .int .i64 0, .slice none 0 0, .int .i64 0, .int .i64 0, .int .i64 0, .int .i64 0, .int .i64 0, .int .i64 0, .int .u32 x10, .int .i64 x11, .int .i64 x12, .int .i64 x13, .int .i64 0, .int .i64 0, .int .i64 0] := by rw [← hw3]; exact ((((B2.out.set_ 10 (.int .u32 x10)).set_ 11 (.int .i64 x11)).set_ 12 (.int .i64 x12)).set_ 13 (.int .i64 x13))
      have o3 : Blk w3 w.heap.size 33 #[.int .i64 4, .int .u32 x1, .int .i64 x2, .slice A x3.length c, .int .i64 x4, .int .i64 0, .int .i64 0, .int .i64 x7, .int .i64 x8, .int .i64 x9, .int .u32 x10, .int .i64 x11, .int .i64 x12, .int .i64 x13, .int .i64 x14, .int .i64 x15, .int .i64 x16] := by rw [← hw3]; exact ((((O2.out.far (p := ⟨P, 10, none⟩) (by have := N1.out.size; have := B1.out.lt; have := HWP.out.2; show w.heap.size ≠ P; omega) (.int .u32 x10)).far (p := ⟨P, 11, none⟩) (by have := N1.out.size; have := B1.out.lt; have := HWP.out.2; show w.heap.size ≠ P; omega) (.int .i64 x11)).far (p := ⟨P, 12, none⟩) (by have := N1.out.size; have := B1.out.lt; have := HWP.out.2; show w.heap.size ≠ P; omega) (.int .i64 x12)).far (p := ⟨P, 13, none⟩) (by have := N1.out.size; have := B1.out.lt; have := HWP.out.2; show w.heap.size ≠ P; omega) (.int .i64 x13))
      have n3 : Nw w w3 := by rw [← hw3]; exact (Nw.set (Nw.set (Nw.set (Nw.set (Nw.trans N1.out N2.out) (by have := N1.out.size; have := HWP.out.2; show w.heap.size ≤ P; omega) (.int .u32 x10)) (by have := N1.out.size; have := HWP.out.2; show w.heap.size ≤ P; omega) (.int .i64 x11)) (by have := N1.out.size; have := HWP.out.2; show w.heap.size ≤ P; omega) (.int .i64 x12)) (by have := N1.out.size; have := HWP.out.2; show w.heap.size ≤ P; omega) (.int .i64 x13))
      have B3 := Lib.hid b3
      have O3 := Lib.hid o3
      have N3 := Lib.hid n3
      clear b3 o3 n3 hw3 u0 u10 v10 z10 u11 v11 z11 u12 v12 z12 u13 v13 z13
      have HI3 := Lib.hid (show (Try.prog.info? 33).map (·.size) = some (#[.int .i64 4, .int .u32 x1, .int .i64 0, .slice none 0 0, .int .i64 0, .int .i64 0, .int .i64 0, .int .i64 0, .int .i64 0, .int .i64 0, .int .u32 x10, .int .i64 x11, .int .i64 x12, .int .i64 x13, .int .i64 0, .int .i64 0, .int .i64 0] : Array Value).size by kernel_rfl)
      have HIQ := Lib.hid (show (Try.prog.info? 33).map (·.size) = some (#[.int .i64 4, .int .u32 x1, .int .i64 x2, .slice A x3.length c, .int .i64 x4, .int .i64 0, .int .i64 0, .int .i64 x7, .int .i64 x8, .int .i64 x9, .int .u32 x10, .int .i64 x11, .int .i64 x12, .int .i64 x13, .int .i64 x14, .int .i64 x15, .int .i64 x16] : Array Value).size by kernel_rfl)
      go_wp2_with (first | (refine wpList_load_row rfl 33 _ rfl P rfl 33 #[.int .i64 4, .int .u32 x1, .int .i64 0, .slice none 0 0, .int .i64 0, .int .i64 0, .int .i64 0, .int .i64 0, .int .i64 0, .int .i64 0, .int .u32 x10, .int .i64 x11, .int .i64 x12, .int .i64 x13, .int .i64 0, .int .i64 0, .int .i64 0] (0, 0) (.struct d) B3.out HD.out rfl HI3.out ?_) | (refine wpList_load_row rfl 33 _ rfl w.heap.size rfl 33 #[.int .i64 4, .int .u32 x1, .int .i64 x2, .slice A x3.length c, .int .i64 x4, .int .i64 0, .int .i64 0, .int .i64 x7, .int .i64 x8, .int .i64 x9, .int .u32 x10, .int .i64 x11, .int .i64 x12, .int .i64 x13, .int .i64 x14, .int .i64 x15, .int .i64 x16] (0, 0) (.struct d) O3.out HD.out rfl HIQ.out ?_))
      refine (refRq_any w3 ⟨4, x1, 0, [], 0, 0, 0, 0, 0, 0, x10, x11, x12, x13, 0, 0, 0⟩ ⟨4, x1, x2, x3, x4, 0, 0, x7, x8, x9, x10, x11, x12, x13, x14, x15, x16⟩ none A 0 c (.inl rfl) (Rd.nw HA.out N3.out) (by have := HM.out; simp; try omega) (by have := HM.out; simp; omega)).mono ?_
      rintro e w4 ⟨rfl, n4⟩
      rw [HF.out]
      have N4 := Lib.hid n4
      clear n4
      go_wp2_with fail
      go_ret
      exact ⟨rfl, Nw.trans N3.out N4.out⟩
  by_cases k5 : x0 = 5
  · subst k5
    as_aux_lemma =>
      have HF := Lib.hid (show Value.bool (decide ((⟨5, x1, 0, [], 0, 0, 0, 0, 0, 0, x10, 0, 0, 0, 0, 0, 0⟩ : Rq) = ⟨5, x1, x2, x3, x4, 0, 0, x7, x8, x9, x10, x11, x12, x13, x14, x15, x16⟩)) = Value.bool (mayQ ⟨5, x1, x2, x3, x4, 0, 0, x7, x8, x9, x10, x11, x12, x13, x14, x15, x16⟩) by
        rw [mayQ_yes (show okQ ⟨5, x1, x2, x3, x4, 0, 0, x7, x8, x9, x10, x11, x12, x13, x14, x15, x16⟩ from ⟨HIN.out, by simp⟩)]
        simp [onlyQ, Rq.zero])
      have u1 : w1.cell? ⟨w.heap.size, 1, none⟩ = some (.int .u32 x1) := (B1.out.cell 1).trans rfl
      go_upto_region 5 with (fail)
      go_upto_region 6 with (refine wpList_store_row rfl 33 _ _ rfl w1.heap.size #[.int .i64 5, .int .u32 x1, .int .i64 0, .slice none 0 0, .int .i64 0, .int .i64 0, .int .i64 0, .int .i64 0, .int .i64 0, .int .i64 0, .int .u32 0, .int .i64 0, .int .i64 0, .int .i64 0, .int .i64 0, .int .i64 0, .int .i64 0] rfl rfl 33 _ (heap_last _ _ rfl) (HJ.out _ _) rfl (H2.out _ _) ?_; rw [World.setRow_alloc_new])
      obtain ⟨w2, hw2⟩ : ∃ w2, w1.alloc (.cells #[.int .i64 5, .int .u32 x1, .int .i64 0, .slice none 0 0, .int .i64 0, .int .i64 0, .int .i64 0, .int .i64 0, .int .i64 0, .int .i64 0, .int .u32 0, .int .i64 0, .int .i64 0, .int .i64 0, .int .i64 0, .int .i64 0, .int .i64 0] 33) = w2 := ⟨_, rfl⟩
      obtain ⟨P, hP⟩ : ∃ P, w1.heap.size = P := ⟨_, rfl⟩
      rw [hw2, hP]
      have b2 : Blk w2 P 33 #[.int .i64 5, .int .u32 x1, .int .i64 0, .slice none 0 0, .int .i64 0, .int .i64 0, .int .i64 0, .int .i64 0, .int .i64 0, .int .i64 0, .int .u32 0, .int .i64 0, .int .i64 0, .int .i64 0, .int .i64 0, .int .i64 0, .int .i64 0] := by rw [← hw2]; exact Blk.last w1 _ _ hP
      have n2 : Nw w1 w2 := by rw [← hw2]; exact (Nw.refl w1).alloc _
      have o2 : Blk w2 w.heap.size 33 #[.int .i64 5, .int .u32 x1, .int .i64 x2, .slice A x3.length c, .int .i64 x4, .int .i64 0, .int .i64 0, .int .i64 x7, .int .i64 x8, .int .i64 x9, .int .u32 x10, .int .i64 x11, .int .i64 x12, .int .i64 x13, .int .i64 x14, .int .i64 x15, .int .i64 x16] := B1.out.below n2 B1.out.lt
      clear u0 u1
      have u0 : w2.cell? ⟨w.heap.size, 0, none⟩ = some (.int .i64 5) := (o2.cell 0).trans rfl
      have u10 : w2.cell? ⟨w.heap.size, 10, none⟩ = some (.int .u32 x10) := (o2.cell 10).trans rfl
      have v10 : w2.cell? ⟨P, 10, none⟩ = some (.int .u32 0) := (b2.cell 10).trans rfl
      have z10 := b2.frozen 10
      have B2 := Lib.hid b2
      have N2 := Lib.hid n2
      have O2 := Lib.hid o2
      have HWP := Lib.hid (And.intro hw2 hP)
      clear b2 n2 o2 hw2 hP
      go_upto_region 23 with (fail)
      obtain ⟨w3, hw3⟩ : ∃ w3, (w2.setCell ⟨P, 10, none⟩ (.int .u32 x10)) = w3 := ⟨_, rfl⟩
      rw [hw3]
      have b3 : Blk w3 P 33 #[.int .i64 5, .int .u32 x1, .int .i64 0, .slice none 0 0, .int .i64 0, .int .i64 0, .int .i64 0, .int .i64 0, .int .i64 0, .int .i64 0, .int .u32 x10, .int .i64 0, .int .i64 0, .int .i64 0, .int .i64 0, .int .i64 0, .int .i64 0] := by rw [← hw3]; exact (B2.out.set_ 10 (.int .u32 x10))
      have o3 : Blk w3 w.heap.size 33 #[.int .i64 5, .int .u32 x1, .int .i64 x2, .slice A x3.length c, .int .i64 x4, .int .i64 0, .int .i64 0, .int .i64 x7, .int .i64 x8, .int .i64 x9, .int .u32 x10, .int .i64 x11, .int .i64 x12, .int .i64 x13, .int .i64 x14, .int .i64 x15, .int .i64 x16] := by rw [← hw3]; exact (O2.out.far (p := ⟨P, 10, none⟩) (by have := N1.out.size; have := B1.out.lt; have := HWP.out.2; show w.heap.size ≠ P; omega) (.int .u32 x10))
      have n3 : Nw w w3 := by rw [← hw3]; exact (Nw.set (Nw.trans N1.out N2.out) (by have := N1.out.size; have := HWP.out.2; show w.heap.size ≤ P; omega) (.int .u32 x10))
      have B3 := Lib.hid b3
      have O3 := Lib.hid o3
      have N3 := Lib.hid n3
      clear b3 o3 n3 hw3 u0 u10 v10 z10
      have HI3 := Lib.hid (show (Try.prog.info? 33).map (·.size) = some (#[.int .i64 5, .int .u32 x1, .int .i64 0, .slice none 0 0, .int .i64 0, .int .i64 0, .int .i64 0, .int .i64 0, .int .i64 0, .int .i64 0, .int .u32 x10, .int .i64 0, .int .i64 0, .int .i64 0, .int .i64 0, .int .i64 0, .int .i64 0] : Array Value).size by kernel_rfl)
      have HIQ := Lib.hid (show (Try.prog.info? 33).map (·.size) = some (#[.int .i64 5, .int .u32 x1, .int .i64 x2, .slice A x3.length c, .int .i64 x4, .int .i64 0, .int .i64 0, .int .i64 x7, .int .i64 x8, .int .i64 x9, .int .u32 x10, .int .i64 x11, .int .i64 x12, .int .i64 x13, .int .i64 x14, .int .i64 x15, .int .i64 x16] : Array Value).size by kernel_rfl)
      go_wp2_with (first | (refine wpList_load_row rfl 33 _ rfl P rfl 33 #[.int .i64 5, .int .u32 x1, .int .i64 0, .slice none 0 0, .int .i64 0, .int .i64 0, .int .i64 0, .int .i64 0, .int .i64 0, .int .i64 0, .int .u32 x10, .int .i64 0, .int .i64 0, .int .i64 0, .int .i64 0, .int .i64 0, .int .i64 0] (0, 0) (.struct d) B3.out HD.out rfl HI3.out ?_) | (refine wpList_load_row rfl 33 _ rfl w.heap.size rfl 33 #[.int .i64 5, .int .u32 x1, .int .i64 x2, .slice A x3.length c, .int .i64 x4, .int .i64 0, .int .i64 0, .int .i64 x7, .int .i64 x8, .int .i64 x9, .int .u32 x10, .int .i64 x11, .int .i64 x12, .int .i64 x13, .int .i64 x14, .int .i64 x15, .int .i64 x16] (0, 0) (.struct d) O3.out HD.out rfl HIQ.out ?_))
      refine (refRq_any w3 ⟨5, x1, 0, [], 0, 0, 0, 0, 0, 0, x10, 0, 0, 0, 0, 0, 0⟩ ⟨5, x1, x2, x3, x4, 0, 0, x7, x8, x9, x10, x11, x12, x13, x14, x15, x16⟩ none A 0 c (.inl rfl) (Rd.nw HA.out N3.out) (by have := HM.out; simp; try omega) (by have := HM.out; simp; omega)).mono ?_
      rintro e w4 ⟨rfl, n4⟩
      rw [HF.out]
      have N4 := Lib.hid n4
      clear n4
      go_wp2_with fail
      go_ret
      exact ⟨rfl, Nw.trans N3.out N4.out⟩
  by_cases k6 : x0 = 6
  · subst k6
    as_aux_lemma =>
      have HF := Lib.hid (show Value.bool (decide ((⟨6, x1, 0, [], 0, 0, 0, 0, 0, 0, 0, 0, 0, 0, x14, 0, 0⟩ : Rq) = ⟨6, x1, x2, x3, x4, 0, 0, x7, x8, x9, x10, x11, x12, x13, x14, x15, x16⟩)) = Value.bool (mayQ ⟨6, x1, x2, x3, x4, 0, 0, x7, x8, x9, x10, x11, x12, x13, x14, x15, x16⟩) by
        rw [mayQ_yes (show okQ ⟨6, x1, x2, x3, x4, 0, 0, x7, x8, x9, x10, x11, x12, x13, x14, x15, x16⟩ from ⟨HIN.out, by simp⟩)]
        simp [onlyQ, Rq.zero])
      have u1 : w1.cell? ⟨w.heap.size, 1, none⟩ = some (.int .u32 x1) := (B1.out.cell 1).trans rfl
      go_upto_region 5 with (fail)
      go_upto_region 6 with (refine wpList_store_row rfl 33 _ _ rfl w1.heap.size #[.int .i64 6, .int .u32 x1, .int .i64 0, .slice none 0 0, .int .i64 0, .int .i64 0, .int .i64 0, .int .i64 0, .int .i64 0, .int .i64 0, .int .u32 0, .int .i64 0, .int .i64 0, .int .i64 0, .int .i64 0, .int .i64 0, .int .i64 0] rfl rfl 33 _ (heap_last _ _ rfl) (HJ.out _ _) rfl (H2.out _ _) ?_; rw [World.setRow_alloc_new])
      obtain ⟨w2, hw2⟩ : ∃ w2, w1.alloc (.cells #[.int .i64 6, .int .u32 x1, .int .i64 0, .slice none 0 0, .int .i64 0, .int .i64 0, .int .i64 0, .int .i64 0, .int .i64 0, .int .i64 0, .int .u32 0, .int .i64 0, .int .i64 0, .int .i64 0, .int .i64 0, .int .i64 0, .int .i64 0] 33) = w2 := ⟨_, rfl⟩
      obtain ⟨P, hP⟩ : ∃ P, w1.heap.size = P := ⟨_, rfl⟩
      rw [hw2, hP]
      have b2 : Blk w2 P 33 #[.int .i64 6, .int .u32 x1, .int .i64 0, .slice none 0 0, .int .i64 0, .int .i64 0, .int .i64 0, .int .i64 0, .int .i64 0, .int .i64 0, .int .u32 0, .int .i64 0, .int .i64 0, .int .i64 0, .int .i64 0, .int .i64 0, .int .i64 0] := by rw [← hw2]; exact Blk.last w1 _ _ hP
      have n2 : Nw w1 w2 := by rw [← hw2]; exact (Nw.refl w1).alloc _
      have o2 : Blk w2 w.heap.size 33 #[.int .i64 6, .int .u32 x1, .int .i64 x2, .slice A x3.length c, .int .i64 x4, .int .i64 0, .int .i64 0, .int .i64 x7, .int .i64 x8, .int .i64 x9, .int .u32 x10, .int .i64 x11, .int .i64 x12, .int .i64 x13, .int .i64 x14, .int .i64 x15, .int .i64 x16] := B1.out.below n2 B1.out.lt
      clear u0 u1
      have u0 : w2.cell? ⟨w.heap.size, 0, none⟩ = some (.int .i64 6) := (o2.cell 0).trans rfl
      have u14 : w2.cell? ⟨w.heap.size, 14, none⟩ = some (.int .i64 x14) := (o2.cell 14).trans rfl
      have v14 : w2.cell? ⟨P, 14, none⟩ = some (.int .i64 0) := (b2.cell 14).trans rfl
      have z14 := b2.frozen 14
      have B2 := Lib.hid b2
      have N2 := Lib.hid n2
      have O2 := Lib.hid o2
      have HWP := Lib.hid (And.intro hw2 hP)
      clear b2 n2 o2 hw2 hP
      go_upto_region 23 with (fail)
      obtain ⟨w3, hw3⟩ : ∃ w3, (w2.setCell ⟨P, 14, none⟩ (.int .i64 x14)) = w3 := ⟨_, rfl⟩
      rw [hw3]
      have b3 : Blk w3 P 33 #[.int .i64 6, .int .u32 x1, .int .i64 0, .slice none 0 0, .int .i64 0, .int .i64 0, .int .i64 0, .int .i64 0, .int .i64 0, .int .i64 0, .int .u32 0, .int .i64 0, .int .i64 0, .int .i64 0, .int .i64 x14, .int .i64 0, .int .i64 0] := by rw [← hw3]; exact (B2.out.set_ 14 (.int .i64 x14))
      have o3 : Blk w3 w.heap.size 33 #[.int .i64 6, .int .u32 x1, .int .i64 x2, .slice A x3.length c, .int .i64 x4, .int .i64 0, .int .i64 0, .int .i64 x7, .int .i64 x8, .int .i64 x9, .int .u32 x10, .int .i64 x11, .int .i64 x12, .int .i64 x13, .int .i64 x14, .int .i64 x15, .int .i64 x16] := by rw [← hw3]; exact (O2.out.far (p := ⟨P, 14, none⟩) (by have := N1.out.size; have := B1.out.lt; have := HWP.out.2; show w.heap.size ≠ P; omega) (.int .i64 x14))
      have n3 : Nw w w3 := by rw [← hw3]; exact (Nw.set (Nw.trans N1.out N2.out) (by have := N1.out.size; have := HWP.out.2; show w.heap.size ≤ P; omega) (.int .i64 x14))
      have B3 := Lib.hid b3
      have O3 := Lib.hid o3
      have N3 := Lib.hid n3
      clear b3 o3 n3 hw3 u0 u14 v14 z14
      have HI3 := Lib.hid (show (Try.prog.info? 33).map (·.size) = some (#[.int .i64 6, .int .u32 x1, .int .i64 0, .slice none 0 0, .int .i64 0, .int .i64 0, .int .i64 0, .int .i64 0, .int .i64 0, .int .i64 0, .int .u32 0, .int .i64 0, .int .i64 0, .int .i64 0, .int .i64 x14, .int .i64 0, .int .i64 0] : Array Value).size by kernel_rfl)
      have HIQ := Lib.hid (show (Try.prog.info? 33).map (·.size) = some (#[.int .i64 6, .int .u32 x1, .int .i64 x2, .slice A x3.length c, .int .i64 x4, .int .i64 0, .int .i64 0, .int .i64 x7, .int .i64 x8, .int .i64 x9, .int .u32 x10, .int .i64 x11, .int .i64 x12, .int .i64 x13, .int .i64 x14, .int .i64 x15, .int .i64 x16] : Array Value).size by kernel_rfl)
      go_wp2_with (first | (refine wpList_load_row rfl 33 _ rfl P rfl 33 #[.int .i64 6, .int .u32 x1, .int .i64 0, .slice none 0 0, .int .i64 0, .int .i64 0, .int .i64 0, .int .i64 0, .int .i64 0, .int .i64 0, .int .u32 0, .int .i64 0, .int .i64 0, .int .i64 0, .int .i64 x14, .int .i64 0, .int .i64 0] (0, 0) (.struct d) B3.out HD.out rfl HI3.out ?_) | (refine wpList_load_row rfl 33 _ rfl w.heap.size rfl 33 #[.int .i64 6, .int .u32 x1, .int .i64 x2, .slice A x3.length c, .int .i64 x4, .int .i64 0, .int .i64 0, .int .i64 x7, .int .i64 x8, .int .i64 x9, .int .u32 x10, .int .i64 x11, .int .i64 x12, .int .i64 x13, .int .i64 x14, .int .i64 x15, .int .i64 x16] (0, 0) (.struct d) O3.out HD.out rfl HIQ.out ?_))
      refine (refRq_any w3 ⟨6, x1, 0, [], 0, 0, 0, 0, 0, 0, 0, 0, 0, 0, x14, 0, 0⟩ ⟨6, x1, x2, x3, x4, 0, 0, x7, x8, x9, x10, x11, x12, x13, x14, x15, x16⟩ none A 0 c (.inl rfl) (Rd.nw HA.out N3.out) (by have := HM.out; simp; try omega) (by have := HM.out; simp; omega)).mono ?_
      rintro e w4 ⟨rfl, n4⟩
      rw [HF.out]
      have N4 := Lib.hid n4
      clear n4
      go_wp2_with fail
      go_ret
      exact ⟨rfl, Nw.trans N3.out N4.out⟩
  by_cases k10 : x0 = 10
  · subst k10
    as_aux_lemma =>
      have HF := Lib.hid (show Value.bool (decide ((⟨10, x1, 0, [], 0, 0, 0, 0, 0, 0, 0, 0, 0, 0, 0, x15, x16⟩ : Rq) = ⟨10, x1, x2, x3, x4, 0, 0, x7, x8, x9, x10, x11, x12, x13, x14, x15, x16⟩)) = Value.bool (mayQ ⟨10, x1, x2, x3, x4, 0, 0, x7, x8, x9, x10, x11, x12, x13, x14, x15, x16⟩) by
        rw [mayQ_yes (show okQ ⟨10, x1, x2, x3, x4, 0, 0, x7, x8, x9, x10, x11, x12, x13, x14, x15, x16⟩ from ⟨HIN.out, by simp⟩)]
        simp [onlyQ, Rq.zero])
      have u1 : w1.cell? ⟨w.heap.size, 1, none⟩ = some (.int .u32 x1) := (B1.out.cell 1).trans rfl
      go_upto_region 5 with (fail)
      go_upto_region 6 with (refine wpList_store_row rfl 33 _ _ rfl w1.heap.size #[.int .i64 10, .int .u32 x1, .int .i64 0, .slice none 0 0, .int .i64 0, .int .i64 0, .int .i64 0, .int .i64 0, .int .i64 0, .int .i64 0, .int .u32 0, .int .i64 0, .int .i64 0, .int .i64 0, .int .i64 0, .int .i64 0, .int .i64 0] rfl rfl 33 _ (heap_last _ _ rfl) (HJ.out _ _) rfl (H2.out _ _) ?_; rw [World.setRow_alloc_new])
      obtain ⟨w2, hw2⟩ : ∃ w2, w1.alloc (.cells #[.int .i64 10, .int .u32 x1, .int .i64 0, .slice none 0 0, .int .i64 0, .int .i64 0, .int .i64 0, .int .i64 0, .int .i64 0, .int .i64 0, .int .u32 0, .int .i64 0, .int .i64 0, .int .i64 0, .int .i64 0, .int .i64 0, .int .i64 0] 33) = w2 := ⟨_, rfl⟩
      obtain ⟨P, hP⟩ : ∃ P, w1.heap.size = P := ⟨_, rfl⟩
      rw [hw2, hP]
      have b2 : Blk w2 P 33 #[.int .i64 10, .int .u32 x1, .int .i64 0, .slice none 0 0, .int .i64 0, .int .i64 0, .int .i64 0, .int .i64 0, .int .i64 0, .int .i64 0, .int .u32 0, .int .i64 0, .int .i64 0, .int .i64 0, .int .i64 0, .int .i64 0, .int .i64 0] := by rw [← hw2]; exact Blk.last w1 _ _ hP
      have n2 : Nw w1 w2 := by rw [← hw2]; exact (Nw.refl w1).alloc _
      have o2 : Blk w2 w.heap.size 33 #[.int .i64 10, .int .u32 x1, .int .i64 x2, .slice A x3.length c, .int .i64 x4, .int .i64 0, .int .i64 0, .int .i64 x7, .int .i64 x8, .int .i64 x9, .int .u32 x10, .int .i64 x11, .int .i64 x12, .int .i64 x13, .int .i64 x14, .int .i64 x15, .int .i64 x16] := B1.out.below n2 B1.out.lt
      clear u0 u1
      have u0 : w2.cell? ⟨w.heap.size, 0, none⟩ = some (.int .i64 10) := (o2.cell 0).trans rfl
      have u15 : w2.cell? ⟨w.heap.size, 15, none⟩ = some (.int .i64 x15) := (o2.cell 15).trans rfl
      have u16 : w2.cell? ⟨w.heap.size, 16, none⟩ = some (.int .i64 x16) := (o2.cell 16).trans rfl
      have v15 : w2.cell? ⟨P, 15, none⟩ = some (.int .i64 0) := (b2.cell 15).trans rfl
      have z15 := b2.frozen 15
      have v16 : w2.cell? ⟨P, 16, none⟩ = some (.int .i64 0) := (b2.cell 16).trans rfl
      have z16 := b2.frozen 16
      have B2 := Lib.hid b2
      have N2 := Lib.hid n2
      have O2 := Lib.hid o2
      have HWP := Lib.hid (And.intro hw2 hP)
      clear b2 n2 o2 hw2 hP
      go_upto_region 23 with (fail)
      obtain ⟨w3, hw3⟩ : ∃ w3, ((w2.setCell ⟨P, 15, none⟩ (.int .i64 x15)).setCell ⟨P, 16, none⟩ (.int .i64 x16)) = w3 := ⟨_, rfl⟩
      rw [hw3]
      have b3 : Blk w3 P 33 #[.int .i64 10, .int .u32 x1, .int .i64 0, .slice none 0 0, .int .i64 0, .int .i64 0, .int .i64 0, .int .i64 0, .int .i64 0, .int .i64 0, .int .u32 0, .int .i64 0, .int .i64 0, .int .i64 0, .int .i64 0, .int .i64 x15, .int .i64 x16] := by rw [← hw3]; exact ((B2.out.set_ 15 (.int .i64 x15)).set_ 16 (.int .i64 x16))
      have o3 : Blk w3 w.heap.size 33 #[.int .i64 10, .int .u32 x1, .int .i64 x2, .slice A x3.length c, .int .i64 x4, .int .i64 0, .int .i64 0, .int .i64 x7, .int .i64 x8, .int .i64 x9, .int .u32 x10, .int .i64 x11, .int .i64 x12, .int .i64 x13, .int .i64 x14, .int .i64 x15, .int .i64 x16] := by rw [← hw3]; exact ((O2.out.far (p := ⟨P, 15, none⟩) (by have := N1.out.size; have := B1.out.lt; have := HWP.out.2; show w.heap.size ≠ P; omega) (.int .i64 x15)).far (p := ⟨P, 16, none⟩) (by have := N1.out.size; have := B1.out.lt; have := HWP.out.2; show w.heap.size ≠ P; omega) (.int .i64 x16))
      have n3 : Nw w w3 := by rw [← hw3]; exact (Nw.set (Nw.set (Nw.trans N1.out N2.out) (by have := N1.out.size; have := HWP.out.2; show w.heap.size ≤ P; omega) (.int .i64 x15)) (by have := N1.out.size; have := HWP.out.2; show w.heap.size ≤ P; omega) (.int .i64 x16))
      have B3 := Lib.hid b3
      have O3 := Lib.hid o3
      have N3 := Lib.hid n3
      clear b3 o3 n3 hw3 u0 u15 v15 z15 u16 v16 z16
      have HI3 := Lib.hid (show (Try.prog.info? 33).map (·.size) = some (#[.int .i64 10, .int .u32 x1, .int .i64 0, .slice none 0 0, .int .i64 0, .int .i64 0, .int .i64 0, .int .i64 0, .int .i64 0, .int .i64 0, .int .u32 0, .int .i64 0, .int .i64 0, .int .i64 0, .int .i64 0, .int .i64 x15, .int .i64 x16] : Array Value).size by kernel_rfl)
      have HIQ := Lib.hid (show (Try.prog.info? 33).map (·.size) = some (#[.int .i64 10, .int .u32 x1, .int .i64 x2, .slice A x3.length c, .int .i64 x4, .int .i64 0, .int .i64 0, .int .i64 x7, .int .i64 x8, .int .i64 x9, .int .u32 x10, .int .i64 x11, .int .i64 x12, .int .i64 x13, .int .i64 x14, .int .i64 x15, .int .i64 x16] : Array Value).size by kernel_rfl)
      go_wp2_with (first | (refine wpList_load_row rfl 33 _ rfl P rfl 33 #[.int .i64 10, .int .u32 x1, .int .i64 0, .slice none 0 0, .int .i64 0, .int .i64 0, .int .i64 0, .int .i64 0, .int .i64 0, .int .i64 0, .int .u32 0, .int .i64 0, .int .i64 0, .int .i64 0, .int .i64 0, .int .i64 x15, .int .i64 x16] (0, 0) (.struct d) B3.out HD.out rfl HI3.out ?_) | (refine wpList_load_row rfl 33 _ rfl w.heap.size rfl 33 #[.int .i64 10, .int .u32 x1, .int .i64 x2, .slice A x3.length c, .int .i64 x4, .int .i64 0, .int .i64 0, .int .i64 x7, .int .i64 x8, .int .i64 x9, .int .u32 x10, .int .i64 x11, .int .i64 x12, .int .i64 x13, .int .i64 x14, .int .i64 x15, .int .i64 x16] (0, 0) (.struct d) O3.out HD.out rfl HIQ.out ?_))
      refine (refRq_any w3 ⟨10, x1, 0, [], 0, 0, 0, 0, 0, 0, 0, 0, 0, 0, 0, x15, x16⟩ ⟨10, x1, x2, x3, x4, 0, 0, x7, x8, x9, x10, x11, x12, x13, x14, x15, x16⟩ none A 0 c (.inl rfl) (Rd.nw HA.out N3.out) (by have := HM.out; simp; try omega) (by have := HM.out; simp; omega)).mono ?_
      rintro e w4 ⟨rfl, n4⟩
      rw [HF.out]
      have N4 := Lib.hid n4
      clear n4
      go_wp2_with fail
      go_ret
      exact ⟨rfl, Nw.trans N3.out N4.out⟩
  have j1 : (x0 == 1) = false := by simp [k1]
  have j2 : (x0 == 2) = false := by simp [k2]
  have j3 : (x0 == 3) = false := by simp [k3]
  have j4 : (x0 == 4) = false := by simp [k4]
  have j5 : (x0 == 5) = false := by simp [k5]
  have j6 : (x0 == 6) = false := by simp [k6]
  have j10 : (x0 == 10) = false := by simp [k10]
  as_aux_lemma =>
    have HF := Lib.hid (show Value.bool (decide ((⟨x0, x1, 0, [], 0, 0, 0, 0, 0, 0, 0, 0, 0, 0, 0, 0, 0⟩ : Rq) = ⟨x0, x1, x2, x3, x4, 0, 0, x7, x8, x9, x10, x11, x12, x13, x14, x15, x16⟩)) = Value.bool (mayQ ⟨x0, x1, x2, x3, x4, 0, 0, x7, x8, x9, x10, x11, x12, x13, x14, x15, x16⟩) by
      rw [mayQ_yes (show okQ ⟨x0, x1, x2, x3, x4, 0, 0, x7, x8, x9, x10, x11, x12, x13, x14, x15, x16⟩ from ⟨HIN.out, by simp [k2]⟩)]
      simp [onlyQ, Rq.zero, k1, k2, k3, k4, k5, k6, k10])
    have u1 : w1.cell? ⟨w.heap.size, 1, none⟩ = some (.int .u32 x1) := (B1.out.cell 1).trans rfl
    go_upto_region 5 with (fail)
    go_upto_region 6 with (refine wpList_store_row rfl 33 _ _ rfl w1.heap.size #[.int .i64 x0, .int .u32 x1, .int .i64 0, .slice none 0 0, .int .i64 0, .int .i64 0, .int .i64 0, .int .i64 0, .int .i64 0, .int .i64 0, .int .u32 0, .int .i64 0, .int .i64 0, .int .i64 0, .int .i64 0, .int .i64 0, .int .i64 0] rfl rfl 33 _ (heap_last _ _ rfl) (HJ.out _ _) rfl (H2.out _ _) ?_; rw [World.setRow_alloc_new])
    obtain ⟨w2, hw2⟩ : ∃ w2, w1.alloc (.cells #[.int .i64 x0, .int .u32 x1, .int .i64 0, .slice none 0 0, .int .i64 0, .int .i64 0, .int .i64 0, .int .i64 0, .int .i64 0, .int .i64 0, .int .u32 0, .int .i64 0, .int .i64 0, .int .i64 0, .int .i64 0, .int .i64 0, .int .i64 0] 33) = w2 := ⟨_, rfl⟩
    obtain ⟨P, hP⟩ : ∃ P, w1.heap.size = P := ⟨_, rfl⟩
    rw [hw2, hP]
    have b2 : Blk w2 P 33 #[.int .i64 x0, .int .u32 x1, .int .i64 0, .slice none 0 0, .int .i64 0, .int .i64 0, .int .i64 0, .int .i64 0, .int .i64 0, .int .i64 0, .int .u32 0, .int .i64 0, .int .i64 0, .int .i64 0, .int .i64 0, .int .i64 0, .int .i64 0] := by rw [← hw2]; exact Blk.last w1 _ _ hP
    have n2 : Nw w1 w2 := by rw [← hw2]; exact (Nw.refl w1).alloc _
    have o2 : Blk w2 w.heap.size 33 #[.int .i64 x0, .int .u32 x1, .int .i64 x2, .slice A x3.length c, .int .i64 x4, .int .i64 0, .int .i64 0, .int .i64 x7, .int .i64 x8, .int .i64 x9, .int .u32 x10, .int .i64 x11, .int .i64 x12, .int .i64 x13, .int .i64 x14, .int .i64 x15, .int .i64 x16] := B1.out.below n2 B1.out.lt
    clear u0 u1
    have u0 : w2.cell? ⟨w.heap.size, 0, none⟩ = some (.int .i64 x0) := (o2.cell 0).trans rfl
    have B2 := Lib.hid b2
    have N2 := Lib.hid n2
    have O2 := Lib.hid o2
    have HWP := Lib.hid (And.intro hw2 hP)
    clear b2 n2 o2 hw2 hP
    go_upto_region 23 with (fail)
    obtain ⟨w3, hw3⟩ : ∃ w3, w2 = w3 := ⟨_, rfl⟩
    have b3 : Blk w3 P 33 #[.int .i64 x0, .int .u32 x1, .int .i64 0, .slice none 0 0, .int .i64 0, .int .i64 0, .int .i64 0, .int .i64 0, .int .i64 0, .int .i64 0, .int .u32 0, .int .i64 0, .int .i64 0, .int .i64 0, .int .i64 0, .int .i64 0, .int .i64 0] := by rw [← hw3]; exact B2.out
    have o3 : Blk w3 w.heap.size 33 #[.int .i64 x0, .int .u32 x1, .int .i64 x2, .slice A x3.length c, .int .i64 x4, .int .i64 0, .int .i64 0, .int .i64 x7, .int .i64 x8, .int .i64 x9, .int .u32 x10, .int .i64 x11, .int .i64 x12, .int .i64 x13, .int .i64 x14, .int .i64 x15, .int .i64 x16] := by rw [← hw3]; exact O2.out
    have n3 : Nw w w3 := by rw [← hw3]; exact (Nw.trans N1.out N2.out)
    subst hw3
    have B3 := Lib.hid b3
    have O3 := Lib.hid o3
    have N3 := Lib.hid n3
    clear b3 o3 n3 u0 
    have HI3 := Lib.hid (show (Try.prog.info? 33).map (·.size) = some (#[.int .i64 x0, .int .u32 x1, .int .i64 0, .slice none 0 0, .int .i64 0, .int .i64 0, .int .i64 0, .int .i64 0, .int .i64 0, .int .i64 0, .int .u32 0, .int .i64 0, .int .i64 0, .int .i64 0, .int .i64 0, .int .i64 0, .int .i64 0] : Array Value).size by kernel_rfl)
    have HIQ := Lib.hid (show (Try.prog.info? 33).map (·.size) = some (#[.int .i64 x0, .int .u32 x1, .int .i64 x2, .slice A x3.length c, .int .i64 x4, .int .i64 0, .int .i64 0, .int .i64 x7, .int .i64 x8, .int .i64 x9, .int .u32 x10, .int .i64 x11, .int .i64 x12, .int .i64 x13, .int .i64 x14, .int .i64 x15, .int .i64 x16] : Array Value).size by kernel_rfl)
    go_wp2_with (first | (refine wpList_load_row rfl 33 _ rfl P rfl 33 #[.int .i64 x0, .int .u32 x1, .int .i64 0, .slice none 0 0, .int .i64 0, .int .i64 0, .int .i64 0, .int .i64 0, .int .i64 0, .int .i64 0, .int .u32 0, .int .i64 0, .int .i64 0, .int .i64 0, .int .i64 0, .int .i64 0, .int .i64 0] (0, 0) (.struct d) B3.out HD.out rfl HI3.out ?_) | (refine wpList_load_row rfl 33 _ rfl w.heap.size rfl 33 #[.int .i64 x0, .int .u32 x1, .int .i64 x2, .slice A x3.length c, .int .i64 x4, .int .i64 0, .int .i64 0, .int .i64 x7, .int .i64 x8, .int .i64 x9, .int .u32 x10, .int .i64 x11, .int .i64 x12, .int .i64 x13, .int .i64 x14, .int .i64 x15, .int .i64 x16] (0, 0) (.struct d) O3.out HD.out rfl HIQ.out ?_))
    refine (refRq_any w2 ⟨x0, x1, 0, [], 0, 0, 0, 0, 0, 0, 0, 0, 0, 0, 0, 0, 0⟩ ⟨x0, x1, x2, x3, x4, 0, 0, x7, x8, x9, x10, x11, x12, x13, x14, x15, x16⟩ none A 0 c (.inl rfl) (Rd.nw HA.out N3.out) (by have := HM.out; simp; try omega) (by have := HM.out; simp; omega)).mono ?_
    rintro e w4 ⟨rfl, n4⟩
    rw [HF.out]
    have N4 := Lib.hid n4
    clear n4
    go_wp2_with fail
    go_ret
    exact ⟨rfl, Nw.trans N3.out N4.out⟩
end Go.Proofs.Ytnbcjjgilndlaaa
