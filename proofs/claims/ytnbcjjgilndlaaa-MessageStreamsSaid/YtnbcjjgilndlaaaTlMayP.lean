/- Messages: which responses may be, by the document and by ours. Helper. -/
import Derived.Test.YtnbcjjgilndlaaaTlPl
namespace Go.Proofs.Ytnbcjjgilndlaaa
open Go.RowKit
set_option linter.unusedVariables false
set_option linter.unusedSimpArgs false
set_option maxRecDepth 100000
set_option maxHeartbeats 6400000
theorem mays7_out (w : World) (p : Rs) (A : Option Addr) (c : Nat) (hin : ¬ inS p) :
    Calls Try.prog 22 #[.agg (p.c A c).toArray] w fun e w' => e = .returned (.bool (mayS p)) ∧ Nw w w' := by
  rw [mayS_no hin]
  obtain ⟨x0, x1, x2, x3, x4, x5, x6, x7, x8, x9, x10, x11, x12, x13, x14, x15, x16, x17⟩ := p
  have HIN := Lib.hid hin
  obtain ⟨w1, hw1⟩ : ∃ w1, w.alloc (.cells #[.int .i64 x0, .int .u32 x1, .int .i64 x2, .int .i64 x3, .slice A x4.length c, .int .i64 x5, .int .i64 x6, .int .i64 x7, .int .i64 x8, .int .i64 x9, .int .i64 x10, .int .u32 x11, .int .i64 x12, .int .i64 x13, .int .i64 x14, .int .i64 x15, .int .i64 x16, .int .i64 x17] 42) = w1 := ⟨_, rfl⟩
  have b1 : Blk w1 w.heap.size 42 #[.int .i64 x0, .int .u32 x1, .int .i64 x2, .int .i64 x3, .slice A x4.length c, .int .i64 x5, .int .i64 x6, .int .i64 x7, .int .i64 x8, .int .i64 x9, .int .i64 x10, .int .u32 x11, .int .i64 x12, .int .i64 x13, .int .i64 x14, .int .i64 x15, .int .i64 x16, .int .i64 x17] := by rw [← hw1]; exact Blk.last w _ _ rfl
  have n1 : Nw w w1 := by rw [← hw1]; exact (Nw.refl w).alloc _
  have u0 : w1.cell? ⟨w.heap.size, 0, none⟩ = some (.int .i64 x0) := (b1.cell 0).trans rfl
  have u2 : w1.cell? ⟨w.heap.size, 2, none⟩ = some (.int .i64 x2) := (b1.cell 2).trans rfl
  have u4 : w1.cell? ⟨w.heap.size, 4, none⟩ = some (.slice A x4.length c) := (b1.cell 4).trans rfl
  have u6 : w1.cell? ⟨w.heap.size, 6, none⟩ = some (.int .i64 x6) := (b1.cell 6).trans rfl
  have u8 : w1.cell? ⟨w.heap.size, 8, none⟩ = some (.int .i64 x8) := (b1.cell 8).trans rfl
  have u9 : w1.cell? ⟨w.heap.size, 9, none⟩ = some (.int .i64 x9) := (b1.cell 9).trans rfl
  have u13 : w1.cell? ⟨w.heap.size, 13, none⟩ = some (.int .i64 x13) := (b1.cell 13).trans rfl
  have u15 : w1.cell? ⟨w.heap.size, 15, none⟩ = some (.int .i64 x15) := (b1.cell 15).trans rfl
  have u16 : w1.cell? ⟨w.heap.size, 16, none⟩ = some (.int .i64 x16) := (b1.cell 16).trans rfl
  have HW1 := Lib.hid hw1
  have N1 := Lib.hid n1
  have E8 := Lib.hid (fun W n => eight_any W n)
  simp only [Rs.c]
  clear hw1 b1 n1 hin
  go_enter Try.func22, Try.ntmps22
  go_upto_region 1 with (fail)
  rw [HW1.out]
  by_cases h0 : 1 ≤ x0
  rotate_left
  · have g0 : x0 < 1 := by omega
    clear h0
    as_aux_lemma =>
      go_wp2_with fail
      go_ret
      exact ⟨rfl, N1.out⟩
  have g0 : ¬ x0 < 1 := by omega
  by_cases h1 : x0 ≤ 5
  rotate_left
  · have g1 : 5 < x0 := by omega
    clear h1
    as_aux_lemma =>
      go_wp2_with fail
      go_ret
      exact ⟨rfl, N1.out⟩
  have g1 : ¬ 5 < x0 := by omega
  by_cases h2 : 0 ≤ x2
  rotate_left
  · have g2 : x2 < 0 := by omega
    clear h2
    as_aux_lemma =>
      go_wp2_with fail
      go_ret
      exact ⟨rfl, N1.out⟩
  have g2 : ¬ x2 < 0 := by omega
  by_cases h3 : x2 ≤ 16
  rotate_left
  · have g3 : 16 < x2 := by omega
    clear h3
    as_aux_lemma =>
      go_wp2_with fail
      go_ret
      exact ⟨rfl, N1.out⟩
  have g3 : ¬ 16 < x2 := by omega
  by_cases h4 : x4.length ≤ 8
  rotate_left
  · have g4 : (8 : Int) < (x4.length : Int) := by omega
    clear h4
    as_aux_lemma =>
      go_wp2_with fail
      go_ret
      exact ⟨rfl, N1.out⟩
  have g4 : ¬ (8 : Int) < (x4.length : Int) := by omega
  by_cases h5 : (0 ≤ x6 ∧ x6 ≤ 255)
  rotate_left
  · have d5 : decide ((0 ≤ x6 ∧ x6 ≤ 255)) = false := decide_eq_false h5
    clear h5
    as_aux_lemma =>
      go_wp2_with (go_at_call 37; (try rw [HW1.out]); refine (E8.out _ _).mono ?_; rintro e w' ⟨rfl, hw⟩; rw [hw]; clear hw w'; (first | rw [d5]))
      go_ret
      exact ⟨rfl, N1.out⟩
  have d5 : decide ((0 ≤ x6 ∧ x6 ≤ 255)) = true := decide_eq_true h5
  by_cases h6 : (0 ≤ x8 ∧ x8 ≤ 255)
  rotate_left
  · have d6 : decide ((0 ≤ x8 ∧ x8 ≤ 255)) = false := decide_eq_false h6
    clear h6
    as_aux_lemma =>
      go_wp2_with (go_at_call 37; (try rw [HW1.out]); refine (E8.out _ _).mono ?_; rintro e w' ⟨rfl, hw⟩; rw [hw]; clear hw w'; (first | rw [d5] | rw [d6]))
      go_ret
      exact ⟨rfl, N1.out⟩
  have d6 : decide ((0 ≤ x8 ∧ x8 ≤ 255)) = true := decide_eq_true h6
  by_cases h7 : (0 ≤ x9 ∧ x9 ≤ 255)
  rotate_left
  · have d7 : decide ((0 ≤ x9 ∧ x9 ≤ 255)) = false := decide_eq_false h7
    clear h7
    as_aux_lemma =>
      go_wp2_with (go_at_call 37; (try rw [HW1.out]); refine (E8.out _ _).mono ?_; rintro e w' ⟨rfl, hw⟩; rw [hw]; clear hw w'; (first | rw [d5] | rw [d6] | rw [d7]))
      go_ret
      exact ⟨rfl, N1.out⟩
  have d7 : decide ((0 ≤ x9 ∧ x9 ≤ 255)) = true := decide_eq_true h7
  by_cases h8 : (0 ≤ x13 ∧ x13 ≤ 255)
  rotate_left
  · have d8 : decide ((0 ≤ x13 ∧ x13 ≤ 255)) = false := decide_eq_false h8
    clear h8
    as_aux_lemma =>
      go_wp2_with (go_at_call 37; (try rw [HW1.out]); refine (E8.out _ _).mono ?_; rintro e w' ⟨rfl, hw⟩; rw [hw]; clear hw w'; (first | rw [d5] | rw [d6] | rw [d7] | rw [d8]))
      go_ret
      exact ⟨rfl, N1.out⟩
  have d8 : decide ((0 ≤ x13 ∧ x13 ≤ 255)) = true := decide_eq_true h8
  by_cases h9 : (0 ≤ x15 ∧ x15 ≤ 255)
  rotate_left
  · have d9 : decide ((0 ≤ x15 ∧ x15 ≤ 255)) = false := decide_eq_false h9
    clear h9
    as_aux_lemma =>
      go_wp2_with (go_at_call 37; (try rw [HW1.out]); refine (E8.out _ _).mono ?_; rintro e w' ⟨rfl, hw⟩; rw [hw]; clear hw w'; (first | rw [d5] | rw [d6] | rw [d7] | rw [d8] | rw [d9]))
      go_ret
      exact ⟨rfl, N1.out⟩
  have d9 : decide ((0 ≤ x15 ∧ x15 ≤ 255)) = true := decide_eq_true h9
  by_cases h10 : (0 ≤ x16 ∧ x16 ≤ 255)
  rotate_left
  · have d10 : decide ((0 ≤ x16 ∧ x16 ≤ 255)) = false := decide_eq_false h10
    clear h10
    as_aux_lemma =>
      go_wp2_with (go_at_call 37; (try rw [HW1.out]); refine (E8.out _ _).mono ?_; rintro e w' ⟨rfl, hw⟩; rw [hw]; clear hw w'; (first | rw [d5] | rw [d6] | rw [d7] | rw [d8] | rw [d9] | rw [d10]))
      go_ret
      exact ⟨rfl, N1.out⟩
  have d10 : decide ((0 ≤ x16 ∧ x16 ≤ 255)) = true := decide_eq_true h10
  exact absurd (show inS _ from ⟨h0, h1, h2, h3, h4, h5, h6, h7, h8, h9, h10⟩) HIN.out
theorem mays7_any (w : World) (p : Rs) (A : Option Addr) (c : Nat) (hA : IntsAt w A p.vs) :
    Calls Try.prog 22 #[.agg (p.c A c).toArray] w fun e w' => e = .returned (.bool (mayS p)) ∧ Nw w w' := by
  by_cases h : inS p
  · exact mays7_in w p A c hA h
  · exact mays7_out w p A c h
theorem encS_eq (w : World) (q : Rs) (hq : q.Fit) (A : Option Addr) (c : Nat) (hb : IntsAt w A q.vs) :
    Calls Try.prog 21 #[.agg (q.c A c).toArray] w (EncF w (if mayS q = true then some (encB q) else none)) := by
  have h := encS_any q hq A c w hb
  rw [encPS_eq q hq] at h
  exact h
theorem mayP_any (w : World) (q : Rs) (hq : q.Fit) (A : Option Addr) (c : Nat) (hb : IntsAt w A q.vs) :
    Calls Try.prog 23 #[.agg (q.c A c).toArray] w fun e w' => e = .returned (.bool (mayS q)) ∧ Nw w w' := by
  obtain ⟨Q0, hQ0⟩ : ∃ Q0 : Array Value, (q.c A c).toArray = Q0 := ⟨_, rfl⟩
  have HQ0 := Lib.hid (show Q0.size = 18 ∧ Q0.all (·.oneCell') = true by rw [← hQ0]; exact ⟨rfl, by simp [Rs.c, Value.oneCell']⟩)
  obtain ⟨w1, hw1⟩ : ∃ w1, w.alloc (.cells Q0 42) = w1 := ⟨_, rfl⟩
  have b1 : Blk w1 w.heap.size 42 Q0 := by rw [← hw1]; exact Blk.last w _ _ rfl
  have n1 : Nw w w1 := by rw [← hw1]; exact (Nw.refl w).alloc _
  have K := encS_eq w1 q hq A c (Rd.nw hb n1)
  obtain ⟨mb, hmb⟩ : ∃ mb, mayS q = mb := ⟨_, rfl⟩
  rw [hQ0, hmb] at K
  rw [hQ0, hmb]
  have HK := Lib.hid K
  have HW1 := Lib.hid hw1
  have B1 := Lib.hid b1
  have N1 := Lib.hid n1
  obtain ⟨d, hd⟩ := stRs
  have HD := Lib.hid hd
  have HI := Lib.hid (show (Try.prog.info? 42).map (·.size) = some Q0.size by rw [HQ0.out.1]; kernel_rfl)
  clear hw1 b1 n1 hd K hb hQ0 hmb
  go_enter Try.func23, Try.ntmps23
  go_upto_region 1 with (fail)
  rw [HW1.out]
  go_wp2_with (refine wpList_load_row rfl 42 _ rfl w.heap.size rfl 42 Q0 (0, 0) (.struct d) B1.out HD.out rfl HI.out ?_)
  refine HK.out.mono ?_
  intro e w2 h
  cases mb with
  | true =>
    rw [if_pos rfl] at h
    obtain ⟨A2, c2, rfl, _, _, n2⟩ := h
    have N2 := Lib.hid n2
    clear n2
    go_wp2_with fail
    go_ret
    exact ⟨rfl, Nw.trans N1.out N2.out⟩
  | false =>
    rw [if_neg (by simp)] at h
    obtain ⟨rfl, n2⟩ := h
    have N2 := Lib.hid n2
    clear n2
    go_wp2_with fail
    go_ret
    exact ⟨rfl, Nw.trans N1.out N2.out⟩
end Go.Proofs.Ytnbcjjgilndlaaa
