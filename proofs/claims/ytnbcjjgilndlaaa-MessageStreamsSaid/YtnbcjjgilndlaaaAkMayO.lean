/- Messages: which requests may be, by the document and by ours. Helper. -/
import Derived.Test.YtnbcjjgilndlaaaAkPl
namespace Go.Proofs.Ytnbcjjgilndlaaa
open Go.RowKit
set_option linter.unusedVariables false
set_option linter.unusedSimpArgs false
set_option maxRecDepth 100000
set_option maxHeartbeats 6400000
theorem may7_out (w : World) (q : Rq) (A : Option Addr) (c : Nat) (hin : ¬ inQ q) :
    Calls Try.prog 18 #[.agg (q.c A c).toArray] w fun e w' => e = .returned (.bool (mayQ q)) ∧ Nw w w' := by
  rw [mayQ_out hin]
  obtain ⟨x0, x1, x2, x3, x4, x5, x6, x7, x8, x9, x10, x11, x12, x13, x14, x15, x16⟩ := q
  have HIN := Lib.hid hin
  obtain ⟨w1, hw1⟩ : ∃ w1, w.alloc (.cells #[.int .i64 x0, .int .u32 x1, .int .i64 x2, .slice A x3.length c, .int .i64 x4, .int .i64 x5, .int .i64 x6, .int .i64 x7, .int .i64 x8, .int .i64 x9, .int .u32 x10, .int .i64 x11, .int .i64 x12, .int .i64 x13, .int .i64 x14, .int .i64 x15, .int .i64 x16] 33) = w1 := ⟨_, rfl⟩
  have b1 : Blk w1 w.heap.size 33 #[.int .i64 x0, .int .u32 x1, .int .i64 x2, .slice A x3.length c, .int .i64 x4, .int .i64 x5, .int .i64 x6, .int .i64 x7, .int .i64 x8, .int .i64 x9, .int .u32 x10, .int .i64 x11, .int .i64 x12, .int .i64 x13, .int .i64 x14, .int .i64 x15, .int .i64 x16] := by rw [← hw1]; exact Blk.last w _ _ rfl
  have n1 : Nw w w1 := by rw [← hw1]; exact (Nw.refl w).alloc _
  have u0 : w1.cell? ⟨w.heap.size, 0, none⟩ = some (.int .i64 x0) := (b1.cell 0).trans rfl
  have u2 : w1.cell? ⟨w.heap.size, 2, none⟩ = some (.int .i64 x2) := (b1.cell 2).trans rfl
  have u5 : w1.cell? ⟨w.heap.size, 5, none⟩ = some (.int .i64 x5) := (b1.cell 5).trans rfl
  have u6 : w1.cell? ⟨w.heap.size, 6, none⟩ = some (.int .i64 x6) := (b1.cell 6).trans rfl
  have u7 : w1.cell? ⟨w.heap.size, 7, none⟩ = some (.int .i64 x7) := (b1.cell 7).trans rfl
  have u8 : w1.cell? ⟨w.heap.size, 8, none⟩ = some (.int .i64 x8) := (b1.cell 8).trans rfl
  have u11 : w1.cell? ⟨w.heap.size, 11, none⟩ = some (.int .i64 x11) := (b1.cell 11).trans rfl
  have u12 : w1.cell? ⟨w.heap.size, 12, none⟩ = some (.int .i64 x12) := (b1.cell 12).trans rfl
  have u14 : w1.cell? ⟨w.heap.size, 14, none⟩ = some (.int .i64 x14) := (b1.cell 14).trans rfl
  have HW1 := Lib.hid hw1
  have N1 := Lib.hid n1
  have E8 := Lib.hid (fun W n => eight_any W n)
  simp only [Rq.c]
  clear hw1 b1 n1 hin
  go_enter Try.func18, Try.ntmps18
  go_upto_region 1 with (fail)
  rw [HW1.out]
  by_cases h0 : 1 ≤ x0
  rotate_left
  · have g0 : x0 < 1 := by omega
    clear h0
    as_aux_lemma =>
      go_wp2_with fail
      go_ret
      exact ⟨rfl, N1.out⟩
  have g0 : ¬ x0 < 1 := by omega
  by_cases h1 : x0 ≤ 12
  rotate_left
  · have g1 : 12 < x0 := by omega
    clear h1
    as_aux_lemma =>
      go_wp2_with fail
      go_ret
      exact ⟨rfl, N1.out⟩
  have g1 : ¬ 12 < x0 := by omega
  by_cases h2 : (0 ≤ x2 ∧ x2 ≤ 255)
  rotate_left
  · have d2 : decide ((0 ≤ x2 ∧ x2 ≤ 255)) = false := decide_eq_false h2
    clear h2
    as_aux_lemma =>
      go_wp2_with (go_at_call 37; (try rw [HW1.out]); refine (E8.out _ _).mono ?_; rintro e w' ⟨rfl, hw⟩; rw [hw]; clear hw w'; (first | rw [d2]))
      go_ret
      exact ⟨rfl, N1.out⟩
  have d2 : decide ((0 ≤ x2 ∧ x2 ≤ 255)) = true := decide_eq_true h2
  by_cases h3 : (0 ≤ x14 ∧ x14 ≤ 255)
  rotate_left
  · have d3 : decide ((0 ≤ x14 ∧ x14 ≤ 255)) = false := decide_eq_false h3
    clear h3
    as_aux_lemma =>
      go_wp2_with (go_at_call 37; (try rw [HW1.out]); refine (E8.out _ _).mono ?_; rintro e w' ⟨rfl, hw⟩; rw [hw]; clear hw w'; (first | rw [d2] | rw [d3]))
      go_ret
      exact ⟨rfl, N1.out⟩
  have d3 : decide ((0 ≤ x14 ∧ x14 ≤ 255)) = true := decide_eq_true h3
  by_cases h4 : (0 ≤ x7 ∧ x7 ≤ 255)
  rotate_left
  · have d4 : decide ((0 ≤ x7 ∧ x7 ≤ 255)) = false := decide_eq_false h4
    clear h4
    as_aux_lemma =>
      go_wp2_with (go_at_call 37; (try rw [HW1.out]); refine (E8.out _ _).mono ?_; rintro e w' ⟨rfl, hw⟩; rw [hw]; clear hw w'; (first | rw [d2] | rw [d3] | rw [d4]))
      go_ret
      exact ⟨rfl, N1.out⟩
  have d4 : decide ((0 ≤ x7 ∧ x7 ≤ 255)) = true := decide_eq_true h4
  by_cases h5 : (0 ≤ x8 ∧ x8 ≤ 255)
  rotate_left
  · have d5 : decide ((0 ≤ x8 ∧ x8 ≤ 255)) = false := decide_eq_false h5
    clear h5
    as_aux_lemma =>
      go_wp2_with (go_at_call 37; (try rw [HW1.out]); refine (E8.out _ _).mono ?_; rintro e w' ⟨rfl, hw⟩; rw [hw]; clear hw w'; (first | rw [d2] | rw [d3] | rw [d4] | rw [d5]))
      go_ret
      exact ⟨rfl, N1.out⟩
  have d5 : decide ((0 ≤ x8 ∧ x8 ≤ 255)) = true := decide_eq_true h5
  by_cases h6 : x5 = 0
  rotate_left
  · have g6 : (x5 == 0) = false := by simpa using h6
    have e6 : (x5 != 0) = true := by simpa using h6
    have f6 : decide (x5 = 0) = false := decide_eq_false h6
    as_aux_lemma =>
      go_wp2_with (go_at_call 37; (try rw [HW1.out]); refine (E8.out _ _).mono ?_; rintro e w' ⟨rfl, hw⟩; rw [hw]; clear hw w'; (first | rw [d2] | rw [d3] | rw [d4] | rw [d5]))
      go_ret
      exact ⟨rfl, N1.out⟩
  subst h6
  by_cases h7 : x6 = 0
  rotate_left
  · have g7 : (x6 == 0) = false := by simpa using h7
    have e7 : (x6 != 0) = true := by simpa using h7
    have f7 : decide (x6 = 0) = false := decide_eq_false h7
    as_aux_lemma =>
      go_wp2_with (go_at_call 37; (try rw [HW1.out]); refine (E8.out _ _).mono ?_; rintro e w' ⟨rfl, hw⟩; rw [hw]; clear hw w'; (first | rw [d2] | rw [d3] | rw [d4] | rw [d5]))
      go_ret
      exact ⟨rfl, N1.out⟩
  subst h7
  by_cases h8 : (0 ≤ x11 ∧ x11 ≤ 255)
  rotate_left
  · have d8 : decide ((0 ≤ x11 ∧ x11 ≤ 255)) = false := decide_eq_false h8
    clear h8
    as_aux_lemma =>
      go_wp2_with (go_at_call 37; (try rw [HW1.out]); refine (E8.out _ _).mono ?_; rintro e w' ⟨rfl, hw⟩; rw [hw]; clear hw w'; (first | rw [d2] | rw [d3] | rw [d4] | rw [d5] | rw [d8]))
      go_ret
      exact ⟨rfl, N1.out⟩
  have d8 : decide ((0 ≤ x11 ∧ x11 ≤ 255)) = true := decide_eq_true h8
  by_cases h9 : -1 ≤ x12
  rotate_left
  · have g9 : x12 < -1 := by omega
    clear h9
    as_aux_lemma =>
      go_wp2_with (go_at_call 37; (try rw [HW1.out]); refine (E8.out _ _).mono ?_; rintro e w' ⟨rfl, hw⟩; rw [hw]; clear hw w'; (first | rw [d2] | rw [d3] | rw [d4] | rw [d5] | rw [d8]))
      go_ret
      exact ⟨rfl, N1.out⟩
  have g9 : ¬ x12 < -1 := by omega
  by_cases h10 : x12 ≤ 254
  rotate_left
  · have g10 : 254 < x12 := by omega
    clear h10
    as_aux_lemma =>
      go_wp2_with (go_at_call 37; (try rw [HW1.out]); refine (E8.out _ _).mono ?_; rintro e w' ⟨rfl, hw⟩; rw [hw]; clear hw w'; (first | rw [d2] | rw [d3] | rw [d4] | rw [d5] | rw [d8]))
      go_ret
      exact ⟨rfl, N1.out⟩
  have g10 : ¬ 254 < x12 := by omega
  exact absurd (show inQ _ from ⟨h0, h1, h2, h3, h4, h5, rfl, rfl, h8, h9, h10⟩) HIN.out
theorem may7_any (w : World) (q : Rq) (A : Option Addr) (c : Nat) (hA : BytesAt w A q.md) (hmd : q.md.length ≤ 100000) :
    Calls Try.prog 18 #[.agg (q.c A c).toArray] w fun e w' => e = .returned (.bool (mayQ q)) ∧ Nw w w' := by
  by_cases h : inQ q
  · exact may7_in w q A c hA hmd h
  · exact may7_out w q A c h
theorem encQ_eq (w : World) (q : Rq) (hq : q.Fit) (hm : q.md.length ≤ 70000) (A : Option Addr) (c : Nat) (hb : BytesAt w A q.md) (hA : q.md = [] ∨ ∀ a, A = some a → a.block < w.heap.size) :
    Calls Try.prog 17 #[.agg (q.c A c).toArray] w (EncF w (if mayQ q = true then some (beW q.k 1 ++ askB q) else none)) := by
  have h := encQ_any q hq hm A c w hb hA
  rw [encP_eq q hq] at h
  exact h
theorem mayO_any (w : World) (q : Rq) (hq : q.Fit) (hm : q.md.length ≤ 70000) (A : Option Addr) (c : Nat) (hb : BytesAt w A q.md) (hA : q.md = [] ∨ ∀ a, A = some a → a.block < w.heap.size) :
    Calls Try.prog 19 #[.agg (q.c A c).toArray] w fun e w' => e = .returned (.bool (mayQ q)) ∧ Nw w w' := by
  obtain ⟨Q0, hQ0⟩ : ∃ Q0 : Array Value, (q.c A c).toArray = Q0 := ⟨_, rfl⟩
  have HQ0 := Lib.hid (show Q0.size = 17 ∧ Q0.all (·.oneCell') = true by rw [← hQ0]; exact ⟨rfl, by simp [Rq.c, Value.oneCell']⟩)
  obtain ⟨w1, hw1⟩ : ∃ w1, w.alloc (.cells Q0 33) = w1 := ⟨_, rfl⟩
  have b1 : Blk w1 w.heap.size 33 Q0 := by rw [← hw1]; exact Blk.last w _ _ rfl
  have n1 : Nw w w1 := by rw [← hw1]; exact (Nw.refl w).alloc _
  have K := encQ_eq w1 q hq hm A c (Rd.nw hb n1) (hA.imp_right fun hA a ha => Nat.lt_of_lt_of_le (hA a ha) n1.size)
  obtain ⟨mb, hmb⟩ : ∃ mb, mayQ q = mb := ⟨_, rfl⟩
  rw [hQ0, hmb] at K
  rw [hQ0, hmb]
  have HK := Lib.hid K
  have HW1 := Lib.hid hw1
  have B1 := Lib.hid b1
  have N1 := Lib.hid n1
  obtain ⟨d, hd⟩ := stRq
  have HD := Lib.hid hd
  have HI := Lib.hid (show (Try.prog.info? 33).map (·.size) = some Q0.size by rw [HQ0.out.1]; kernel_rfl)
  clear hw1 b1 n1 hd K hb hA hQ0 hmb
  go_enter Try.func19, Try.ntmps19
  go_upto_region 1 with (fail)
  rw [HW1.out]
  go_wp2_with (refine wpList_load_row rfl 33 _ rfl w.heap.size rfl 33 Q0 (0, 0) (.struct d) B1.out HD.out rfl HI.out ?_)
  refine HK.out.mono ?_
  intro e w2 h
  cases mb with
  | true =>
    rw [if_pos rfl] at h
    obtain ⟨A2, c2, rfl, _, _, n2⟩ := h
    have N2 := Lib.hid n2
    clear n2
    go_wp2_with fail
    go_ret
    exact ⟨rfl, Nw.trans N1.out N2.out⟩
  | false =>
    rw [if_neg (by simp)] at h
    obtain ⟨rfl, n2⟩ := h
    have N2 := Lib.hid n2
    clear n2
    go_wp2_with fail
    go_ret
    exact ⟨rfl, Nw.trans N1.out N2.out⟩
end Go.Proofs.Ytnbcjjgilndlaaa
