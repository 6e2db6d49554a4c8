/- Our pace: its memory, den, Horizon, Tick, New, Rate, State, Copy, Same, Wait. Helper of the paces. -/
import Derived.Test.YtpmcabjplnfdgaaPaceDiv
import Derived.Deep.RegionHeld3
import Derived.Deep.RegionLaw
import Derived.Outline
namespace Go.Proofs.Ytpmcabjplnfdgaa
open Go.RowKit
set_option linter.unusedVariables false
set_option linter.unusedSimpArgs false
def pcells (p : Pc) : Array Value := #[.int .i64 p.S, .int .i64 p.B, .int .i64 p.N, .int .i64 p.D, .int .i64 p.C]
/-- A pace of ours lies in block B. -/
def PC (w : World) (B : Nat) (p : Pc) : Prop := Blk w B 48 (pcells p) ∧ p.Ok
theorem PC.cells {w : World} {B : Nat} {p : Pc} (h : PC w B p) : w.cell? ⟨B, 0, none⟩ = some (.int .i64 p.S) ∧ w.cell? ⟨B, 1, none⟩ = some (.int .i64 p.B) ∧ w.cell? ⟨B, 2, none⟩ = some (.int .i64 p.N) ∧ w.cell? ⟨B, 3, none⟩ = some (.int .i64 p.D) ∧ w.cell? ⟨B, 4, none⟩ = some (.int .i64 p.C) :=
  ⟨h.1.cell 0, h.1.cell 1, h.1.cell 2, h.1.cell 3, h.1.cell 4⟩
theorem PC.below {w w' : World} {B base : Nat} {p : Pc} (h : PC w B p) (hB : Below base w w') (hg : B < base) : PC w' B p := ⟨h.1.below hB hg, h.2⟩
theorem PC.new {w w' : World} {B : Nat} {p : Pc} (h : PC w B p) (hB : Below w.heap.size w w') : PC w' B p := h.below hB h.1.lt
theorem PC.chg {M : Nat → Prop} {w w' : World} {B : Nat} {p : Pc} (h : PC w B p) (hc : Chg M w w') (hg : ¬ M B) : PC w' B p := ⟨h.1.chg hc hg, h.2⟩
theorem den_any (B : Nat) (p : Pc) (w : World) (h : PC w B p) :
    Calls Try.prog 21 #[.pointer (some ⟨B, 0, none⟩)] w fun e w' => e = .returned (.int .u64 p.d) ∧ w = w' := by
  obtain ⟨c0, c1, c2, c3, c4⟩ := h.cells
  have hd := h.2.dd
  have hdd : (p.d : Int) = max (p.D : Int) 1 := by unfold Pc.d; omega
  have HD := Lib.hid hdd
  clear c0 c1 c2 c4 hdd h
  generalize p.D = D at *
  go_enter Try.func21, Try.ntmps21
  go_wp2
  go_ret
  exact ⟨ret_int HD.out.symm, rfl⟩
theorem PC.many {w : World} {B : Nat} {p : Pc} (h : PC w B p) (n : Nat) : PC (w.drewN n) B p := h
theorem den_q (B : Nat) (p : Pc) (w : World) (h : PC w B p) :
    Calls Try.prog 21 #[.pointer (some ⟨B, 0, none⟩)] w fun e w' => e = .returned (.int .u64 p.d) ∧ w' = w :=
  (den_any B p w h).mono fun _ _ ⟨a, b⟩ => ⟨a, b.symm⟩
theorem New_any (w : World) :
    Calls Try.prog 7 #[] w fun e w' => e = .returned (.pointer (some ⟨w.heap.size, 0, none⟩)) ∧ w.alloc (.cells (pcells Pc.zero) 48) = w' := by
  go_enter Try.func7, Try.ntmps7
  go_wp2
  go_ret
  exact ⟨rfl, rfl⟩
theorem new_pc (w : World) : PC (w.alloc (.cells (pcells Pc.zero) 48)) w.heap.size Pc.zero := ⟨Blk.last w 48 _ rfl, Pc.zero_ok⟩
theorem Tick_any (B : Nat) (p : Pc) (k : Int) (w : World) (h : PC w B p) (hk : -9223372036854775808 ≤ k ∧ k ≤ 9223372036854775807) :
    Calls Try.prog 9 #[.pointer (some ⟨B, 0, none⟩), .int .i64 k] w fun e w' => e = .returned (.tuple #[]) ∧ PC w' B (p.tick k) ∧ Chg (fun i => i = B) w w' := by
  obtain ⟨c0, c1, c2, c3, c4⟩ := h.cells
  have hf := h.1.frozen 4
  go_enter Try.func9, Try.ntmps9
  go_wp2
  go_end0
  have e : ((p.tick k).C : Int) = max (p.C : Int) k := by
    show ((max p.C k.toNat : Nat) : Int) = _
    omega
  refine ⟨rfl, ⟨?_, h.2.tick hk.2⟩, (Chg.refl (fun i => i = B) w).setCell (p := ⟨B, 4, none⟩) (.inl rfl) _⟩
  have := h.1.set_ 4 (.int .i64 (max (p.C : Int) k))
  rw [← e] at this
  rw [← e]
  exact this
theorem near (X N d : Nat) : (X * N / 18446744073709551616 * 18446744073709551616 + X * N % 18446744073709551616) / d = X * N / d := by
  rw [Nat.mul_comm (X * N / 18446744073709551616), Nat.div_add_mod]
set_option maxRecDepth 100000 in
theorem Horizon_any (B : Nat) (p : Pc) (w : World) (h : PC w B p) :
    Calls Try.prog 11 #[.pointer (some ⟨B, 0, none⟩)] w fun e w' => e = .returned (.int .i64 (p.hz p.C : Nat)) ∧ ∃ n, w' = w.drewN n := by
  have hs := h.2.s
  have hbc := h.2.bc
  have hc := h.2.c
  have hn := h.2.n
  have hdp := h.2.dpos
  obtain ⟨X, hX⟩ : ∃ X : Nat, X = p.C - p.B := ⟨_, rfl⟩
  have hx : (p.C : Int) - (p.B : Int) = (X : Int) := by omega
  have hXl : X ≤ 9223372036854775807 := by omega
  have km := fun w : World => Try.bits_Mul64 X p.N (by omega) (by omega) w
  have kd := fun (w : World) h => den_any B p w h
  have hlo : X * p.N % 18446744073709551616 < 18446744073709551616 := Nat.mod_lt _ (by decide)
  have hhi : X * p.N / 18446744073709551616 < 18446744073709551616 := by
    have : X * p.N ≤ 9223372036854775807 * 1048576 := Nat.mul_le_mul hXl hn
    omega
  have hnear := near X p.N p.d
  have kv := fun (w : World) hlt => Div64_any (X * p.N / 18446744073709551616) (X * p.N % 18446744073709551616) p.d hlt hlo hdp.2 w
  rw [hnear] at kv
  have hhz : p.hz p.C = p.S + min (X * p.N / p.d) (1099511627776 - p.S) := by rw [hX]; rfl
  have hfar := fun hd => Pc.far h.2 (by rw [← hX]; exact hd)
  have HZ := Lib.hid hhz
  have HF := Lib.hid hfar
  have KM := Lib.hid km
  have KD := Lib.hid kd
  have KV := Lib.hid kv
  have P0 := Lib.hid h
  obtain ⟨c0, c1, c2, c3, c4⟩ := h.cells
  clear hhz hfar km kd kv h hnear hX hlo hbc hc
  generalize X * p.N / 18446744073709551616 = hi at *
  generalize X * p.N % 18446744073709551616 = lo at *
  generalize X * p.N / p.d = Q at *
  generalize p.d = d at *
  by_cases hd : d ≤ hi
  · have g1 : decide ((d : Int) ≤ (hi : Int)) = true := by simp; omega
    have g2 : (d : Int) ≤ (hi : Int) := by omega
    go_enter Try.func11, Try.ntmps11
    go_wp2
    go_quiet ((go_at_call 20; exact Calls.quiet_of_same (KM.out _)))
    go_wp2_with (go_at_call 21; refine (KD.out _ (P0.out.new (Below.many (Below.refl _ _) _))).mono ?_; rintro e w' ⟨rfl, rfl⟩)
    go_ret
    exact ⟨ret_int (by have := HF.out hd; omega), _, rfl⟩
  · have g1 : decide ((d : Int) ≤ (hi : Int)) = false := by simp; omega
    have g2 : ¬ (d : Int) ≤ (hi : Int) := by omega
    go_enter Try.func11, Try.ntmps11
    go_wp2
    go_quiet ((go_at_call 20; exact Calls.quiet_of_same (KM.out _)))
    go_wp2_with (first
      | (go_at_call 21; refine (KD.out _ (P0.out.new (Below.many (Below.refl _ _) _))).mono ?_; rintro e w' ⟨rfl, rfl⟩)
      | (go_at_call 22; refine (KV.out _ (by omega)).mono ?_; rintro e w1 ⟨rfl, n1, rfl⟩))
    clear c1 c2 c3 c4
    go_region
    all_goals
      go_wp2
      go_ret
      exact ⟨ret_int (by have := HZ.out; omega), _, rfl⟩
theorem hz_cast (p : Pc) (c : Nat) (h : p.Ok) : 0 ≤ (p.hz c : Int) ∧ (p.hz c : Int) ≤ 1099511627776 := by have := Pc.hz_le h c; omega
set_option maxHeartbeats 800000 in
theorem State_any (B : Nat) (p : Pc) (w : World) (h : PC w B p) :
    Calls Try.prog 19 #[.pointer (some ⟨B, 0, none⟩)] w fun e w' => e = .returned (.agg #[.int .i64 p.S, .int .i64 p.B, .int .i64 p.N, .int .i64 p.d, .int .i64 p.C]) ∧ Below w.heap.size w w' := by
  obtain ⟨c0, c1, c2, c3, c4⟩ := h.cells
  have hdp := h.2.dpos
  have kd := fun (w : World) h => den_any B p w h
  have KD := Lib.hid kd
  have P0 := Lib.hid h
  have hlt := h.1.lt
  clear kd h
  go_enter Try.func19, Try.ntmps19
  go_wp2_with (go_at_call 21; refine (KD.out _ (P0.out.new (((Below.refl _ _).alloc (Nat.le_refl _) _).alloc (by simp) _))).mono ?_; rintro e w' ⟨rfl, rfl⟩)
  exact bodyPost_ret (v := .agg #[.int .i64 p.S, .int .i64 p.B, .int .i64 p.N, .int .i64 p.d, .int .i64 p.C]) (by simp [results, Try.results19, go_sem]) rfl ⟨rfl, ((Below.refl _ _).alloc (Nat.le_refl _) _).alloc (by simp) _⟩
theorem Copy_any (B : Nat) (p : Pc) (w : World) (h : PC w B p) :
    Calls Try.prog 18 #[.pointer (some ⟨B, 0, none⟩)] w fun e w' => e = .returned (.pointer (some ⟨w.heap.size, 0, none⟩)) ∧ w.alloc (.cells (pcells p) 48) = w' := by
  obtain ⟨c0, c1, c2, c3, c4⟩ := h.cells
  have hlt := h.1.lt
  go_enter Try.func18, Try.ntmps18
  go_wp2
  go_ret
  exact ⟨rfl, rfl⟩
structure Alike (p q : Pc) : Prop where
  s : p.S = q.S
  b : p.B = q.B
  n : p.N = q.N
  d : p.d = q.d
theorem Alike.refl (p : Pc) : Alike p p := ⟨rfl, rfl, rfl, rfl⟩
theorem Alike.hz {p q : Pc} (h : Alike p q) (c : Nat) : p.hz c = q.hz c := by unfold Pc.hz; rw [h.s, h.b, h.n, h.d]
theorem State_alike {B : Nat} {p q : Pc} {w : World} (h : PC w B q) (ha : Alike p q) :
    Calls Try.prog 19 #[.pointer (some ⟨B, 0, none⟩)] w fun e w' => e = .returned (.agg #[.int .i64 p.S, .int .i64 p.B, .int .i64 p.N, .int .i64 p.d, .int .i64 q.C]) ∧ Below w.heap.size w w' := by
  rw [ha.s, ha.b, ha.n, ha.d]
  exact State_any B q w h
theorem Same_yes (B B2 : Nat) (p q : Pc) (w : World) (h : PC w B p) (h2 : PC w B2 q) (ha : Alike p q) (hc : p.C = q.C) :
    Calls Try.prog 10 #[.pointer (some ⟨B, 0, none⟩), .pointer (some ⟨B2, 0, none⟩)] w fun e w' => e = .returned (.bool true) ∧ Below w.heap.size w w' := by
  have k1 := State_any B p w h
  have k2 := fun w' hB => State_alike (B := B2) (w := w') (h2.new hB) ha
  rw [← hc] at k2
  have K1 := Lib.hid k1
  have K2 := Lib.hid k2
  clear k1 k2 hc
  go_enter Try.func10, Try.ntmps10
  go_wp2_with fail
  refine K1.out.mono ?_
  rintro e w1 ⟨rfl, hB1⟩
  go_wp2_with fail
  refine (K2.out w1 hB1).mono ?_
  rintro e w2 ⟨rfl, hB2⟩
  go_wp2_with fail
  go_ret
  exact ⟨rfl, hB1.trans (hB2.mono hB1.size)⟩
theorem Same_no (B B2 : Nat) (p q : Pc) (w : World) (h : PC w B p) (h2 : PC w B2 q) (ha : Alike p q) (hc : p.C ≠ q.C) :
    Calls Try.prog 10 #[.pointer (some ⟨B, 0, none⟩), .pointer (some ⟨B2, 0, none⟩)] w fun e w' => e = .returned (.bool false) ∧ Below w.heap.size w w' := by
  have k1 := State_any B p w h
  have k2 := fun w' hB => State_alike (B := B2) (w := w') (h2.new hB) ha
  have hc' : ¬ (p.C : Int) = (q.C : Int) := by omega
  have K1 := Lib.hid k1
  have K2 := Lib.hid k2
  clear k1 k2 hc
  go_enter Try.func10, Try.ntmps10
  go_wp2_with fail
  refine K1.out.mono ?_
  rintro e w1 ⟨rfl, hB1⟩
  go_wp2_with fail
  refine (K2.out w1 hB1).mono ?_
  rintro e w2 ⟨rfl, hB2⟩
  go_wp2_with fail
  go_ret
  exact ⟨rfl, hB1.trans (hB2.mono hB1.size)⟩
/-- A result of Wait. -/
def WaitOut (p : Pc) (t : Int) (e : Ending) : Prop := ∃ n is, e = .returned (.tuple #[.int .i64 n, .bool is]) ∧ WaitIs p t n is
theorem Wait_big (B : Nat) (p : Pc) (t : Int) (w : World) (ht : 1099511627776 < t) :
    Calls Try.prog 15 #[.pointer (some ⟨B, 0, none⟩), .int .i64 t] w fun e w' => WaitOut p t e ∧ w = w' := by
  go_enter Try.func15, Try.ntmps15
  go_wp2
  go_ret2
  exact ⟨⟨_, _, rfl, waitIs_big p ht⟩, rfl⟩
theorem Wait_now (B : Nat) (p : Pc) (t : Int) (w : World) (h : PC w B p) (ht : t ≤ 1099511627776) (hz : t ≤ p.hz p.C) :
    Calls Try.prog 15 #[.pointer (some ⟨B, 0, none⟩), .int .i64 t] w fun e w' => WaitOut p t e ∧ ∃ n, w' = w.drewN n := by
  obtain ⟨c0, c1, c2, c3, c4⟩ := h.cells
  have K := Lib.hid (Horizon_any B p w h)
  have h1 : ¬ 1099511627776 < t := by omega
  go_enter Try.func15, Try.ntmps15
  go_wp2_with (go_at_call 11; refine K.out.mono ?_; rintro e w1 ⟨rfl, n1, rfl⟩)
  go_ret2
  exact ⟨⟨_, _, rfl, waitIs_now h.2 hz⟩, _, rfl⟩
theorem Wait_zero (B : Nat) (p : Pc) (t : Int) (w : World) (h : PC w B p) (ht : t ≤ 1099511627776) (hz : ¬ t ≤ p.hz p.C) (h0 : p.N = 0) :
    Calls Try.prog 15 #[.pointer (some ⟨B, 0, none⟩), .int .i64 t] w fun e w' => WaitOut p t e ∧ ∃ n, w' = w.drewN n := by
  obtain ⟨c0, c1, c2, c3, c4⟩ := h.cells
  rw [h0] at c2
  have H0 := Lib.hid h0
  clear h0
  have K := Lib.hid (Horizon_any B p w h)
  have h1 : ¬ 1099511627776 < t := by omega
  go_enter Try.func15, Try.ntmps15
  go_wp2_with (go_at_call 11; refine K.out.mono ?_; rintro e w1 ⟨rfl, n1, rfl⟩)
  go_ret2
  exact ⟨⟨_, _, rfl, waitIs_never p (by omega) H0.out⟩, _, rfl⟩
theorem Wait_on (B : Nat) (p : Pc) (t : Nat) (w : World) (h : PC w B p) (ht : t ≤ 1099511627776) (hz : ¬ t ≤ p.hz p.C) (h0 : 0 < p.N) :
    Calls Try.prog 15 #[.pointer (some ⟨B, 0, none⟩), .int .i64 t] w fun e w' => WaitOut p t e ∧ ∃ n, w' = w.drewN n := by
  obtain ⟨c0, c1, c2, c3, c4⟩ := h.cells
  have hP := h.2
  have hbc := h.2.bc
  have hc := h.2.c
  have hn := h.2.n
  have hs := h.2.s
  have hdp := h.2.dpos
  have hSt : p.S ≤ t := by have := Pc.hz_le h.2 p.C; omega
  have hon := waitIs_on h.2 ht h0 hz
  obtain ⟨x, hx⟩ : ∃ x : Nat, x = t - p.S := ⟨_, rfl⟩
  have ex : (t : Int) - (p.S : Int) = (x : Int) := by omega
  have hxl : x ≤ 1099511627776 := by omega
  obtain ⟨y, hy⟩ : ∃ y : Nat, y = x * p.d := ⟨_, rfl⟩
  have ey : (x : Int) * (p.d : Int) = (y : Int) := by rw [hy]; push_cast; rfl
  have hyl : y ≤ 1099511627776 * 1048576 := by rw [hy]; exact Nat.mul_le_mul hxl hdp.2
  obtain ⟨z, hzz⟩ : ∃ z : Nat, z = (y + p.N - 1) / p.N := ⟨_, rfl⟩
  have ez : ((y : Int) + (p.N : Int) - 1) / (p.N : Int) = (z : Int) := by
    have : ((y + p.N - 1 : Nat) : Int) = (y : Int) + (p.N : Int) - 1 := by omega
    rw [← this, hzz]; push_cast; rfl
  have hzl : z ≤ y + p.N - 1 := by rw [hzz]; exact Nat.div_le_self _ _
  have hne : ((p.N : Int) == 0) = false := by simp; omega
  have hzI : ¬ (t : Int) ≤ (p.hz p.C : Int) := by omega
  simp only [← hx] at hon
  rw [← hy, ← hzz] at hon
  have HON := Lib.hid hon
  have kd := fun (w : World) h => den_any B p w h
  have KD := Lib.hid kd
  have P0 := Lib.hid h
  have K := Lib.hid (Horizon_any B p w h)
  have h1 : ¬ (1099511627776 : Int) < (t : Int) := by omega
  clear hon kd hx hy hzz c3
  by_cases hfar : 9223372036854775807 - p.B < z
  · have g1 : (9223372036854775807 : Int) - (p.B : Int) < (z : Int) := by omega
    go_enter Try.func15, Try.ntmps15
    go_wp2_with (go_at_call 11; refine K.out.mono ?_; rintro e w1 ⟨rfl, n1, hw1⟩; have P1 : PC w1 B p := (by rw [hw1]; exact P0.out); have HW := Lib.hid hw1; clear hw1; obtain ⟨d0, d1, d2, d3, d4⟩ := P1.cells; clear c0 c1 c2 c4 d3 d4)
    go_quiet ((go_at_call 21; exact Calls.quiet_of_same (den_q B p _ (PC.many P1 _))))
    go_wp2
    go_ret2
    exact ⟨⟨_, _, rfl, HON.out.1 hfar⟩, _, by rw [HW.out, World.drewN_drewN]⟩
  · have g1 : ¬ (9223372036854775807 : Int) - (p.B : Int) < (z : Int) := by omega
    go_enter Try.func15, Try.ntmps15
    go_wp2_with (go_at_call 11; refine K.out.mono ?_; rintro e w1 ⟨rfl, n1, hw1⟩; have P1 : PC w1 B p := (by rw [hw1]; exact P0.out); have HW := Lib.hid hw1; clear hw1; obtain ⟨d0, d1, d2, d3, d4⟩ := P1.cells; clear c0 c1 c2 c4 d3 d4)
    go_quiet ((go_at_call 21; exact Calls.quiet_of_same (den_q B p _ (PC.many P1 _))))
    go_wp2
    go_ret2
    exact ⟨⟨_, _, rfl, HON.out.2 (by omega)⟩, _, by rw [HW.out, World.drewN_drewN]⟩
end Go.Proofs.Ytpmcabjplnfdgaa
