/- Messages: numbers of a message's fields, read. Helper. -/
import Derived.Test.YtnbcjjgilndlaaaMsgB
namespace Go.Proofs.Ytnbcjjgilndlaaa
open Go.RowKit
set_option linter.unusedVariables false
set_option linter.unusedSimpArgs false
set_option maxRecDepth 100000
/-- A pen that reads, and the message it reads into. -/
structure RdSt (w0 w : World) (P M : Nat) (T : TypeId) (A : Option Addr) (c : Nat) (bs : List UInt8) (mc : Array Value) : Prop where
  pen : Blk w P 76 #[.slice A bs.length c, .bool true]
  msg : Blk w M T mc
  txt : BytesAt w A bs
  cap : bs.length ≤ c
  ap : ∀ a, A = some a → a.block ≠ P ∧ a.block ≠ M ∧ a.block < w0.heap.size
  ne : M ≠ P
  chg : Chg (fun i => i = P ∨ i = M) w0 w
section
variable {w0 w : World} {P M : Nat} {T : TypeId} {A : Option Addr} {c : Nat} {bs : List UInt8} {mc : Array Value}
theorem RdSt.lt (h : RdSt w0 w P M T A c bs mc) {a : Addr} (ha : A = some a) : a.block < w.heap.size := Nat.lt_of_lt_of_le (h.ap a ha).2.2 h.chg.size
theorem RdSt.step (h : RdSt w0 w P M T A c bs mc) (x0 V u : Value) (t : TypeId) (k o : Nat) (hk : k ≤ bs.length) :
    RdSt w0 ((((w.alloc (.cells #[x0] t)).setCell ⟨w.heap.size, 0, none⟩ V).setCell ⟨P, 0, none⟩ (.slice (cutA A c k) (bs.length - k) (c - k))).setCell ⟨M, o, none⟩ u) P M T (cutA A c k) (c - k) (bs.drop k) (mc.setIfInBounds o u) := by
  have hx1 : P ≠ w.heap.size := Nat.ne_of_lt h.pen.lt
  have hx2 : M ≠ w.heap.size := Nat.ne_of_lt h.msg.lt
  have hl : (bs.drop k).length = bs.length - k := by simp
  refine ⟨?_, ?_, ?_, by rw [hl]; have := h.cap; omega, fun a ha => ?_, h.ne, ?_⟩
  · rw [hl]
    exact (((h.pen.alloc _).far (p := ⟨w.heap.size, 0, none⟩) hx1 _).set_ 0 _).far (p := ⟨M, o, none⟩) h.ne.symm _
  · exact (((h.msg.alloc _).far (p := ⟨w.heap.size, 0, none⟩) hx2 _).far (p := ⟨P, 0, none⟩) h.ne _).set_ o _
  · have h1 : BytesAt (w.alloc (.cells #[x0] t)) A bs := h.txt.below ((Below.refl _ w).alloc (Nat.le_refl _) _) (Nat.le_refl _)
    have h2 := h1.cut c hk h.cap
    refine ((h2.far (p := ⟨w.heap.size, 0, none⟩) V fun b o e => ?_).far (p := ⟨P, 0, none⟩) _ fun b o e => ?_).far (p := ⟨M, o, none⟩) u fun b o e => ?_
    · obtain ⟨a0, e0, e1⟩ := cutA_block (c := c) (k := k) e
      have := h.lt e0; have e1 : b = a0.block := e1; show b ≠ w.heap.size; omega
    · obtain ⟨a0, e0, e1⟩ := cutA_block (c := c) (k := k) e
      have e1 : b = a0.block := e1
      rw [e1]; exact (h.ap a0 e0).1
    · obtain ⟨a0, e0, e1⟩ := cutA_block (c := c) (k := k) e
      have e1 : b = a0.block := e1
      rw [e1]; exact (h.ap a0 e0).2.1
  · obtain ⟨a0, e0, e1⟩ := cutA_block ha
    rw [e1]; exact h.ap a0 e0
  · exact (((h.chg.alloc _).setCell (.inr h.chg.size) _).setCell (.inl (.inl rfl)) _).setCell (.inl (.inr rfl)) _
/-- The box that a number is read into, and what is read. -/
theorem RdSt.number (h : RdSt w0 w P M T A c bs mc) (V : Value) (t : TypeId) (x : Int) (k : Nat) (lo hi : Int) (hk : k = 1 ∨ k = 4 ∨ k = 8) (hkn : k ≤ bs.length) (hlo : lo ≤ s64 (beN (bs.take k))) (hhi : s64 (beN (bs.take k)) ≤ hi) :
    (∀ u v : Value, (((w.alloc (.cells #[.int .i64 x] t)).setCell ⟨w.heap.size, 0, none⟩ u).setCell ⟨P, 0, none⟩ v).cell? ⟨w.heap.size, 0, none⟩ = some u) ∧
    (∀ v : Value, (((w.alloc (.cells #[.int .i64 x] t)).setCell ⟨w.heap.size, 0, none⟩ V).setCell ⟨P, 0, none⟩ v).frozen? ⟨w.heap.size, 0, none⟩ = false) ∧
    Blk (((w.alloc (.cells #[.int .i64 x] t)).setCell ⟨w.heap.size, 0, none⟩ V).setCell ⟨P, 0, none⟩ (.slice (cutA A c k) (bs.length - k) (c - k))) M T mc ∧
    Calls Try.prog 79 #[.pointer (some ⟨P, 0, none⟩), .pointer (some ⟨w.heap.size, 0, none⟩), .int .i64 (k : Int), .int .i64 lo, .int .i64 hi] (w.alloc (.cells #[.int .i64 x] t)) fun e w' => e = .returned (.tuple #[]) ∧ w' = (((w.alloc (.cells #[.int .i64 x] t)).setCell ⟨w.heap.size, 0, none⟩ (.int .i64 (s64 (beN (bs.take k))))).setCell ⟨P, 0, none⟩ (.slice (cutA A c k) (bs.length - k) (c - k))) := by
  have hx1 : P ≠ w.heap.size := Nat.ne_of_lt h.pen.lt
  have hx2 : M ≠ w.heap.size := Nat.ne_of_lt h.msg.lt
  have hX : Blk (w.alloc (.cells #[.int .i64 x] t)) w.heap.size t #[.int .i64 x] := Blk.last w _ _ rfl
  refine ⟨fun u v => ((((hX.set_ 0 u).far (p := ⟨P, 0, none⟩) hx1.symm v).cell 0).trans rfl), fun v => ((hX.set_ 0 V).far (p := ⟨P, 0, none⟩) hx1.symm v).frozen 0, ((h.msg.alloc _).far (p := ⟨w.heap.size, 0, none⟩) hx2 _).far (p := ⟨P, 0, none⟩) h.ne _, ?_⟩
  refine (number_read (w.alloc (.cells #[.int .i64 x] t)) P w.heap.size 0 x A bs.length c bs k lo hi (h.pen.alloc _) (h.txt.below ((Below.refl _ w).alloc (Nat.le_refl _) _) (Nat.le_refl _)) rfl h.cap ((hX.cell 0).trans rfl) (hX.frozen 0) hx1.symm (fun a ha => ⟨(h.ap a ha).1, Nat.ne_of_lt (h.lt ha)⟩) hk hkn hlo hhi).mono fun e w' ⟨h1, h2, _⟩ => ⟨h1, h2⟩
end
theorem beN_take_lt (bs : List UInt8) (k : Nat) : beN (bs.take k) < 256 ^ k := by
  have h1 := beN_lt (bs.take k)
  exact Nat.lt_of_lt_of_le h1 (Nat.pow_le_pow_right (by omega) (by rw [List.length_take]; omega))
set_option maxHeartbeats 3200000 in
theorem word_rd (w0 w : World) (P M : Nat) (T : TypeId) (A : Option Addr) (c : Nat) (bs : List UInt8) (mc : Array Value) (o : Nat) (v : Int) (h : RdSt w0 w P M T A c bs mc) (ho : mc[o]? = some (.int .u32 v)) (hk : 4 ≤ bs.length) :
    Calls Try.prog 49 #[.pointer (some ⟨P, 0, none⟩), .pointer (some ⟨M, o, none⟩)] w fun e w' => e = .returned (.tuple #[]) ∧ RdSt w0 w' P M T (cutA A c 4) (c - 4) (bs.drop 4) (mc.setIfInBounds o (.int .u32 (beN (bs.take 4) : Int))) := by
  have hV := beN_take_lt bs 4
  obtain ⟨V, hVe⟩ : ∃ V, beN (bs.take 4) = V := ⟨_, rfl⟩
  rw [hVe] at hV ⊢
  have c0 : w.cell? ⟨M, o, none⟩ = some (.int .u32 v) := (h.msg.cell o).trans ho
  have z0 : w.frozen? ⟨M, o, none⟩ = false := h.msg.frozen o
  have HO := Lib.hid ho
  have H := Lib.hid h
  have HV := Lib.hid (And.intro hVe hV)
  clear h ho hV hVe
  go_enter Try.func49, Try.ntmps49
  go_wp2_with fail
  obtain ⟨hx1, _, hM2, hrd⟩ := H.out.number (.int .i64 (s64 (beN (bs.take 4)))) 2 (wrap64 v) 4 0 4294967295 (.inr (.inl rfl)) hk (by rw [HV.out.1, s64_small (by have := HV.out.2; omega)]; omega) (by rw [HV.out.1, s64_small (by have := HV.out.2; omega)]; have := HV.out.2; omega)
  refine hrd.mono ?_
  rintro e w2 ⟨rfl, hw2⟩
  have hx := hx1 (.int .i64 (s64 (beN (bs.take 4)))) (.slice (cutA A c 4) (bs.length - 4) (c - 4))
  rw [← hw2] at hx hM2
  have hstep := H.out.step (.int .i64 (wrap64 v)) (.int .i64 (s64 (beN (bs.take 4)))) (.int .u32 (V : Int)) 2 4 o hk
  rw [← hw2] at hstep
  rw [HV.out.1, s64_small (by have := HV.out.2; omega)] at hx
  have c1 := (hM2.cell o).trans HO.out
  have z1 := hM2.frozen o
  have hVb : IntKind.u32.wrap (V : Int) = (V : Int) := by rw [IntKind.wrap_u32]; have := HV.out.2; omega
  have HS := Lib.hid hstep
  clear hstep hM2 hrd hx1 hw2
  go_wp2_with fail
  go_end0
  exact ⟨rfl, HS.out⟩
set_option maxHeartbeats 3200000 in
theorem errno_rd (w0 w : World) (P M : Nat) (T : TypeId) (A : Option Addr) (c : Nat) (bs : List UInt8) (mc : Array Value) (o : Nat) (v : Int) (h : RdSt w0 w P M T A c bs mc) (ho : mc[o]? = some (.int .i64 v)) (hk : 1 ≤ bs.length) (hb : beN (bs.take 1) ≤ 16) :
    Calls Try.prog 67 #[.pointer (some ⟨P, 0, none⟩), .pointer (some ⟨M, o, none⟩)] w fun e w' => e = .returned (.tuple #[]) ∧ RdSt w0 w' P M T (cutA A c 1) (c - 1) (bs.drop 1) (mc.setIfInBounds o (.int .i64 (beN (bs.take 1) : Int))) := by
  obtain ⟨V, hVe⟩ : ∃ V, beN (bs.take 1) = V := ⟨_, rfl⟩
  rw [hVe] at hb ⊢
  have c0 : w.cell? ⟨M, o, none⟩ = some (.int .i64 v) := (h.msg.cell o).trans ho
  have HO := Lib.hid ho
  have H := Lib.hid h
  have HV := Lib.hid (And.intro hVe hb)
  clear h ho hb hVe
  go_enter Try.func67, Try.ntmps67
  go_wp2_with fail
  obtain ⟨hx1, _, hM2, hrd⟩ := H.out.number (.int .i64 (s64 (beN (bs.take 1)))) 2 v 1 0 16 (.inl rfl) hk (by rw [HV.out.1, s64_small (by have := HV.out.2; omega)]; omega) (by rw [HV.out.1, s64_small (by have := HV.out.2; omega)]; have := HV.out.2; omega)
  refine hrd.mono ?_
  rintro e w2 ⟨rfl, hw2⟩
  have hx := hx1 (.int .i64 (s64 (beN (bs.take 1)))) (.slice (cutA A c 1) (bs.length - 1) (c - 1))
  rw [← hw2] at hx hM2
  have hstep := H.out.step (.int .i64 v) (.int .i64 (s64 (beN (bs.take 1)))) (.int .i64 (V : Int)) 2 1 o hk
  rw [← hw2] at hstep
  rw [HV.out.1, s64_small (by have := HV.out.2; omega)] at hx
  have c1 := (hM2.cell o).trans HO.out
  have z1 := hM2.frozen o
  have HS := Lib.hid hstep
  clear hstep hM2 hrd hx1 hw2
  go_wp2_with fail
  go_end0
  exact ⟨rfl, HS.out⟩
/-- A pen that writes, and the message that it writes. -/
structure WrSt (w0 w : World) (P M : Nat) (T : TypeId) (out : List UInt8) (blk blk0 : Option Nat) (mc : Array Value) : Prop where
  pen : PenW w P out blk
  new : blk = blk0 ∨ ∃ g, blk = some g ∧ w0.heap.size ≤ g
  msg : Blk w M T mc
  ne : M ≠ P
  ty : T ≠ 5
  chg : Chg (fun i => i = P ∨ i = M ∨ some i = blk0) w0 w
theorem PenW.lt {w : World} {P : Nat} {out : List UInt8} {blk : Option Nat} (h : PenW w P out blk) : P < w.heap.size := by obtain ⟨_, _, h, _⟩ := h; exact h.lt
theorem PenW.blt {w : World} {P : Nat} {out : List UInt8} {blk : Option Nat} (h : PenW w P out blk) : ∀ g, blk = some g → g < w.heap.size := by obtain ⟨_, _, _, h⟩ := h; exact h.lt
theorem PenW.neT {w : World} {P M : Nat} {T : TypeId} {mc : Array Value} {out : List UInt8} {blk : Option Nat} (h : PenW w P out blk) (hM : Blk w M T mc) (hT : T ≠ 5) : blk ≠ some M := by
  obtain ⟨A, c, h1, h2⟩ := h
  intro e
  obtain ⟨_, A', c', _, _, _, h | ⟨g, off, cur, _, hb, hg, _⟩⟩ := h2
  · rw [h.2] at e; cases e
  · rw [hb] at e; injection e with e
    rw [e] at hg
    exact absurd rfl (hM.ne_ hg hT)
theorem PenW.alloc {w : World} {P : Nat} {out : List UInt8} {blk : Option Nat} (h : PenW w P out blk) (o : Obj) : PenW (w.alloc o) P out blk := by
  obtain ⟨A, c, h1, h2⟩ := h
  exact ⟨A, c, h1.alloc o, h2.kept fun g hg => Below.heap_alloc _ _ _ (h2.lt g hg)⟩
theorem PenW.far {w : World} {P : Nat} {out : List UInt8} {blk : Option Nat} (h : PenW w P out blk) {p : Addr} (h1 : P ≠ p.block) (h2 : blk ≠ some p.block) (u : Value) : PenW (w.setCell p u) P out blk := by
  obtain ⟨A, c, g1, g2⟩ := h
  exact ⟨A, c, g1.far h1 u, g2.kept fun g hg => Below.heap_setCell _ _ _ _ (fun e => h2 (by rw [hg, e]))⟩
/-- The box that a number is written out of. -/
theorem WrSt.number {w0 w : World} {P M : Nat} {T : TypeId} {out : List UInt8} {blk blk0 : Option Nat} {mc : Array Value} (h : WrSt w0 w P M T out blk blk0 mc) (x : Int) (t : TypeId) (k : Nat) (lo hi : Int) (hk : k = 1 ∨ k = 4 ∨ k = 8) (hlo : lo ≤ x) (hhi : x ≤ hi) (hv : -9223372036854775808 ≤ x ∧ x ≤ 9223372036854775807) (hl : out.length ≤ 1000000) :
    Calls Try.prog 79 #[.pointer (some ⟨P, 0, none⟩), .pointer (some ⟨w.heap.size, 0, none⟩), .int .i64 (k : Int), .int .i64 lo, .int .i64 hi] (w.alloc (.cells #[.int .i64 x] t)) fun e w' => e = .returned (.tuple #[]) ∧ w'.cell? ⟨w.heap.size, 0, none⟩ = some (.int .i64 x) ∧ Blk w' M T mc ∧ ∀ o u, mc[o]? = some u → ∃ blk', WrSt w0 (w'.setCell ⟨M, o, none⟩ u) P M T (out ++ beW x k) blk' blk0 mc := by
  have hX : Blk (w.alloc (.cells #[.int .i64 x] t)) w.heap.size t #[.int .i64 x] := Blk.last w _ _ rfl
  have hx1 : w.heap.size ≠ P := Nat.ne_of_gt h.pen.lt
  have hx2 : some w.heap.size ≠ blk := fun e => by have := h.pen.blt _ e.symm; omega
  refine (number_write (w.alloc (.cells #[.int .i64 x] t)) P w.heap.size 0 x out blk k lo hi (h.pen.alloc _) ((hX.cell 0).trans rfl) hx1 hx2 hk hlo hhi hv hl).mono fun e w' ⟨h1, blk', h2⟩ => ⟨h1, ?_, ?_, fun o u hu => ⟨blk', ?_⟩⟩
  · exact ((hX.chg h2.chg (fun q => q.elim hx1 hx2)).cell 0).trans rfl
  · exact (h.msg.alloc _).chg h2.chg fun q => q.elim h.ne (fun e => h.pen.neT h.msg h.ty e.symm)
  · have hM : Blk w' M T mc := (h.msg.alloc _).chg h2.chg fun q => q.elim h.ne (fun e => h.pen.neT h.msg h.ty e.symm)
    have hset : mc.setIfInBounds o u = mc := by
      obtain ⟨ho, he⟩ := Array.getElem?_eq_some_iff.1 hu
      rw [← he]
      simp [Array.setIfInBounds, ho]
    have hne := h2.pen.neT hM h.ty
    refine ⟨h2.pen.far (p := ⟨M, o, none⟩) h.ne.symm hne _, ?_, ?_, h.ne, h.ty, ?_⟩
    · rcases h2.new with e | ⟨g, e, hg⟩
      · rw [e]; exact h.new
      · exact .inr ⟨g, e, by have := h.chg.size; simp at hg; omega⟩
    · have := hM.set_ o u
      rw [hset] at this; exact this
    · refine Chg.setCell ?_ (.inl (.inr (.inl rfl))) _
      refine (h.chg.alloc _).trans h2.chg fun i hi he => ?_
      rcases he with e | e
      · exact .inl e
      · rcases h.new with q | ⟨g, q, hg⟩
        · rw [← q]; exact .inr (.inr e)
        · rw [q] at e; injection e with e; omega
set_option maxHeartbeats 3200000 in
theorem word_wr (w0 w : World) (P M : Nat) (T : TypeId) (out : List UInt8) (blk blk0 : Option Nat) (mc : Array Value) (o : Nat) (v : Int) (h : WrSt w0 w P M T out blk blk0 mc) (ho : mc[o]? = some (.int .u32 v)) (hv : 0 ≤ v ∧ v < 4294967296) (hl : out.length ≤ 1000000) :
    Calls Try.prog 49 #[.pointer (some ⟨P, 0, none⟩), .pointer (some ⟨M, o, none⟩)] w fun e w' => e = .returned (.tuple #[]) ∧ ∃ blk', WrSt w0 w' P M T (out ++ beW v 4) blk' blk0 mc := by
  have c0 : w.cell? ⟨M, o, none⟩ = some (.int .u32 v) := (h.msg.cell o).trans ho
  have HO := Lib.hid ho
  have KN := Lib.hid (h.number v 2 4 0 4294967295 (.inr (.inl rfl)) (by omega) (by omega) (by omega) hl)
  have hw1 : wrap64 v = v := by unfold wrap64; omega
  have hw2 : IntKind.u32.wrap v = v := by rw [IntKind.wrap_u32]; omega
  clear h ho hv hl
  go_enter Try.func49, Try.ntmps49
  go_wp2_with fail
  refine KN.out.mono ?_
  rintro e w2 ⟨rfl, hx, hM, hfin⟩
  have c1 := (hM.cell o).trans HO.out
  have z1 := hM.frozen o
  have HF := Lib.hid (hfin o _ HO.out)
  clear hM hfin
  go_wp2_with fail
  go_end0
  exact ⟨rfl, HF.out⟩
set_option maxHeartbeats 3200000 in
theorem errno_wr (w0 w : World) (P M : Nat) (T : TypeId) (out : List UInt8) (blk blk0 : Option Nat) (mc : Array Value) (o : Nat) (v : Int) (h : WrSt w0 w P M T out blk blk0 mc) (ho : mc[o]? = some (.int .i64 v)) (hv : 0 ≤ v ∧ v ≤ 16) (hl : out.length ≤ 1000000) :
    Calls Try.prog 67 #[.pointer (some ⟨P, 0, none⟩), .pointer (some ⟨M, o, none⟩)] w fun e w' => e = .returned (.tuple #[]) ∧ ∃ blk', WrSt w0 w' P M T (out ++ beW v 1) blk' blk0 mc := by
  have c0 : w.cell? ⟨M, o, none⟩ = some (.int .i64 v) := (h.msg.cell o).trans ho
  have HO := Lib.hid ho
  have KN := Lib.hid (h.number v 2 1 0 16 (.inl rfl) (by omega) (by omega) (by omega) hl)
  clear h ho hv hl
  go_enter Try.func67, Try.ntmps67
  go_wp2_with fail
  refine KN.out.mono ?_
  rintro e w2 ⟨rfl, hx, hM, hfin⟩
  have c1 := (hM.cell o).trans HO.out
  have z1 := hM.frozen o
  have HF := Lib.hid (hfin o _ HO.out)
  clear hM hfin
  go_wp2_with fail
  go_end0
  exact ⟨rfl, HF.out⟩
end Go.Proofs.Ytnbcjjgilndlaaa
