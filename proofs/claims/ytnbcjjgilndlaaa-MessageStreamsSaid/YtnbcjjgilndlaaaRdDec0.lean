/- Messages: bytes of a kind decoded. Helper. -/
import Derived.Test.YtnbcjjgilndlaaaRdDecQ
import Derived.Test.YtnbcjjgilndlaaaRdOv
namespace Go.Proofs.Ytnbcjjgilndlaaa
open Go.RowKit Go.Shelf
set_option linter.unusedVariables false
set_option linter.unusedSimpArgs false
set_option maxRecDepth 100000
set_option maxHeartbeats 6400000
theorem look_none {t kt et : TypeId} (ht : Try.prog.underlying t = some (.map kt et)) (hk : Try.prog.underlying kt = some (.int .i64)) {W : World} {S c : Nat} {es : Array MapEntry} (h : W.heap[S]? = some (.map es c)) (k : Int) {z : Value} (hz : ∀ W, (zeroValue et).run Try.prog W = .ok z W)
    (hf : Instr.findNow (.int .i64) (.int .i64 k) es.toList 0 = some none) :
    (Instr.lookup t (.map (some S)) (.int .i64 k) true).run Try.prog W = .ok (.tuple #[z, .bool false]) W := by
  simp [Instr.lookup, run_underlying ht, Sem.run_bind, Result.andThen, MapKept.run_getObj_map h, MapKept.run_checkKey (n := 9999) hk (show MapKept.IsKey (.int .i64) (.int .i64 k) from rfl), MapKept.run_findKey hk hf, hz]
theorem asks_miss (S k : Nat) (hk : k < 1 ∨ 12 < k) : Instr.findNow (.int .i64) (.int .i64 (k : Int)) (asksES S).toArray.toList 0 = some none := by
  have e : ∀ j : Nat, 1 ≤ j → j ≤ 12 → ((k : Int) == (j : Int)) = false := fun j h1 h2 => by simp; omega
  have e1 : ((k : Int) == 1) = false := e 1 (by omega) (by omega)
  have e2 : ((k : Int) == 2) = false := e 2 (by omega) (by omega)
  have e3 : ((k : Int) == 3) = false := e 3 (by omega) (by omega)
  have e4 : ((k : Int) == 4) = false := e 4 (by omega) (by omega)
  have e5 : ((k : Int) == 5) = false := e 5 (by omega) (by omega)
  have e6 : ((k : Int) == 6) = false := e 6 (by omega) (by omega)
  have e7 : ((k : Int) == 7) = false := e 7 (by omega) (by omega)
  have e8 : ((k : Int) == 8) = false := e 8 (by omega) (by omega)
  have e9 : ((k : Int) == 9) = false := e 9 (by omega) (by omega)
  have e10 : ((k : Int) == 10) = false := e 10 (by omega) (by omega)
  have e11 : ((k : Int) == 11) = false := e 11 (by omega) (by omega)
  have e12 : ((k : Int) == 12) = false := e 12 (by omega) (by omega)
  simp [asksES, Instr.findNow, Instr.sameNow, e1, e2, e3, e4, e5, e6, e7, e8, e9, e10, e11, e12]
theorem decQ_none (w : World) (A : Option Addr) (c : Nat) : Calls Try.prog 9 #[.slice A 0 c] w fun e w' => Nw w w' ∧ e = .returned (.tuple #[.agg #[.int .i64 0, .int .u32 0, .int .i64 0, .slice none 0 0, .int .i64 0, .int .i64 0, .int .i64 0, .int .i64 0, .int .i64 0, .int .i64 0, .int .u32 0, .int .i64 0, .int .i64 0, .int .i64 0, .int .i64 0, .int .i64 0, .int .i64 0], .int .i64 12]) := by
  obtain ⟨d, hd⟩ := stRq
  have HD := Lib.hid hd
  have HJ := Lib.hid (show (Try.prog.info? 33).map (·.size) = some (#[.int .i64 0, .int .u32 0, .int .i64 0, .slice none 0 0, .int .i64 0, .int .i64 0, .int .i64 0, .int .i64 0, .int .i64 0, .int .i64 0, .int .u32 0, .int .i64 0, .int .i64 0, .int .i64 0, .int .i64 0, .int .i64 0, .int .i64 0] : Array Value).size by kernel_rfl)
  have H2 := Lib.hid (show (#[.int .i64 0, .int .u32 0, .int .i64 0, .slice none 0 0, .int .i64 0, .int .i64 0, .int .i64 0, .int .i64 0, .int .i64 0, .int .i64 0, .int .u32 0, .int .i64 0, .int .i64 0, .int .i64 0, .int .i64 0, .int .i64 0, .int .i64 0] : Array Value).all (·.oneCell') = true by simp [Value.oneCell'])
  clear hd
  go_enter Try.func9, Try.ntmps9
  go_wp2_with (refine wpList_store_row rfl 33 _ _ rfl w.heap.size #[.int .i64 0, .int .u32 0, .int .i64 0, .slice none 0 0, .int .i64 0, .int .i64 0, .int .i64 0, .int .i64 0, .int .i64 0, .int .i64 0, .int .u32 0, .int .i64 0, .int .i64 0, .int .i64 0, .int .i64 0, .int .i64 0, .int .i64 0] rfl rfl 33 _ (heap_last _ _ rfl) HJ.out rfl H2.out ?_; rw [World.setRow_alloc_new])
  exact bodyPost_ret (results_rowB rfl _ _ w.heap.size 33 #[.int .i64 0, .int .u32 0, .int .i64 0, .slice none 0 0, .int .i64 0, .int .i64 0, .int .i64 0, .int .i64 0, .int .i64 0, .int .i64 0, .int .u32 0, .int .i64 0, .int .i64 0, .int .i64 0, .int .i64 0, .int .i64 0, .int .i64 0] (0, 0) ⟨d, rfl⟩ rfl (heap_last _ _ rfl) HD.out HJ.out) rfl ⟨(Nw.refl w).alloc _, rfl⟩
theorem decQ_other (w : World) (A : Option Addr) (n c : Nat) (x : UInt8) (bs : List UInt8) (hb : BytesAt w A (x :: bs)) (hn : bs.length + 1 = n) (hx : x.toNat < 1 ∨ 12 < x.toNat) : Calls Try.prog 9 #[.slice A n c] w fun e w' => Nw w w' ∧ e = .returned (.tuple #[.agg #[.int .i64 0, .int .u32 0, .int .i64 0, .slice none 0 0, .int .i64 0, .int .i64 0, .int .i64 0, .int .i64 0, .int .i64 0, .int .i64 0, .int .u32 0, .int .i64 0, .int .i64 0, .int .i64 0, .int .i64 0, .int .i64 0, .int .i64 0], .int .i64 12]) := by
  obtain ⟨b, off, rfl, hblt, c0⟩ := hb.get (k := 0) (by simp)
  simp only [List.getElem_cons_zero, Nat.add_zero] at c0
  obtain ⟨k, hk⟩ : ∃ k, x.toNat = k := ⟨_, rfl⟩
  have hk256 := x.toNat_lt
  rw [hk] at c0 hx hk256
  obtain ⟨w1, hw1⟩ : ∃ w1, (w.alloc (.cells #[.int .i64 0, .int .u32 0, .int .i64 0, .slice none 0 0, .int .i64 0, .int .i64 0, .int .i64 0, .int .i64 0, .int .i64 0, .int .i64 0, .int .u32 0, .int .i64 0, .int .i64 0, .int .i64 0, .int .i64 0, .int .i64 0, .int .i64 0] 33)).alloc (.cells #[.int .i64 (k : Int), .int .u32 0, .int .i64 0, .slice none 0 0, .int .i64 0, .int .i64 0, .int .i64 0, .int .i64 0, .int .i64 0, .int .i64 0, .int .u32 0, .int .i64 0, .int .i64 0, .int .i64 0, .int .i64 0, .int .i64 0, .int .i64 0] 33) = w1 := ⟨_, rfl⟩
  have hR : Blk w1 w.heap.size 33 #[.int .i64 0, .int .u32 0, .int .i64 0, .slice none 0 0, .int .i64 0, .int .i64 0, .int .i64 0, .int .i64 0, .int .i64 0, .int .i64 0, .int .u32 0, .int .i64 0, .int .i64 0, .int .i64 0, .int .i64 0, .int .i64 0, .int .i64 0] := by rw [← hw1]; exact (Blk.last w _ _ rfl).alloc _
  have hM : Blk w1 (w.heap.size + 1) 33 #[.int .i64 (k : Int), .int .u32 0, .int .i64 0, .slice none 0 0, .int .i64 0, .int .i64 0, .int .i64 0, .int .i64 0, .int .i64 0, .int .i64 0, .int .u32 0, .int .i64 0, .int .i64 0, .int .i64 0, .int .i64 0, .int .i64 0, .int .i64 0] := by rw [← hw1]; exact Blk.last _ _ _ (by simp)
  have n1 : Nw w w1 := by rw [← hw1]; exact ((Nw.refl w).alloc _).alloc _
  have s1 : w1.heap.size = w.heap.size + 2 := by rw [← hw1]; simp
  have k0 : w1.cell? ⟨w.heap.size + 1, 0, none⟩ = some (.int .i64 (k : Int)) := (hM.cell 0).trans rfl
  have g0 : ((n : Int) == 0) = false := by simp; omega
  have g3 : (0 : Int) < (n : Int) := by omega
  have gw : IntKind.i64.wrap (k : Int) = (k : Int) := by rw [IntKind.wrap_i64]; omega
  have gw' : wrap64 (k : Int) = (k : Int) := by unfold wrap64; omega
  have HW1 := Lib.hid hw1
  have HR := Lib.hid hR
  have N1 := Lib.hid n1
  have S1 := Lib.hid s1
  have HX := Lib.hid hx
  have KA := Lib.hid (fun (W : World) (hs : W.heap.size = w.heap.size + 2) => by have := asks_any W; rw [hs] at this; exact this)
  have HZ : ∀ W, (zeroValue 69).run Try.prog W = .ok (.slice none 0 0) W := fun W => by kernel_rfl
  have HZZ := Lib.hid HZ
  clear hb hn hx hw1 hR hM n1 s1 hk hk256 HZ
  go_enter Try.func9, Try.ntmps9
  go_upto_region 4 with (fail)
  rw [HW1.out]
  clear c0 hblt g0 g3 gw gw'
  go_cut [5, 6] from 16 to 23 (fun s5 s6 wx => s5 = .slice none 0 0 ∧ s6 = .bool false ∧ Hid (Nw w1 wx))
  case first =>
   as_aux_lemma =>
    go_region_with (go_at_call 29; refine (KA.out w1.drew S1.out).mono ?_; rintro e w4 ⟨rfl, h4, b4⟩; have i4 : Nw w1 w4 := Nw.step (show Nw w1 w1.drew from (Nw.refl w1).drew) (by have hs : w1.drew.heap.size = w.heap.size + 2 := S1.out; rw [hs]; exact b4); have kk := i4.cell k0; have lk := look_none Try.underlying71 Try.underlying24 h4.tab (k : Int) HZZ.out (asks_miss _ k HX.out); have I4 := Lib.hid i4; clear h4 i4 b4)
    all_goals
      go_wp2_with fail
      go_meet
      exact ⟨rfl, rfl, Lib.hid I4.out⟩
  case rest =>
    obtain ⟨rfl, rfl, HC⟩ := hcut
    obtain ⟨d, hd⟩ := stRq
    have HD := Lib.hid hd
    have HJ := Lib.hid (show (Try.prog.info? 33).map (·.size) = some (#[.int .i64 0, .int .u32 0, .int .i64 0, .slice none 0 0, .int .i64 0, .int .i64 0, .int .i64 0, .int .i64 0, .int .i64 0, .int .i64 0, .int .u32 0, .int .i64 0, .int .i64 0, .int .i64 0, .int .i64 0, .int .i64 0, .int .i64 0] : Array Value).size by kernel_rfl)
    have H2 := Lib.hid (show (#[.int .i64 0, .int .u32 0, .int .i64 0, .slice none 0 0, .int .i64 0, .int .i64 0, .int .i64 0, .int .i64 0, .int .i64 0, .int .i64 0, .int .u32 0, .int .i64 0, .int .i64 0, .int .i64 0, .int .i64 0, .int .i64 0, .int .i64 0] : Array Value).all (·.oneCell') = true by simp [Value.oneCell'])
    have HRC := Lib.hid (show Blk wc w.heap.size 33 #[.int .i64 0, .int .u32 0, .int .i64 0, .slice none 0 0, .int .i64 0, .int .i64 0, .int .i64 0, .int .i64 0, .int .i64 0, .int .i64 0, .int .u32 0, .int .i64 0, .int .i64 0, .int .i64 0, .int .i64 0, .int .i64 0, .int .i64 0] from HR.out.below HC.out HR.out.lt)
    have HNC := Lib.hid (show Nw w wc from N1.out.trans (HC.out.mono N1.out.size))
    have HRZ := Lib.hid (setRow_heap wc w.heap.size _ #[.int .i64 0, .int .u32 0, .int .i64 0, .slice none 0 0, .int .i64 0, .int .i64 0, .int .i64 0, .int .i64 0, .int .i64 0, .int .i64 0, .int .u32 0, .int .i64 0, .int .i64 0, .int .i64 0, .int .i64 0, .int .i64 0, .int .i64 0] 33 _ HRC.out)
    clear hd k0
    go_wp2_with (refine wpList_store_row rfl 33 _ _ rfl w.heap.size #[.int .i64 0, .int .u32 0, .int .i64 0, .slice none 0 0, .int .i64 0, .int .i64 0, .int .i64 0, .int .i64 0, .int .i64 0, .int .i64 0, .int .u32 0, .int .i64 0, .int .i64 0, .int .i64 0, .int .i64 0, .int .i64 0, .int .i64 0] rfl rfl 33 _ HRC.out HJ.out rfl H2.out ?_)
    exact bodyPost_ret (results_rowB rfl _ _ w.heap.size 33 #[.int .i64 0, .int .u32 0, .int .i64 0, .slice none 0 0, .int .i64 0, .int .i64 0, .int .i64 0, .int .i64 0, .int .i64 0, .int .i64 0, .int .u32 0, .int .i64 0, .int .i64 0, .int .i64 0, .int .i64 0, .int .i64 0, .int .i64 0] (0, 0) ⟨d, rfl⟩ rfl HRZ.out HD.out HJ.out) rfl ⟨below_setRow HNC.out (Nat.le_refl _) _, rfl⟩
theorem tells_miss (S k : Nat) (hk : k < 1 ∨ 5 < k) : Instr.findNow (.int .i64) (.int .i64 (k : Int)) (tellsES S).toArray.toList 0 = some none := by
  have e : ∀ j : Nat, 1 ≤ j → j ≤ 5 → ((k : Int) == (j : Int)) = false := fun j h1 h2 => by simp; omega
  have e1 : ((k : Int) == 1) = false := e 1 (by omega) (by omega)
  have e2 : ((k : Int) == 2) = false := e 2 (by omega) (by omega)
  have e3 : ((k : Int) == 3) = false := e 3 (by omega) (by omega)
  have e4 : ((k : Int) == 4) = false := e 4 (by omega) (by omega)
  have e5 : ((k : Int) == 5) = false := e 5 (by omega) (by omega)
  simp [tellsES, Instr.findNow, Instr.sameNow, e1, e2, e3, e4, e5]
theorem decS_none (w : World) (A : Option Addr) (c : Nat) : Calls Try.prog 10 #[.slice A 0 c] w fun e w' => Nw w w' ∧ e = .returned (.tuple #[.agg #[.int .i64 0, .int .u32 0, .int .i64 0, .int .i64 0, .slice none 0 0, .int .i64 0, .int .i64 0, .int .i64 0, .int .i64 0, .int .i64 0, .int .i64 0, .int .u32 0, .int .i64 0, .int .i64 0, .int .i64 0, .int .i64 0, .int .i64 0, .int .i64 0], .int .i64 12]) := by
  obtain ⟨d, hd⟩ := stRs
  have HD := Lib.hid hd
  have HJ := Lib.hid (show (Try.prog.info? 42).map (·.size) = some (#[.int .i64 0, .int .u32 0, .int .i64 0, .int .i64 0, .slice none 0 0, .int .i64 0, .int .i64 0, .int .i64 0, .int .i64 0, .int .i64 0, .int .i64 0, .int .u32 0, .int .i64 0, .int .i64 0, .int .i64 0, .int .i64 0, .int .i64 0, .int .i64 0] : Array Value).size by kernel_rfl)
  have H2 := Lib.hid (show (#[.int .i64 0, .int .u32 0, .int .i64 0, .int .i64 0, .slice none 0 0, .int .i64 0, .int .i64 0, .int .i64 0, .int .i64 0, .int .i64 0, .int .i64 0, .int .u32 0, .int .i64 0, .int .i64 0, .int .i64 0, .int .i64 0, .int .i64 0, .int .i64 0] : Array Value).all (·.oneCell') = true by simp [Value.oneCell'])
  clear hd
  go_enter Try.func10, Try.ntmps10
  go_wp2_with (refine wpList_store_row rfl 42 _ _ rfl w.heap.size #[.int .i64 0, .int .u32 0, .int .i64 0, .int .i64 0, .slice none 0 0, .int .i64 0, .int .i64 0, .int .i64 0, .int .i64 0, .int .i64 0, .int .i64 0, .int .u32 0, .int .i64 0, .int .i64 0, .int .i64 0, .int .i64 0, .int .i64 0, .int .i64 0] rfl rfl 42 _ (heap_last _ _ rfl) HJ.out rfl H2.out ?_; rw [World.setRow_alloc_new])
  exact bodyPost_ret (results_rowB rfl _ _ w.heap.size 42 #[.int .i64 0, .int .u32 0, .int .i64 0, .int .i64 0, .slice none 0 0, .int .i64 0, .int .i64 0, .int .i64 0, .int .i64 0, .int .i64 0, .int .i64 0, .int .u32 0, .int .i64 0, .int .i64 0, .int .i64 0, .int .i64 0, .int .i64 0, .int .i64 0] (0, 0) ⟨d, rfl⟩ rfl (heap_last _ _ rfl) HD.out HJ.out) rfl ⟨(Nw.refl w).alloc _, rfl⟩
theorem decS_other (w : World) (A : Option Addr) (n c : Nat) (x : UInt8) (bs : List UInt8) (hb : BytesAt w A (x :: bs)) (hn : bs.length + 1 = n) (hx : x.toNat < 1 ∨ 5 < x.toNat) : Calls Try.prog 10 #[.slice A n c] w fun e w' => Nw w w' ∧ e = .returned (.tuple #[.agg #[.int .i64 0, .int .u32 0, .int .i64 0, .int .i64 0, .slice none 0 0, .int .i64 0, .int .i64 0, .int .i64 0, .int .i64 0, .int .i64 0, .int .i64 0, .int .u32 0, .int .i64 0, .int .i64 0, .int .i64 0, .int .i64 0, .int .i64 0, .int .i64 0], .int .i64 12]) := by
  obtain ⟨b, off, rfl, hblt, c0⟩ := hb.get (k := 0) (by simp)
  simp only [List.getElem_cons_zero, Nat.add_zero] at c0
  obtain ⟨k, hk⟩ : ∃ k, x.toNat = k := ⟨_, rfl⟩
  have hk256 := x.toNat_lt
  rw [hk] at c0 hx hk256
  obtain ⟨w1, hw1⟩ : ∃ w1, (w.alloc (.cells #[.int .i64 0, .int .u32 0, .int .i64 0, .int .i64 0, .slice none 0 0, .int .i64 0, .int .i64 0, .int .i64 0, .int .i64 0, .int .i64 0, .int .i64 0, .int .u32 0, .int .i64 0, .int .i64 0, .int .i64 0, .int .i64 0, .int .i64 0, .int .i64 0] 42)).alloc (.cells #[.int .i64 (k : Int), .int .u32 0, .int .i64 0, .int .i64 0, .slice none 0 0, .int .i64 0, .int .i64 0, .int .i64 0, .int .i64 0, .int .i64 0, .int .i64 0, .int .u32 0, .int .i64 0, .int .i64 0, .int .i64 0, .int .i64 0, .int .i64 0, .int .i64 0] 42) = w1 := ⟨_, rfl⟩
  have hR : Blk w1 w.heap.size 42 #[.int .i64 0, .int .u32 0, .int .i64 0, .int .i64 0, .slice none 0 0, .int .i64 0, .int .i64 0, .int .i64 0, .int .i64 0, .int .i64 0, .int .i64 0, .int .u32 0, .int .i64 0, .int .i64 0, .int .i64 0, .int .i64 0, .int .i64 0, .int .i64 0] := by rw [← hw1]; exact (Blk.last w _ _ rfl).alloc _
  have hM : Blk w1 (w.heap.size + 1) 42 #[.int .i64 (k : Int), .int .u32 0, .int .i64 0, .int .i64 0, .slice none 0 0, .int .i64 0, .int .i64 0, .int .i64 0, .int .i64 0, .int .i64 0, .int .i64 0, .int .u32 0, .int .i64 0, .int .i64 0, .int .i64 0, .int .i64 0, .int .i64 0, .int .i64 0] := by rw [← hw1]; exact Blk.last _ _ _ (by simp)
  have n1 : Nw w w1 := by rw [← hw1]; exact ((Nw.refl w).alloc _).alloc _
  have s1 : w1.heap.size = w.heap.size + 2 := by rw [← hw1]; simp
  have k0 : w1.cell? ⟨w.heap.size + 1, 0, none⟩ = some (.int .i64 (k : Int)) := (hM.cell 0).trans rfl
  have g0 : ((n : Int) == 0) = false := by simp; omega
  have g3 : (0 : Int) < (n : Int) := by omega
  have gw : IntKind.i64.wrap (k : Int) = (k : Int) := by rw [IntKind.wrap_i64]; omega
  have gw' : wrap64 (k : Int) = (k : Int) := by unfold wrap64; omega
  have HW1 := Lib.hid hw1
  have HR := Lib.hid hR
  have N1 := Lib.hid n1
  have S1 := Lib.hid s1
  have HX := Lib.hid hx
  have KA := Lib.hid (fun (W : World) (hs : W.heap.size = w.heap.size + 2) => by have := tells_any W; rw [hs] at this; exact this)
  have HZ : ∀ W, (zeroValue 78).run Try.prog W = .ok (.slice none 0 0) W := fun W => by kernel_rfl
  have HZZ := Lib.hid HZ
  clear hb hn hx hw1 hR hM n1 s1 hk hk256 HZ
  go_enter Try.func10, Try.ntmps10
  go_upto_region 4 with (fail)
  rw [HW1.out]
  clear c0 hblt g0 g3 gw gw'
  go_cut [5, 6] from 16 to 23 (fun s5 s6 wx => s5 = .slice none 0 0 ∧ s6 = .bool false ∧ Hid (Nw w1 wx))
  case first =>
   as_aux_lemma =>
    go_region_with (go_at_call 31; refine (KA.out w1.drew S1.out).mono ?_; rintro e w4 ⟨rfl, h4, b4⟩; have i4 : Nw w1 w4 := Nw.step (show Nw w1 w1.drew from (Nw.refl w1).drew) (by have hs : w1.drew.heap.size = w.heap.size + 2 := S1.out; rw [hs]; exact b4); have kk := i4.cell k0; have lk := look_none Try.underlying80 Try.underlying37 h4.tab (k : Int) HZZ.out (tells_miss _ k HX.out); have I4 := Lib.hid i4; clear h4 i4 b4)
    all_goals
      go_wp2_with fail
      go_meet
      exact ⟨rfl, rfl, Lib.hid I4.out⟩
  case rest =>
    obtain ⟨rfl, rfl, HC⟩ := hcut
    obtain ⟨d, hd⟩ := stRs
    have HD := Lib.hid hd
    have HJ := Lib.hid (show (Try.prog.info? 42).map (·.size) = some (#[.int .i64 0, .int .u32 0, .int .i64 0, .int .i64 0, .slice none 0 0, .int .i64 0, .int .i64 0, .int .i64 0, .int .i64 0, .int .i64 0, .int .i64 0, .int .u32 0, .int .i64 0, .int .i64 0, .int .i64 0, .int .i64 0, .int .i64 0, .int .i64 0] : Array Value).size by kernel_rfl)
    have H2 := Lib.hid (show (#[.int .i64 0, .int .u32 0, .int .i64 0, .int .i64 0, .slice none 0 0, .int .i64 0, .int .i64 0, .int .i64 0, .int .i64 0, .int .i64 0, .int .i64 0, .int .u32 0, .int .i64 0, .int .i64 0, .int .i64 0, .int .i64 0, .int .i64 0, .int .i64 0] : Array Value).all (·.oneCell') = true by simp [Value.oneCell'])
    have HRC := Lib.hid (show Blk wc w.heap.size 42 #[.int .i64 0, .int .u32 0, .int .i64 0, .int .i64 0, .slice none 0 0, .int .i64 0, .int .i64 0, .int .i64 0, .int .i64 0, .int .i64 0, .int .i64 0, .int .u32 0, .int .i64 0, .int .i64 0, .int .i64 0, .int .i64 0, .int .i64 0, .int .i64 0] from HR.out.below HC.out HR.out.lt)
    have HNC := Lib.hid (show Nw w wc from N1.out.trans (HC.out.mono N1.out.size))
    have HRZ := Lib.hid (setRow_heap wc w.heap.size _ #[.int .i64 0, .int .u32 0, .int .i64 0, .int .i64 0, .slice none 0 0, .int .i64 0, .int .i64 0, .int .i64 0, .int .i64 0, .int .i64 0, .int .i64 0, .int .u32 0, .int .i64 0, .int .i64 0, .int .i64 0, .int .i64 0, .int .i64 0, .int .i64 0] 42 _ HRC.out)
    clear hd k0
    go_wp2_with (refine wpList_store_row rfl 42 _ _ rfl w.heap.size #[.int .i64 0, .int .u32 0, .int .i64 0, .int .i64 0, .slice none 0 0, .int .i64 0, .int .i64 0, .int .i64 0, .int .i64 0, .int .i64 0, .int .i64 0, .int .u32 0, .int .i64 0, .int .i64 0, .int .i64 0, .int .i64 0, .int .i64 0, .int .i64 0] rfl rfl 42 _ HRC.out HJ.out rfl H2.out ?_)
    exact bodyPost_ret (results_rowB rfl _ _ w.heap.size 42 #[.int .i64 0, .int .u32 0, .int .i64 0, .int .i64 0, .slice none 0 0, .int .i64 0, .int .i64 0, .int .i64 0, .int .i64 0, .int .i64 0, .int .i64 0, .int .u32 0, .int .i64 0, .int .i64 0, .int .i64 0, .int .i64 0, .int .i64 0, .int .i64 0] (0, 0) ⟨d, rfl⟩ rfl HRZ.out HD.out HJ.out) rfl ⟨below_setRow HNC.out (Nat.le_refl _) _, rfl⟩
end Go.Proofs.Ytnbcjjgilndlaaa
