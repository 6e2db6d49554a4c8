/- lay: an item at a place, and its name. Helper. -/
import Derived.Test.YtghmldfllieonaaHeapCmp
namespace Go.Proofs.Ytghmldfllieonaa
open Go.RowKit
set_option linter.unusedVariables false
set_option linter.unusedSimpArgs false
theorem Chg.setCells2 {M : Nat → Prop} {w w' : World} {b : Nat} (hb : M b ∨ w.heap.size ≤ b) (vs : List Value) (o : Nat) (h : Chg M w w') : Chg M w (w'.setCells b o vs) := Chg.setCells hb vs o w' h
section
variable (w : World) (gB S b off c : Nat) (l : List It) (f : Int → Int → Option Nat) (m i : Nat) (blk : Option Nat) (e : It)
set_option maxRecDepth 100000
set_option maxHeartbeats 1600000
theorem lay_any (h : HM w gB S (.slice (some ⟨b, off, none⟩) l.length c) l f m blk) (hi : i < l.length) (hl : l.length ≤ 100000) (hm : m ≤ 100000) (hO : W64 e.k.O) (hn : W64 e.n) :
    Calls Try.prog 26 #[.pointer (some ⟨gB, 0, none⟩), .int .i64 (i : Int), .agg e.c.toArray] w fun r w' => r = .returned (.tuple #[]) ∧
      HM w' gB S (.slice (some ⟨b, off, none⟩) l.length c) (l.set i e) (updF f e.k.O e.n i) (if (f e.k.O e.n).isSome = true then m else m + 1) blk ∧ Chg (HTurn gB S blk) w w' := by
  obtain ⟨a1, a2, a3⟩ := h.apart
  obtain ⟨hbk, how, hmp⟩ := h
  have hsl := hmp.lt
  obtain ⟨n, hn'⟩ : ∃ n, l.length = n := ⟨_, rfl⟩
  rw [hn'] at how hi hl hbk
  have kOf := fun W => of_any e W
  -- the cell's facts
  have hcell := fun j hj => (how.item hi j hj).2
  have hcel2 := fun j hj => (how.item hi j hj).1
  obtain ⟨hblk, how2⟩ := Own.setItem how hi e
  have hbl := how.lt b hblk
  have hput : ∀ W : World, W.heap[S]? = w.heap[S]? → ∃ w', (Instr.mapUpdate 55 (.map (some S)) (.agg #[.int .i64 e.k.O, .int .i64 e.n]) (.int .i64 (i : Int))).run Try.prog W = .ok () w' ∧ MapIs w' S (updF f e.k.O e.n i) (if (f e.k.O e.n).isSome = true then m else m + 1) ∧ Chg (fun k => k = S) W w' :=
    fun W hW => (hmp.same hW).put hO hn (by omega) (by omega)
  have hgb : b ≠ gB := fun e => a2 (by rw [hblk, e])
  have hsb : b ≠ S := fun e => a3 (by rw [hblk, e])
  obtain ⟨⟨e1, e2, e3⟩, e4, e5, e6, e7⟩ := e
  dsimp only [It.c] at kOf how2 hput ⊢
  have c0 : w.cell? ⟨gB, 0, none⟩ = some (.slice (some ⟨b, off, none⟩) n c) := (hbk.cell 0).trans rfl
  have c1 : w.cell? ⟨gB, 1, none⟩ = some (.map (some S)) := (hbk.cell 1).trans rfl
  have hlt := hbk.lt
  have x0 : w.cell? ⟨b, off + i * 7, none⟩ = some _ := hcel2 0 (by omega)
  have x1 : w.cell? ⟨b, off + i * 7 + 1, none⟩ = some _ := hcel2 1 (by omega)
  have x2 : w.cell? ⟨b, off + i * 7 + 2, none⟩ = some _ := hcel2 2 (by omega)
  have x3 : w.cell? ⟨b, off + i * 7 + 3, none⟩ = some _ := hcel2 3 (by omega)
  have x4 : w.cell? ⟨b, off + i * 7 + 4, none⟩ = some _ := hcel2 4 (by omega)
  have x5 : w.cell? ⟨b, off + i * 7 + 5, none⟩ = some _ := hcel2 5 (by omega)
  have x6 : w.cell? ⟨b, off + i * 7 + 6, none⟩ = some _ := hcel2 6 (by omega)
  have y0 : w.frozen? ⟨b, off + i * 7, none⟩ = false := hcell 0 (by omega)
  have y1 : w.frozen? ⟨b, off + i * 7 + 1, none⟩ = false := hcell 1 (by omega)
  have y2 : w.frozen? ⟨b, off + i * 7 + 2, none⟩ = false := hcell 2 (by omega)
  have y3 : w.frozen? ⟨b, off + i * 7 + 3, none⟩ = false := hcell 3 (by omega)
  have y4 : w.frozen? ⟨b, off + i * 7 + 4, none⟩ = false := hcell 4 (by omega)
  have y5 : w.frozen? ⟨b, off + i * 7 + 5, none⟩ = false := hcell 5 (by omega)
  have y6 : w.frozen? ⟨b, off + i * 7 + 6, none⟩ = false := hcell 6 (by omega)
  have K1 := Lib.hid kOf
  have HP := Lib.hid hput
  have HO := Lib.hid how2
  have HB := Lib.hid hbk
  have HL := Lib.hid hn'
  have HA := Lib.hid (show b ≠ gB ∧ b ≠ S ∧ S ≠ gB ∧ S < w.heap.size ∧ blk = some b from ⟨hgb, hsb, a1, hsl, hblk⟩)
  have i1 : (i : Int) < (n : Int) := by omega
  clear kOf hput how2 hbk hn' hgb hsb a1 a2 a3 hmp how hcell hcel2 hi hO hn hsl hblk
  go_enter Try.func26, Try.ntmps26
  go_upto_region 2 with (fail)
  go_cut [6, 7, 8, 9, 10, 11, 12] (fun s6 s7 s8 s9 s10 s11 s12 wx => wx = ((w.setCells b (off + i * 7) [.int .i64 e1, .int .i64 e2, .int .i64 e3, .int .i64 e4, .int .i64 e5, .int .i64 e6, .int .i64 e7]).alloc (.cells #[.int .i64 e1, .int .i64 e2, .int .i64 e3, .int .i64 e4, .int .i64 e5, .int .i64 e6, .int .i64 e7] 36)).drew)
  case first =>
    go_region
    all_goals
      go_wp2_with fail
      go_meet
      rfl
  case rest =>
    obtain ⟨W1, hW1⟩ : ∃ W1, w.setCells b (off + i * 7) [.int .i64 e1, .int .i64 e2, .int .i64 e3, .int .i64 e4, .int .i64 e5, .int .i64 e6, .int .i64 e7] = W1 := ⟨_, rfl⟩
    have hz : W1.heap.size = w.heap.size := by rw [← hW1]; simp [World.setCells, World.setCell]
    have hf : ∀ k, k ≠ b → W1.heap[k]? = w.heap[k]? := fun k h1 => by rw [← hW1]; exact heap_setCells b _ _ _ k h1
    have hc1 : Chg (HTurn gB S blk) w W1 := by rw [← hW1]; exact Chg.setCells2 (.inl (.inr (.inr HA.out.2.2.2.2.symm))) _ _ (Chg.refl _ w)
    have ho1 : Own W1 36 7 (.slice (some ⟨b, off, none⟩) n c) n (rowsI (l.set i ⟨⟨e1, e2, e3⟩, e4, e5, e6, e7⟩)) blk := by rw [← hW1]; exact HO.out
    rw [hW1] at hcut
    clear hW1
    have hs : ∀ k, k ≠ b → k < w.heap.size → wc.heap[k]? = w.heap[k]? := fun k h1 h2 => by rw [hcut]; exact (Below.heap_alloc W1 _ _ (by rw [hz]; exact h2)).trans (hf k h1)
    have hch : Chg (HTurn gB S blk) w wc := by rw [hcut]; exact (hc1.alloc _).drew
    have how : Own wc 36 7 (.slice (some ⟨b, off, none⟩) n c) n (rowsI (l.set i ⟨⟨e1, e2, e3⟩, e4, e5, e6, e7⟩)) blk := by rw [hcut]; exact ho1.kept fun g hg => Below.heap_alloc W1 _ _ (ho1.lt g hg)
    have hsz : wc.heap.size = w.heap.size + 1 := by rw [hcut]; simp [hz]
    have hbox : Blk wc w.heap.size 36 #[.int .i64 e1, .int .i64 e2, .int .i64 e3, .int .i64 e4, .int .i64 e5, .int .i64 e6, .int .i64 e7] := by
      rw [hcut]; exact (Blk.last W1 _ _ hz).drew
    have hbk : Blk wc gB 57 #[.slice (some ⟨b, off, none⟩) n c, .map (some S)] := (hs gB (fun e => HA.out.1 e.symm) hlt).trans HB.out
    have hS : wc.heap[S]? = w.heap[S]? := hs S (fun e => HA.out.2.1 e.symm) HA.out.2.2.2.1
    clear hcut hz hs hf hc1 ho1
    have d1 : wc.cell? ⟨gB, 1, none⟩ = some (.map (some S)) := (hbk.cell 1).trans rfl
    have z0 : wc.cell? ⟨w.heap.size, 0, none⟩ = some (.int .i64 e1) := (hbox.cell 0).trans rfl
    have z1 : wc.cell? ⟨w.heap.size, 1, none⟩ = some (.int .i64 e2) := (hbox.cell 1).trans rfl
    have z2 : wc.cell? ⟨w.heap.size, 2, none⟩ = some (.int .i64 e3) := (hbox.cell 2).trans rfl
    have z3 : wc.cell? ⟨w.heap.size, 3, none⟩ = some (.int .i64 e4) := (hbox.cell 3).trans rfl
    have z4 : wc.cell? ⟨w.heap.size, 4, none⟩ = some (.int .i64 e5) := (hbox.cell 4).trans rfl
    have z5 : wc.cell? ⟨w.heap.size, 5, none⟩ = some (.int .i64 e6) := (hbox.cell 5).trans rfl
    have z6 : wc.cell? ⟨w.heap.size, 6, none⟩ = some (.int .i64 e7) := (hbox.cell 6).trans rfl
    obtain ⟨gX, hgX⟩ : ∃ gX, w.heap.size = gX := ⟨_, rfl⟩
    have HX := Lib.hid hgX
    rw [hgX] at z0 z1 z2 z3 z4 z5 z6 hbox ⊢
    have HC := Lib.hid hch
    have HW := Lib.hid how
    have HZ := Lib.hid hsz
    have HB2 := Lib.hid hbk
    have HBX := Lib.hid hbox
    have HS := Lib.hid hS
    clear hch how hsz hbk hbox hS c0 c1 x0 x1 x2 x3 x4 x5 x6 y0 y1 y2 y3 y4 y5 y6 hgX HO HB hbl hlt i1
    go_wp2_with fail
    go_region_with (first
      | (go_at_call 40; refine (K1.out _).mono ?_; rintro r w1 ⟨rfl, b1⟩; have E1 := ((HB2.out.drew.below b1 HB2.out.lt).cell 1).trans rfl; obtain ⟨w2, r2, h2, g2⟩ := HP.out w1 ((b1.block S (by simp [HZ.out]; have := HA.out; omega)).trans HS.out))
      )
    all_goals
      have G2 := Lib.hid g2
      clear g2
      refine bodyPost_end (results_none rfl _ _ _) rfl ?_
      refine ⟨rfl, ⟨?_, ?_, h2⟩, ?_⟩
      · rw [HL.out]
        exact (HB2.out.drew.below b1 HB2.out.lt).chg G2.out (fun h => HA.out.2.2.1 h.symm)
      · rw [List.length_set, HL.out]
        exact (HW.out.kept fun g hg => b1.block g (HW.out.lt g hg)).chg G2.out (fun g hg h => HA.out.2.1 (by rw [h, HA.out.2.2.2.2] at hg; injection hg))
      · exact HC.out.drew.trans ((Chg.of_below b1 (Nat.le_refl _) (HTurn gB S blk)).trans G2.out (fun j _ h => .inr (.inl h))) (fun _ _ h => h)
end
end Go.Proofs.Ytghmldfllieonaa
