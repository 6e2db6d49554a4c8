/- Outbox: the document's Put puts a text. Helper of OutboxPlays. -/
import Derived.Test.YtmjikfhabfodkaaRefA
namespace Go.Proofs.Ytmjikfhabfodkaa
open Go.RowKit
set_option linter.unusedVariables false
set_option linter.unusedSimpArgs false
theorem rinfo5 : (Try.prog.info? 5).map (fun i => (i.zero, i.size, i.bytes)) = some (some (.int .u8 0), 1, 1) := by kernel_rfl
theorem rinfo3 : (Try.prog.info? 3).map (fun i => (i.zero, i.size, i.bytes)) = some (some (.int .i64 0), 1, 8) := by kernel_rfl
theorem icells_one (l : List Nat) : ∀ u ∈ icells l, u.oneCell' = true := by
  intro u hu
  unfold icells at hu
  obtain ⟨x, _, rfl⟩ := List.mem_map.1 hu
  rfl
theorem Own.emp (w : World) (e : TypeId) : Own w e 1 (.slice none 0 0) 0 [] none := Own.nil w e 1
theorem none_no {α : Type} {k : α} (h : some k = (none : Option α)) : False := by cases h
theorem new_blk {b' b : Option Nat} {n m : Nat} (h : b' = b ∨ b' = some n) (hb : ∀ g, b = some g → m ≤ g) (hn : m ≤ n) : ∀ g, b' = some g → m ≤ g := by
  intro g hg
  rcases h with h | h
  · exact hb g (by rw [← h]; exact hg)
  · rw [h] at hg; injection hg with hg; omega
theorem RB.of_put {w6 : World} {Hm : Nat → Prop} {R : Nat} {bs l : List UInt8} {ends : List Nat} {S sent M : Nat} {A4 A6 : Option Addr} {c4 c6 : Nat} {b4 b6 : Option Nat} {v1 v2 : Value} (hS : bs.length + l.length = S)
    (hb : Blk w6 R 51 (#[v1, v2, Value.int .i64 (sent : Int), Value.int .i64 (M : Int)].setIfInBounds 0 (.slice A4 S c4))) (ho : Own w6 5 1 (.slice A4 S c4) S (bcells bs ++ bcells l) b4)
    (ho2 : Own w6 3 1 (.slice A6 (ends.length + 1) c6) (ends.length + 1) (icells ends ++ [.int .i64 S]) b6) (h4 : Hm R) (h5 : ∀ g, b4 = some g → Hm g) (h6 : ∀ g, b6 = some g → Hm g) :
    RB (w6.setCell ⟨R, 1, none⟩ (.slice A6 (ends.length + 1) c6)) Hm R (bs ++ l) (ends ++ [S]) sent M := by
  refine ⟨.slice A4 S c4, .slice A6 (ends.length + 1) c6, b4, b6, by simpa using hb.set_ 1 (.slice A6 (ends.length + 1) c6), ?_, ?_, h4, h5, h6⟩
  · have := ho.kept (w' := w6.setCell ⟨R, 1, none⟩ (.slice A6 (ends.length + 1) c6)) (fun g hg => Below.heap_setCell _ _ _ _ (by obtain ⟨cur, hc⟩ := ho.ty g hg; exact hc.ne_ hb (by decide)))
    rw [show (bs ++ l).length = S by rw [List.length_append]; exact hS, show bcells (bs ++ l) = bcells bs ++ bcells l by simp [bcells]]
    exact this
  · have := ho2.kept (w' := w6.setCell ⟨R, 1, none⟩ (.slice A6 (ends.length + 1) c6)) (fun g hg => Below.heap_setCell _ _ _ _ (by obtain ⟨cur, hc⟩ := ho2.ty g hg; exact hc.ne_ hb (by decide)))
    rw [show (ends ++ [S]).length = ends.length + 1 by simp, show icells (ends ++ [S]) = icells ends ++ [.int .i64 S] by simp [icells]]
    exact this
set_option maxHeartbeats 3200000 in
theorem refPut_ok (Hm : Nat → Prop) (R : Nat) (bs : List UInt8) (ends : List Nat) (sent M : Nat) (a : Option Addr) (l : List UInt8) (c : Nat) (w : World) (h : RB w Hm R bs ends sent M) (ha : BytesAt w a l) (h0 : l ≠ [])
    (hbl : bs.length ≤ 4294967295) (hll : l.length ≤ 4294967295) (hl : ends.length ≤ 4294967295) (hf : lenE ends sent < M) :
    Calls Try.prog 22 #[.pointer (some ⟨R, 0, none⟩), .slice a l.length c] w fun e w' => e = .returned (.int .i64 0) ∧ RB w' (fun k => Hm k ∨ w.heap.size ≤ k) R (bs ++ l) (ends ++ [bs.length + l.length]) sent M ∧ Chg (MR w Hm) w w' := by
  have hpos : 0 < l.length := List.length_pos_iff.2 h0
  have hne : ((l.length : Int) == 0) = false := by simp; omega
  have k1 := refLen_any Hm R bs ends sent M w.drew h.drew hl
  have K := Lib.hid k1
  have hf' : ¬ (M : Int) ≤ ((lenE ends sent : Nat) : Int) := by omega
  obtain ⟨v1, v2, b1, b2, h1, h2, h3, h4, h5, h6⟩ := h
  have c3 := h1.cell 3
  simp at c3
  obtain ⟨A1, q1, rfl, hr1, hq1, hq1m⟩ := h2.rd
  obtain ⟨A2, q2, rfl, hr2, hq2, hq2m⟩ := h3.rd
  have HH := Lib.hid h1
  have HO1 := Lib.hid h2
  have HO2 := Lib.hid h3
  clear k1 h1 h2 h3 hr1 hr2
  obtain ⟨i0, hi0, hz0, hz1, hz2⟩ := info_parts rinfo5
  have HL1 := Lib.hid hi0
  have HL2 := Lib.hid hz0
  have HL3 := Lib.hid hz1
  have HL4 := Lib.hid hz2
  clear hi0 hz0 hz1 hz2
  obtain ⟨j0, hi0, hz0, hz1, hz2⟩ := info_parts rinfo3
  have HJ1 := Lib.hid hi0
  have HJ2 := Lib.hid hz0
  have HJ3 := Lib.hid hz1
  have HJ4 := Lib.hid hz2
  clear hi0 hz0 hz1 hz2
  go_enter Try.func22, Try.ntmps22
  go_wp2
  go_region_with (go_at_call 24; with_reducible refine K.out.mono ?_; rintro e w1 ⟨rfl, hR1, hB1, hh1⟩; have d3 : w1.cell? ⟨R, 3, none⟩ = some (.int .i64 M) := cellH (w := w) hh1 c3)
  all_goals
    have e1 : w1.heap = w.heap := hh1
    have hb1 : Blk w1 R 51 _ := (show w1.heap[R]? = _ by rw [e1]; exact HH.out)
    have hr1 : Rd w1 A1 (bcells bs) := by
      obtain ⟨x1, x2, hv, hx, _⟩ := (HO1.out.kept (w' := w1) (fun g _ => by rw [e1])).rd
      injection hv with hv
      subst hv
      exact hx
    have ho2 := HO2.out.kept (w' := w1) (fun g _ => by rw [e1])
    have ha1 : BytesAt w1 a l := ha.keep (fun p _ => by simp only [World.cell?, e1])
    have hs1 : w1.heap.size = w.heap.size := by rw [e1]
    have hch1 : Chg (MR w Hm) w w1 := ⟨hB1.os, hB1.tape, hB1.output, by omega, fun i hi _ => by rw [e1]⟩
    have c0 := hb1.cell 0
    simp at c0
    clear hR1 hB1 hh1 K d3 c3 e1
    go_wp2_with (first
      | (at_builtin; refine wpList_append_at _ rfl _ _ _ rfl 5 i0 _ 1 1 Try.underlying27 HL1.out HL2.out HL3.out HL4.out rfl (by omega) (.slice none 0 0) 0 [] none rfl (Own.emp _ _) A1 bs.length q1 (bcells bs) rfl (by simp [bcells]) hr1 (bcells_one bs) (by simp only [maxLen]; omega) (by omega) ?_; intro A3 c3 w2 blk3 hown3 hchg3 hat3; simp only [Nat.zero_add, List.nil_append] at hown3)
      | (at_builtin; refine wpList_append_at _ rfl _ _ _ rfl 5 i0 _ 1 1 Try.underlying27 HL1.out HL2.out HL3.out HL4.out rfl (by omega) _ bs.length (bcells bs) blk3 rfl hown3 a l.length c (bcells l) rfl (by simp [bcells]) (Rd.below ha1 (hchg3.below (B := w1.heap.size) (fun i _ h => (none_no h).elim) (Nat.le_refl _)) (Nat.le_refl _)) (bcells_one l) (by simp only [maxLen]; omega) (by omega) ?_; intro A4 c4 w3 blk4 hown4 hchg4 hat4; have hb2 := hb1.chg hchg3 (fun h => none_no h); have hRn : ¬ (some R = blk3) := fun h => (by obtain ⟨cur, hc⟩ := hown3.ty R h.symm; exact hb2.ne_ hc (by decide) rfl); have hb3 := hb2.chg hchg4 hRn; have d0 : w3.cell? ⟨R, 0, none⟩ = some (.slice A1 bs.length q1) := (hb3.cell 0).trans rfl; have f0 := hb3.frozen 0))
    have hb4 := hb3.set_ 0 (.slice A4 (bs.length + l.length) c4)
    obtain ⟨W, hW⟩ : ∃ W, w3.setCell ⟨R, 0, none⟩ (.slice A4 (bs.length + l.length) c4) = W := ⟨_, rfl⟩
    rw [hW] at hb4 ⊢
    have s2 := hchg3.size
    have s3 := hchg4.size
    have hnew3 : ∀ g, blk3 = some g → w.heap.size ≤ g := fun g hg => by
      rcases hat3 with h | h
      · rw [h] at hg; cases hg
      · rw [h] at hg; injection hg with hg; omega
    have hnew4 : ∀ g, blk4 = some g → w.heap.size ≤ g := fun g hg => by
      rcases hat4 with h | h
      · exact hnew3 g (by rw [← h]; exact hg)
      · rw [h] at hg; injection hg with hg; omega
    have hchW : Chg (MR w Hm) w W := by
      rw [← hW]
      refine Chg.setCell (p := ⟨R, 0, none⟩) ((hch1.trans hchg3 (fun i _ h => (none_no h).elim)).trans hchg4 (fun i hi h => ?_)) (.inl ⟨h4, _, _, HH.out⟩) _
      have := hnew3 i h.symm
      omega
    have ho4 : Own W 5 1 (.slice A4 (bs.length + l.length) c4) (bs.length + l.length) (bcells bs ++ bcells l) blk4 := by
      rw [← hW]
      refine hown4.kept fun g hg => Below.heap_setCell _ _ _ _ ?_
      obtain ⟨cur, hc⟩ := hown4.ty g hg
      exact hc.ne_ hb3 (by decide)
    have hsW : w3.heap.size = W.heap.size := by rw [← hW]; simp [World.setCell]
    have hoE : Own W 3 1 (.slice A2 ends.length q2) ends.length (icells ends) b2 := by
      rw [← hW]
      refine ho2.kept fun g hg => ?_
      obtain ⟨cur, hc⟩ := ho2.ty g hg
      have hlt := hc.lt
      rw [Below.heap_setCell _ _ _ _ (hc.ne_ hb1 (by decide)), hchg4.block g (by omega) (fun h => by have := hnew3 g h.symm; omega), hchg3.block g hlt (fun h => none_no h)]
    have hrE : Rd W A2 (icells ends) := by
      obtain ⟨x1, x2, hv, hx, _⟩ := hoE.rd
      injection hv with hv
      subst hv
      exact hx
    have d0W : W.cell? ⟨R, 0, none⟩ = some (.slice A4 (bs.length + l.length) c4) := (hb4.cell 0).trans (by simp)
    have d1W : W.cell? ⟨R, 1, none⟩ = some (.slice A2 ends.length q2) := (hb4.cell 1).trans (by simp)
    have d0b : ∀ o, (W.alloc o).cell? ⟨R, 0, none⟩ = some (.slice A4 (bs.length + l.length) c4) := fun o => (Blk.cell (Blk.alloc hb4 o) 0).trans (by simp)
    have d1b : ∀ o, (W.alloc o).cell? ⟨R, 1, none⟩ = some (.slice A2 ends.length q2) := fun o => (Blk.cell (Blk.alloc hb4 o) 1).trans (by simp)
    have d0a : ∀ o, (W.drew.alloc o).cell? ⟨R, 0, none⟩ = some (.slice A4 (bs.length + l.length) c4) := fun o => (Blk.cell (Blk.alloc (w := W.drew) hb4 o) 0).trans (by simp)
    have d1a : ∀ o, (W.drew.alloc o).cell? ⟨R, 1, none⟩ = some (.slice A2 ends.length q2) := fun o => (Blk.cell (Blk.alloc (w := W.drew) hb4 o) 1).trans (by simp)
    clear hW hb1 hr1 ha1 hs1 hch1 c0 hown3 hchg3 hat3 hown4 hchg4 hat4 hb2 hRn hb3 d0 f0 s2 s3 hnew3 ho2 HO1 HO2
  all_goals
    have hrEd : Rd W.drew A2 (icells ends) := hrE
    have hb4d : Blk W.drew R 51 _ := hb4
    have ho4d : Own W.drew 5 1 (.slice A4 (bs.length + l.length) c4) (bs.length + l.length) (bcells bs ++ bcells l) blk4 := ho4
    have hsz := hchW.size
    generalize hS : bs.length + l.length = S at *
    go_region_law (first
      | (refine step_append_at _ (by rfl) _ _ _ (by rfl) 3 j0 _ 1 8 Try.underlying23 HJ1.out HJ2.out HJ3.out HJ4.out rfl (by omega) (.slice none 0 0) 0 [] none (by rfl) (Own.emp _ _) A2 ends.length q2 (icells ends) (by rfl) (by simp [icells]) (by first | exact hrEd | exact Rd.below hrEd ((Below.refl _ _).alloc (Nat.le_refl _) _) (Nat.le_refl _)) (icells_one ends) (by simp only [maxLen]; omega) (by omega) ?_; intro A5 c5 w5 blk5 hown5 hchg5 hat5; simp only [Nat.zero_add, List.nil_append] at hown5; have hb5 : Blk w5 R 51 _ := (by first | exact hb4d.chg hchg5 (fun h => none_no h) | exact (hb4d.alloc _).chg hchg5 (fun h => none_no h)); have ho5 := (by first | exact ho4d.chg hchg5 (fun g _ h => none_no h) | exact (ho4d.kept (fun g hg => Below.heap_alloc _ _ _ (ho4d.lt g hg))).chg hchg5 (fun g _ h => none_no h) : Own w5 5 1 (.slice A4 S c4) S (bcells bs ++ bcells l) blk4); have hch5 : Chg (MR w Hm) w w5 := (by first | exact hchW.drew.trans hchg5 (fun i _ h => (none_no h).elim) | exact (hchW.drew.alloc _).trans hchg5 (fun i _ h => (none_no h).elim)); have hnew5 : ∀ g, blk5 = some g → w.heap.size ≤ g := new_blk hat5 (fun g hg => (none_no hg.symm).elim) (by first | exact hsz | (simp only [World.alloc_heap_size]; exact Nat.le_succ_of_le hsz) | (simp; exact Nat.le_succ_of_le hsz)); have e0 : w5.cell? ⟨R, 0, none⟩ = some (.slice A4 S c4) := (hb5.cell 0).trans (by simp); have e0a : ∀ o, (w5.alloc o).cell? ⟨R, 0, none⟩ = some (.slice A4 S c4) := fun o => ((hb5.alloc o).cell 0).trans (by simp))
      | (refine step_append_at _ (by rfl) _ _ _ (by rfl) 3 j0 _ 1 8 Try.underlying23 HJ1.out HJ2.out HJ3.out HJ4.out rfl (by omega) (.slice A5 ends.length c5) ends.length (icells ends) blk5 (by rfl) (by first | exact hown5 | exact hown5.kept (fun g hg => Below.heap_alloc _ _ _ (hown5.lt g hg))) _ 1 1 [.int .i64 S] (by rfl) (by rfl) (by first | exact .inr ⟨w5.heap.size, 0, rfl, fun j u hu => by rw [cell_of_row _ _ _ _ 3 (0, 0) (heap_last _ _ rfl)]; simpa using hu⟩ | exact .inr ⟨W.drew.heap.size, 0, rfl, fun j u hu => (cell_of_row w5 W.drew.heap.size (0 + j) #[.int .i64 S] 3 (0, 0) ((hchg5.block W.drew.heap.size (by simp) (fun h => none_no h)).trans (heap_last W.drew _ rfl))).trans (by simpa using hu)⟩) (by simp [Value.oneCell']) (by simp only [maxLen]; omega) (by omega) ?_; intro A6 c6 w6 blk6 hown6 hchg6 hat6; have hRn : ¬ (some R = blk5) := fun h => (by obtain ⟨cur, hc⟩ := hown5.ty R h.symm; exact hb5.ne_ hc (by decide) rfl); have hb6 : Blk w6 R 51 _ := (by first | exact hb5.chg hchg6 hRn | exact (hb5.alloc _).chg hchg6 hRn); have hne5 : ∀ g, blk4 = some g → ¬ some g = blk5 := fun g hg h => (by obtain ⟨cur, hc⟩ := hown5.ty g h.symm; obtain ⟨cur', hc'⟩ := ho5.ty g hg; exact hc'.ne_ hc (by decide) rfl); have ho6 := (by first | exact ho5.chg hchg6 hne5 | exact (ho5.kept (fun g hg => Below.heap_alloc _ _ _ (ho5.lt g hg))).chg hchg6 hne5 : Own w6 5 1 (.slice A4 S c4) S (bcells bs ++ bcells l) blk4); have hch6 : Chg (MR w Hm) w w6 := (by first | exact hch5.trans hchg6 (fun i hi h => by have := hnew5 i h.symm; omega) | exact (hch5.alloc _).trans hchg6 (fun i hi h => by have := hnew5 i h.symm; omega)); have hs5 := hch5.size; have hnew6 : ∀ g, blk6 = some g → w.heap.size ≤ g := new_blk hat6 hnew5 (by first | exact hs5 | (simp; exact Nat.le_succ_of_le hs5)); have f1 : w6.cell? ⟨R, 1, none⟩ = some (.slice A2 ends.length q2) := (hb6.cell 1).trans (by simp); have f1f := hb6.frozen 1))
    all_goals go_wp2
    all_goals go_ret
    all_goals have hfinal := RB.of_put (Hm := fun k => Hm k ∨ w.heap.size ≤ k) hS hb6 ho6 hown6 (.inl h4) (fun g hg => .inr (hnew4 g hg)) (fun g hg => .inr (hnew6 g hg))
    all_goals rw [← hS] at hfinal
    all_goals exact ⟨rfl, hfinal, hch6.setCell (p := ⟨R, 1, none⟩) (.inl ⟨h4, _, (0, 0), HH.out⟩) _⟩
end Go.Proofs.Ytmjikfhabfodkaa
