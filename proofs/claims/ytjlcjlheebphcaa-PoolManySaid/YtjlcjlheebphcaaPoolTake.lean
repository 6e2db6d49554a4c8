/- Pools: At, Take. Helper. -/
import Derived.Test.YtjlcjlheebphcaaPoolDel
namespace Go.Proofs.Ytjlcjlheebphcaa
open Go.RowKit
set_option linter.unusedVariables false
set_option linter.unusedSimpArgs false
theorem setRow_far (w : World) (g : Nat) (cs : Array Value) (k : Nat) (h : k ≠ g) : (w.setRow g cs).heap[k]? = w.heap[k]? := by
  simp only [World.setRow, Array.getElem?_modify]
  rw [if_neg (fun e => h e.symm)]
theorem results_row_tmp {P : Program} {fn : Func} {p u : Tmp} {ty : TypeId} (h : fn.results = #[.cell p ty, .tmp u]) (tmps : Array Value) (w : World) (g : Nat) (t : TypeId) (cs : Array Value) (fr : Nat × Nat) {d : TypeDesc} (hst : ∃ x, d = .struct x)
    (hp : tmps.getD p undef = .pointer (some ⟨g, 0, none⟩)) (hg : w.heap[g]? = some (.cells cs t fr))
    (hu : P.underlying ty = some d) (hi : (P.info? ty).map (·.size) = some cs.size) :
    (results fn tmps).run P w = .ok (.tuple #[.agg cs, tmps.getD u undef]) w := by
  obtain ⟨x, rfl⟩ := hst
  have hp' : tmps[p]?.getD undef = .pointer (some ⟨g, 0, none⟩) := by simpa using hp
  simp [results, h, hp', asAddr, run_loadVar_row w g t ty cs fr _ hg hu rfl hi]
theorem msg_size : (Try.prog.info? 33).map (·.size) = some 10 := by kernel_rfl
theorem msg_all (s : Int) : ((#[.int .i64 0, .int .i64 0, .int .i64 0, .int .i64 0, .int .i64 0, .int .i64 0, .int .i64 s, .bool false, .bool false, .int .i64 0] : Array Value).all (·.oneCell')) = true := by simp [Value.oneCell']
theorem msg_desc : ∃ fs, Try.prog.underlying 33 = some (.struct fs) := ⟨_, Try.underlying33⟩
section
variable (g : Nat) (L : List Int) (k : Int) (blk : Option Nat) (i : Nat) (w : World)
set_option maxRecDepth 100000
set_option maxHeartbeats 1600000
theorem at_any (h : PoolAt w g L k blk) (hi : i < L.length) (hn : L.length ≤ 1000000) :
    Calls Try.prog 10 #[.pointer (some ⟨g, 0, none⟩), .int .i64 i] w fun e w' => e = .returned (.tuple #[.agg (msgC L[i]).toArray, .int .i64 0]) ∧ Below w.heap.size w w' := by
  obtain ⟨v, hb, ho⟩ := h
  obtain ⟨A, c, rfl, hr, hc, hm⟩ := ho.rd
  have c0 : w.cell? ⟨g, 0, none⟩ = some (.slice A L.length c) := (hb.cell 0).trans rfl
  have hlt := hb.lt
  obtain ⟨b, off, rfl, hbl, hcell⟩ := hr.get (k := i * 10) (by rw [cellsL_length]; omega)
  have hx : ∀ j, (hj : j < 10) → w.cell? ⟨b, off + i * 10 + j, none⟩ = (msgC L[i])[j]? := fun j hj => by
    rw [Nat.add_assoc, ← cellsL_get L i hi j hj]
    have hlen : i * 10 + j < (cellsL L).length := by rw [cellsL_length]; omega
    rw [List.getElem?_eq_getElem hlen]
    exact hcell _ _ (List.getElem?_eq_getElem hlen)
  obtain ⟨n, hn'⟩ : ∃ n, L.length = n := ⟨_, rfl⟩
  obtain ⟨s, hs⟩ : ∃ s, L[i] = s := ⟨_, rfl⟩
  rw [hs] at hx ⊢
  rw [hn'] at c0 hi hn
  have k0 : w.cell? ⟨b, off + i * 10, none⟩ = some (.int .i64 0) := hx 0 (by omega)
  have k1 : w.cell? ⟨b, off + i * 10 + 1, none⟩ = some (.int .i64 0) := hx 1 (by omega)
  have k2 : w.cell? ⟨b, off + i * 10 + 2, none⟩ = some (.int .i64 0) := hx 2 (by omega)
  have k3 : w.cell? ⟨b, off + i * 10 + 3, none⟩ = some (.int .i64 0) := hx 3 (by omega)
  have k4 : w.cell? ⟨b, off + i * 10 + 4, none⟩ = some (.int .i64 0) := hx 4 (by omega)
  have k5 : w.cell? ⟨b, off + i * 10 + 5, none⟩ = some (.int .i64 0) := hx 5 (by omega)
  have k6 : w.cell? ⟨b, off + i * 10 + 6, none⟩ = some (.int .i64 s) := hx 6 (by omega)
  have k7 : w.cell? ⟨b, off + i * 10 + 7, none⟩ = some (.bool false) := hx 7 (by omega)
  have k8 : w.cell? ⟨b, off + i * 10 + 8, none⟩ = some (.bool false) := hx 8 (by omega)
  have k9 : w.cell? ⟨b, off + i * 10 + 9, none⟩ = some (.int .i64 0) := hx 9 (by omega)
  have i1 : (i : Int) < (n : Int) := by omega
  have i2 : ¬ (n : Int) ≤ (i : Int) := by omega
  have i3 : ¬ (i : Int) < 0 := by omega
  have i4 : (0 : Int) ≤ (i : Int) := by omega
  clear hb ho hr hcell hx hm hc hs hn'
  unfold msgC
  go_enter Try.func10, Try.ntmps10
  go_wp2_with fail
  obtain ⟨d, hd1⟩ := msg_desc
  refine bodyPost_ret (results_row_tmp rfl _ _ w.heap.size 33 _ (0, 0) ⟨d, rfl⟩ rfl (heap_last w _ rfl) hd1 msg_size) rfl ⟨rfl, (Below.refl _ w).alloc (Nat.le_refl _) _⟩
theorem take_any (h : PoolAt w g L k blk) (hi : i + 1 < L.length) (hn : L.length ≤ 1000000) :
    Calls Try.prog 7 #[.pointer (some ⟨g, 0, none⟩), .int .i64 i] w fun e w' => e = .returned (.tuple #[.agg (msgC L[i]).toArray, .int .i64 0]) ∧ PoolAt w' g (L.take i ++ L.drop (i + 1)) k blk ∧ Chg (PTurn g blk) w w' := by
  obtain ⟨d, hd1⟩ := msg_desc
  have HD1 := Lib.hid hd1
  have HS := Lib.hid msg_size
  have k1 : ∀ W, PoolAt W g L k blk → Calls Try.prog 10 #[.pointer (some ⟨g, 0, none⟩), .int .i64 i] W fun e w' => e = .returned (.tuple #[.agg (msgC L[i]).toArray, .int .i64 0]) ∧ Below W.heap.size W w' := fun W hW => at_any g L k blk i W hW (by omega) hn
  obtain ⟨s, hs⟩ : ∃ s, L[i] = s := ⟨_, rfl⟩
  rw [hs] at k1 ⊢
  have hmc : (msgC s).toArray = #[.int .i64 0, .int .i64 0, .int .i64 0, .int .i64 0, .int .i64 0, .int .i64 0, .int .i64 s, .bool false, .bool false, .int .i64 0] := rfl
  rw [hmc] at k1 ⊢
  have K1 := Lib.hid k1
  clear hd1 hs hmc k1
  have hp0 : PoolAt (w.alloc (.cells #[.int .i64 0, .int .i64 0, .int .i64 0, .int .i64 0, .int .i64 0, .int .i64 0, .int .i64 0, .bool false, .bool false, .int .i64 0] 33)) g L k blk := by
    obtain ⟨v, hb, ho⟩ := h
    exact ⟨v, hb.alloc _, ho.kept fun g' hg => Below.heap_alloc _ _ _ (ho.lt g' hg)⟩
  have HP := Lib.hid h
  have HP0 := Lib.hid hp0
  clear hp0 h
  go_enter Try.func7, Try.ntmps7
  go_wp2_with fail
  refine (K1.out _ HP0.out).mono ?_
  rintro e w1 ⟨rfl, hB1⟩
  have hp1 : PoolAt w1 g L k blk := by
    obtain ⟨v, hb, ho⟩ := HP0.out
    exact ⟨v, hb.below hB1 hb.lt, ho.kept fun g' hg => hB1.block g' (ho.lt g' hg)⟩
  have hz1 : Blk w1 w.heap.size 33 #[.int .i64 0, .int .i64 0, .int .i64 0, .int .i64 0, .int .i64 0, .int .i64 0, .int .i64 0, .bool false, .bool false, .int .i64 0] := Blk.below (Blk.last w _ _ rfl) hB1 (by simp)
  have hc1 : Below w.heap.size w w1 := ((Below.refl _ w).alloc (Nat.le_refl _) _).trans (hB1.mono (by simp))
  obtain ⟨v, hb, ho⟩ := hp1
  have hne : blk ≠ some g := fun e => by obtain ⟨cur, hc⟩ := ho.tyB g e; exact absurd rfl (hc.ne_ hb (by decide))
  obtain ⟨A, c, rfl, _, hcc, hm⟩ := ho.rd
  obtain ⟨n, hn'⟩ : ∃ n, L.length = n := ⟨_, rfl⟩
  have HX := Lib.hid hn'
  rw [hn'] at hi hn hb ho hcc
  have c0 : w1.cell? ⟨g, 0, none⟩ = some (.slice A n c) := (hb.cell 0).trans rfl
  have f0 := hb.frozen 0
  have hlt := hb.lt
  have hzlt := hz1.lt
  have K2 := Lib.hid (fun (W : World) (hW : Own W 33 10 (.slice A n c) n (cellsL L) blk) => delete_any A n c i (cellsL L) blk W hW hi hn (cellsL_mem L))
  have HB := Lib.hid hb
  have HO := Lib.hid ho
  have HZ := Lib.hid hz1
  have HC := Lib.hid hc1
  have HNE := Lib.hid hne
  have HWW := Lib.hid hB1
  have i2 : (i : Int) < 9223372036854775807 := by omega
  have hgz : g < w.heap.size := by obtain ⟨v, hb, _⟩ := HP.out; exact hb.lt
  have hbz : ∀ x, some x = blk → x < w.heap.size := fun x hx => by obtain ⟨v, _, ho⟩ := HP.out; exact ho.lt x hx.symm
  have HGZ := Lib.hid hgz
  have HBZ := Lib.hid hbz
  clear hb ho hz1 hc1 hne hB1 hgz hbz hm hcc K1 HP0 hn'
  go_wp2_with fail
  refine (K2.out _ (HO.out.kept fun g' hg => Below.heap_alloc _ _ _ (HO.out.lt g' hg))).mono ?_
  rintro e w5 ⟨rfl, hown, hch⟩
  have hb5 : Blk w5 g 42 #[.slice A n c, .int .i64 k] := (HB.out.alloc _).chg hch (fun h => HNE.out h.symm)
  have d5 : w5.cell? ⟨g, 0, none⟩ = some (.slice A n c) := (hb5.cell 0).trans rfl
  have f5 := hb5.frozen 0
  have hz5 : Blk w5 w.heap.size 33 #[.int .i64 0, .int .i64 0, .int .i64 0, .int .i64 0, .int .i64 0, .int .i64 0, .int .i64 0, .bool false, .bool false, .int .i64 0] := (HZ.out.alloc _).chg hch (fun h => by have := HBZ.out _ h; omega)
  have hm5 : Blk w5 w1.heap.size 33 #[.int .i64 0, .int .i64 0, .int .i64 0, .int .i64 0, .int .i64 0, .int .i64 0, .int .i64 s, .bool false, .bool false, .int .i64 0] := (Blk.last w1 _ _ rfl).chg hch (fun h => by have := HBZ.out _ h; have := HC.out.size; omega)
  have n1 : w.heap.size ≠ g := by have := HGZ.out; omega
  have n2 : w1.heap.size ≠ g := by have := HGZ.out; have := HC.out.size; omega
  have n3 : w1.heap.size ≠ w.heap.size := by omega
  obtain ⟨w6, hw6⟩ : ∃ w6, w5.setCell ⟨g, 0, none⟩ (.slice A (n - 1) c) = w6 := ⟨_, rfl⟩
  have hz6 : Blk w6 w.heap.size 33 #[.int .i64 0, .int .i64 0, .int .i64 0, .int .i64 0, .int .i64 0, .int .i64 0, .int .i64 0, .bool false, .bool false, .int .i64 0] := by rw [← hw6]; exact hz5.far n1 _
  have hm6 : Blk w6 w1.heap.size 33 #[.int .i64 0, .int .i64 0, .int .i64 0, .int .i64 0, .int .i64 0, .int .i64 0, .int .i64 s, .bool false, .bool false, .int .i64 0] := by rw [← hw6]; exact hm5.far n2 _
  have HZ6 := Lib.hid hz6
  have HM6 := Lib.hid hm6
  have HW6 := Lib.hid hw6
  have HB5 := Lib.hid hb5
  have HOWN := Lib.hid hown
  have HCH := Lib.hid hch
  have N1 := Lib.hid n1
  have N2 := Lib.hid n2
  have N3 := Lib.hid n3
  clear hb5 hz5 hm5 hz6 hm6 hw6 hown hch n1 n2 n3 hzlt
  go_upto_region 4 with (fail)
  rw [HW6.out]
  clear c0 f0 d5 f5 hlt i2
  go_wp2_with (first
    | (refine wpList_load_row rfl 33 _ rfl w1.heap.size rfl 33 _ (0, 0) (.struct d) HM6.out HD1.out rfl HS.out ?_)
    | (refine wpList_store_row rfl 33 _ _ rfl w.heap.size #[.int .i64 0, .int .i64 0, .int .i64 0, .int .i64 0, .int .i64 0, .int .i64 0, .int .i64 s, .bool false, .bool false, .int .i64 0] rfl rfl 33 #[.int .i64 0, .int .i64 0, .int .i64 0, .int .i64 0, .int .i64 0, .int .i64 0, .int .i64 0, .bool false, .bool false, .int .i64 0] HZ6.out HS.out rfl (msg_all s) ?_))
  refine bodyPost_ret (results_row_tmp rfl _ _ w.heap.size 33 _ (0, 0) ⟨d, rfl⟩ rfl (setRow_heap w6 w.heap.size _ #[.int .i64 0, .int .i64 0, .int .i64 0, .int .i64 0, .int .i64 0, .int .i64 0, .int .i64 s, .bool false, .bool false, .int .i64 0] _ _ HZ6.out) HD1.out HS.out) rfl ⟨rfl, ?_, ?_⟩
  · have e : (n - 1) = (L.take i ++ L.drop (i + 1)).length := by have := HX.out; rw [List.length_append, List.length_take, List.length_drop]; omega
    have hb6 : Blk w6 g 42 #[.slice A (n - 1) c, .int .i64 k] := by rw [← HW6.out]; exact HB5.out.set_ 0 _
    have ho6 : Own w6 33 10 (.slice A (n - 1) c) (n - 1) (cellsL (L.take i ++ L.drop (i + 1))) blk := by
      rw [← HW6.out, cellsL_append, ← cellsL_take, ← cellsL_drop]
      exact HOWN.out.kept fun g' hg => Below.heap_setCell _ _ _ _ (fun h => HNE.out (by rw [hg]; exact congrArg some h))
    refine ⟨.slice A (n - 1) c, ?_, ?_⟩
    · exact (setRow_far w6 w.heap.size _ g (fun h => N1.out h.symm)).trans hb6
    · rw [← e]
      exact ho6.kept fun g' hg => setRow_far w6 w.heap.size _ g' (fun h => by have := HBZ.out g' hg.symm; omega)
  · have h1 : Chg (PTurn g blk) w w5 := ((Chg.of_below HC.out (Nat.le_refl _) (PTurn g blk)).alloc _).trans HCH.out (fun j _ h => .inr h)
    have h2 : Chg (PTurn g blk) w w6 := by rw [← HW6.out]; exact h1.setCell (p := ⟨g, 0, none⟩) (.inl (.inl rfl)) _
    exact h2.setRow (.inr (Nat.le_refl _)) _
end
end Go.Proofs.Ytjlcjlheebphcaa
