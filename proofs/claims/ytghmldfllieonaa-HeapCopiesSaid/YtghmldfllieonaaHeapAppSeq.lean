/- slices.AppendSeq over slices.Values: a list of items is copied. Helper. -/
import Derived.Test.YtghmldfllieonaaHeapSeq
import Derived.Test.YtghmldfllieonaaHeapPut
namespace Go.Proofs.Ytghmldfllieonaa
open Go.RowKit Go.Shelf
set_option linter.unusedVariables false
set_option linter.unusedSimpArgs false
attribute [local go_sem] Oper.semAt_some
theorem ownsRow_low {w : World} {base e size n : Nat} {v : Value} {xs : List Value} (h : w.ownsRow base e size v n xs) : w.ownsRow 0 e size v n xs := by
  refine ⟨h.1, ?_⟩
  rcases h.2 with h | ⟨g, cap, cur, a, b, c⟩
  · exact .inl h
  · exact .inr ⟨g, cap, cur, a, Nat.zero_le _, c⟩
theorem own_block {w : World} {base e size n : Nat} {v : Value} {xs : List Value} (h : w.ownsRow base e size v n xs) : ∀ b, some b = v.ownBlock → base ≤ b := by
  intro b hb
  rcases h.2 with ⟨rfl, _⟩ | ⟨g, cap, cur, rfl, hg, _⟩
  · cases hb
  · simp [Value.ownBlock] at hb; omega
theorem cells_last (w : World) (t : TypeId) (l : List Value) : ∀ j u, l[j]? = some u → (w.alloc (.cells l.toArray t)).cell? ((⟨w.heap.size, 0, none⟩ : Addr).add j) = some u := fun j u hu => by
  rw [add_plain, cell_of_row _ _ _ _ t (0, 0) (heap_alloc_last w _)]; simpa using hu
theorem item_zero : ∃ i, Try.prog.info? 36 = some i ∧ i.zero = some (.agg It.zero.c.toArray) ∧ i.size = 7 ∧ i.bytes = 56 := by
  obtain ⟨i0, hi, hz0, hz1, hz2⟩ := info_parts infoItem
  exact ⟨i0, hi, hz0, hz1, hz2⟩
theorem kb_own (b B : Nat) (W0 : World) (hb : b < B) (hB : b < W0.heap.size) : OwnFrom B (fun (_ : List It) W => Kb b W0 W ∧ W0.heap.size ≤ W.heap.size) := by
  intro s A A' row hs hg hr
  refine ⟨?_, Nat.le_trans hs.2 hg.size⟩
  refine (hg.block b (Nat.lt_of_lt_of_le hB hs.2) (fun e => ?_)).trans hs.1
  have := (hr b e.symm).1
  omega
set_option maxRecDepth 100000
set_option maxHeartbeats 4000000
theorem appSeq_any (w : World) (Bs b off c : Nat) (A : Option Addr) (L : List It) (hl : L.length ≤ 100000) (hBs : w.cell? ⟨Bs, 0, none⟩ = some (.slice A L.length c)) (hA : 0 < L.length → A = some ⟨b, off, none⟩) (hc : ∀ i, i < L.length → ∀ j, j < 7 → w.cell? ⟨b, off + i * 7 + j, none⟩ = (g L i).c[j]?) (hbl : b < w.heap.size) :
    Calls Try.prog 55 #[.slice none 0 0, .func (.func 53) #[] #[.pointer (some ⟨Bs, 0, none⟩)]] w fun e w' => ∃ v, e = .returned v ∧ w'.ownsRow w.heap.size 36 7 v L.length (rowsI L) ∧ Nw w w' := by
  obtain ⟨i0, hi, hz0, hz1, hz2⟩ := item_zero
  have HI := Lib.hid hi
  have HZ0 := Lib.hid hz0
  have HZ1 := Lib.hid hz1
  have HZ2 := Lib.hid hz2
  clear hi hz0 hz1 hz2
  obtain ⟨w1, hw1⟩ : ∃ w1, w.alloc (.cells #[.slice none 0 0] 22) = w1 := ⟨_, rfl⟩
  have hBl : Bs < w.heap.size := World.block_lt_of_cell? w _ hBs
  have n1 : Nw w w1 := by rw [← hw1]; exact (Nw.refl w).alloc _
  have bO : Boxed w1 w.heap.size 22 (.slice none 0 0) := by rw [← hw1]; exact Boxed.new w _ _
  have hB1 : Bs < w1.heap.size := Nat.lt_of_lt_of_le hBl n1.size
  have hb1 : b < w1.heap.size := Nat.lt_of_lt_of_le hbl n1.size
  have ST := fun n hn => val1_stops Fence.wide n trivial rfl hn Bs b off c A L (by omega) w1 (n1.cell hBs) hA (fun i hi j hj => (Below.cell n1 hbl).trans (hc i hi j hj)) hB1 hb1
  have N1 := Lib.hid n1
  have BO := Lib.hid bO
  have HB1 := Lib.hid hb1
  have HBL := Lib.hid hbl
  have HST := Lib.hid ST
  have HW1 := Lib.hid hw1
  clear n1 bO hBs hA hc hB1 hb1 hbl ST hBl hw1
  refine (callsIn_wide (n := 4)).1 ?_
  refine callsIn_of_wp_marks Try.func55 rfl trivial ?_ rfl
  simp only [Try.ntmps55, List.size_toArray, List.length_nil, List.length_cons, Nat.reduceAdd, Nat.reduceSub, Array.replicate_succ, Array.replicate_zero, List.push_toArray, List.append_toArray, List.nil_append, List.cons_append]
  gi_wp2_with fail
  rw [HW1.out]
  refine wpIn_rangeFunc_ownH rfl (by omega) (gf := 53) (lb := #[.pointer (some ⟨Bs, 0, none⟩)]) rfl trivial (enters_of Try.func53 (by kernel_rfl) rfl)
    (HST.out _ (by omega)) (fun h1 h2 => h2.trans h1) (fun W l o o' hl ho _ _ => World.putObj_heap_other (by have := HB1.out; omega)) (Below.refl _ _) (fun _ => rfl)
    (fun pre W => (∃ v, Boxed W w.heap.size 22 v ∧ W.ownsRow w1.heap.size 36 7 v pre.length (rowsI pre) ∧ True) ∧ (Kb b w1 W ∧ w1.heap.size ≤ W.heap.size) ∧ Below w.heap.size w W)
    (fun _ _ _ => False)
    (OwnFrom.and (Own.from (holdsRow_own w1.heap.size w.heap.size 22 36 7 (fun pre => pre.length) rowsI (fun _ _ => True)) _) (OwnFrom.and (kb_own b _ w1 HB1.out HB1.out) (ownFrom_below (Nat.le_refl _) N1.out.size)))
    (fun _ _ _ _ _ hs _ _ => hs)
    ⟨⟨_, BO.out, World.ownsRow_nil _ _ _ _, trivial⟩, ⟨rfl, Nat.le_refl _⟩, N1.out⟩
    (fun x a' W => ∃ Bx, w1.heap.size ≤ Bx ∧ W.heap[Bx]? = some (.cells #[.int .i64 (x).k.T, .int .i64 (x).k.O, .int .i64 (x).k.S, .int .i64 (x).p, .int .i64 (x).q, .int .i64 (x).d, .int .i64 (x).n] 36 (0, 0)) ∧ a' = { tmps := #[.slice none 0 0, .func (.func 53) #[] #[.pointer (some ⟨Bs, 0, none⟩)], .pointer (some ⟨w.heap.size, 0, none⟩), undef, .slice none 0 0, .pointer (some ⟨Bx, 0, none⟩), .func (.func 53) #[] #[.pointer (some ⟨Bs, 0, none⟩)], .agg #[.int .i64 (x).k.T, .int .i64 (x).k.O, .int .i64 (x).k.S, .int .i64 (x).p, .int .i64 (x).q, .int .i64 (x).d, .int .i64 (x).n], undef, undef, undef, undef, undef], defers := [] })
    (fun x a' _ X Y row hs hg hr => by
      obtain ⟨Bx, h1, h2, h3⟩ := hs
      refine ⟨Bx, h1, (hg.block Bx (Array.getElem?_eq_some_iff.1 h2).1 (fun e => ?_)).trans h2, h3⟩
      obtain ⟨_, o, ho, hcl⟩ := hr Bx e.symm
      rw [h2] at ho; cases ho; cases hcl)
    ?assign ?body ?done ?stop
  case assign =>
    rintro l pre x W K ⟨⟨v, hv, hrow, _⟩, ⟨hkb, hsz⟩, hB⟩ hK
    have hlt := hv.lt
    have hblt : b < W.heap.size := by have := HB1.out; omega
    unfold It.c
    gi_wp2
    exact hK _ _ ((KeepsOthers.alloc _ _).from _) (Below.heap_alloc _ _ _ hblt) ⟨⟨v, hv.alloc _, hrow.alloc _, trivial⟩, ⟨(Below.heap_alloc _ _ _ hblt).trans hkb, by simp; omega⟩, hB.alloc hB.size _⟩ ⟨W.heap.size, hsz, heap_last W _ rfl, rfl⟩
  case body =>
    rintro l pre x a' W hl' ⟨r, hr⟩ ⟨⟨v, hv, hrow, _⟩, ⟨hkb, hsz⟩, hB⟩ ⟨Bx, hBx, hX, rfl⟩ hlt
    have hc0 := hv.cell
    have hblt : b < W.heap.size := by have := HB1.out; omega
    have hXB : Blk W Bx 36 #[.int .i64 (x).k.T, .int .i64 (x).k.O, .int .i64 (x).k.S, .int .i64 (x).p, .int .i64 (x).q, .int .i64 (x).d, .int .i64 (x).n] := hX
    have k0 : W.cell? ⟨Bx, 0, none⟩ = some (.int .i64 (x).k.T) := (hXB.cell 0).trans rfl
    have k1 : W.cell? ⟨Bx, 1, none⟩ = some (.int .i64 (x).k.O) := (hXB.cell 1).trans rfl
    have k2 : W.cell? ⟨Bx, 2, none⟩ = some (.int .i64 (x).k.S) := (hXB.cell 2).trans rfl
    have k3 : W.cell? ⟨Bx, 3, none⟩ = some (.int .i64 (x).p) := (hXB.cell 3).trans rfl
    have k4 : W.cell? ⟨Bx, 4, none⟩ = some (.int .i64 (x).q) := (hXB.cell 4).trans rfl
    have k5 : W.cell? ⟨Bx, 5, none⟩ = some (.int .i64 (x).d) := (hXB.cell 5).trans rfl
    have k6 : W.cell? ⟨Bx, 6, none⟩ = some (.int .i64 (x).n) := (hXB.cell 6).trans rfl
    have HR := Lib.hid hrow
    have HV := Lib.hid hv
    have HKB := Lib.hid hkb
    have HSZ := Lib.hid hsz
    have HBB := Lib.hid hB
    have HBL2 := Lib.hid hblt
    clear hrow hv hkb hsz hB hX hXB hr hblt
    gi_wp2_with (gi_at_builtin; refine wpListIn_append_own _ rfl _ _ 22 rfl w1.heap.size 36 i0 (.agg It.zero.c.toArray) 7 56 Try.underlying22 HI.out HZ0.out HZ1.out HZ2.out rfl (by omega) _ _ _ rfl (HR.out.alloc _) ⟨W.heap.size, 0, none⟩ 1 1 [.int .i64 (x).k.T, .int .i64 (x).k.O, .int .i64 (x).k.S, .int .i64 (x).p, .int .i64 (x).q, .int .i64 (x).d, .int .i64 (x).n] rfl rfl (cells_last _ _ _) (It.c_one x) (by simp only [maxLen]; omega) (by omega) (by have := HSZ.out; simp; omega) ?_; intro v' w4 hown' hgrow _; obtain ⟨g', cap', rfl⟩ := ownsRow_succ hown'; obtain ⟨hv1, hv2, hr2, hk2, hb2⟩ := HV.out.appended (n₀ := 0) (by decide) (ownsRow_low HR.out) (Nat.zero_le _) (Nat.zero_le _) (ownsRow_low hown') hgrow; have hc1 := hv1.cell; have hf1 := hv1.frozen; have HOW := Lib.hid hown'; have HG := Lib.hid hgrow; have HV2 := Lib.hid hv2; have HK2 := Lib.hid hk2; have HV1 := Lib.hid hv1; clear hown' hgrow hv1 hv2 hr2 hk2 hb2)
    have hb0 : b < W.heap.size := HBL2.out
    have hne : b ≠ w.heap.size := by have := HBL.out; omega
    have hrow0 : ∀ y, some y = v.ownBlock → w1.heap.size ≤ y := fun y hy => own_block HR.out y hy
    have hbw : (w4.setCell ⟨w.heap.size, 0, none⟩ (.slice (some ⟨g', 0, none⟩) (pre.length + 1) cap')).heap[b]? = W.heap[b]? :=
      (Below.heap_setCell _ _ _ _ hne).trans ((HG.out.block b (by simp; omega) (fun e => by have := hrow0 b e; have := HB1.out; omega)).trans (Below.heap_alloc _ _ _ hb0))
    have hs4 := HG.out.size
    simp only [World.size_alloc] at hs4
    have hss : (w4.setCell ⟨w.heap.size, 0, none⟩ (.slice (some ⟨g', 0, none⟩) (pre.length + 1) cap')).heap.size = w4.heap.size := by simp [World.setCell]
    have hlen : (pre ++ [x]).length = pre.length + 1 := by simp
    refine ⟨HK2.out.from _, hbw, ⟨⟨_, HV2.out, ?_, trivial⟩, ⟨hbw.trans HKB.out, ?_⟩, ?_⟩⟩
    · rw [hlen, rowsI_append, rowsI_one]
      exact HOW.out.kept (grownBy_setCell' w4 w.heap.size _) (.inr (HV1.out.not_row (by decide) HOW.out).symm)
    · rw [hss]; have := HSZ.out; omega
    · exact ((HBB.out.alloc HBB.out.size _).grown HG.out (by have := HBB.out.size; simp; omega) (fun j e => by have := hrow0 j e.symm; have := N1.out.size; omega)).setCell (p := ⟨w.heap.size, 0, none⟩) (by simp) _
  case done =>
    rintro D ys W hD rfl ⟨⟨v, hv, hrow, _⟩, ⟨hkb, hsz⟩, hB⟩ hK
    have hc0 := hv.cell
    gi_wp2
    refine ⟨by simp, .inl ⟨_, _, rfl, run_takeDeferred hK, ?_⟩⟩
    refine ⟨_, results_tmp rfl _ _ _, v, rfl, ?_, ?_⟩
    · have h0 := ownsRow_putObj hrow (.deferred none) hK rfl
      refine ⟨h0.1, ?_⟩
      rcases h0.2 with h | ⟨g, cap, cur, a, b, c⟩
      · exact .inl h
      · exact .inr ⟨g, cap, cur, a, Nat.le_trans N1.out.size b, c⟩
    · exact hB.trans (belowK_b (w := w) (Nat.le_refl _) W D _ _ (by have := N1.out.size; omega) hK rfl rfl)
  case stop => exact fun _ _ _ _ _ _ h _ => h.elim
end Go.Proofs.Ytghmldfllieonaa
