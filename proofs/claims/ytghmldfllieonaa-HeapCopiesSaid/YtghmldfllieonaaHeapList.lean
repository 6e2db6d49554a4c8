/- What the law lists of a heap, up to so many. Helper. -/
import Derived.Test.YtghmldfllieonaaHeapAll
namespace Go.Proofs.Ytghmldfllieonaa
open Go.RowKit Go.Shelf
set_option linter.unusedVariables false
set_option linter.unusedSimpArgs false
attribute [local go_sem] Oper.semAt_some
set_option maxRecDepth 100000
theorem func_nil (f B : Nat) (W : World) : Sem.run Try.prog (binOp .eql 71 (.func (.func f) #[] #[.pointer (some ⟨B, 0, none⟩)]) .nilFunc) W = .ok (.bool false) W := rfl
/-- None of the numbers so far is it. -/
def NoHit (most : Int) (k : Nat) : Prop := ∀ q : Nat, 0 < q → q ≤ k → (q : Int) ≠ most
theorem OwnFrom.pure {α : Type} {B : Nat} (p : α → Prop) : OwnFrom B (fun (s : α) (_ : World) => p s) := fun _ _ _ _ h _ _ => h
/-- How many are listed. -/
def kN (most : Int) (n : Nat) : Nat := if 0 < most ∧ most < (n : Int) then most.toNat else n
theorem kN_none {most : Int} {n : Nat} (h : NoHit most n) : kN most n = n := by
  unfold kN
  rw [if_neg]
  rintro ⟨h1, h2⟩
  exact h most.toNat (by omega) (by omega) (by omega)
theorem kN_hit {most : Int} {n k : Nat} (h : (k : Int) = most) (hk : k ≤ n) (h0 : 0 < k) : kN most n = k := by
  unfold kN
  split <;> omega
set_option maxRecDepth 100000
set_option maxHeartbeats 8000000
theorem list_any (w : World) (gB S : Nat) (v0 : Value) (l : List It) (f : Int → Int → Option Nat) (blk : Option Nat) (most : Int) (h : HpS w gB S v0 l f blk) (hl : l.length ≤ 100000) :
    Calls Try.prog 36 #[.pointer (some ⟨gB, 0, none⟩), .int .i64 most] w fun e w' => ∃ v L, e = .returned (.tuple #[v, .bool true]) ∧ L.Perm l ∧ Ord L ∧ w'.ownsRow w.heap.size 36 7 v (kN most L.length) (rowsI (L.take (kN most L.length))) ∧ Nw w w' := by
  obtain ⟨i0, hi, hz0, hz1, hz2⟩ := item_zero
  have HI := Lib.hid hi
  have HZ0 := Lib.hid hz0
  have HZ1 := Lib.hid hz1
  have HZ2 := Lib.hid hz2
  clear hi hz0 hz1 hz2
  have hgl := h.hm.bk.lt
  have K := Lib.hid (all_any ((w.alloc (.cells #[.int .i64 most] 3)).alloc (.cells #[.slice none 0 0] 22)) gB S v0 l f blk (h.new (((Below.refl _ w).alloc (Nat.le_refl _) _).alloc (by simp) _)) hl)
  have HLL := Lib.hid hl
  clear h
  refine (callsIn_wide (n := 4)).1 ?_
  refine callsIn_of_wp_marks Try.func36 rfl trivial ?_ rfl
  simp only [Try.ntmps36, List.size_toArray, List.length_nil, List.length_cons, Nat.reduceAdd, Nat.reduceSub, Array.replicate_succ, Array.replicate_zero, List.push_toArray, List.append_toArray, List.nil_append, List.cons_append]
  gi_wp2_with fail
  refine ⟨trivial, (callsIn_wide.2 K.out).mono ?_⟩
  rintro e w1 ⟨B, u, L, rfl, hp, ho, hBu, hBB, A, c, rfl, hN, hh⟩
  have n1 : Nw w w1 := (((Nw.refl w).alloc _).alloc _).step hN
  have bM : Boxed w1 w.heap.size 3 (.int .i64 most) := (hN.block w.heap.size (by simp; omega)).trans ((Boxed.new w 3 (.int .i64 most)).alloc _)
  have bO : Boxed w1 (w.heap.size + 1) 22 (.slice none 0 0) := (hN.block (w.heap.size + 1) (by simp)).trans (by have := Boxed.new (w.alloc (.cells #[.int .i64 most] 3)) 22 (.slice none 0 0); rw [World.size_alloc] at this; exact this)
  have hB1 : B < w1.heap.size := World.block_lt_of_cell? w1 _ hBu
  obtain ⟨b, hb1, hb2, hA, hc⟩ : ∃ b, b < w1.heap.size ∧ w.heap.size + 2 ≤ b ∧ (0 < L.length → A = some ⟨b, 0, none⟩) ∧ ∀ i, i < L.length → ∀ j, j < 7 → w1.cell? ⟨b, 0 + i * 7 + j, none⟩ = (g L i).c[j]? := by
    by_cases h0 : 0 < L.length
    · obtain ⟨b, e1, e2, e3, e4⟩ := hh h0
      exact ⟨b, e3, by simpa using e2, fun _ => e1, e4⟩
    · exact ⟨B, hB1, by simpa using hBB, fun h => absurd h h0, fun i hi => by omega⟩
  have hLn : L.length ≤ 100000 := by rw [hp.length_eq]; exact hl
  have ST := fun n hn => all1_stops Fence.wide n trivial rfl hn B b 0 c A L (by omega) w1 hBu hA hc hB1 hb1
  have N1 := Lib.hid n1
  have BM := Lib.hid bM
  have BO := Lib.hid bO
  have HB1 := Lib.hid (And.intro hb1 hb2)
  have HST := Lib.hid ST
  have HP := Lib.hid (And.intro hp ho)
  have HLN := Lib.hid hLn
  clear n1 bM bO hBu hBB hN hc hA hh hB1 hb1 hb2 ST K hp ho hLn
  gi_wp2_with fail
  rw [func_nil]
  gi_wp2_with fail
  refine wpIn_rangeFunc_ownH rfl (by omega) (gf := 48) (lb := #[.pointer (some ⟨B, 0, none⟩)]) rfl trivial (enters_of Try.func48 (by kernel_rfl) rfl)
    (HST.out _ (by omega)) (fun h1 h2 => h2.trans h1) (fun W l o o' hl ho _ _ => World.putObj_heap_other (by have := HB1.out; omega)) (Below.refl _ _) (fun _ => rfl)
    (fun pre W => NoHit most pre.length ∧ ((∃ v, Boxed W (w.heap.size + 1) 22 v ∧ W.ownsRow w1.heap.size 36 7 v pre.length (rowsI pre) ∧ True) ∧ Boxed W w.heap.size 3 (.int .i64 most)) ∧ (Kb b w1 W ∧ w1.heap.size ≤ W.heap.size) ∧ Below w.heap.size w W)
    (fun c pre W => (c = .exit 0 ∧ (pre.length : Int) = most ∧ 0 < pre.length) ∧ ((∃ v, Boxed W (w.heap.size + 1) 22 v ∧ W.ownsRow w1.heap.size 36 7 v pre.length (rowsI pre) ∧ True) ∧ Boxed W w.heap.size 3 (.int .i64 most)) ∧ (Kb b w1 W ∧ w1.heap.size ≤ W.heap.size) ∧ Below w.heap.size w W)
    (OwnFrom.and (OwnFrom.pure (fun pre : List It => NoHit most pre.length)) (OwnFrom.and (OwnFrom.and (Own.from (holdsRow_own w1.heap.size (w.heap.size + 1) 22 36 7 (fun pre => pre.length) rowsI (fun _ _ => True)) _) (Own.from (boxed_own _ _ _) _)) (OwnFrom.and (kb_own b _ w1 HB1.out.1 HB1.out.1) (ownFrom_below (Nat.le_refl _) N1.out.size))))
    (fun c => OwnFrom.and (OwnFrom.pure (fun pre : List It => c = .exit 0 ∧ (pre.length : Int) = most ∧ 0 < pre.length)) (OwnFrom.and (OwnFrom.and (Own.from (holdsRow_own w1.heap.size (w.heap.size + 1) 22 36 7 (fun pre => pre.length) rowsI (fun _ _ => True)) _) (Own.from (boxed_own _ _ _) _)) (OwnFrom.and (kb_own b _ w1 HB1.out.1 HB1.out.1) (ownFrom_below (Nat.le_refl _) N1.out.size))))
    ⟨fun q h1 h2 => by simp at h2; omega, ⟨⟨_, BO.out, World.ownsRow_nil _ _ _ _, trivial⟩, BM.out⟩, ⟨rfl, Nat.le_refl _⟩, N1.out⟩
    (fun x a' W => ∃ Bx, w1.heap.size ≤ Bx ∧ W.heap[Bx]? = some (.cells #[.int .i64 (x).k.T, .int .i64 (x).k.O, .int .i64 (x).k.S, .int .i64 (x).p, .int .i64 (x).q, .int .i64 (x).d, .int .i64 (x).n] 36 (0, 0)) ∧ a' = { tmps := #[.pointer (some ⟨gB, 0, none⟩), .int .i64 most, undef, .pointer (some ⟨w.heap.size, 0, none⟩), .slice none 0 0, .bool false, .pointer (some ⟨w.heap.size + 1, 0, none⟩), .func (.func 48) #[] #[.pointer (some ⟨B, 0, none⟩)], .pointer (some ⟨Bx, 0, none⟩), .pointer (some ⟨gB, 0, none⟩), .func (.func 48) #[] #[.pointer (some ⟨B, 0, none⟩)], .func (.func 48) #[] #[.pointer (some ⟨B, 0, none⟩)], .bool false, .func (.func 48) #[] #[.pointer (some ⟨B, 0, none⟩)], .agg #[.int .i64 (x).k.T, .int .i64 (x).k.O, .int .i64 (x).k.S, .int .i64 (x).p, .int .i64 (x).q, .int .i64 (x).d, .int .i64 (x).n], undef, undef, undef, undef, undef, undef, undef, undef, undef], defers := [] })
    (fun x a' _ X Y row hs hg hr => by
      obtain ⟨Bx, h1, h2, h3⟩ := hs
      refine ⟨Bx, h1, (hg.block Bx (Array.getElem?_eq_some_iff.1 h2).1 (fun e => ?_)).trans h2, h3⟩
      obtain ⟨_, o, ho, hcl⟩ := hr Bx e.symm
      rw [h2] at ho; cases ho; cases hcl)
    ?assign ?body ?done ?stop
  case assign =>
    rintro l pre x W K ⟨hno, ⟨⟨v, hv, hrow, _⟩, hm⟩, ⟨hkb, hsz⟩, hB⟩ hK
    have hlt := hv.lt
    have hblt : b < W.heap.size := by have := HB1.out; omega
    unfold It.c
    gi_wp2
    exact hK _ _ ((KeepsOthers.alloc _ _).from _) (Below.heap_alloc _ _ _ hblt) ⟨hno, ⟨⟨v, hv.alloc _, hrow.alloc _, trivial⟩, hm.alloc _⟩, ⟨(Below.heap_alloc _ _ _ hblt).trans hkb, by simp; omega⟩, hB.alloc hB.size _⟩ ⟨W.heap.size, hsz, heap_last W _ rfl, rfl⟩
  case body =>
    rintro l pre x a' W hl' ⟨r, hr⟩ ⟨hno, ⟨⟨v, hv, hrow, _⟩, hm⟩, ⟨hkb, hsz⟩, hB⟩ ⟨Bx, hBx, hX, rfl⟩ hlt
    have hc0 := hv.cell
    have hcm := hm.cell
    have hblt : b < W.heap.size := by have := HB1.out; omega
    have hXB : Blk W Bx 36 #[.int .i64 (x).k.T, .int .i64 (x).k.O, .int .i64 (x).k.S, .int .i64 (x).p, .int .i64 (x).q, .int .i64 (x).d, .int .i64 (x).n] := hX
    have k0 : W.cell? ⟨Bx, 0, none⟩ = some (.int .i64 (x).k.T) := (hXB.cell 0).trans rfl
    have k1 : W.cell? ⟨Bx, 1, none⟩ = some (.int .i64 (x).k.O) := (hXB.cell 1).trans rfl
    have k2 : W.cell? ⟨Bx, 2, none⟩ = some (.int .i64 (x).k.S) := (hXB.cell 2).trans rfl
    have k3 : W.cell? ⟨Bx, 3, none⟩ = some (.int .i64 (x).p) := (hXB.cell 3).trans rfl
    have k4 : W.cell? ⟨Bx, 4, none⟩ = some (.int .i64 (x).q) := (hXB.cell 4).trans rfl
    have k5 : W.cell? ⟨Bx, 5, none⟩ = some (.int .i64 (x).d) := (hXB.cell 5).trans rfl
    have k6 : W.cell? ⟨Bx, 6, none⟩ = some (.int .i64 (x).n) := (hXB.cell 6).trans rfl
    have HR := Lib.hid hrow
    have HV := Lib.hid hv
    have HM := Lib.hid hm
    have HKB := Lib.hid hkb
    have HSZ := Lib.hid hsz
    have HBB := Lib.hid hB
    have HBL := Lib.hid hblt
    have HNO := Lib.hid hno
    have hpl : pre.length ≤ 100000 := by have := HLN.out; omega
    obtain ⟨D, hD⟩ : ∃ D, decide ((pre.length : Int) + 1 = most) = D := ⟨_, rfl⟩
    have HD := Lib.hid hD
    clear hrow hv hm hkb hsz hB hX hXB hr hblt hno hD
    gi_wp2_with (gi_at_builtin; refine wpListIn_append_own _ rfl _ _ 22 rfl w1.heap.size 36 i0 (.agg It.zero.c.toArray) 7 56 Try.underlying22 HI.out HZ0.out HZ1.out HZ2.out rfl (by omega) _ _ _ rfl (HR.out.alloc _) ⟨W.heap.size, 0, none⟩ 1 1 [.int .i64 (x).k.T, .int .i64 (x).k.O, .int .i64 (x).k.S, .int .i64 (x).p, .int .i64 (x).q, .int .i64 (x).d, .int .i64 (x).n] rfl rfl (cells_last _ _ _) (It.c_one x) (by simp only [maxLen]; omega) (by omega) (by have := HSZ.out; simp; omega) ?_; intro v' w4 hown' hgrow _; obtain ⟨g', cap', rfl⟩ := ownsRow_succ hown'; obtain ⟨hv1, hv2, hr2, hk2, hb2⟩ := HV.out.appended (n₀ := 0) (by decide) (ownsRow_low HR.out) (Nat.zero_le _) (Nat.zero_le _) (ownsRow_low hown') hgrow; have hc1 := hv1.cell; have hf1 := hv1.frozen; have hm4 : Boxed w4 w.heap.size 3 (.int .i64 most) := (HM.out.alloc _).kept hgrow (fun e => by have := own_block HR.out _ e; have := N1.out.size; have := HB1.out; omega); have hcm4 := hm4.cell; have HOW := Lib.hid hown'; have HG := Lib.hid hgrow; have HV2 := Lib.hid hv2; have HK2 := Lib.hid hk2; have HM4 := Lib.hid hm4; have HV1 := Lib.hid hv1; clear hown' hgrow hv1 hv2 hr2 hk2 hb2 hm4)
    all_goals
      have hb0 : b < W.heap.size := HBL.out
      have hne : b ≠ w.heap.size + 1 := by have := HB1.out; omega
      have hrow0 : ∀ y, some y = v.ownBlock → w1.heap.size ≤ y := fun y hy => own_block HR.out y hy
      have hbw : (w4.setCell ⟨w.heap.size + 1, 0, none⟩ (.slice (some ⟨g', 0, none⟩) (pre.length + 1) cap')).heap[b]? = W.heap[b]? :=
        (Below.heap_setCell _ _ _ _ hne).trans ((HG.out.block b (by simp; omega) (fun e => by have := hrow0 b e; have := HB1.out; omega)).trans (Below.heap_alloc _ _ _ hb0))
      have hs4 := HG.out.size
      simp only [World.size_alloc] at hs4
      have hss : (w4.setCell ⟨w.heap.size + 1, 0, none⟩ (.slice (some ⟨g', 0, none⟩) (pre.length + 1) cap')).heap.size = w4.heap.size := by simp [World.setCell]
      have hlen : (pre ++ [x]).length = pre.length + 1 := by simp
      have hstate : ((∃ v, Boxed (w4.setCell ⟨w.heap.size + 1, 0, none⟩ (.slice (some ⟨g', 0, none⟩) (pre.length + 1) cap')) (w.heap.size + 1) 22 v ∧ (w4.setCell ⟨w.heap.size + 1, 0, none⟩ (.slice (some ⟨g', 0, none⟩) (pre.length + 1) cap')).ownsRow w1.heap.size 36 7 v (pre ++ [x]).length (rowsI (pre ++ [x])) ∧ True) ∧ Boxed (w4.setCell ⟨w.heap.size + 1, 0, none⟩ (.slice (some ⟨g', 0, none⟩) (pre.length + 1) cap')) w.heap.size 3 (.int .i64 most)) ∧ (Kb b w1 (w4.setCell ⟨w.heap.size + 1, 0, none⟩ (.slice (some ⟨g', 0, none⟩) (pre.length + 1) cap')) ∧ w1.heap.size ≤ (w4.setCell ⟨w.heap.size + 1, 0, none⟩ (.slice (some ⟨g', 0, none⟩) (pre.length + 1) cap')).heap.size) ∧ Below w.heap.size w (w4.setCell ⟨w.heap.size + 1, 0, none⟩ (.slice (some ⟨g', 0, none⟩) (pre.length + 1) cap')) := by
        refine ⟨⟨⟨_, HV2.out, ?_, trivial⟩, ?_⟩, ⟨hbw.trans HKB.out, ?_⟩, ?_⟩
        · rw [hlen, rowsI_append, rowsI_one]
          exact HOW.out.kept (grownBy_setCell' w4 (w.heap.size + 1) _) (.inr (HV1.out.not_row (by decide) HOW.out).symm)
        · exact (HM4.out).other (by omega) _
        · rw [hss]; have := HSZ.out; omega
        · exact ((HBB.out.alloc HBB.out.size _).grown HG.out (by have := HBB.out.size; simp; omega) (fun j e => by have := hrow0 j e.symm; have := N1.out.size; omega)).setCell (p := ⟨w.heap.size + 1, 0, none⟩) (by simp) _
    · rename_i heq
      refine ⟨HK2.out.from _, ⟨rfl, ?_, by simp⟩, hstate⟩
      rw [hlen]; push_cast; simpa using heq
    · rename_i heq
      refine ⟨HK2.out.from _, hbw, ?_, hstate⟩
      intro q h1 h2
      rw [hlen] at h2
      by_cases hq : q = pre.length + 1
      · rw [hq]; push_cast
        intro h3
        exact absurd h3 (by simpa using heq)
      · exact HNO.out q h1 (by omega)
  case done =>
    rintro D ys W hD rfl ⟨hno, ⟨⟨v, hv, hrow, _⟩, hm⟩, ⟨hkb, hsz⟩, hB⟩ hK
    have hc0 := hv.cell
    gi_wp2
    refine ⟨by simp, .inl ⟨_, _, rfl, run_takeDeferred hK, ?_⟩⟩
    refine ⟨_, results_tmp2 rfl _ _ _, v, ys, rfl, HP.out.1, HP.out.2, ?_, ?_⟩
    · rw [kN_none hno, List.take_length]
      have h0 := ownsRow_putObj hrow (.deferred none) hK rfl
      refine ⟨h0.1, ?_⟩
      rcases h0.2 with h | ⟨g, cap, cur, a, b, c⟩
      · exact .inl h
      · exact .inr ⟨g, cap, cur, a, Nat.le_trans N1.out.size b, c⟩
    · exact hB.trans (belowK_b (w := w) (Nat.le_refl _) W D _ _ (by have := N1.out.size; omega) hK rfl rfl)
  case stop =>
    rintro D c pre W hD hpre ⟨⟨rfl, hmost, hpos⟩, ⟨⟨v, hv, hrow, _⟩, hm⟩, ⟨hkb, hsz⟩, hB⟩ hK
    have hc0 := hv.cell
    have hkn : kN most L.length = pre.length := kN_hit hmost hpre.length_le hpos
    have htk : L.take pre.length = pre := (List.prefix_iff_eq_take.1 hpre).symm
    gi_wp2
    refine ⟨by simp, .inl ⟨_, _, rfl, run_takeDeferred hK, ?_⟩⟩
    refine ⟨_, results_tmp2 rfl _ _ _, v, L, rfl, HP.out.1, HP.out.2, ?_, ?_⟩
    · rw [hkn, htk]
      have h0 := ownsRow_putObj hrow (.deferred none) hK rfl
      refine ⟨h0.1, ?_⟩
      rcases h0.2 with h | ⟨g, cap, cur, a, b, c⟩
      · exact .inl h
      · exact .inr ⟨g, cap, cur, a, Nat.le_trans N1.out.size b, c⟩
    · exact hB.trans (belowK_b (w := w) (Nat.le_refl _) W D _ _ (by have := N1.out.size; omega) hK rfl rfl)
end Go.Proofs.Ytghmldfllieonaa
