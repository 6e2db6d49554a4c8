/- Pools: All, what it goes over. Helper. -/
import Derived.RangeFuncNested
import Derived.RangeFuncBound
import Derived.RangeFuncCalls
import Derived.RangeFuncLeaves
import Derived.RangeFuncFrom
import Derived.RangeFuncBox
import Derived.Shelf.Abstract
import Derived.Shelf.RegionOpen
import Derived.OwnWalkIn
import Derived.TacticsInMore
import Derived.LoopIn
import Derived.Lib.SliceRun
import Derived.Test.YtjlcjlheebphcaaPoolTake
namespace Go.Proofs.Ytjlcjlheebphcaa
open Go.RowKit Go.Shelf
set_option linter.unusedVariables false
set_option linter.unusedSimpArgs false
/-- A slice that a pool's messages were copied into. -/
def Cloned (w w' : World) (L : List Int) (v : Value) : Prop :=
  ∃ b off c, v = .slice (some ⟨b, off, none⟩) L.length c ∧ w.heap.size ≤ b ∧ Nw w w' ∧ ∀ i (h : i < L.length) j, j < 10 → w'.cell? ⟨b, off + i * 10 + j, none⟩ = (msgC L[i])[j]?
section
variable (L : List Int) (w : World)
set_option maxRecDepth 100000
set_option maxHeartbeats 1600000
theorem clone_any (v : Value) (blk : Option Nat) (h : Own w 33 10 v L.length (cellsL L) blk) (h1 : 1 ≤ L.length) (hl : L.length ≤ 1000000) :
    Calls Try.prog 13 #[v] w fun e w' => ∃ u, e = .returned u ∧ Cloned w w' L u := by
  obtain ⟨A, c, rfl, ha, hc, hm⟩ := h.rd
  obtain ⟨i0, hi0, hz0, hz1, hz2⟩ := info_parts infoMsg
  have HL1 := Lib.hid hi0
  have HL2 := Lib.hid hz0
  have HL3 := Lib.hid hz1
  have HL4 := Lib.hid hz2
  clear hi0 hz0 hz1 hz2
  obtain ⟨b, off, rfl, hb, _⟩ := ha.get (k := 0) (by rw [cellsL_length]; omega)
  have hn := fun w => Lib.run_eql_slice_nil (P := Try.prog) w 38 33 (some ⟨b, off, none⟩) L.length c 0 0 Try.underlying38
  have HA := Lib.hid ha
  have HLEN := Lib.hid (cellsL_length L)
  obtain ⟨n, hnn⟩ : ∃ n, L.length = n := ⟨_, rfl⟩
  have HN := Lib.hid hnn
  rw [hnn] at hl hn HLEN h1 ⊢
  clear ha hnn hc hm h
  go_enter Try.func13, Try.ntmps13
  go_wp2_with (at_builtin; refine wpList_append_at _ rfl _ _ _ rfl 33 i0 _ 10 72 Try.underlying38 HL1.out HL2.out HL3.out HL4.out rfl (by omega) _ 0 [] none rfl ⟨by simp, _, 0, rfl, Nat.le_refl _, Nat.zero_le _, .inl ⟨rfl, rfl⟩⟩ _ n c (cellsL L) rfl HLEN.out (Rd.below HA.out ((Below.refl w.heap.size w).alloc (Nat.le_refl _) _) (Nat.le_refl _)) (cellsL_mem L) (by simp only [maxLen]; omega) (by omega) ?_; intro A' c' w1 blk2 hown hchg hat; simp only [Nat.zero_add, List.nil_append] at hown)
  go_ret
  obtain ⟨A2, c2, e2, hr2, _, _⟩ := hown.rd
  injection e2 with e21 _ e23
  subst e21 e23
  have hcell := hr2.get (k := 0) (by rw [HLEN.out]; omega)
  obtain ⟨b2, off2, rfl, hb2, hc2⟩ := hcell
  refine ⟨.slice (some ⟨b2, off2, none⟩) n c', rfl, b2, off2, c', by rw [HN.out], ?_, ?_, ?_⟩
  · obtain ⟨_, A3, c3, e3, _, _, h3 | ⟨g3, o3, cur3, e4, e5, _⟩⟩ := hown
    · injection e3 with _ _ e3
      have := h3.1
      subst e3 this
      omega
    · injection e3 with e3
      rw [e4] at e3
      injection e3 with e3
      injection e3 with e3
      rcases hat with h | h
      · rw [h] at e5; cases e5
      · rw [h] at e5; injection e5 with e5; simp at e5; omega
  · exact ((Below.refl w.heap.size w).alloc (Nat.le_refl _) _).trans (hchg.below (fun i _ h => by cases h) (by simp))
  · intro i hi j hj
    rw [Nat.add_assoc, ← cellsL_get L i hi j hj]
    have hlen : i * 10 + j < (cellsL L).length := by rw [cellsL_length]; omega
    rw [List.getElem?_eq_getElem hlen]
    exact hc2 _ _ (List.getElem?_eq_getElem hlen)
theorem all_any (g : Nat) (k : Int) (blk : Option Nat) (h : PoolAt w g L k blk) (h1 : 1 ≤ L.length) (hl : L.length ≤ 1000000) :
    Calls Try.prog 12 #[.pointer (some ⟨g, 0, none⟩)] w fun e w' => ∃ B u, e = .returned (.func (.func 14) #[] #[.pointer (some ⟨B, 0, none⟩)]) ∧ w'.cell? ⟨B, 0, none⟩ = some u ∧ w.heap.size ≤ B ∧ Cloned w w' L u := by
  obtain ⟨v, hb, ho⟩ := h
  have c0 : w.cell? ⟨g, 0, none⟩ = some v := (hb.cell 0).trans rfl
  have hlt := hb.lt
  obtain ⟨A, c, rfl, _, _, _⟩ := ho.rd
  have K := Lib.hid (clone_any L (w.alloc (.cells #[.slice none 0 0] 38)) (.slice A L.length c) blk (ho.kept fun g' hg => Below.heap_alloc _ _ _ (ho.lt g' hg)) h1 hl)
  clear hb ho h1 hl
  go_enter Try.func12, Try.ntmps12
  go_wp2_with fail
  refine K.out.mono ?_
  rintro e w1 ⟨u, rfl, b, off, cc, rfl, hb1, hN, hc⟩
  have hbx : Boxed w1 w.heap.size 38 (.slice none 0 0) := (hN.block w.heap.size (by simp)).trans (Boxed.new w _ _)
  have hbc := hbx.cell
  have hbf := hbx.frozen
  have HBX := Lib.hid hbx
  have HN := Lib.hid hN
  have HC := Lib.hid hc
  have hb2 : w.heap.size + 1 ≤ b := by simpa using hb1
  have HB2 := Lib.hid hb2
  clear hb1 hb2 hN hc K hbx c0 hlt
  go_wp2_with fail
  go_ret
  refine ⟨w.heap.size, _, rfl, (HBX.out.set _).cell, Nat.le_refl _, b, off, cc, rfl, by have := HB2.out; omega, ?_, ?_⟩
  · exact Nw.set (((Nw.refl w).alloc _).step HN.out) (Nat.le_refl _) _
  · intro i hi j hj
    rw [← HC.out i hi j hj]
    exact World.cell?_setCell_far _ _ _ _ (by have := HB2.out; show w.heap.size ≠ b; omega)
end
attribute [local go_sem] Oper.semAt_some
/-- A block that lies as it lay. -/
def Kb (b : Nat) (W W' : World) : Prop := W'.heap[b]? = W.heap[b]?
theorem Kb.cell {b : Nat} {W W' : World} (h : Kb b W W') (o : Nat) : W'.cell? ⟨b, o, none⟩ = W.cell? ⟨b, o, none⟩ := by
  unfold Kb at h
  simp only [World.cell?, h]
section
set_option maxRecDepth 100000
set_option maxHeartbeats 4000000
theorem all1_in (F : Fence) (n : Nat) (hf : F.fn 14) (hro : F.round = none) (hn : 1 ≤ n) (l Bs b off c : Nat) (L : List Int) (hl : L.length ≤ 1000000) (J Jx : List Int → World → Prop) (hJK : ∀ pre W o, J pre W → J pre (W.alloc o)) 
    (hY : ∀ pre x W, J pre W → pre.length < L.length → YieldAt F (n - 1) Try.prog l #[.agg (msgC x).toArray] W fun e W' =>
      (e = .returned (.bool true) ∧ J (pre ++ [x]) W' ∧ Kb b W W') ∨ (e = .returned (.bool false) ∧ Jx (pre ++ [x]) W'))
    (W : World) (hBs : W.cell? ⟨Bs, 0, none⟩ = some (.slice (some ⟨b, off, none⟩) L.length c)) (hc : ∀ i (h : i < L.length) j, j < 10 → W.cell? ⟨b, off + i * 10 + j, none⟩ = (msgC L[i])[j]?) (h0 : J [] W) :
    CallsIn F n Try.prog 14 #[.func (.yield l) #[] #[], .pointer (some ⟨Bs, 0, none⟩)] W fun e W' => (∃ v, e = .returned v) ∧
      ((∃ ys, ys = L ∧ J ys W') ∨ (∃ pre, pre <+: L ∧ Jx pre W')) := by
  obtain ⟨m, hm⟩ : ∃ m, L.length = m := ⟨_, rfl⟩
  have HM := Lib.hid hm
  rw [hm] at hBs hl
  have HY := Lib.hid hY
  have HC := Lib.hid hc
  clear hY hc hm
  refine callsIn_of_wp Try.func14 rfl hf ?_ hro
  simp only [Try.ntmps14, List.size_toArray, List.length_cons, List.length_nil, Nat.reduceAdd, Nat.reduceSub, Array.replicate_succ, Array.replicate_zero, List.push_toArray, List.append_toArray, List.nil_append, List.cons_append]
  gi_wp2
  gi_loopw [7] (fun i wr => ∃ k : Nat, k ≤ m ∧ i = .int .i64 k ∧ J (L.take k) wr ∧ Kb b W wr) (fun i _ => m - (intOf i).toNat)
  case atStart => exact ⟨0, Nat.zero_le _, rfl, by simpa using h0, rfl⟩
  case round =>
    obtain ⟨k, hk, rfl, hJs, hnx⟩ := hrel
    by_cases hlt : k < m
    · have hkL : k < L.length := by rw [HM.out]; exact hlt
      obtain ⟨x, hx⟩ : ∃ x, L[k] = x := ⟨_, rfl⟩
      have hxc : ∀ j, j < 10 → wr.cell? ⟨b, off + k * 10 + j, none⟩ = (msgC x)[j]? := fun j hj => (hnx.cell _).trans ((HC.out k hkL j hj).trans (by rw [hx]))
      have k0 : wr.cell? ⟨b, off + k * 10, none⟩ = some (.int .i64 0) := hxc 0 (by omega)
      have k1 : wr.cell? ⟨b, off + k * 10 + 1, none⟩ = some (.int .i64 0) := hxc 1 (by omega)
      have k2 : wr.cell? ⟨b, off + k * 10 + 2, none⟩ = some (.int .i64 0) := hxc 2 (by omega)
      have k3 : wr.cell? ⟨b, off + k * 10 + 3, none⟩ = some (.int .i64 0) := hxc 3 (by omega)
      have k4 : wr.cell? ⟨b, off + k * 10 + 4, none⟩ = some (.int .i64 0) := hxc 4 (by omega)
      have k5 : wr.cell? ⟨b, off + k * 10 + 5, none⟩ = some (.int .i64 0) := hxc 5 (by omega)
      have k6 : wr.cell? ⟨b, off + k * 10 + 6, none⟩ = some (.int .i64 x) := hxc 6 (by omega)
      have k7 : wr.cell? ⟨b, off + k * 10 + 7, none⟩ = some (.bool false) := hxc 7 (by omega)
      have k8 : wr.cell? ⟨b, off + k * 10 + 8, none⟩ = some (.bool false) := hxc 8 (by omega)
      have k9 : wr.cell? ⟨b, off + k * 10 + 9, none⟩ = some (.int .i64 0) := hxc 9 (by omega)
      have hJ2 := hJK _ _ (.cells #[.int .i64 0, .int .i64 0, .int .i64 0, .int .i64 0, .int .i64 0, .int .i64 0, .int .i64 x, .bool false, .bool false, .int .i64 0] 33) hJs
      obtain ⟨fn, tmps, assign, body, hy, hR⟩ := HY.out _ x _ hJ2 (by rw [List.length_take, HM.out]; omega)
      have he : msgC x = [.int .i64 0, .int .i64 0, .int .i64 0, .int .i64 0, .int .i64 0, .int .i64 0, .int .i64 x, .bool false, .bool false, .int .i64 0] := rfl
      rw [he] at hy
      have hlb : b < wr.heap.size := World.block_lt_of_cell? wr _ k0
      have HX := Lib.hid hx
      have HNX := Lib.hid hnx
      have HLB := Lib.hid hlb
      clear hlb hnx hxc he hx
      gi_wp2
      refine hR.mono ?_
      rintro e W3 (⟨rfl, hJ3, hk3⟩ | ⟨rfl, hJx3⟩)
      · gi_wp2
        go_roundw
        case rel => exact ⟨k + 1, by omega, by simp, by rw [List.take_succ_eq_append_getElem hkL, HX.out]; exact hJ3, hk3.trans ((Below.heap_alloc _ _ _ HLB.out).trans HNX.out)⟩
        case measure => simp [intOf]; omega
      · gi_wp2
        refine bodyPost_ret (results_none rfl _ _ _) rfl ?_
        exact ⟨⟨_, rfl⟩, .inr ⟨L.take (k + 1), List.take_prefix _ _, by rw [List.take_succ_eq_append_getElem hkL, HX.out]; exact hJx3⟩⟩
    · obtain rfl : k = m := by omega
      gi_wp2
      go_end0
      exact ⟨⟨_, rfl⟩, .inl ⟨L, rfl, by rw [← HM.out, List.take_length] at hJs; exact hJs⟩⟩
theorem all_stops (F : Fence) (n : Nat) (hf : F.fn 14) (hro : F.round = none) (hn : 1 ≤ n) (Bs b off c : Nat) (L : List Int) (hl : L.length ≤ 1000000) (w : World) (hBs : w.cell? ⟨Bs, 0, none⟩ = some (.slice (some ⟨b, off, none⟩) L.length c))
    (hc : ∀ i (h : i < L.length) j, j < 10 → w.cell? ⟨b, off + i * 10 + j, none⟩ = (msgC L[i])[j]?) (hB : Bs < w.heap.size) (hb : b < w.heap.size) :
    SeqStopsK F n Try.prog 14 #[.pointer (some ⟨Bs, 0, none⟩)] (fun x : Int => #[Value.agg (msgC x).toArray]) (Kb b) (fun ys => ys = L) (fun pre => pre <+: L) L.length w := fun l J Jx W hW hJ _ hY h0 =>
  all1_in F n hf hro hn l Bs b off c L hl J Jx (fun pre W' o hp => hJ pre W' _ none hp (World.grownBy_alloc W' o none) (fun r e => by cases e)) hY W ((hW.cell (p := ⟨Bs, 0, none⟩) hB).trans hBs) (fun i h j hj => (hW.cell (p := ⟨b, off + i * 10 + j, none⟩) hb).trans (hc i h j hj)) h0
end
end Go.Proofs.Ytjlcjlheebphcaa
