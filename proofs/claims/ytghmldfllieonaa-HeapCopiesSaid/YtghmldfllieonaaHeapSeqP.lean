/- All's iterator: what comes is of the list. Helper. -/
import Derived.Test.YtghmldfllieonaaHeapSeq
namespace Go.Proofs.Ytghmldfllieonaa
open Go.RowKit Go.Shelf
set_option linter.unusedVariables false
set_option linter.unusedSimpArgs false
attribute [local go_sem] Oper.semAt_some
section
set_option maxRecDepth 100000
set_option maxHeartbeats 4000000
theorem all1_inP (F : Fence) (n : Nat) (hf : F.fn 48) (hro : F.round = none) (hn : 1 ≤ n) (l Bs b off c : Nat) (A : Option Addr) (L : List It) (hl : L.length ≤ 1000000) (J Jx : List It → World → Prop) (hJK : ∀ pre W o, J pre W → J pre (W.alloc o))
    (hY : ∀ pre x W, J pre W → pre ++ [x] <+: L → YieldAt F (n - 1) Try.prog l #[.agg x.c.toArray] W fun e W' =>
      (e = .returned (.bool true) ∧ J (pre ++ [x]) W' ∧ Kb b W W') ∨ (e = .returned (.bool false) ∧ Jx (pre ++ [x]) W'))
    (W : World) (hBs : W.cell? ⟨Bs, 0, none⟩ = some (.slice A L.length c)) (hA : 0 < L.length → A = some ⟨b, off, none⟩) (hc : ∀ i, i < L.length → ∀ j, j < 7 → W.cell? ⟨b, off + i * 7 + j, none⟩ = (g L i).c[j]?) (h0 : J [] W) :
    CallsIn F n Try.prog 48 #[.func (.yield l) #[] #[], .pointer (some ⟨Bs, 0, none⟩)] W fun e W' => (∃ v, e = .returned v) ∧
      ((∃ ys, ys = L ∧ J ys W') ∨ (∃ pre, pre <+: L ∧ Jx pre W')) := by
  obtain ⟨m, hm⟩ : ∃ m, L.length = m := ⟨_, rfl⟩
  have HM := Lib.hid hm
  rw [hm] at hBs hl hA
  have HY := Lib.hid hY
  have HC := Lib.hid hc
  have HA := Lib.hid hA
  clear hY hc hm hA
  refine callsIn_of_wp Try.func48 rfl hf ?_ hro
  simp only [Try.ntmps48, List.size_toArray, List.length_cons, List.length_nil, Nat.reduceAdd, Nat.reduceSub, Array.replicate_succ, Array.replicate_zero, List.push_toArray, List.append_toArray, List.nil_append, List.cons_append]
  gi_wp2
  gi_loopw [7] (fun i wr => ∃ k : Nat, k ≤ m ∧ i = .int .i64 k ∧ J (L.take k) wr ∧ Kb b W wr) (fun i _ => m - (intOf i).toNat)
  case atStart => exact ⟨0, Nat.zero_le _, rfl, by simpa using h0, rfl⟩
  case round =>
    obtain ⟨k, hk, rfl, hJs, hnx⟩ := hrel
    by_cases hlt : k < m
    · have hkL : k < L.length := by rw [HM.out]; exact hlt
      obtain rfl := HA.out (by omega)
      obtain ⟨x, hx⟩ : ∃ x, g L k = x := ⟨_, rfl⟩
      have hxc : ∀ j, j < 7 → wr.cell? ⟨b, off + k * 7 + j, none⟩ = x.c[j]? := fun j hj => (hnx.cell _).trans ((HC.out k hkL j hj).trans (by rw [hx]))
      have k0 : wr.cell? ⟨b, off + k * 7, none⟩ = some (.int .i64 (x).k.T) := hxc 0 (by omega)
      have k1 : wr.cell? ⟨b, off + k * 7 + 1, none⟩ = some (.int .i64 (x).k.O) := hxc 1 (by omega)
      have k2 : wr.cell? ⟨b, off + k * 7 + 2, none⟩ = some (.int .i64 (x).k.S) := hxc 2 (by omega)
      have k3 : wr.cell? ⟨b, off + k * 7 + 3, none⟩ = some (.int .i64 (x).p) := hxc 3 (by omega)
      have k4 : wr.cell? ⟨b, off + k * 7 + 4, none⟩ = some (.int .i64 (x).q) := hxc 4 (by omega)
      have k5 : wr.cell? ⟨b, off + k * 7 + 5, none⟩ = some (.int .i64 (x).d) := hxc 5 (by omega)
      have k6 : wr.cell? ⟨b, off + k * 7 + 6, none⟩ = some (.int .i64 (x).n) := hxc 6 (by omega)
      have hJ2 := hJK _ _ (.cells #[.int .i64 (x).k.T, .int .i64 (x).k.O, .int .i64 (x).k.S, .int .i64 (x).p, .int .i64 (x).q, .int .i64 (x).d, .int .i64 (x).n] 36) hJs
      obtain ⟨fn, tmps, assign, body, hy, hR⟩ := HY.out _ x _ hJ2 (by rw [← hx, g_get L k hkL, ← List.take_succ_eq_append_getElem hkL]; exact List.take_prefix _ _)
      have he : x.c = [.int .i64 (x).k.T, .int .i64 (x).k.O, .int .i64 (x).k.S, .int .i64 (x).p, .int .i64 (x).q, .int .i64 (x).d, .int .i64 (x).n] := rfl
      rw [he] at hy
      have hlb : b < wr.heap.size := World.block_lt_of_cell? wr _ k0
      have HX := Lib.hid hx
      have HNX := Lib.hid hnx
      have HLB := Lib.hid hlb
      have hik : (k : Int) < (m : Int) := by omega
      clear hlb hnx hxc he hx
      gi_wp2
      refine hR.mono ?_
      rintro e W3 (⟨rfl, hJ3, hk3⟩ | ⟨rfl, hJx3⟩)
      · gi_wp2
        go_roundw
        case rel => exact ⟨k + 1, by omega, by simp, by rw [List.take_succ_eq_append_getElem hkL, ← g_get L k hkL, HX.out]; exact hJ3, hk3.trans ((Below.heap_alloc _ _ _ HLB.out).trans HNX.out)⟩
        case measure => simp [intOf]; omega
      · gi_wp2
        refine bodyPost_ret (results_none rfl _ _ _) rfl ?_
        exact ⟨⟨_, rfl⟩, .inr ⟨L.take (k + 1), List.take_prefix _ _, by rw [List.take_succ_eq_append_getElem hkL, ← g_get L k hkL, HX.out]; exact hJx3⟩⟩
    · obtain rfl : k = m := by omega
      have hik : ¬ (k : Int) < (k : Int) := by omega
      gi_wp2
      go_end0
      have hj : J L wr := by rw [← HM.out, List.take_length] at hJs; exact hJs
      first
      | exact ⟨⟨_, rfl⟩, .inl ⟨L, rfl, hj⟩⟩
      | exact ⟨⟨_, rfl⟩, .inl hj⟩
theorem all1_stopsP (F : Fence) (n : Nat) (hf : F.fn 48) (hro : F.round = none) (hn : 1 ≤ n) (Bs b off c : Nat) (A : Option Addr) (L : List It) (hl : L.length ≤ 1000000) (w : World) (hBs : w.cell? ⟨Bs, 0, none⟩ = some (.slice A L.length c)) (hA : 0 < L.length → A = some ⟨b, off, none⟩)
    (hc : ∀ i, i < L.length → ∀ j, j < 7 → w.cell? ⟨b, off + i * 7 + j, none⟩ = (g L i).c[j]?) (hB : Bs < w.heap.size) (hb : b < w.heap.size) :
    SeqStopsK F n Try.prog 48 #[.pointer (some ⟨Bs, 0, none⟩)] (fun x : {x : It // x ∈ L} => #[Value.agg x.1.c.toArray]) (Kb b) (fun ys => ys.map Subtype.val = L) (fun pre => pre.map Subtype.val <+: L) L.length w := fun l J Jx W hW hJ _ hY h0 => by
  refine (all1_inP F n hf hro hn l Bs b off c A L hl (fun pre W' => ∃ p : List {x : It // x ∈ L}, p.map Subtype.val = pre ∧ J p W') (fun pre W' => ∃ p : List {x : It // x ∈ L}, p.map Subtype.val = pre ∧ Jx p W')
    (fun pre W' o ⟨p, e, hp⟩ => ⟨p, e, hJ p W' _ none hp (World.grownBy_alloc W' o none) (fun r e => by cases e)⟩) ?_ W ((hW.cell (p := ⟨Bs, 0, none⟩) hB).trans hBs) hA (fun i h j hj => (hW.cell (p := ⟨b, off + i * 7 + j, none⟩) hb).trans (hc i h j hj)) ⟨[], rfl, h0⟩).mono ?_
  · rintro pre x W1 ⟨p, rfl, hp⟩ hpre
    have hx : x ∈ L := hpre.subset (by simp)
    have hlen := hpre.length_le
    obtain ⟨fn, tmps, assign, body, hy, hR⟩ := hY p ⟨x, hx⟩ W1 hp (by simp at hlen; omega)
    refine ⟨fn, tmps, assign, body, hy, hR.mono fun e W' h => ?_⟩
    rcases h with ⟨h1, h2, h3⟩ | ⟨h1, h2⟩
    · exact .inl ⟨h1, ⟨p ++ [⟨x, hx⟩], by simp, h2⟩, h3⟩
    · exact .inr ⟨h1, ⟨p ++ [⟨x, hx⟩], by simp, h2⟩⟩
  · rintro e W' ⟨h1, ⟨ys, rfl, p, h2, h3⟩ | ⟨pre, h2, p, rfl, h3⟩⟩
    · exact ⟨h1, .inl ⟨p, h2, h3⟩⟩
    · exact ⟨h1, .inr ⟨p, h2, h3⟩⟩
end
end Go.Proofs.Ytghmldfllieonaa
