/- The law's do: what is listed. Helper. -/
import Derived.Test.YtghmldfllieonaaHeapBox
import Derived.StillTailTactics
import Derived.BigQuiet
namespace Go.Proofs.Ytghmldfllieonaa
open Go.RowKit
set_option linter.unusedVariables false
set_option linter.unusedSimpArgs false
set_option maxRecDepth 100000
set_option maxHeartbeats 6400000
theorem rd_take {w : World} {A : Option Addr} {zs : List Value} (h : Rd w A zs) (k : Nat) : Rd w A (zs.take (k * 7)) := by
  rcases h with h | ⟨b, o, e, h⟩
  · exact .inl (by rw [h]; simp)
  · refine .inr ⟨b, o, e, fun j u hu => ?_⟩
    rw [List.getElem?_take] at hu
    split at hu
    · exact h j u hu
    · cases hu
theorem do_6 (w W : World) (gB gR : Nat) (L : List It) (x : It) (n : Int) (h : BothH w W gB gR L) (hx : WOk x) (hl : L.length ≤ 1000) : Calls Try.prog 19 #[.pointer (some ⟨gB, 0, none⟩), .pointer (some ⟨gR, 0, none⟩), .agg #[.int .i64 6, .int .i64 x.k.T, .int .i64 x.k.O, .int .i64 x.k.S, .int .i64 x.p, .int .i64 x.q, .int .i64 x.d, .int .i64 x.n, .int .i64 n]] W fun r w' => r = .returned (.bool true) ∧ ∃ L', L'.length ≤ L.length + 1 ∧ BothH w w' gB gR L' := by
  have HL := Lib.hid hl
  have HWX := Lib.hid hx
  obtain ⟨gA, hgA⟩ : ∃ gA, W.heap.size = gA := ⟨_, rfl⟩
  obtain ⟨wA, hwA⟩ : ∃ wA, W.alloc (.cells #[.int .i64 6, .int .i64 x.k.T, .int .i64 x.k.O, .int .i64 x.k.S, .int .i64 x.p, .int .i64 x.q, .int .i64 x.d, .int .i64 x.n, .int .i64 n] 49) = wA := ⟨_, rfl⟩
  have hb := h.boxed 49 #[.int .i64 6, .int .i64 x.k.T, .int .i64 x.k.O, .int .i64 x.k.S, .int .i64 x.p, .int .i64 x.q, .int .i64 x.d, .int .i64 x.n, .int .i64 n]
  rw [hwA, hgA] at hb
  have HW := Lib.hid (And.intro hgA hwA)
  have HB := Lib.hid hb
  have hbk := hb.blk
  have a0 : wA.cell? ⟨gA, 0, none⟩ = some (.int .i64 6) := (hbk.cell 0).trans rfl
  have a1 : wA.cell? ⟨gA, 1, none⟩ = some (.int .i64 x.k.T) := (hbk.cell 1).trans rfl
  have a2 : wA.cell? ⟨gA, 2, none⟩ = some (.int .i64 x.k.O) := (hbk.cell 2).trans rfl
  have a3 : wA.cell? ⟨gA, 3, none⟩ = some (.int .i64 x.k.S) := (hbk.cell 3).trans rfl
  have a4 : wA.cell? ⟨gA, 4, none⟩ = some (.int .i64 x.p) := (hbk.cell 4).trans rfl
  have a5 : wA.cell? ⟨gA, 5, none⟩ = some (.int .i64 x.q) := (hbk.cell 5).trans rfl
  have a6 : wA.cell? ⟨gA, 6, none⟩ = some (.int .i64 x.d) := (hbk.cell 6).trans rfl
  have a7 : wA.cell? ⟨gA, 7, none⟩ = some (.int .i64 x.n) := (hbk.cell 7).trans rfl
  have a8 : wA.cell? ⟨gA, 8, none⟩ = some (.int .i64 n) := (hbk.cell 8).trans rfl
  clear h hl hx hb hbk hgA hwA
  go_enter Try.func19, Try.ntmps19
  go_upto_region 1 with (fail)
  rw [HW.out.2, HW.out.1]
  obtain ⟨k, hk⟩ : ∃ k, kN n L.length = k := ⟨_, rfl⟩
  have hkl : k ≤ L.length := by rw [← hk]; unfold kN; split <;> omega
  have kl := list_mine w wA gB gR L n HB.out.both (by have := HL.out; omega)
  rw [hk] at kl
  have KL := Lib.hid kl
  obtain ⟨q, hq⟩ : ∃ q, L.length = q := ⟨_, rfl⟩
  have HQ := Lib.hid (And.intro hq hk)
  have HKL := Lib.hid hkl
  have HBK := Lib.hid HB.out.blk
  clear kl hk hkl
  go_wp2_with fail
  refine KL.out.mono ?_
  rintro r w2 ⟨A, c, rfl, hr, h2, hn⟩
  obtain ⟨A2, c2, hc2, hr2, hlc⟩ := refs_list w w2 gB gR L h2
  rw [hq] at hc2 hlc
  have HR := Lib.hid (And.intro hr hr2)
  have H2 := Lib.hid h2
  have hb2 := HBK.out.below hn HBK.out.lt
  clear hr hr2 h2 hn HB a0 a1 a2 a3 a4 a5 a6 a7 a8 hq
  have a8 : w2.cell? ⟨gA, 8, none⟩ = some (.int .i64 n) := (hb2.cell 8).trans rfl
  clear hb2
  by_cases hp : 0 < n ∧ n < (q : Int)
  · obtain ⟨m, rfl⟩ : ∃ m : Nat, n = (m : Int) := ⟨n.toNat, by omega⟩
    have hkm : k = m := by have := HQ.out; rw [← this.2, this.1]; unfold kN; rw [if_pos hp]; simp
    subst hkm
    have p1 := hp.1
    have p2 := hp.2
    have d1 : decide ((0 : Int) < (k : Int)) = true := decide_eq_true p1
    have d2 : decide ((k : Int) < (q : Int)) = true := decide_eq_true p2
    have kc : (k : Int) ≤ (c2 : Int) := by omega
    have ks := fun W2 (hW : Nw w2 W2) => refSame_any A A2 c c2 (L.take k) (L.take k) W2 (HR.out.1.nw hW) (by have := HR.out.2; rw [← rowsI_take]; exact (rd_take this k).nw hW) (by rw [List.length_take]; have := HL.out; omega) (by rw [List.length_take]; have := HL.out; omega)
    rw [show (L.take k).length = k by rw [List.length_take]; have := HQ.out.1; omega] at ks
    have KS := Lib.hid ks
    clear ks hp
    go_wp2_with fail
    refine (KS.out _ (by first | exact Nw.refl _ | exact (Nw.refl _).drew)).mono ?_
    rintro r w3 ⟨rfl, h3⟩
    have H3 := Lib.hid (H2.out.step h3)
    clear h3
    go_wp2_with fail
    go_ret
    exact ⟨by simp, L, by omega, H3.out⟩
  · have hkm : k = q := by have := HQ.out; rw [← this.2, this.1]; unfold kN; rw [if_neg hp]
    subst hkm
    have ks := fun W2 (hW : Nw w2 W2) => refSame_any A A2 c c2 L L W2 (by have := HR.out.1; rw [List.take_of_length_le (by have := HQ.out.1; omega)] at this; exact this.nw hW) (HR.out.2.nw hW) (by have := HL.out; omega) (by have := HL.out; omega)
    rw [HQ.out.1] at ks
    have KS := Lib.hid ks
    clear ks
    by_cases p1 : 0 < n
    · have p2 : ¬ n < (k : Int) := fun q => hp ⟨p1, q⟩
      have d1 : decide ((0 : Int) < n) = true := decide_eq_true p1
      have d2 : decide (n < (k : Int)) = false := decide_eq_false p2
      clear hp
      go_wp2_with fail
      refine (KS.out _ (by first | exact Nw.refl _ | exact (Nw.refl _).drew)).mono ?_
      rintro r w3 ⟨rfl, h3⟩
      have H3 := Lib.hid (H2.out.step h3)
      clear h3
      go_wp2_with fail
      go_ret
      exact ⟨by simp, L, by omega, H3.out⟩
    · have d1 : decide ((0 : Int) < n) = false := decide_eq_false p1
      clear hp
      go_wp2_with fail
      refine (KS.out _ (by first | exact Nw.refl _ | exact (Nw.refl _).drew)).mono ?_
      rintro r w3 ⟨rfl, h3⟩
      have H3 := Lib.hid (H2.out.step h3)
      clear h3
      go_wp2_with fail
      go_ret
      exact ⟨by simp, L, by omega, H3.out⟩
end Go.Proofs.Ytghmldfllieonaa
