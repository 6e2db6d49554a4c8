/- The law's do and same, joined; what is handed in, act by act. Helper. -/
import Derived.Test.YtghmldfllieonaaHeapDoA
import Derived.Test.YtghmldfllieonaaHeapDoB
import Derived.Test.YtghmldfllieonaaHeapDoC
import Derived.Test.YtghmldfllieonaaHeapDoD
import Derived.Test.YtghmldfllieonaaHeapDoE
import Derived.Test.YtghmldfllieonaaHeapTypes
import Derived.BigQuiet
namespace Go.Proofs.Ytghmldfllieonaa
open Go.RowKit
set_option linter.unusedVariables false
set_option linter.unusedSimpArgs false
set_option maxRecDepth 100000
set_option maxHeartbeats 6400000
theorem do_any (w W : World) (gB gR : Nat) (L : List It) (K : Int) (x : It) (n : Int) (h : BothH w W gB gR L) (hx : WOk x) (hl : L.length ≤ 1000) : Calls Try.prog 19 #[.pointer (some ⟨gB, 0, none⟩), .pointer (some ⟨gR, 0, none⟩), .agg #[.int .i64 K, .int .i64 x.k.T, .int .i64 x.k.O, .int .i64 x.k.S, .int .i64 x.p, .int .i64 x.q, .int .i64 x.d, .int .i64 x.n, .int .i64 n]] W fun r w' => r = .returned (.bool true) ∧ ∃ L', L'.length ≤ L.length + 1 ∧ BothH w w' gB gR L' := by
  by_cases h1 : K = 1
  · subst h1; exact do_1 w W gB gR L x n h hx hl
  by_cases h2 : K = 2
  · subst h2; exact do_2 w W gB gR L x n h hx hl
  by_cases h3 : K = 3
  · subst h3; exact do_3 w W gB gR L x n h hx hl
  by_cases h4 : K = 4
  · subst h4; exact do_4 w W gB gR L x n h hx hl
  by_cases h5 : K = 5
  · subst h5; exact do_5 w W gB gR L x n h hx hl
  by_cases h6 : K = 6
  · subst h6; exact do_6 w W gB gR L x n h hx hl
  · exact do_0 w W gB gR L x n K (fun j hj => by omega) h hx hl
theorem same_any (w W : World) (gB gR : Nat) (L : List It) (h : BothH w W gB gR L) (hl : L.length ≤ 1000) : Calls Try.prog 20 #[.pointer (some ⟨gB, 0, none⟩), .pointer (some ⟨gR, 0, none⟩)] W fun r w' => r = .returned (.bool true) ∧ BothH w w' gB gR L := by
  have kl := list_mine w W gB gR L 0 h (by omega)
  have e : kN 0 L.length = L.length := by unfold kN; simp
  rw [e, List.take_length] at kl
  obtain ⟨q, hq⟩ : ∃ q, L.length = q := ⟨_, rfl⟩
  rw [hq] at kl
  have KL := Lib.hid kl
  have HQ := Lib.hid (And.intro hq hl)
  clear kl hl e hq h
  go_enter Try.func20, Try.ntmps20
  go_wp2_with fail
  refine KL.out.mono ?_
  rintro r w2 ⟨A, c, rfl, hr, h2, hn⟩
  obtain ⟨A2, c2, hc2, hr2, hlc⟩ := refs_list w w2 gB gR L h2
  have ks := fun W2 (hW : Nw w2 W2) => refSame_any A A2 c c2 L L W2 (hr.nw hW) (hr2.nw hW) (by have := HQ.out; omega) (by have := HQ.out; omega)
  have kn := fun W2 (hW : Nw w2 W2) => len_mine w W2 gB gR L (h2.step hW)
  rw [HQ.out.1] at hc2 ks kn
  simp only [decide_true] at ks
  have KS := Lib.hid ks
  have KN := Lib.hid kn
  have H2 := Lib.hid h2
  have hss : ∀ W2, Nw w2 W2 → Nw w2 W2 ∧ W2.cell? ⟨gR, 0, none⟩ = some (.slice A2 q c2) := fun W2 h => ⟨h, h.cell hc2⟩
  have HSS := Lib.hid hss
  have hi0 := Nw.refl w2
  clear ks kn h2 hn hr hr2 hlc hss
  go_upto_region 2 with (fail)
  go_region_held3 (fun W2 => Nw w2 W2 ∧ W2.cell? ⟨gR, 0, none⟩ = some (.slice A2 q c2)) ((refine HSS.out _ ?_; repeat (first | assumption | exact Nw.refl w2 | refine Nw.drew ?_))) (first
    | (go_at_call 18; refine (KN.out _ (by repeat (first | assumption | exact Nw.refl w2 | refine Nw.drew ?_))).mono ?_; rintro r w4 ⟨rfl, rfl⟩)
    | (go_at_call 24; refine (KS.out _ (by repeat (first | assumption | exact Nw.refl w2 | refine Nw.drew ?_))).mono ?_; rintro r w5 ⟨rfl, b5⟩; have i5 : Nw w2 w5 := Nw.step (by repeat (first | assumption | exact Nw.refl w2 | refine Nw.drew ?_)) b5))
  case' _ => skip
  rename_i hH
  have H4 := Lib.hid (H2.out.step hH.1)
  clear hH
  go_wp2_with fail
  go_ret
  exact ⟨rfl, H4.out⟩
theorem aiAct : AllInt 49 := by
  have c3 : Try.prog.cellsOf 3 = 1 := by kernel_rfl
  have cI : Try.prog.cellsOf 36 = 7 := by kernel_rfl
  have cA : Try.prog.cellsOf 49 = 9 := by kernel_rfl
  refine @AllInt.struct _ _ Try.underlying49 ?_
  intro j hj
  rw [cA] at hj
  have : j = 0 ∨ (1 ≤ j ∧ j < 8) ∨ j = 8 := by omega
  rcases this with rfl | h | rfl
  · exact ⟨0, _, rfl, by decide, by show 0 < 0 + Try.prog.cellsOf 3; omega, aiInt⟩
  · exact ⟨1, _, rfl, h.1, by show j < 1 + Try.prog.cellsOf 36; omega, aiItem⟩
  · exact ⟨2, _, rfl, by decide, by show 8 < 8 + Try.prog.cellsOf 3; omega, aiInt⟩
/-- The act at k. -/
theorem act_at {w : World} {A : Option Addr} {zs : List (List Int)} (h : Rows w A 9 zs) (hw : ∀ r ∈ zs, ∀ z ∈ r, (Lit.int .i64 z).wf = true) {k : Nat} (hk : k < zs.length) : ∃ b off, A = some ⟨b, off, none⟩ ∧ ∃ (K : Int) (x : It) (n : Int), WOk x ∧ ∀ W, Nw w W → W.cell? ⟨b, off + k * 9, none⟩ = some (.int .i64 K) ∧ W.cell? ⟨b, off + k * 9 + 1, none⟩ = some (.int .i64 x.k.T) ∧ W.cell? ⟨b, off + k * 9 + 2, none⟩ = some (.int .i64 x.k.O) ∧ W.cell? ⟨b, off + k * 9 + 3, none⟩ = some (.int .i64 x.k.S) ∧ W.cell? ⟨b, off + k * 9 + 4, none⟩ = some (.int .i64 x.p) ∧ W.cell? ⟨b, off + k * 9 + 5, none⟩ = some (.int .i64 x.q) ∧ W.cell? ⟨b, off + k * 9 + 6, none⟩ = some (.int .i64 x.d) ∧ W.cell? ⟨b, off + k * 9 + 7, none⟩ = some (.int .i64 x.n) ∧ W.cell? ⟨b, off + k * 9 + 8, none⟩ = some (.int .i64 n) := by
  rcases h with rfl | ⟨b, o, rfl, h⟩
  · simp at hk
  · obtain ⟨h1, h2⟩ := h k hk
    have hr := hw _ (List.getElem_mem hk)
    refine ⟨b, o, rfl, zs[k].getD 0 0, ⟨⟨zs[k].getD 1 0, zs[k].getD 2 0, zs[k].getD 3 0⟩, zs[k].getD 4 0, zs[k].getD 5 0, zs[k].getD 6 0, zs[k].getD 7 0⟩, zs[k].getD 8 0, ⟨getD_wf hr 2, getD_wf hr 7⟩, fun W hW => ?_⟩
    have hc : ∀ j, j < 9 → W.cell? ⟨b, o + k * 9 + j, none⟩ = some (.int .i64 (zs[k].getD j 0)) := fun j hj => by
      have := h2 j (by omega)
      rw [List.getD_eq_getElem?_getD, List.getElem?_eq_getElem (by omega)]
      exact hW.cell this
    exact ⟨hc 0 (by omega), hc 1 (by omega), hc 2 (by omega), hc 3 (by omega), hc 4 (by omega), hc 5 (by omega), hc 6 (by omega), hc 7 (by omega), hc 8 (by omega)⟩
end Go.Proofs.Ytghmldfllieonaa
