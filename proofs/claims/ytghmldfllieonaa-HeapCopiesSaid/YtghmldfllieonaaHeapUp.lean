/- up: an item moves ahead. Helper. -/
import Derived.Test.YtghmldfllieonaaHeapNames
import Derived.Deep.QuietTactic
import Derived.BigQuiet
import Derived.BigRegion
namespace Go.Proofs.Ytghmldfllieonaa
open Go.RowKit
set_option linter.unusedVariables false
set_option linter.unusedSimpArgs false
/-- lay, in letters: for a walk. -/
theorem lay_kp (w : World) (gB S b off c n : Nat) (l : List It) (f : Int → Int → Option Nat) (m i : Nat) (blk : Option Nat) (e : It) (hn : n = l.length) (h : HM w gB S (.slice (some ⟨b, off, none⟩) n c) l f m blk) (hi : i < n) (hl : n ≤ 100000) (hm : m ≤ 100000) (he : WOk e) (hf : (f e.k.O e.n).isSome = true) :
    Calls Try.prog 26 #[.pointer (some ⟨gB, 0, none⟩), .int .i64 (i : Int), .agg e.c.toArray] w fun r w' => r = .returned (.tuple #[]) ∧
      HM w' gB S (.slice (some ⟨b, off, none⟩) n c) (l.set i e) (updF f e.k.O e.n i) m blk ∧ Chg (HTurn gB S blk) w w' := by
  subst hn
  have := lay_any w gB S b off c l f m i blk e h hi hl hm he.1 he.2
  rw [if_pos hf] at this
  exact this
def UpOut (w w' : World) (gB S : Nat) (v : Value) (m : Nat) (blk : Option Nat) (l : List It) (i : Nat) : Prop := ∃ l' f', Kp w w' gB S v m blk l l' f' ∧ HeapN l' i
theorem item_cells (e : It) : e.c.toArray = #[.int .i64 e.k.T, .int .i64 e.k.O, .int .i64 e.k.S, .int .i64 e.p, .int .i64 e.q, .int .i64 e.d, .int .i64 e.n] := rfl
set_option maxRecDepth 100000
set_option maxHeartbeats 1600000
theorem up_any (w : World) (gB S b off c n : Nat) (l : List It) (f : Int → Int → Option Nat) (m i : Nat) (blk : Option Nat) (hn : n = l.length) (h : Kp w w gB S (.slice (some ⟨b, off, none⟩) n c) m blk l l f) (hi : i < n) (hl : n ≤ 100000) (hm : m ≤ 100000) (hD : HeapD l i) :
    Calls Try.prog 27 #[.pointer (some ⟨gB, 0, none⟩), .int .i64 (i : Int)] w fun r w' => r = .returned (.tuple #[]) ∧
      UpOut w w' gB S (.slice (some ⟨b, off, none⟩) n c) m blk l i := by
  have HM' := Lib.hid (show n ≤ 100000 ∧ m ≤ 100000 ∧ n = l.length from ⟨hl, hm, hn⟩)
  have HI := Lib.hid (show i < n ∧ HeapD l i from ⟨hi, hD⟩)
  have hiI : (i : Int) < (n : Int) := by omega
  have H0 := Lib.hid h
  clear h hD hn
  go_enter Try.func27, Try.ntmps27
  go_wp2_with fail
  go_loopw [1] (fun s wr => ∃ (k : Nat) (l2 : List It) (f2 : Int → Int → Option Nat), k < n ∧ s = .int .i64 k ∧ Kp w wr gB S (.slice (some ⟨b, off, none⟩) n c) m blk l l2 f2 ∧ ((k = i ∧ HeapD l2 k) ∨ HeapU l2 k)) (fun s _ => (intOf s).toNat)
  case atStart => exact ⟨i, l, f, hi, rfl, H0.out, .inl ⟨rfl, HI.out.2⟩⟩
  case round =>
    obtain ⟨k, l2, f2, hk, rfl, hKp, hh⟩ := hrel
    have hlen : l2.length = n := by rw [hKp.pm.length_eq]; exact HM'.out.2.2.symm
    have HLN := Lib.hid hlen
    have HKP := Lib.hid hKp
    have HH := Lib.hid hh
    have hdone : (k = 0 ∨ (g l2 k).less (g l2 ((k - 1) / 2)) = false) → HeapN l2 i := fun hw => by
      rcases HH.out with ⟨rfl, hd⟩ | hu
      · exact hd.n hw
      · exact (hu.whole hw).n i (by rw [HLN.out]; exact HI.out.1)
    have HDN := Lib.hid hdone
    clear hdone hh hlen hKp
    by_cases h0 : 0 < k
    · obtain ⟨p, hp⟩ : ∃ p, (k - 1) / 2 = p := ⟨_, rfl⟩
      have hpn : p < n := by omega
      have hown : Own wr 36 7 (.slice (some ⟨b, off, none⟩) n c) n (rowsI l2) blk := by have := HKP.out.hm.ow; rw [HLN.out] at this; exact this
      have it_k := fun j hj => hown.item hk j hj
      have it_p := fun j hj => hown.item hpn j hj
      have c0 : wr.cell? ⟨gB, 0, none⟩ = some (.slice (some ⟨b, off, none⟩) n c) := (HKP.out.hm.bk.cell 0).trans rfl
      have c1 : wr.cell? ⟨b, off + k * 7, none⟩ = some (.int .i64 (g l2 k).k.T) := (it_k 0 (by omega)).1
      have c2 : wr.cell? ⟨b, off + k * 7 + 1, none⟩ = some (.int .i64 (g l2 k).k.O) := (it_k 1 (by omega)).1
      have c3 : wr.cell? ⟨b, off + k * 7 + 2, none⟩ = some (.int .i64 (g l2 k).k.S) := (it_k 2 (by omega)).1
      have c4 : wr.cell? ⟨b, off + k * 7 + 3, none⟩ = some (.int .i64 (g l2 k).p) := (it_k 3 (by omega)).1
      have c5 : wr.cell? ⟨b, off + k * 7 + 4, none⟩ = some (.int .i64 (g l2 k).q) := (it_k 4 (by omega)).1
      have c6 : wr.cell? ⟨b, off + k * 7 + 5, none⟩ = some (.int .i64 (g l2 k).d) := (it_k 5 (by omega)).1
      have c7 : wr.cell? ⟨b, off + k * 7 + 6, none⟩ = some (.int .i64 (g l2 k).n) := (it_k 6 (by omega)).1
      have c8 : wr.cell? ⟨b, off + p * 7, none⟩ = some (.int .i64 (g l2 p).k.T) := (it_p 0 (by omega)).1
      have c9 : wr.cell? ⟨b, off + p * 7 + 1, none⟩ = some (.int .i64 (g l2 p).k.O) := (it_p 1 (by omega)).1
      have c10 : wr.cell? ⟨b, off + p * 7 + 2, none⟩ = some (.int .i64 (g l2 p).k.S) := (it_p 2 (by omega)).1
      have c11 : wr.cell? ⟨b, off + p * 7 + 3, none⟩ = some (.int .i64 (g l2 p).p) := (it_p 3 (by omega)).1
      have c12 : wr.cell? ⟨b, off + p * 7 + 4, none⟩ = some (.int .i64 (g l2 p).q) := (it_p 4 (by omega)).1
      have c13 : wr.cell? ⟨b, off + p * 7 + 5, none⟩ = some (.int .i64 (g l2 p).d) := (it_p 5 (by omega)).1
      have c14 : wr.cell? ⟨b, off + p * 7 + 6, none⟩ = some (.int .i64 (g l2 p).n) := (it_p 6 (by omega)).1
      have hss : ∀ W, Nw wr W → Nw wr W ∧ W.cell? ⟨gB, 0, none⟩ = some (.slice (some ⟨b, off, none⟩) n c) ∧ W.cell? ⟨b, off + k * 7, none⟩ = some (.int .i64 (g l2 k).k.T) ∧ W.cell? ⟨b, off + k * 7 + 1, none⟩ = some (.int .i64 (g l2 k).k.O) ∧ W.cell? ⟨b, off + k * 7 + 2, none⟩ = some (.int .i64 (g l2 k).k.S) ∧ W.cell? ⟨b, off + k * 7 + 3, none⟩ = some (.int .i64 (g l2 k).p) ∧ W.cell? ⟨b, off + k * 7 + 4, none⟩ = some (.int .i64 (g l2 k).q) ∧ W.cell? ⟨b, off + k * 7 + 5, none⟩ = some (.int .i64 (g l2 k).d) ∧ W.cell? ⟨b, off + k * 7 + 6, none⟩ = some (.int .i64 (g l2 k).n) ∧ W.cell? ⟨b, off + p * 7, none⟩ = some (.int .i64 (g l2 p).k.T) ∧ W.cell? ⟨b, off + p * 7 + 1, none⟩ = some (.int .i64 (g l2 p).k.O) ∧ W.cell? ⟨b, off + p * 7 + 2, none⟩ = some (.int .i64 (g l2 p).k.S) ∧ W.cell? ⟨b, off + p * 7 + 3, none⟩ = some (.int .i64 (g l2 p).p) ∧ W.cell? ⟨b, off + p * 7 + 4, none⟩ = some (.int .i64 (g l2 p).q) ∧ W.cell? ⟨b, off + p * 7 + 5, none⟩ = some (.int .i64 (g l2 p).d) ∧ W.cell? ⟨b, off + p * 7 + 6, none⟩ = some (.int .i64 (g l2 p).n) := fun W h => ⟨h, h.cell c0, h.cell c1, h.cell c2, h.cell c3, h.cell c4, h.cell c5, h.cell c6, h.cell c7, h.cell c8, h.cell c9, h.cell c10, h.cell c11, h.cell c12, h.cell c13, h.cell c14⟩
      have HSS := Lib.hid hss
      have KB := Lib.hid (fun W => byKeyI_any (g l2 k) (g l2 p) W)
      obtain ⟨C, hC⟩ : ∃ C, C = (g l2 k).cmp (g l2 p) := ⟨_, rfl⟩
      rw [← hC] at KB
      have hcl := It.cmp_neg (g l2 k) (g l2 p)
      rw [← hC] at hcl
      have HCL := Lib.hid hcl
      have hi0 := Nw.refl wr
      have gk : decide ((0 : Int) < (k : Int)) = true := by simp; omega
      have gk2 : decide (0 < k) = true := by simp; omega
      have ik : (k : Int) < (n : Int) := by omega
      have ip : (p : Int) < (n : Int) := by omega
      have d1 : IntKind.i64.wrap ((k : Int) - 1) = (k : Int) - 1 := IntWalk.i64_in (n := (k : Int) - 1) (by constructor <;> omega)
      have d2 : ((k : Int) - 1).tdiv 2 = (p : Int) := by rw [Int.tdiv_eq_ediv_of_nonneg (by omega)]; omega
      have d3 : IntKind.i64.wrap (p : Int) = (p : Int) := IntWalk.i64_in (n := (p : Int)) (by constructor <;> omega)
      have d4 : IntKind.i64.wrap (((k : Int) - 1).tdiv 2) = (p : Int) := by rw [d2, d3]
      clear hss hcl hC it_k it_p hown c0 c1 c2 c3 c4 c5 c6 c7 c8 c9 c10 c11 c12 c13 c14
      go_wp2_with fail
      go_region_held3 (fun W => Nw wr W ∧ W.cell? ⟨gB, 0, none⟩ = some (.slice (some ⟨b, off, none⟩) n c) ∧ W.cell? ⟨b, off + k * 7, none⟩ = some (.int .i64 (g l2 k).k.T) ∧ W.cell? ⟨b, off + k * 7 + 1, none⟩ = some (.int .i64 (g l2 k).k.O) ∧ W.cell? ⟨b, off + k * 7 + 2, none⟩ = some (.int .i64 (g l2 k).k.S) ∧ W.cell? ⟨b, off + k * 7 + 3, none⟩ = some (.int .i64 (g l2 k).p) ∧ W.cell? ⟨b, off + k * 7 + 4, none⟩ = some (.int .i64 (g l2 k).q) ∧ W.cell? ⟨b, off + k * 7 + 5, none⟩ = some (.int .i64 (g l2 k).d) ∧ W.cell? ⟨b, off + k * 7 + 6, none⟩ = some (.int .i64 (g l2 k).n) ∧ W.cell? ⟨b, off + p * 7, none⟩ = some (.int .i64 (g l2 p).k.T) ∧ W.cell? ⟨b, off + p * 7 + 1, none⟩ = some (.int .i64 (g l2 p).k.O) ∧ W.cell? ⟨b, off + p * 7 + 2, none⟩ = some (.int .i64 (g l2 p).k.S) ∧ W.cell? ⟨b, off + p * 7 + 3, none⟩ = some (.int .i64 (g l2 p).p) ∧ W.cell? ⟨b, off + p * 7 + 4, none⟩ = some (.int .i64 (g l2 p).q) ∧ W.cell? ⟨b, off + p * 7 + 5, none⟩ = some (.int .i64 (g l2 p).d) ∧ W.cell? ⟨b, off + p * 7 + 6, none⟩ = some (.int .i64 (g l2 p).n)) ((refine HSS.out _ ?_; repeat (first | assumption | exact Nw.refl wr | refine Nw.drew ?_ | refine Nw.alloc ?_ _))) (first
        | (go_at_call 32; refine (KB.out _).mono ?_; rintro e w1 ⟨rfl, b1⟩; have i1 : Nw wr w1 := Nw.step (by repeat (first | assumption | exact Nw.refl wr | refine Nw.drew ?_ | refine Nw.alloc ?_ _)) b1))
      case' _ => skip
      rename_i hH
      have hw1 := hH.1
      have HKP1 := Lib.hid (HKP.out.new hw1)
      obtain ⟨hw1', c0, c1, c2, c3, c4, c5, c6, c7, c8, c9, c10, c11, c12, c13, c14⟩ := hH
      have HA := Lib.hid (show k ≠ p ∧ k < l2.length ∧ p < l2.length from ⟨by omega, by rw [HLN.out]; exact hk, by rw [HLN.out]; exact hpn⟩)
      by_cases hC : C < 0
      · have hl := HCL.out.1 hC
        have HL := Lib.hid hl
        clear hl HKP HSS KB HDN hw1 hw1' hi0
        have hgB := World.block_lt_of_cell? w1 _ c0
        have hbb := World.block_lt_of_cell? w1 _ c1
        dsimp only at hgB hbb
        go_upto_region 2 with (fail)
        go_cut [4, 5, 28, 29, 30, 31, 32, 33, 34, 35, 36, 37, 38, 39, 40, 41, 42, 43] (fun s4 s5 s28 s29 s30 s31 s32 s33 s34 s35 s36 s37 s38 s39 s40 s41 s42 s43 wx => ∃ gX gY, s4 = .pointer (some ⟨gX, 0, none⟩) ∧ s5 = .pointer (some ⟨gY, 0, none⟩) ∧ Hid (Blk wx gX 36 (g l2 k).c.toArray ∧ Blk wx gY 36 (g l2 p).c.toArray ∧ Below w1.heap.size w1 wx ∧ w1.heap.size ≤ gX ∧ w1.heap.size ≤ gY))
        case first =>
          go_region
          all_goals
            go_wp2_with fail
            go_meet
            first
            | exact ⟨w1.heap.size, w1.heap.size + 1, rfl, rfl, Lib.hid ⟨((Blk.last w1 _ _ rfl).alloc _).drew, (Blk.last (w1.alloc _) _ _ (by simp)).drew, (((Below.refl _ w1).alloc (Nat.le_refl _) _).alloc (by simp) _).drew, by omega, by omega⟩⟩
            | exact ⟨w1.heap.size + 1, w1.heap.size, rfl, rfl, Lib.hid ⟨(Blk.last (w1.alloc _) _ _ (by simp)).drew, ((Blk.last w1 _ _ rfl).alloc _).drew, (((Below.refl _ w1).alloc (Nat.le_refl _) _).alloc (by simp) _).drew, by omega, by omega⟩⟩
        case rest =>
          obtain ⟨gX, gY, rfl, rfl, HB⟩ := hcut
          have HKP2 := Lib.hid (HKP1.out.new HB.out.2.2.1)
          clear c0 c1 c2 c3 c4 c5 c6 c7 c8 c9 c10 c11 c12 c13 c14
          have KL := Lib.hid (fun W f3 l3 e q (h1 : HM W gB S (.slice (some ⟨b, off, none⟩) n c) l3 f3 m blk) (h2 : l3.length = n) (h3 : q < n) (h4 : WOk e) (h5 : (f3 e.k.O e.n).isSome = true) => lay_kp W gB S b off c n l3 f3 m q blk e h2.symm h1 h3 HM'.out.1 HM'.out.2.1 h4 h5)
          have y0 : wc.cell? ⟨gY, 0, none⟩ = some (.int .i64 (g l2 p).k.T) := (HB.out.2.1.cell 0).trans rfl
          have y1 : wc.cell? ⟨gY, 1, none⟩ = some (.int .i64 (g l2 p).k.O) := (HB.out.2.1.cell 1).trans rfl
          have y2 : wc.cell? ⟨gY, 2, none⟩ = some (.int .i64 (g l2 p).k.S) := (HB.out.2.1.cell 2).trans rfl
          have y3 : wc.cell? ⟨gY, 3, none⟩ = some (.int .i64 (g l2 p).p) := (HB.out.2.1.cell 3).trans rfl
          have y4 : wc.cell? ⟨gY, 4, none⟩ = some (.int .i64 (g l2 p).q) := (HB.out.2.1.cell 4).trans rfl
          have y5 : wc.cell? ⟨gY, 5, none⟩ = some (.int .i64 (g l2 p).d) := (HB.out.2.1.cell 5).trans rfl
          have y6 : wc.cell? ⟨gY, 6, none⟩ = some (.int .i64 (g l2 p).n) := (HB.out.2.1.cell 6).trans rfl
          go_wp2_with fail
          refine (KL.out wc f2 l2 (g l2 p) k HKP2.out.hm HLN.out hk (HKP2.out.item p HA.out.2.2) (HKP2.out.has HA.out.2.1 HA.out.2.2).1).mono ?_
          rintro e w3 ⟨rfl, h3, ch3⟩
          have hgX : Blk w3 gX 36 (g l2 k).c.toArray := HB.out.1.chg ch3 (by
            have h1 := HKP1.out.hm.bk.lt
            have h2 := HKP1.out.hm.mp.lt
            have h3 := HB.out.2.2.2.1
            rintro (h | h | h)
            · omega
            · omega
            · have := HKP1.out.hm.ow.lt _ h.symm; omega)
          have x0 : w3.cell? ⟨gX, 0, none⟩ = some (.int .i64 (g l2 k).k.T) := (hgX.cell 0).trans rfl
          have x1 : w3.cell? ⟨gX, 1, none⟩ = some (.int .i64 (g l2 k).k.O) := (hgX.cell 1).trans rfl
          have x2 : w3.cell? ⟨gX, 2, none⟩ = some (.int .i64 (g l2 k).k.S) := (hgX.cell 2).trans rfl
          have x3 : w3.cell? ⟨gX, 3, none⟩ = some (.int .i64 (g l2 k).p) := (hgX.cell 3).trans rfl
          have x4 : w3.cell? ⟨gX, 4, none⟩ = some (.int .i64 (g l2 k).q) := (hgX.cell 4).trans rfl
          have x5 : w3.cell? ⟨gX, 5, none⟩ = some (.int .i64 (g l2 k).d) := (hgX.cell 5).trans rfl
          have x6 : w3.cell? ⟨gX, 6, none⟩ = some (.int .i64 (g l2 k).n) := (hgX.cell 6).trans rfl
          have H3 := Lib.hid h3
          have CH3 := Lib.hid ch3
          clear h3 ch3 hgX HKP1 y0 y1 y2 y3 y4 y5 y6
          go_wp2_with fail
          refine (KL.out w3 _ _ (g l2 k) p H3.out (by rw [List.length_set]; exact HLN.out) hpn (HKP2.out.item k HA.out.2.1) (HKP2.out.has HA.out.2.1 HA.out.2.2).2).mono ?_
          rintro e w4 ⟨rfl, h4, ch4⟩
          have hsw := HKP2.out.swap HA.out.2.1 HA.out.2.2 HA.out.1 h4 CH3.out ch4
          have hu : HeapU (swapL l2 k p) p := by
            have hd : HeapD l2 k := by
              rcases HH.out with ⟨_, h⟩ | h
              · exact h
              · exact h.d
            have := hd.up HA.out.2.1 h0 (by rw [hp]; exact HL.out)
            rwa [hp] at this
          have HSW := Lib.hid hsw
          have HU := Lib.hid hu
          clear h4 ch4 hsw hu H3 CH3 x0 x1 x2 x3 x4 x5 x6
          go_wp2_with fail
          go_roundw
          case rel => exact ⟨p, _, _, hpn, rfl, HSW.out, .inr HU.out⟩
          case measure => simp [intOf]; omega
      · have hl : (g l2 k).less (g l2 p) = false := by rw [← Bool.not_eq_true]; exact fun h => hC (HCL.out.2 h)
        rw [← hp] at hl
        have HD := Lib.hid (HDN.out (.inr hl))
        clear hl HKP HSS KB HDN hw1 hw1' hi0
        go_wp2_with fail
        go_end0
        exact ⟨rfl, l2, f2, HKP1.out, HD.out⟩
    · obtain rfl : k = 0 := by omega
      have g0 : decide ((0 : Int) < 0) = false := by decide
      have HD := Lib.hid (HDN.out (.inl rfl))
      clear HDN
      go_wp2_with fail
      go_quiet (fail)
      go_wp2_with fail
      go_end0
      exact ⟨rfl, l2, f2, HKP.out.new (Below.many (Below.refl _ _) _), HD.out⟩
end Go.Proofs.Ytghmldfllieonaa
