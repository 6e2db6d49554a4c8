/- down: an item moves back. Helper. -/
import Derived.Test.YtghmldfllieonaaHeapLeast
namespace Go.Proofs.Ytghmldfllieonaa
open Go.RowKit
set_option linter.unusedVariables false
set_option linter.unusedSimpArgs false
def DownOut (w w' : World) (gB S : Nat) (v : Value) (m : Nat) (blk : Option Nat) (l : List It) : Prop := ∃ l' f', Kp w w' gB S v m blk l l' f' ∧ HeapL l'
set_option maxRecDepth 100000
set_option maxHeartbeats 1600000
theorem down_any (w : World) (gB S b off c n : Nat) (l : List It) (f : Int → Int → Option Nat) (m i : Nat) (blk : Option Nat) (hn : n = l.length) (h : Kp w w gB S (.slice (some ⟨b, off, none⟩) n c) m blk l l f) (hi : i < n) (hl : n ≤ 100000) (hm : m ≤ 100000) (hD : HeapN l i) :
    Calls Try.prog 29 #[.pointer (some ⟨gB, 0, none⟩), .int .i64 (i : Int)] w fun r w' => r = .returned (.tuple #[]) ∧
      DownOut w w' gB S (.slice (some ⟨b, off, none⟩) n c) m blk l := by
  have HM' := Lib.hid (show n ≤ 100000 ∧ m ≤ 100000 ∧ n = l.length from ⟨hl, hm, hn⟩)
  have HI := Lib.hid (show i < n ∧ HeapN l i from ⟨hi, hD⟩)
  have H0 := Lib.hid h
  have hmf : ∀ (fn : Fn) (first cap : Array Value) (w : World), (Instr.makeFunc fn first cap).run Try.prog w = .ok (.func fn first cap) w := fun _ _ _ _ => rfl
  obtain ⟨gH, hgH⟩ : ∃ gH, w.heap.size = gH := ⟨_, rfl⟩
  have HGH := Lib.hid hgH
  have hbx : Blk (w.alloc (.cells #[.pointer (some ⟨gB, 0, none⟩)] 24)) gH 24 #[.pointer (some ⟨gB, 0, none⟩)] := Blk.last w _ _ hgH
  obtain ⟨wa, hwa⟩ : ∃ wa, w.alloc (.cells #[.pointer (some ⟨gB, 0, none⟩)] 24) = wa := ⟨_, rfl⟩
  rw [hwa] at hbx
  have hka : Kp w wa gB S (.slice (some ⟨b, off, none⟩) n c) m blk l l f := by rw [← hwa]; exact h.new ((Below.refl _ w).alloc (Nat.le_refl _) _)
  have HWA := Lib.hid hwa
  have HBX := Lib.hid hbx
  have HKA := Lib.hid hka
  have KLE := Lib.hid (fun (W : World) l3 f3 i3 (h1 : Kp w W gB S (.slice (some ⟨b, off, none⟩) n c) m blk l l3 f3) (h2 : l3.length = n) (h3 : i3 < n) (h4 : Blk W gH 24 #[.pointer (some ⟨gB, 0, none⟩)]) =>
    least_any W gH gB b off c n l3 blk i3 h2.symm (h4.cell 0) (h1.hm.bk.cell 0) (by have := h1.hm.ow; rw [h2] at this; exact this) h3 HM'.out.1)
  have KL := Lib.hid (fun W f3 l3 e q (h1 : HM W gB S (.slice (some ⟨b, off, none⟩) n c) l3 f3 m blk) (h2 : l3.length = n) (h3 : q < n) (h4 : WOk e) (h5 : (f3 e.k.O e.n).isSome = true) => lay_kp W gB S b off c n l3 f3 m q blk e h2.symm h1 h3 HM'.out.1 HM'.out.2.1 h4 h5)
  clear h hD hn hgH hbx hwa hka hl hm hi
  go_enter Try.func29, Try.ntmps29
  go_upto_region 1 with (fail)
  rw [HGH.out, HWA.out]
  go_wp2_with fail
  refine (KLE.out wa l f i HKA.out HM'.out.2.2.symm HI.out.1 HBX.out).mono ?_
  rintro e w1 ⟨rfl, b1⟩
  have HK1 := Lib.hid (HKA.out.new b1)
  have HB1 := Lib.hid (HBX.out.below b1 HBX.out.lt)
  clear b1
  go_wp2_with fail
  go_loopw [1, 5] (fun s1 s5 wr => ∃ (k p : Nat) (l2 : List It) (f2 : Int → Int → Option Nat), k < n ∧ p = lst l2 k ∧ s1 = .int .i64 (k : Int) ∧ s5 = .int .i64 (p : Int) ∧ Kp w wr gB S (.slice (some ⟨b, off, none⟩) n c) m blk l l2 f2 ∧ HeapN l2 k ∧ Blk wr gH 24 #[.pointer (some ⟨gB, 0, none⟩)]) (fun s1 _ _ => n - (intOf s1).toNat)
  case atStart => exact ⟨i, lst l i, l, f, HI.out.1, rfl, rfl, rfl, HK1.out, HI.out.2, HB1.out⟩
  case round =>
    obtain ⟨k, p, l2, f2, hk, hp, rfl, rfl, hKp, hh, hbx⟩ := hrel
    have hlen : l2.length = n := by rw [hKp.pm.length_eq]; exact HM'.out.2.2.symm
    have hsp := lst_spec l2 k (by rw [hlen]; exact hk)
    rw [← hp] at hsp
    have hpn : p < n := by rw [← hlen]; exact hsp.1
    have hge : k ≤ p := by rw [hp]; exact lst_ge l2 k
    have HSP := Lib.hid hsp
    have HLN := Lib.hid hlen
    have HKP := Lib.hid hKp
    have HH := Lib.hid hh
    have HBX1 := Lib.hid hbx
    have HP := Lib.hid hp
    have c0 : wr.cell? ⟨gH, 0, none⟩ = some (.pointer (some ⟨gB, 0, none⟩)) := (hbx.cell 0).trans rfl
    have c1 : wr.cell? ⟨gB, 0, none⟩ = some (.slice (some ⟨b, off, none⟩) n c) := (hKp.hm.bk.cell 0).trans rfl
    have hgB := World.block_lt_of_cell? wr _ c1
    have hgH := World.block_lt_of_cell? wr _ c0
    dsimp only at hgB hgH
    clear hh hlen hKp hbx hsp hp
    by_cases h0 : p = k
    · subst h0
      have hw : HeapL l2 := HH.out.whole HSP.out.2.2
      have HWH := Lib.hid hw
      clear hw
      go_wp2_with fail
      go_end0
      exact ⟨rfl, l2, f2, HKP.out, HWH.out⟩
    · have h0i : ¬ (p : Int) = (k : Int) := by omega
      have hown : Own wr 36 7 (.slice (some ⟨b, off, none⟩) n c) n (rowsI l2) blk := by have := HKP.out.hm.ow; rw [HLN.out] at this; exact this
      have it_k := fun j hj => hown.item hk j hj
      have it_p := fun j hj => hown.item hpn j hj
      have c2 : wr.cell? ⟨b, off + k * 7, none⟩ = some (.int .i64 (g l2 k).k.T) := (it_k 0 (by omega)).1
      have c3 : wr.cell? ⟨b, off + k * 7 + 1, none⟩ = some (.int .i64 (g l2 k).k.O) := (it_k 1 (by omega)).1
      have c4 : wr.cell? ⟨b, off + k * 7 + 2, none⟩ = some (.int .i64 (g l2 k).k.S) := (it_k 2 (by omega)).1
      have c5 : wr.cell? ⟨b, off + k * 7 + 3, none⟩ = some (.int .i64 (g l2 k).p) := (it_k 3 (by omega)).1
      have c6 : wr.cell? ⟨b, off + k * 7 + 4, none⟩ = some (.int .i64 (g l2 k).q) := (it_k 4 (by omega)).1
      have c7 : wr.cell? ⟨b, off + k * 7 + 5, none⟩ = some (.int .i64 (g l2 k).d) := (it_k 5 (by omega)).1
      have c8 : wr.cell? ⟨b, off + k * 7 + 6, none⟩ = some (.int .i64 (g l2 k).n) := (it_k 6 (by omega)).1
      have c9 : wr.cell? ⟨b, off + p * 7, none⟩ = some (.int .i64 (g l2 p).k.T) := (it_p 0 (by omega)).1
      have c10 : wr.cell? ⟨b, off + p * 7 + 1, none⟩ = some (.int .i64 (g l2 p).k.O) := (it_p 1 (by omega)).1
      have c11 : wr.cell? ⟨b, off + p * 7 + 2, none⟩ = some (.int .i64 (g l2 p).k.S) := (it_p 2 (by omega)).1
      have c12 : wr.cell? ⟨b, off + p * 7 + 3, none⟩ = some (.int .i64 (g l2 p).p) := (it_p 3 (by omega)).1
      have c13 : wr.cell? ⟨b, off + p * 7 + 4, none⟩ = some (.int .i64 (g l2 p).q) := (it_p 4 (by omega)).1
      have c14 : wr.cell? ⟨b, off + p * 7 + 5, none⟩ = some (.int .i64 (g l2 p).d) := (it_p 5 (by omega)).1
      have c15 : wr.cell? ⟨b, off + p * 7 + 6, none⟩ = some (.int .i64 (g l2 p).n) := (it_p 6 (by omega)).1
      have hbb := World.block_lt_of_cell? wr _ c2
      dsimp only at hbb
      have ik : (k : Int) < (n : Int) := by omega
      have ip : (p : Int) < (n : Int) := by omega
      have HA := Lib.hid (show k ≠ p ∧ k < l2.length ∧ p < l2.length ∧ k < p from ⟨by omega, by rw [HLN.out]; exact hk, by rw [HLN.out]; exact hpn, by omega⟩)
      clear hown it_k it_p hge
      go_upto_region 6 with (fail)
      go_cut [6, 7, 18, 19, 20, 21, 22, 23, 24, 25, 26, 27, 28, 29, 30, 31] (fun s4 s5 s18 s19 s20 s21 s22 s23 s24 s25 s26 s27 s28 s29 s30 s31 wx => ∃ gX gY, s4 = .pointer (some ⟨gX, 0, none⟩) ∧ s5 = .pointer (some ⟨gY, 0, none⟩) ∧ Hid (Blk wx gX 36 (g l2 k).c.toArray ∧ Blk wx gY 36 (g l2 p).c.toArray ∧ Below wr.heap.size wr wx ∧ wr.heap.size ≤ gX ∧ wr.heap.size ≤ gY))
      case first =>
        go_region
        all_goals
          go_wp2_with fail
          go_meet
          first
          | exact ⟨wr.heap.size, wr.heap.size + 1, rfl, rfl, Lib.hid ⟨((Blk.last wr _ _ rfl).alloc _).drew, (Blk.last (wr.alloc _) _ _ (by simp)).drew, (((Below.refl _ wr).alloc (Nat.le_refl _) _).alloc (by simp) _).drew, by omega, by omega⟩⟩
          | exact ⟨wr.heap.size + 1, wr.heap.size, rfl, rfl, Lib.hid ⟨(Blk.last (wr.alloc _) _ _ (by simp)).drew, ((Blk.last wr _ _ rfl).alloc _).drew, (((Below.refl _ wr).alloc (Nat.le_refl _) _).alloc (by simp) _).drew, by omega, by omega⟩⟩
      case rest =>
        obtain ⟨gX, gY, rfl, rfl, HB⟩ := hcut
        have HKP2 := Lib.hid (HKP.out.new HB.out.2.2.1)
        have HBX2 := Lib.hid (HBX1.out.below HB.out.2.2.1 HBX1.out.lt)
        have hnt : ∀ x, wr.heap.size ≤ x ∨ x = gH → ¬ HTurn gB S blk x := by
          have h1 := HKP.out.hm.bk.lt
          have h2 := HKP.out.hm.mp.lt
          have h3 := H0.out.hm.bk.lt
          have h4 := H0.out.hm.mp.lt
          have h5 := HGH.out
          rintro x hx (h | h | h)
          · rcases hx with hx | hx <;> omega
          · rcases hx with hx | hx <;> omega
          · have := HKP.out.hm.ow.lt _ h.symm
            have := H0.out.hm.ow.lt _ h.symm
            rcases hx with hx | hx <;> omega
        have HNT := Lib.hid hnt
        clear c0 c1 hgB hgH hbb hnt c2 c3 c4 c5 c6 c7 c8 c9 c10 c11 c12 c13 c14 c15
        have y0 : wc.cell? ⟨gY, 0, none⟩ = some (.int .i64 (g l2 p).k.T) := (HB.out.2.1.cell 0).trans rfl
        have y1 : wc.cell? ⟨gY, 1, none⟩ = some (.int .i64 (g l2 p).k.O) := (HB.out.2.1.cell 1).trans rfl
        have y2 : wc.cell? ⟨gY, 2, none⟩ = some (.int .i64 (g l2 p).k.S) := (HB.out.2.1.cell 2).trans rfl
        have y3 : wc.cell? ⟨gY, 3, none⟩ = some (.int .i64 (g l2 p).p) := (HB.out.2.1.cell 3).trans rfl
        have y4 : wc.cell? ⟨gY, 4, none⟩ = some (.int .i64 (g l2 p).q) := (HB.out.2.1.cell 4).trans rfl
        have y5 : wc.cell? ⟨gY, 5, none⟩ = some (.int .i64 (g l2 p).d) := (HB.out.2.1.cell 5).trans rfl
        have y6 : wc.cell? ⟨gY, 6, none⟩ = some (.int .i64 (g l2 p).n) := (HB.out.2.1.cell 6).trans rfl
        have z0 : wc.cell? ⟨gH, 0, none⟩ = some (.pointer (some ⟨gB, 0, none⟩)) := (HBX2.out.cell 0).trans rfl
        go_wp2_with fail
        refine (KL.out wc f2 l2 (g l2 p) k HKP2.out.hm HLN.out hk (HKP2.out.item p HA.out.2.2.1) (HKP2.out.has HA.out.2.1 HA.out.2.2.1).1).mono ?_
        rintro e w3 ⟨rfl, h3, ch3⟩
        have hgX : Blk w3 gX 36 (g l2 k).c.toArray := HB.out.1.chg ch3 (HNT.out _ (.inl HB.out.2.2.2.1))
        have hgH3 : Blk w3 gH 24 #[.pointer (some ⟨gB, 0, none⟩)] := HBX2.out.chg ch3 (HNT.out _ (.inr rfl))
        have x0 : w3.cell? ⟨gX, 0, none⟩ = some (.int .i64 (g l2 k).k.T) := (hgX.cell 0).trans rfl
        have x1 : w3.cell? ⟨gX, 1, none⟩ = some (.int .i64 (g l2 k).k.O) := (hgX.cell 1).trans rfl
        have x2 : w3.cell? ⟨gX, 2, none⟩ = some (.int .i64 (g l2 k).k.S) := (hgX.cell 2).trans rfl
        have x3 : w3.cell? ⟨gX, 3, none⟩ = some (.int .i64 (g l2 k).p) := (hgX.cell 3).trans rfl
        have x4 : w3.cell? ⟨gX, 4, none⟩ = some (.int .i64 (g l2 k).q) := (hgX.cell 4).trans rfl
        have x5 : w3.cell? ⟨gX, 5, none⟩ = some (.int .i64 (g l2 k).d) := (hgX.cell 5).trans rfl
        have x6 : w3.cell? ⟨gX, 6, none⟩ = some (.int .i64 (g l2 k).n) := (hgX.cell 6).trans rfl
        have x7 : w3.cell? ⟨gH, 0, none⟩ = some (.pointer (some ⟨gB, 0, none⟩)) := (hgH3.cell 0).trans rfl
        have H3 := Lib.hid h3
        have CH3 := Lib.hid ch3
        have HG3 := Lib.hid hgH3
        clear h3 ch3 hgX hgH3 y0 y1 y2 y3 y4 y5 y6 z0
        go_wp2_with fail
        refine (KL.out w3 _ _ (g l2 k) p H3.out (by rw [List.length_set]; exact HLN.out) hpn (HKP2.out.item k HA.out.2.1) (HKP2.out.has HA.out.2.1 HA.out.2.2.1).2).mono ?_
        rintro e w4 ⟨rfl, h4, ch4⟩
        have hsw := HKP2.out.swap HA.out.2.1 HA.out.2.2.1 HA.out.1 h4 CH3.out ch4
        have hg4 : Blk w4 gH 24 #[.pointer (some ⟨gB, 0, none⟩)] := HG3.out.chg ch4 (HNT.out _ (.inr rfl))
        have hu : HeapN (swapL l2 k p) p := by
          rcases HSP.out.2.1 with h | ⟨h1, h2, h3⟩
          · exact absurd h.symm HA.out.1
          · exact HH.out.down HA.out.2.1 HA.out.2.2.1 h1 h2 (It.less_asymm h3) HSP.out.2.2
        have HSW := Lib.hid hsw
        have HU := Lib.hid hu
        have HG4 := Lib.hid hg4
        clear h4 ch4 hsw hu hg4 H3 CH3 x0 x1 x2 x3 x4 x5 x6 x7
        go_wp2_with fail
        refine (KLE.out w4 _ _ p HSW.out (by rw [swapL_length]; exact HLN.out) hpn HG4.out).mono ?_
        rintro e w5 ⟨rfl, b5⟩
        have HK5 := Lib.hid (HSW.out.new b5)
        have HB5 := Lib.hid (HG4.out.below b5 HG4.out.lt)
        clear b5
        go_wp2_with fail
        go_roundw
        case rel => exact ⟨p, _, _, _, hpn, rfl, rfl, rfl, HK5.out, HU.out, HB5.out⟩
        case measure => have := HA.out; simp [intOf]; omega
end Go.Proofs.Ytghmldfllieonaa
