/- Outbox: the walk of OutboxCopies. Helper of OutboxCopies. -/
import Derived.Test.YtmjikfhabfodkaaCopSame
import Derived.Test.YtmjikfhabfodkaaCopRef
namespace Go.Proofs.Ytmjikfhabfodkaa
open Go.RowKit
set_option linter.unusedVariables false
set_option linter.unusedSimpArgs false
theorem Pairs.start {w0 w4 w5 w6 : World} {B R : Nat} {ls : List (List UInt8)} {bs : List UInt8} {ends : List Nat} {sent M : Nat} (h : Both w4 w0.heap.size B R ls bs ends sent M) (hb : Below w0.heap.size w0 w4)
    (h5 : OBh w5 (fun k => w4.heap.size ≤ k) w4.heap.size ls M sent) (b5 : Below w4.heap.size w4 w5)
    (h6 : RB w6 (fun k => k = w5.heap.size ∨ Sh w5 (fun k => w0.heap.size ≤ k ∧ k < w4.heap.size) k) w5.heap.size bs ends sent M) (b6 : Below w5.heap.size w5 w6) (hs : w5.heap.size < w6.heap.size) :
    ∃ H1 H2, Pairs w0 w6 H1 H2 B R w4.heap.size w5.heap.size ls bs ends sent ls bs ends sent M := by
  have s4 := h.room
  have s5 := b5.size
  have s6 := b6.size
  have b46 : Below w4.heap.size w4 w6 := b5.trans (b6.mono s5)
  refine ⟨fun k => w0.heap.size ≤ k ∧ k < w4.heap.size, fun k => (w4.heap.size ≤ k ∧ k < w6.heap.size) ∨ Sh w5 (fun k => w0.heap.size ≤ k ∧ k < w4.heap.size) k, ?_, ?_, ?_, fun k hk => ?_, fun k hk => ?_, fun k hk => hk.1, fun k hk => ?_, hb.trans (b46.mono s4)⟩
  · exact BothH.new (w := w4) ⟨h.ob.mono fun k h1 h2 => ⟨h2, h1⟩, h.rb.mono fun k h1 h2 => ⟨h2, h1⟩, h.sim, h.le, h.big⟩ b46
  · exact ⟨(h5.new b6).mono fun k h1 h2 => .inl ⟨h2, h1⟩, h6.mono fun k h1 h2 => by
      rcases h2 with rfl | h2
      · exact .inl ⟨s5, h1⟩
      · exact .inr h2, h.sim, h.le, h.big⟩
  · intro k cs t fr hg h1 h2
    rcases h2 with h2 | ⟨_, cs', fr', t', ht, hg'⟩
    · omega
    · rw [b6.block k (by omega), hg'] at hg
      injection hg with hg
      injection hg with _ e _
      subst e
      rcases ht with rfl | rfl <;> decide
  · have := hk.2
    omega
  · rcases hk with hk | hk
    · exact hk.2
    · have := hk.1.2
      omega
  · rcases hk with hk | hk
    · omega
    · exact hk.1.1
theorem Bnd.small {w : World} {Hm : Nat → Prop} {B R : Nat} {ls : List (List UInt8)} {bs : List UInt8} {ends : List Nat} {sent M i : Nat} (h : BothH w Hm B R ls bs ends sent M) (hb : Bnd ls bs ends i) (hi : i ≤ 100) :
    ls.length ≤ 4294967295 ∧ lens ls ≤ 4294967295 ∧ bs.length ≤ 4294967295 ∧ ends.length ≤ 4294967295 := by
  obtain ⟨h1, h2, h3⟩ := hb
  have h4 := h.sim.left
  have h5 : i * 300 ≤ 100 * 300 := Nat.mul_le_mul_right 300 hi
  omega
def known_end : Prop := True
set_option maxRecDepth 100000 in
set_option maxHeartbeats 4000000 in
theorem Copies_walk (n : Int) (A1 A2 A3 : Option Addr) (t1 t2 t3 : List (Int × List UInt8 × Int)) (c1 c2 c3 : Nat) (w : World) (h1 : Acts w A1 t1) (h2 : Acts w A2 t2) (h3 : Acts w A3 t3)
    (l1 : t1.length ≤ 9223372036854775807) (l2 : t2.length ≤ 9223372036854775807) (l3 : t3.length ≤ 9223372036854775807) (m1 : ∀ i (h : i < t1.length), t1[i].2.1.length ≤ 9223372036854775807) (m2 : ∀ i (h : i < t2.length), t2[i].2.1.length ≤ 9223372036854775807) (m3 : ∀ i (h : i < t3.length), t3[i].2.1.length ≤ 9223372036854775807)
    (hr : -9223372036854775808 ≤ n ∧ n ≤ 9223372036854775807) :
    Calls Try.prog 5 #[.int .i64 n, .slice A1 t1.length c1, .slice A2 t2.length c2, .slice A3 t3.length c3] w fun e w' => e = .returned (.bool true) ∧ Below w.heap.size w w' := by
  have F1 := Lib.hid (few_any A1 t1 c1 30 w h1 l1 (by omega) m1)
  have F2 := Lib.hid (few_any A2 t2 c2 20 w h2 l2 (by omega) m2)
  have F3 := Lib.hid (few_any A3 t3 c3 20 w h3 l3 (by omega) m3)
  have N1 := Lib.hid (New_step n n.toNat rfl w)
  have N2 := Lib.hid (fun W => refNew_any n n.toNat rfl W)
  have K := Lib.hid (fun W => known_any W)
  have X1 := Lib.hid h1
  have X2 := Lib.hid h2
  have X3 := Lib.hid h3
  clear m1 m2 m3 h1 h2 h3
  go_enter Try.func5, Try.ntmps5
  go_wp2_with fail
  refine F1.out.mono ?_
  rintro e w' ⟨⟨b, rfl, hb⟩, rfl⟩
  clear F1
  cases b with
  | false =>
    clear hb
    go_wp2_with fail
    refine (K.out _).mono ?_
    rintro e w' ⟨rfl, hB⟩
    go_wp2_with fail
    go_ret
    exact ⟨rfl, hB⟩
  | true =>
    have Y1 := Lib.hid (hb rfl)
    clear hb
    go_wp2_with fail
    refine F2.out.mono ?_
    rintro e w' ⟨⟨b, rfl, hb⟩, rfl⟩
    clear F2
    cases b with
    | false =>
      clear hb
      go_wp2_with fail
      refine (K.out _).mono ?_
      rintro e w' ⟨rfl, hB⟩
      go_wp2_with fail
      go_ret
      exact ⟨rfl, hB⟩
    | true =>
      have Y2 := Lib.hid (hb rfl)
      clear hb
      go_wp2_with fail
      refine F3.out.mono ?_
      rintro e w' ⟨⟨b, rfl, hb⟩, rfl⟩
      clear F3
      cases b with
      | false =>
        clear hb
        go_wp2_with fail
        refine (K.out _).mono ?_
        rintro e w' ⟨rfl, hB⟩
        go_wp2_with fail
        go_ret
        exact ⟨rfl, hB⟩
      | true =>
        have Y3 := Lib.hid (hb rfl)
        clear hb
        have l1 := Y1.out.1
        have l2 := Y2.out.1
        have l3 := Y3.out.1
        go_wp2_with fail
        refine N1.out.mono ?_
        rintro e w1 ⟨rfl, hO1, hB1⟩
        go_wp2_with fail
        refine (N2.out w1).mono ?_
        rintro e w2 ⟨rfl, hR2, hB2⟩
        have s1 := hB1.size
        have hboth : Both w2 w.heap.size w.heap.size w1.heap.size [] [] [] 0 n.toNat :=
          ⟨OBh.new (w := w1) hO1 hB2, hR2.mono (fun k _ hk => Nat.le_trans s1 hk), Sim.zero, Nat.zero_le _, by omega, by have := hB2.size; omega⟩
        have HBOTH := Lib.hid hboth
        have HBW := Lib.hid (hB1.trans (hB2.mono s1))
        clear hO1 hB1 hR2 hB2 N1 N2 s1 hboth
        generalize w1.heap.size = R at *
        generalize n.toNat = M at *
        obtain ⟨B, hBs⟩ : ∃ B, w.heap.size = B := ⟨_, rfl⟩
        have HBS := Lib.hid hBs
        rw [hBs] at HBOTH ⊢
        clear hBs
        go_wp2_with fail
        go_loopw [11] (fun at_ wr => ∃ i : Nat, i ≤ t1.length ∧ at_ = .int .i64 i ∧ (∃ ls bs ends sent, Both wr w.heap.size B R ls bs ends sent M ∧ Bnd ls bs ends i) ∧ Below w.heap.size w wr) (fun at_ _ => t1.length - (intOf at_).toNat)
        case atStart => exact ⟨0, Nat.zero_le _, rfl, ⟨[], [], [], 0, by rw [HBS.out]; exact HBOTH.out, ⟨Nat.le_refl _, Nat.zero_le _, Nat.le_refl _⟩⟩, HBW.out⟩
        case round =>
          obtain ⟨i, hi, rfl, ⟨ls, bs, ends, sent, hbo, hbn⟩, hB⟩ := hrel
          clear HBOTH HBW
          by_cases hlt : i < t1.length
          · have hlt' : (i : Int) < (t1.length : Int) := by omega
            obtain ⟨b, o, A', c', rfl, c0, c1, c2, hby⟩ := X1.out.get hlt
            have d0 := cell_kept hB c0
            have d1 := cell_kept hB c1
            have d2 := cell_kept hB c2
            have kd := do_any w.heap.size B R ls bs ends sent M t1[i].1 A' t1[i].2.1 c' t1[i].2.2 i wr hbo hbn (by omega) (fun w' hB' => hby.below (hB.trans hB') (Nat.le_refl _)) (Y1.out.2 i hlt)
            have KD := Lib.hid kd
            have HB := Lib.hid hB
            clear kd hB c0 c1 c2 hby hbo hbn
            go_wp2_with fail
            refine KD.out.mono ?_
            rintro e w3 ⟨rfl, ⟨ls', bs', ends', sent', hbo', hbn'⟩, hB3⟩
            have hB4 := HB.out.trans hB3
            clear KD d0 d1 d2 HB hB3
            go_wp2_with fail
            go_roundw
            case rel => exact ⟨i + 1, hlt, by go_num, ⟨ls', bs', ends', sent', hbo', hbn'⟩, hB4⟩
            case measure => simp [intOf]; omega
          · obtain rfl : i = t1.length := by omega
            have HBO := Lib.hid hbo
            have HBN := Lib.hid hbn
            have HB := Lib.hid hB
            have hsm := Bnd.small (⟨hbo.ob, hbo.rb, hbo.sim, hbo.le, hbo.big⟩ : BothH wr (fun k => w.heap.size ≤ k) B R ls bs ends sent M) hbn (by omega)
            obtain ⟨z1, z2, z3, z4⟩ := hsm
            have kc := copy_any (fun k => w.heap.size ≤ k ∧ k < wr.heap.size) B ls M sent wr (hbo.ob.mono fun k h1 h2 => ⟨h2, h1⟩) z1 z2
            have KC := Lib.hid kc
            clear hbo hbn hB kc
            go_wp2_with fail
            refine KC.out.mono ?_
            rintro e w5 ⟨rfl, h5, b5⟩
            have kr := refCopy_any (fun k => w.heap.size ≤ k ∧ k < wr.heap.size) R bs ends sent M w5 ((HBO.out.rb.mono fun k h1 h2 => ⟨h2, h1⟩).new b5)
            have KR := Lib.hid kr
            have H5 := Lib.hid h5
            have B5 := Lib.hid b5
            clear kr h5 b5 KC
            go_wp2_with fail
            refine KR.out.mono ?_
            rintro e w6 ⟨rfl, h6, b6⟩
            have hlt6 : w5.heap.size < w6.heap.size := by
              obtain ⟨_, _, _, _, g1, _⟩ := h6
              exact g1.lt
            obtain ⟨H1, H2, hp⟩ := Pairs.start HBO.out HB.out H5.out B5.out h6 b6 hlt6
            have HP := Lib.hid hp
            clear hp h6 b6 hlt6 KR H5 B5 HB HBO
            generalize hPQ : wr.heap.size = P at *
            generalize hVQ : w5.heap.size = V at *
            have YB := Lib.hid (⟨z1, z2, z3, z4⟩ : ls.length ≤ 4294967295 ∧ lens ls ≤ 4294967295 ∧ bs.length ≤ 4294967295 ∧ ends.length ≤ 4294967295)
            have k1 := bsame_any H1 H2 B P ls ls M sent sent w6 HP.out.one.ob HP.out.two.ob z1 z2 z1 z2
            rw [decide_eq_true (⟨rfl, rfl⟩ : sent = sent ∧ ls = ls)] at k1
            have K1 := Lib.hid k1
            clear k1 hPQ hVQ z1 z2 z3 z4
            go_wp2_with fail
            refine K1.out.mono ?_
            rintro e w7 ⟨rfl, s7⟩
            have HP7 := Lib.hid (HP.out.new s7.below)
            have k2 := bsame_any H2 H1 P B ls ls M sent sent w7 HP7.out.two.ob HP7.out.one.ob YB.out.1 YB.out.2.1 YB.out.1 YB.out.2.1
            rw [decide_eq_true (⟨rfl, rfl⟩ : sent = sent ∧ ls = ls)] at k2
            have K2 := Lib.hid k2
            clear k2 K1 s7 HP
            go_wp2_with fail
            refine K2.out.mono ?_
            rintro e w8 ⟨rfl, s8⟩
            have HP8 := Lib.hid (HP7.out.new s8.below)
            clear K2 s8 HP7
            go_wp2_with fail
            go_loopw [14] (fun at_ wx => ∃ i : Nat, i ≤ t2.length ∧ at_ = .int .i64 i ∧ ∃ H1 ls1 bs1 ends1 sent1, Pairs w wx H1 H2 B R P V ls1 bs1 ends1 sent1 ls bs ends sent M ∧ Bnd ls1 bs1 ends1 (t1.length + i)) (fun at_ _ => t2.length - (intOf at_).toNat)
            case atStart => exact ⟨0, Nat.zero_le _, rfl, H1, ls, bs, ends, sent, HP8.out, HBN.out⟩
            case round =>
              obtain ⟨i, hi2, rfl, H1, ls1, bs1, ends1, sent1, hp, hbn⟩ := hrel
              clear HP8
              have HP := Lib.hid hp
              have HB1 := Lib.hid hbn
              clear hp hbn
              by_cases hlt2 : i < t2.length
              · have hlt' : (i : Int) < (t2.length : Int) := by omega
                obtain ⟨b, o, A', c', rfl, c0, c1, c2, hby⟩ := X2.out.get hlt2
                have hB := HP.out.bel
                have d0 := cell_kept hB c0
                have d1 := cell_kept hB c1
                have d2 := cell_kept hB c2
                have kd := doH_any H1 B R ls1 bs1 ends1 sent1 M t2[i].1 A' t2[i].2.1 c' t2[i].2.2 (t1.length + i) wr HP.out.one HB1.out (by omega) (fun w' hc => hby.below (hB.trans (hc.below (fun k _ hm => HP.out.g1 k hm.1) hB.size)) (Nat.le_refl _)) (Y2.out.2 i hlt2)
                have KD := Lib.hid kd
                clear kd hB c0 c1 c2 hby
                go_wp2_with fail
                refine KD.out.mono ?_
                rintro e w3 ⟨rfl, ⟨ls', bs', ends', sent', hbo', hbn'⟩, hc3⟩
                have HP3 := Lib.hid (HP.out.turn hbo' hc3)
                clear KD d0 d1 d2 hbo' hc3 HP
                go_wp2_with fail
                go_roundw
                case rel => exact ⟨i + 1, hlt2, by go_num, _, ls', bs', ends', sent', HP3.out, hbn'⟩
                case measure => simp [intOf]; omega
              · obtain rfl : i = t2.length := by omega
                go_wp2_with fail
                go_loopw [15] (fun at_ wx => ∃ i : Nat, i ≤ t3.length ∧ at_ = .int .i64 i ∧ ∃ H2 ls2 bs2 ends2 sent2, Pairs w wx H1 H2 B R P V ls1 bs1 ends1 sent1 ls2 bs2 ends2 sent2 M ∧ Bnd ls2 bs2 ends2 (t1.length + i)) (fun at_ _ => t3.length - (intOf at_).toNat)
                case atStart => exact ⟨0, Nat.zero_le _, rfl, H2, ls, bs, ends, sent, HP.out, HBN.out⟩
                case round =>
                  obtain ⟨i, hi3, rfl, H2, ls2, bs2, ends2, sent2, hp, hbn⟩ := hrel
                  clear HP
                  have HP := Lib.hid hp
                  have HB2 := Lib.hid hbn
                  clear hp hbn
                  by_cases hlt3 : i < t3.length
                  · have hlt' : (i : Int) < (t3.length : Int) := by omega
                    obtain ⟨b, o, A', c', rfl, c0, c1, c2, hby⟩ := X3.out.get hlt3
                    have hB := HP.out.bel
                    have d0 := cell_kept hB c0
                    have d1 := cell_kept hB c1
                    have d2 := cell_kept hB c2
                    have kd := doH_any H2 P V ls2 bs2 ends2 sent2 M t3[i].1 A' t3[i].2.1 c' t3[i].2.2 (t1.length + i) wr HP.out.two HB2.out (by omega) (fun w' hc => hby.below (hB.trans (hc.below (fun k _ hm => HP.out.g2 k hm.1) hB.size)) (Nat.le_refl _)) (Y3.out.2 i hlt3)
                    have KD := Lib.hid kd
                    clear kd hB c0 c1 c2 hby
                    go_wp2_with fail
                    refine KD.out.mono ?_
                    rintro e w3 ⟨rfl, ⟨ls', bs', ends', sent', hbo', hbn'⟩, hc3⟩
                    have HP3 := Lib.hid (HP.out.swap.turn hbo' hc3).swap
                    clear KD d0 d1 d2 hbo' hc3 HP
                    go_wp2_with fail
                    go_roundw
                    case rel => exact ⟨i + 1, hlt3, by go_num, _, ls', bs', ends', sent', HP3.out, hbn'⟩
                    case measure => simp [intOf]; omega
                  · obtain rfl : i = t3.length := by omega
                    obtain ⟨z1, z2, z3, z4⟩ := Bnd.small HP.out.one HB1.out (by omega)
                    obtain ⟨y1, y2, y3, y4⟩ := Bnd.small HP.out.two HB2.out (by omega)
                    have Z := Lib.hid (⟨z1, z2, z3, z4⟩ : ls1.length ≤ 4294967295 ∧ lens ls1 ≤ 4294967295 ∧ bs1.length ≤ 4294967295 ∧ ends1.length ≤ 4294967295)
                    have Y := Lib.hid (⟨y1, y2, y3, y4⟩ : ls2.length ≤ 4294967295 ∧ lens ls2 ≤ 4294967295 ∧ bs2.length ≤ 4294967295 ∧ ends2.length ≤ 4294967295)
                    have k1 := Lib.hid (rsame_any H1 H2 R V ls1 bs1 ends1 ls2 bs2 ends2 M sent1 sent2 wr HP.out.one.rb HP.out.two.rb HP.out.one.sim HP.out.two.sim z3 y3 z4 y4)
                    obtain ⟨D, hD⟩ : ∃ D, decide (sent1 = sent2 ∧ ls1 = ls2) = D := ⟨_, rfl⟩
                    have HD := Lib.hid hD
                    have HD' : Hid (decide (sent2 = sent1 ∧ ls2 = ls1) = D) := Lib.hid (by rw [← hD]; exact decide_eq_decide.2 ⟨fun h => ⟨h.1.symm, h.2.symm⟩, fun h => ⟨h.1.symm, h.2.symm⟩⟩)
                    rw [hD] at k1
                    clear hD z1 z2 z3 z4 y1 y2 y3 y4
                    go_wp2_with fail
                    refine k1.out.mono ?_
                    rintro e wa ⟨rfl, sa⟩
                    have HPa := Lib.hid (HP.out.new sa.below)
                    have k2 := Lib.hid (same_any 0 B R ls1 bs1 ends1 sent1 M _ wa HPa.out.one.both HB1.out (by omega))
                    clear HP sa k1
                    go_wp2_with fail
                    refine k2.out.mono ?_
                    rintro e wb ⟨rfl, sb⟩
                    have HPb := Lib.hid (HPa.out.new sb.below)
                    have k3 := Lib.hid (same_any 0 P V ls2 bs2 ends2 sent2 M _ wb HPb.out.two.both HB2.out (by omega))
                    clear HPa sb k2
                    go_wp2_with fail
                    refine k3.out.mono ?_
                    rintro e wc ⟨rfl, sc⟩
                    have HPc := Lib.hid (HPb.out.new sc.below)
                    have k4 := bsame_any H1 H2 B P ls1 ls2 M sent1 sent2 wc HPc.out.one.ob HPc.out.two.ob Z.out.1 Z.out.2.1 Y.out.1 Y.out.2.1
                    rw [HD.out] at k4
                    have K4 := Lib.hid k4
                    clear HPb sc k3 k4
                    go_wp2_with fail
                    refine K4.out.mono ?_
                    rintro e wd ⟨rfl, sd⟩
                    have HPd := Lib.hid (HPc.out.new sd.below)
                    have k5 := bsame_any H2 H1 P B ls2 ls1 M sent2 sent1 wd HPd.out.two.ob HPd.out.one.ob Y.out.1 Y.out.2.1 Z.out.1 Z.out.2.1
                    rw [HD'.out] at k5
                    have K5 := Lib.hid k5
                    clear HPc sd K4 k5
                    go_wp2_with fail
                    refine K5.out.mono ?_
                    rintro e we ⟨rfl, se⟩
                    have HPe := Lib.hid (HPd.out.new se.below)
                    clear HPd se K5
                    go_wp2_with fail
                    refine (K.out _).mono ?_
                    rintro e wf ⟨rfl, bf⟩
                    go_wp2_with fail
                    go_ret
                    exact ⟨rfl, HPe.out.bel.trans (bf.mono HPe.out.bel.size)⟩
end Go.Proofs.Ytmjikfhabfodkaa
