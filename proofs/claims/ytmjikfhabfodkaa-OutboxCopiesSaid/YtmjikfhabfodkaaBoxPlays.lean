/- Outbox: the walk of OutboxPlays. Helper of OutboxPlays. -/
import Derived.Test.YtmjikfhabfodkaaBoxFew
import Derived.Test.YtmjikfhabfodkaaBoxSame
namespace Go.Proofs.Ytmjikfhabfodkaa
open Go.RowKit
set_option linter.unusedVariables false
set_option linter.unusedSimpArgs false
theorem do_any (base B R : Nat) (ls : List (List UInt8)) (bs : List UInt8) (ends : List Nat) (sent M : Nat) (k : Int) (a : Option Addr) (l : List UInt8) (c : Nat) (N : Int) (i : Nat) (w : World) (h : Both w base B R ls bs ends sent M) (hb : Bnd ls bs ends i) (hi : i ≤ 60)
    (ha : ∀ w', Below base w w' → BytesAt w' a l) (hl : l.length ≤ 300) :
    Calls Try.prog 15 #[.pointer (some ⟨B, 0, none⟩), .pointer (some ⟨R, 0, none⟩), .agg #[.int .i64 k, .slice a l.length c, .int .i64 N]] w fun e w' => e = .returned (.bool true) ∧ (∃ ls' bs' ends' sent', Both w' base B R ls' bs' ends' sent' M ∧ Bnd ls' bs' ends' (i + 1)) ∧ Below base w w' := by
  by_cases k1 : k = 1
  · subst k1
    by_cases h0 : l = []
    · subst h0
      refine (do_put0 base B R ls bs ends sent M a c N i w h hb).mono ?_
      rintro e w' ⟨rfl, ⟨ls', bs', ends', h1, h2⟩, hB⟩
      exact ⟨rfl, ⟨ls', bs', ends', sent, h1, h2⟩, hB⟩
    · refine (do_put base B R ls bs ends sent M a l c N i w h hb hi ha hl h0).mono ?_
      rintro e w' ⟨rfl, ⟨ls', bs', ends', h1, h2⟩, hB⟩
      exact ⟨rfl, ⟨ls', bs', ends', sent, h1, h2⟩, hB⟩
  · by_cases k2 : k = 2
    · subst k2
      exact do_take base B R ls bs ends sent M _ N i w h hb hi
    · refine (do_other B R k _ _ w k1 k2).mono ?_
      rintro e w' ⟨rfl, hB⟩
      exact ⟨rfl, ⟨ls, bs, ends, sent, h.new hB, hb.up⟩, hB.mono h.room⟩
set_option maxHeartbeats 1600000 in
theorem Plays_walk (n : Int) (A : Option Addr) (ts : List (Int × List UInt8 × Int)) (c : Nat) (w : World) (ha : Acts w A ts) (hn : ts.length ≤ 9223372036854775807) (hlen : ∀ i (h : i < ts.length), ts[i].2.1.length ≤ 9223372036854775807) (hr : -9223372036854775808 ≤ n ∧ n ≤ 9223372036854775807) :
    Calls Try.prog 4 #[.int .i64 n, .slice A ts.length c] w fun e w' => e = .returned (.bool true) ∧ Below w.heap.size w w' := by
  have fw := few_any A ts c 60 w ha hn (by omega) hlen
  have FW := Lib.hid fw
  have n1 := New_step n n.toNat rfl w
  have N1 := Lib.hid n1
  have n2 := fun W => refNew_any n n.toNat rfl W
  have N2 := Lib.hid n2
  clear fw n1 n2
  go_enter Try.func4, Try.ntmps4
  go_wp2_with fail
  refine FW.out.mono ?_
  rintro e w' ⟨⟨b, rfl, hb⟩, rfl⟩
  cases b with
  | false =>
    go_wp2_with (go_at_call 6; refine (known_any _).mono ?_; rintro e w' ⟨rfl, hB⟩)
    go_ret
    exact ⟨rfl, hB⟩
  | true =>
    obtain ⟨hl60, h300⟩ := hb rfl
    clear hb
    go_wp2_with fail
    refine N1.out.mono ?_
    rintro e w1 ⟨rfl, hO1, hB1⟩
    go_wp2_with fail
    refine (N2.out w1).mono ?_
    rintro e w2 ⟨rfl, hR2, hB2⟩
    have s1 := hB1.size
    have s2 := hB2.size
    have hboth : Both w2 w.heap.size w.heap.size w1.heap.size [] [] [] 0 n.toNat :=
      ⟨OBh.new (w := w1) hO1 hB2, hR2.mono (fun k _ hk => Nat.le_trans s1 hk), Sim.zero, Nat.zero_le _, by omega, by omega⟩
    have hBw : Below w.heap.size w w2 := hB1.trans (hB2.mono s1)
    generalize w1.heap.size = R at *
    generalize n.toNat = M at *
    clear hO1 hB1 hR2 hB2 N1 N2 FW s1 s2
    go_wp2_with fail
    go_loopw [7] (fun at_ wr => ∃ i : Nat, i ≤ ts.length ∧ at_ = .int .i64 i ∧ (∃ ls bs ends sent, Both wr w.heap.size w.heap.size R ls bs ends sent M ∧ Bnd ls bs ends i) ∧ Below w.heap.size w wr) (fun at_ _ => ts.length - (intOf at_).toNat)
    case atStart => exact ⟨0, Nat.zero_le _, rfl, ⟨[], [], [], 0, hboth, ⟨Nat.le_refl _, Nat.zero_le _, Nat.le_refl _⟩⟩, hBw⟩
    case round =>
      obtain ⟨i, hi, rfl, ⟨ls, bs, ends, sent, hbo, hbn⟩, hB⟩ := hrel
      clear hboth hBw
      by_cases hlt : i < ts.length
      · have hlt' : (i : Int) < (ts.length : Int) := by omega
        obtain ⟨b, o, A', c', rfl, c0, c1, c2, hby⟩ := ha.get hlt
        have d0 := cell_kept hB c0
        have d1 := cell_kept hB c1
        have d2 := cell_kept hB c2
        have kd := do_any w.heap.size w.heap.size R ls bs ends sent M ts[i].1 A' ts[i].2.1 c' ts[i].2.2 i wr hbo hbn (by omega) (fun w' hB' => hby.below (hB.trans hB') (Nat.le_refl _)) (h300 i hlt)
        have KD := Lib.hid kd
        have HB := Lib.hid hB
        clear kd hB c0 c1 c2 hby hbo hbn
        go_wp2_with fail
        refine KD.out.mono ?_
        rintro e w3 ⟨rfl, ⟨ls', bs', ends', sent', hbo', hbn'⟩, hB3⟩
        have sm := same_any w.heap.size w.heap.size R ls' bs' ends' sent' M (i + 1) w3 hbo' hbn' (by omega)
        have HBO := Lib.hid hbo'
        clear KD hbo' d0 d1 d2
        go_wp2_with fail
        refine sm.mono ?_
        rintro e w4 ⟨rfl, hs4⟩
        have hbo4 := HBO.out.at_ hs4
        have hB4 := HB.out.trans (hB3.trans (hs4.below.mono HBO.out.room))
        clear sm HBO HB hB3 hs4
        go_wp2_with fail
        go_roundw
        case rel => exact ⟨i + 1, hlt, by go_num, ⟨ls', bs', ends', sent', hbo4, hbn'⟩, hB4⟩
        case measure => simp [intOf]; omega
      · obtain rfl : i = ts.length := by omega
        have sm := same_any w.heap.size w.heap.size R ls bs ends sent M ts.length wr hbo hbn (by omega)
        have hz := hbo.room
        have HB := Lib.hid hB
        clear hbo hB
        go_wp2_with fail
        refine sm.mono ?_
        rintro e w4 ⟨rfl, hs4⟩
        go_wp2_with fail
        refine (known_any _).mono ?_
        rintro e w5 ⟨rfl, hB5⟩
        go_wp2_with fail
        go_ret
        have z1 := hs4.below.size
        exact ⟨rfl, HB.out.trans ((hs4.below.mono hz).trans (hB5.mono (by omega)))⟩
end Go.Proofs.Ytmjikfhabfodkaa
