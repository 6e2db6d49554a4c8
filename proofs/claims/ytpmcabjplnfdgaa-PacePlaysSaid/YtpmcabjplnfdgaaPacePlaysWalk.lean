/- PacePlays' walk. -/
import Derived.Test.YtpmcabjplnfdgaaPaceR14
import Derived.Test.YtpmcabjplnfdgaaOpen
namespace Go.Proofs.Ytpmcabjplnfdgaa
open Go.RowKit
set_option linter.unusedVariables false
set_option linter.unusedSimpArgs false
theorem rows3 {w : World} {A : Option Addr} {zs : List (List Int)} (h : Rows w A 3 zs) {i : Nat} (hi : i < zs.length) :
    ∃ b o x y z, A = some ⟨b, o, none⟩ ∧ zs[i] = [x, y, z] ∧ w.cell? ⟨b, o + i * 3, none⟩ = some (.int .i64 x) ∧ w.cell? ⟨b, o + i * 3 + 1, none⟩ = some (.int .i64 y) ∧ w.cell? ⟨b, o + i * 3 + 2, none⟩ = some (.int .i64 z) := by
  obtain ⟨b, o, rfl, hl, hc⟩ := h.get hi
  generalize zs[i] = r at *
  match r, hl with
  | [x, y, z], _ => exact ⟨b, o, x, y, z, rfl, rfl, hc 0 (Nat.succ_pos _), hc 1 (Nat.succ_lt_succ (Nat.succ_pos _)), hc 2 (Nat.succ_lt_succ (Nat.succ_lt_succ (Nat.succ_pos _)))⟩
theorem tick_up (p : Pc) (k : Int) : p.hz p.C ≤ (p.tick k).hz (p.tick k).C :=
  Pc.hz_mono p (Nat.le_max_left _ _)
theorem rate_hz {p : Pc} (h : p.Ok) (n d : Int) : (p.rate n d).hz (p.rate n d).C = p.hz p.C := by
  unfold Pc.rate
  split
  · exact Pc.rated_hz h _ _
  · rfl
set_option maxRecDepth 100000 in
theorem Plays_many (a : Option Addr) (len c : Nat) (w : World) (hl : 60 < len) (hl2 : len ≤ 9223372036854775807) :
    Calls Try.prog 5 #[.slice a len c] w fun e w' => e = .returned (.bool true) ∧ Below w.heap.size w w' := by
  have h1 : (60 : Int) < (len : Int) := by omega
  go_enter Try.func5, Try.ntmps5
  go_wp2_with fail
  refine (known_any w).mono ?_
  rintro e w1 ⟨rfl, hB⟩
  go_wp2_with fail
  go_ret
  exact ⟨rfl, hB⟩
set_option maxRecDepth 100000 in
set_option maxHeartbeats 40000000 in
theorem Plays_walk (a : Option Addr) (zs : List (List Int)) (c : Nat) (w : World) (hl : zs.length ≤ 60) (ha : Rows w a 3 zs) (hz : ∀ r ∈ zs, ∀ z ∈ r, -9223372036854775808 ≤ z ∧ z ≤ 9223372036854775807) :
    Calls Try.prog 5 #[.slice a zs.length c] w fun e w' => e = .returned (.bool true) ∧ Below w.heap.size w w' := by
  have h1 : ¬ (60 : Int) < (zs.length : Int) := by omega
  have k0 := New_s w.heap.size w (Nat.le_refl _)
  go_enter Try.func5, Try.ntmps5
  go_wp2_with fail
  refine k0.mono ?_
  rintro e w1 ⟨rfl, h1, b1, s1⟩
  clear k0
  go_wp2_with fail
  refine (refNew_any w1).mono ?_
  rintro e w2 ⟨rfl, b2⟩
  have h2 := h1.new b2
  have bb2 : Below w.heap.size w w2 := b1.trans (b2.mono (by omega))
  have hne : w.heap.size ≠ w2.heap.size := by have := b2.size; omega
  clear h1 b1 b2 s1
  go_wp2_with fail
  have h3 : Two (w2.alloc (.cells #[.int .i64 0, .int .i64 0, .int .i64 0, .int .i64 1, .int .i64 0] 33)) w.heap.size w.heap.size w2.heap.size Pc.zero :=
    ⟨h2.new ((Below.refl _ _).alloc (Nat.le_refl _) _), Blk.last w2 33 (rcells Pc.zero) rfl, by have := h2.2.2; omega, hne⟩
  have bb3 : Below w.heap.size w (w2.alloc (.cells #[.int .i64 0, .int .i64 0, .int .i64 0, .int .i64 1, .int .i64 0] 33)) := bb2.trans ((Below.refl _ _).alloc h2.2.2 _)
  clear h2 bb2 hne
  generalize w2.alloc _ = w3 at *
  generalize w2.heap.size = G at *
  generalize Pc.zero = p0 at *
  go_loopw [5] (fun at_ wr => ∃ (i : Nat) (p : Pc), i ≤ zs.length ∧ at_ = .int .i64 i ∧ Two wr w.heap.size w.heap.size G p ∧ Below w.heap.size w wr) (fun at_ _ => zs.length - (intOf at_).toNat)
  case atStart => exact ⟨0, p0, Nat.zero_le _, rfl, h3, bb3⟩
  case round =>
    obtain ⟨i, p, hi, rfl, h, hb⟩ := hrel
    clear h3 bb3
    by_cases hlt : i < zs.length
    · obtain ⟨b, o, x, y, z, rfl, hrow, c0, c1, c2⟩ := rows3 ha hlt
      have hxyz := hz _ (List.getElem_mem hlt)
      rw [hrow] at hxyz
      have hy := hxyz y (by simp)
      have hzz := hxyz z (by simp)
      have d0 : wr.cell? ⟨b, o + i * 3, none⟩ = some (.int .i64 x) := (hb.cell (p := ⟨b, o + i * 3, none⟩) (World.block_lt_of_cell? w _ c0)).trans c0
      have d1 : wr.cell? ⟨b, o + i * 3 + 1, none⟩ = some (.int .i64 y) := (hb.cell (p := ⟨b, o + i * 3 + 1, none⟩) (World.block_lt_of_cell? w _ c1)).trans c1
      have d2 : wr.cell? ⟨b, o + i * 3 + 2, none⟩ = some (.int .i64 z) := (hb.cell (p := ⟨b, o + i * 3 + 2, none⟩) (World.block_lt_of_cell? w _ c2)).trans c2
      have hbl := World.block_lt_of_cell? w _ c0
      simp only at hbl
      clear hrow hxyz c0 c1 c2
      obtain ⟨Z, hZ⟩ : ∃ Z, p.hz p.C = Z := ⟨_, rfl⟩
      have kh := Horizon_s _ _ p Z wr h.our hZ
      go_wp2_with fail
      refine kh.mono ?_
      rintro e w4 ⟨rfl, _, b4⟩
      have h4 := h.new b4
      have n4 : Nw wr w4 := b4
      have e0 := n4.cell d0
      have e1 := n4.cell d1
      have e2 := n4.cell d2
      have bb4 := hb.trans (b4.mono h.our.2.2)
      clear kh h b4 n4 d0 d1 d2 hb
      go_upto_block 2 with (fail)
      go_cut [] (fun wx => ∃ q : Pc, Two wx w.heap.size w.heap.size G q ∧ Z ≤ q.hz q.C ∧ Below w.heap.size w wx)
      case first =>
        by_cases hk1 : x = 1
        · subst hk1
          go_wp2_with fail
          refine (Tick_s _ _ _ y w4 h4.our hy).mono ?_
          rintro e w5 ⟨rfl, h5, c5, b5⟩
          have r5 := h4.ref.chg c5 (fun e => h4.ne e.symm)
          have bb5 := bb4.trans b5
          have hok := h4.ok
          have hg := h4.bg
          have hne := h4.ne
          have f1 : w5.cell? ⟨b, o + i * 3 + 1, none⟩ = some (.int .i64 y) := (b5.cell (p := ⟨b, o + i * 3 + 1, none⟩) hbl).trans e1
          obtain ⟨g0, g1, g2, g3, g4⟩ := rcell r5
          have KT := Lib.hid (fun W => refTick_any p y W hok)
          have R5 := Lib.hid r5
          have H5 := Lib.hid h5
          have BB5 := Lib.hid bb5
          clear e0 e1 e2 h4 c5 b5 r5 h5 bb5
          go_wp2_with fail
          go_region_with ((go_at_call 13; refine (KT.out _).mono ?_; rintro e w6 ⟨rfl, b6⟩; have r6 := R5.out.below (show Below w5.heap.size w5 w6 from (Below.refl _ _).drew.trans b6) R5.out.lt; have h6 := H5.out.new (show Below w5.heap.size w5 w6 from (Below.refl _ _).drew.trans b6); have bb6 := BB5.out.trans ((show Below w5.heap.size w5 w6 from (Below.refl _ _).drew.trans b6).mono H5.out.2.2); have q0 := r6.cell 0; have q1 := r6.cell 1; have q2 := r6.cell 2; have q3 := r6.cell 3; have q4 := r6.cell 4; have z0 := r6.frozen 0; have z1 := r6.frozen 1; have z2 := r6.frozen 2; have z3 := r6.frozen 3; have z4 := r6.frozen 4; simp [rcells] at q0 q1 q2 q3 q4))
          all_goals
            obtain ⟨h7, bb7⟩ := two_set (q := p.tick y) h6 r6 hg hne bb6 (.int .i64 p.S) (.int .i64 p.B) (.int .i64 p.N) (.int .i64 p.d) (.int .i64 (p.tick y).C) rfl
            generalize World.setCell _ _ _ = w7 at h7 bb7 ⊢
            go_wp2_with fail
            go_meet
            exact ⟨p.tick y, h7, by have := tick_up p y; omega, bb7⟩
        · have kf1 : (x == 1) = false := by simpa using hk1
          by_cases hk2 : x = 2
          · subst hk2
            clear hk1 kf1
            obtain ⟨q, hq⟩ : ∃ q, p.rate y z = q := ⟨_, rfl⟩
            have hqz : q.hz q.C = Z := by rw [← hq, rate_hz h4.ok, hZ]
            have kr := fun (W : World) (hW : PCb W w.heap.size w.heap.size p) => Rate_s _ _ p y z W hW
            rw [hq] at kr
            have KR := Lib.hid kr
            have hok := h4.ok
            have kf := refRate_any p y z
            rw [hq] at kf
            have KF := Lib.hid (fun W => kf W hok)
            have H4 := Lib.hid h4
            have BB4 := Lib.hid bb4
            have HQ := Lib.hid hq
            clear kr kf hq h4 bb4 e0
            generalize rateR y z = er at *
            go_upto_region 13 with (fail)
            go_cut [7] (fun s7 wx => s7 = .int .i64 er ∧ PCb wx w.heap.size w.heap.size q ∧ Blk wx G 33 (rcells p) ∧ Below w.heap.size w4 wx)
            case first =>
              go_region_with ((go_at_call 8; refine (KR.out _ (H4.out.our.new (Below.refl _ _).drew)).mono ?_; rintro e w5 ⟨rfl, h5, c5, b5⟩; have r5 := (H4.out.ref.drew).chg c5 (fun e => H4.out.ne e.symm); have bb5 := ((Below.refl _ w4).drew.trans b5)))
              all_goals
                go_wp2_with fail
                go_meet
                exact ⟨rfl, h5, r5, bb5⟩
            case rest =>
              obtain ⟨rfl, h5, r5, b5⟩ := hcut
              have e1 : wc.cell? ⟨b, o + i * 3 + 1, none⟩ = some (.int .i64 y) := (b5.cell (p := ⟨b, o + i * 3 + 1, none⟩) hbl).trans e1
              have e2 : wc.cell? ⟨b, o + i * 3 + 2, none⟩ = some (.int .i64 z) := (b5.cell (p := ⟨b, o + i * 3 + 2, none⟩) hbl).trans e2
              obtain ⟨g0, g1, g2, g3, g4⟩ := rcell r5
              have hlb : b < wc.heap.size := World.block_lt_of_cell? wc _ e1
              have hlG : G < wc.heap.size := r5.lt
              have R5 := Lib.hid r5
              have H5 := Lib.hid h5
              have BB5 := Lib.hid (BB4.out.trans b5)
              have HG := Lib.hid H4.out.bg
              have HNE := Lib.hid H4.out.ne
              clear r5 h5 b5 H4 BB4 KR
              go_upto_region 14 with (fail)
              refine region14 b o i zs.length c G p q y z er wc KF R5.out hlt hl e1 e2 _ ?_
              intro t64 t65 t66 t67 t68 t69 t70 t71 t72 t73 t74 t75 t76 t77 t78 g8 wx k8 b8
              have h6 := H5.out.new b8
              have r6 := R5.out.below b8 R5.out.lt
              have bb6 := BB5.out.trans (b8.mono H5.out.2.2)
              have n8 : G ≠ g8 ∨ True := .inr trivial
              obtain ⟨d0, d1, d2, d3, d4⟩ := rcell (p := q) k8
              obtain ⟨t0, t1, t2, t3, t4⟩ := rcell r6
              have z0 := r6.frozen 0
              have z1 := r6.frozen 1
              have z2 := r6.frozen 2
              have z3 := r6.frozen 3
              have z4 := r6.frozen 4
              have hs := two_set (q := q) h6 r6 HG.out HNE.out bb6 (.int .i64 q.S) (.int .i64 q.B) (.int .i64 q.N) (.int .i64 q.d) (.int .i64 q.C) rfl
              clear h6 r6 bb6 k8 b8 g0 g1 g2 g3 g4 e1 e2 hlb hlG n8
              go_upto_region 16 with (fail)
              obtain ⟨h7, bb7⟩ := hs
              generalize World.setCell _ _ _ = w7 at h7 bb7 ⊢
              clear d0 d1 d2 d3 d4 t0 t1 t2 t3 t4 z0 z1 z2 z3 z4
              have kz := Horizon_s _ _ q Z w7 h7.our hqz
              go_wp2_with fail
              refine kz.mono ?_
              rintro e w8 ⟨rfl, _, b8⟩
              have h8 := h7.new b8
              have bb8 := bb7.trans (b8.mono h7.our.2.2)
              clear kz h7 b8 bb7
              go_wp2_with fail
              go_meet
              exact ⟨q, h8, by omega, bb8⟩
          · 
            have kf2 : (x == 2) = false := by simpa using hk2
            by_cases hk3 : x = 3
            · subst hk3
              clear hk1 hk2 kf1 kf2 e0 e2
              go_wp2_with fail
              refine (wait_any _ _ p y w4 h4.our).mono ?_
              rintro e w5 ⟨⟨n, is, rfl, hw1⟩, b5⟩
              have h5 := h4.new b5
              have bb5 := bb4.trans (b5.mono h4.our.2.2)
              have f1 := Nw.cell b5 e1
              have hok := h4.ok
              have KW := Lib.hid (fun W => refWait_any p y W hok)
              have HW := Lib.hid hw1
              obtain ⟨g0, g1, g2, g3, g4⟩ := rcell h5.ref
              have H5 := Lib.hid h5
              have BB5 := Lib.hid bb5
              clear h4 bb4 b5 e1 h5 bb5 hw1
              go_upto_region 20 with (fail)
              go_cut [12, 13] (fun s12 s13 wx => s12 = .int .i64 n ∧ s13 = .bool is ∧ Below w5.heap.size w5 wx)
              case first =>
                go_region_with ((go_at_call 16; refine (KW.out _).mono ?_; rintro e w6 ⟨⟨m, also, rfl, hw2⟩, b6⟩; have n6 : Below w5.heap.size w5 w6 := (Below.refl _ w5).drew.trans b6; have E6 := Lib.hid (HW.out.same hok hw2); clear hw2 b6))
                all_goals
                  go_wp2_with fail
                  go_meet
                  exact ⟨by rw [E6.out.1], by rw [E6.out.2], n6⟩
              case rest =>
                obtain ⟨rfl, rfl, b6⟩ := hcut
                have h6 := H5.out.new b6
                have bb6 := BB5.out.trans (b6.mono H5.out.our.2.2)
                clear b6 g0 g1 g2 g3 g4 f1
                go_wp2_with fail
                go_meet
                exact ⟨p, h6, by omega, bb6⟩
            · have kf3 : (x == 3) = false := by simpa using hk3
              by_cases hk4 : x = 4
              · subst hk4
                clear hk1 hk2 hk3 kf1 kf2 kf3 e0 e2
                have hC : (w4.alloc (.cells (pcells p) 48)).heap.size = w4.heap.size + 1 := by simp
                have h5 := h4.new (show Below w4.heap.size w4 (w4.alloc (.cells (pcells p) 48)) from (Below.refl _ _).alloc (Nat.le_refl _) _)
                have o5 : PCb (w4.alloc (.cells (pcells p) 48)) w.heap.size w4.heap.size p := ⟨⟨Blk.last w4 48 _ rfl, h4.ok⟩, h4.our.2.2, h5.our.2.2⟩
                have bb5 : Below w.heap.size w (w4.alloc (.cells (pcells p) 48)) := bb4.trans ((Below.refl _ _).alloc h4.our.2.2 _)
                have f1 : (w4.alloc (.cells (pcells p) 48)).cell? ⟨b, o + i * 3 + 1, none⟩ = some (.int .i64 y) := Nw.cell (show Below w4.heap.size w4 (w4.alloc (.cells (pcells p) 48)) from (Below.refl _ _).alloc (Nat.le_refl _) _) e1
                have hnb : w.heap.size ≠ w4.heap.size := by have := h4.our.1.1.lt; omega
                have hng : G ≠ w4.heap.size := by have := h4.ref.lt; omega
                have hbw : b < w4.heap.size := by have := World.block_lt_of_cell? w4 _ e1; simpa using this
                have kc := Copy_any w.heap.size p w4 h4.our.1
                generalize w4.alloc (.cells (pcells p) 48) = w5 at *
                generalize w4.heap.size = B2 at *
                go_wp2_with fail
                refine kc.mono ?_
                rintro e w5' ⟨rfl, rfl⟩
                clear kc h4 bb4 e1 hC
                go_wp2_with fail
                refine (Same_yes _ _ _ _ w5 o5.1 h5.our.1 (Alike.refl _) rfl).mono ?_
                rintro e w6 ⟨rfl, b6⟩
                have h6 := h5.new b6
                have o6 := o5.new b6
                have f6 := Nw.cell b6 f1
                have bb6 := bb5.trans (b6.mono h5.our.2.2)
                clear b6 h5 o5 bb5 f1
                go_wp2_with fail
                refine (Same_yes _ _ _ _ w6 h6.our.1 o6.1 (Alike.refl _) rfl).mono ?_
                rintro e w7 ⟨rfl, b7⟩
                have h7 := h6.new b7
                have o7 := o6.new b7
                have f7 := Nw.cell b7 f6
                have bb7 := bb6.trans (b7.mono h6.our.2.2)
                clear b7 h6 o6 bb6 f6
                go_wp2_with fail
                refine (Tick_s _ _ _ y w7 o7 hy).mono ?_
                rintro e w8 ⟨rfl, o8, c8, b8⟩
                have h8 : Two w8 w.heap.size w.heap.size G p := ⟨h7.our.far c8 hnb, h7.ref.chg c8 hng, h7.bg, h7.ne⟩
                have f8 : w8.cell? ⟨b, o + i * 3 + 1, none⟩ = some (.int .i64 y) := by
                  have hb7 := World.block_lt_of_cell? w7 _ f7
                  simp only at hb7
                  have := c8.block b hb7 (by omega)
                  simp only [World.cell?, this] at f7 ⊢
                  exact f7
                have bb8 := bb7.trans b8
                clear c8 b8 h7 o7 bb7 f7
                have hok := h8.ok
                obtain ⟨g0, g1, g2, g3, g4⟩ := rcell h8.ref
                have hal : Alike (p.tick y) p := ⟨rfl, rfl, rfl, rfl⟩
                have KSt := Lib.hid (fun W (n : Nw w8 W) => State_any w.heap.size p W (h8.our.new n).1)
                have hsm : ∀ W, Nw w8 W → Calls Try.prog 10 #[.pointer (some ⟨B2, 0, none⟩), .pointer (some ⟨w.heap.size, 0, none⟩)] W fun e w' => e = .returned (.bool (decide (y ≤ (p.C : Int)))) ∧ Below W.heap.size W w' := by
                  intro W n
                  by_cases hyc : y ≤ (p.C : Int)
                  · rw [show decide (y ≤ (p.C : Int)) = true by simpa using hyc]
                    exact Same_yes _ _ _ _ W (o8.new n).1 (h8.our.new n).1 hal (by show max p.C y.toNat = p.C; omega)
                  · rw [show decide (y ≤ (p.C : Int)) = false by simpa using hyc]
                    exact Same_no _ _ _ _ W (o8.new n).1 (h8.our.new n).1 hal (by show max p.C y.toNat ≠ p.C; omega)
                have KSm := Lib.hid hsm
                have H8 := Lib.hid h8
                have BB8 := Lib.hid bb8
                have i0 : Nw w8 w8.drew := (Nw.refl w8).drew
                clear hsm h8 bb8 o8
                obtain ⟨bl, hbl2⟩ : ∃ bl : Bool, decide (y ≤ (p.C : Int)) = bl := ⟨_, rfl⟩
                rw [hbl2] at KSm
                go_upto_region 28 with (fail)
                go_cut [157] (fun s157 wx => s157 = .bool false ∧ Nw w8 wx)
                case first =>
                  go_region_held3 (fun W => Nw w8 W ∧ W.cell? ⟨G, 0, none⟩ = some (.int .i64 p.S) ∧ W.cell? ⟨G, 1, none⟩ = some (.int .i64 p.B) ∧ W.cell? ⟨G, 2, none⟩ = some (.int .i64 p.N) ∧ W.cell? ⟨G, 3, none⟩ = some (.int .i64 p.d) ∧ W.cell? ⟨G, 4, none⟩ = some (.int .i64 p.C) ∧ W.cell? ⟨b, o + i * 3 + 1, none⟩ = some (.int .i64 y)) (first | exact ⟨i0, g0, g1, g2, g3, g4, f8⟩ | exact ⟨by assumption, Nw.cell (by assumption) g0, Nw.cell (by assumption) g1, Nw.cell (by assumption) g2, Nw.cell (by assumption) g3, Nw.cell (by assumption) g4, Nw.cell (by assumption) f8⟩) (first
                    | (go_at_call 10; refine (KSm.out _ (by assumption)).mono ?_; rintro e w' ⟨rfl, b'⟩; have i1 := Nw.step (by assumption) b')
                    | (go_at_call 19; refine (KSt.out _ (by assumption)).mono ?_; rintro e w' ⟨rfl, b'⟩; have i3 := Nw.step (by assumption) b'))
                  all_goals
                    go_wp2_with fail
                    go_meet
                    exact ⟨rfl, by assumption⟩
                case rest =>
                  obtain ⟨rfl, n9⟩ := hcut
                  have h9 := H8.out.new n9
                  have bb9 := BB8.out.trans (Below.mono n9 H8.out.our.2.2)
                  clear n9 g0 g1 g2 g3 g4 f8
                  go_wp2_with fail
                  go_meet
                  exact ⟨p, h9, by omega, bb9⟩
              · have kf4 : (x == 4) = false := by simpa using hk4
                go_wp2_with fail
                go_meet
                exact ⟨p, h4, by omega, bb4⟩
      case rest =>
        obtain ⟨q, h5, hle, b5⟩ := hcut
        have hdz : decide (((q.hz q.C : Nat) : Int) < (Z : Int)) = false := by simp; omega
        have hdn : decide (q.hz q.C < Z) = false := by simp; omega
        have hok := h5.ok
        obtain ⟨g0, g1, g2, g3, g4⟩ := rcell h5.ref
        obtain ⟨Y, hY⟩ : ∃ Y, q.hz q.C = Y := ⟨_, rfl⟩
        have KH := Lib.hid (fun W (i : Nw wc W) => Horizon_s w.heap.size w.heap.size q Y W (h5.our.new i) hY)
        have kr := fun W => refHorizon_any q W hok
        rw [hY] at kr hdz hdn
        have KR := Lib.hid kr
        have KS := Lib.hid (fun W (i : Nw wc W) => State_any w.heap.size q W (h5.our.new i).1)
        have H5 := Lib.hid h5
        have B5 := Lib.hid b5
        have i0 : Nw wc wc.drew := (Nw.refl wc).drew
        clear hY kr h5 b5 hle h4 bb4 e0 e1 e2
        go_upto_region 30 with (fail)
        go_cut [174] (fun s174 wx => s174 = .bool false ∧ Nw wc wx)
        case first =>
          go_region_held3 (fun W => Nw wc W ∧ W.cell? ⟨G, 0, none⟩ = some (.int .i64 q.S) ∧ W.cell? ⟨G, 1, none⟩ = some (.int .i64 q.B) ∧ W.cell? ⟨G, 2, none⟩ = some (.int .i64 q.N) ∧ W.cell? ⟨G, 3, none⟩ = some (.int .i64 q.d) ∧ W.cell? ⟨G, 4, none⟩ = some (.int .i64 q.C)) (first | exact ⟨i0, g0, g1, g2, g3, g4⟩ | exact ⟨by assumption, Nw.cell (by assumption) g0, Nw.cell (by assumption) g1, Nw.cell (by assumption) g2, Nw.cell (by assumption) g3, Nw.cell (by assumption) g4⟩) (first
            | (go_at_call 11; refine (KH.out _ (by assumption)).mono ?_; rintro e w' ⟨rfl, _, b'⟩; have i1 := Nw.step (by assumption) b')
            | (go_at_call 17; refine (KR.out _).mono ?_; rintro e w' ⟨rfl, b'⟩; have i2 := Nw.step (by assumption) b')
            | (go_at_call 19; refine (KS.out _ (by assumption)).mono ?_; rintro e w' ⟨rfl, b'⟩; have i3 := Nw.step (by assumption) b'))
          all_goals
            go_wp2_with fail
            go_meet
            exact ⟨rfl, by assumption⟩
        case rest =>
          obtain ⟨rfl, n6⟩ := hcut
          have h6 := H5.out.new n6
          have bb6 := B5.out.trans (Below.mono n6 H5.out.our.2.2)
          clear n6 g0 g1 g2 g3 g4 hdz
          go_wp2_with fail
          go_roundw
          case rel => exact ⟨i + 1, q, by omega, by go_num, h6, bb6⟩
          case measure => simp [intOf]; omega
    · obtain rfl : i = zs.length := by omega
      go_wp2_with fail
      refine (known_any wr).mono ?_
      rintro e w5 ⟨rfl, b5⟩
      go_wp2_with fail
      go_ret
      exact ⟨rfl, hb.trans (b5.mono h.our.2.2)⟩
end Go.Proofs.Ytpmcabjplnfdgaa
