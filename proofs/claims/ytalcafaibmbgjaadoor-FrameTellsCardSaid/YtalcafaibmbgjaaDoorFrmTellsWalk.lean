/- FrameTells: the walk of the law. Helper. -/
import Derived.Test.YtalcafaibmbgjaaDoorFrmState
import Derived.Lib.MinMax
namespace Go.Proofs.YtalcafaibmbgjaaDoor
open Go.RowKit
set_option linter.unusedVariables false
set_option linter.unusedSimpArgs false
set_option maxRecDepth 100000
set_option maxHeartbeats 6400000
theorem tells_out (w : World) (hE : ErrT w) (A : Option Addr) (n c : Nat) (A2 : Option Addr) (m c2 : Nat) (h : 9000 < n) :
    Calls Tryd.prog 4 #[.slice A n c, .slice A2 m c2] w fun e w' => e = .returned (.bool true) ∧ Nw w w' := by
  have g1 : (9000 : Int) < (n : Int) := by omega
  clear h
  go_enter Tryd.func4, Tryd.ntmps4
  go_wp2_with fail
  refine (known_any w hE).mono ?_
  rintro e w1 ⟨rfl, n1⟩
  go_wp2_with fail
  go_ret
  exact ⟨rfl, n1⟩
theorem tells_out2 (w : World) (hE : ErrT w) (A : Option Addr) (n c : Nat) (A2 : Option Addr) (m c2 : Nat) (h1 : n ≤ 9000) (h : 60 < m) :
    Calls Tryd.prog 4 #[.slice A n c, .slice A2 m c2] w fun e w' => e = .returned (.bool true) ∧ Nw w w' := by
  have g1 : ¬ (9000 : Int) < (n : Int) := by omega
  have g2 : (60 : Int) < (m : Int) := by omega
  clear h h1
  go_enter Tryd.func4, Tryd.ntmps4
  go_wp2_with fail
  refine (known_any w hE).mono ?_
  rintro e w1 ⟨rfl, n1⟩
  go_wp2_with fail
  go_ret
  exact ⟨rfl, n1⟩
/-- What was told of the first f bytes. -/
def tolds (s : List UInt8) (f : Nat) : List (Nat × Nat) × Int × Nat := toldF (s.take f) ((s.take f).length + 1) 0
/-- The law's state at a round's head. -/
structure TellsIn (w wr : World) (D : Nat) (s : List UInt8) (f : Nat) (es : List Tx) (AL : Option Addr) (cL : Nat) (blkL : Option Nat) (A : Option Addr) (c : Nat) (x : Value) (blk : Option Nat) : Prop where
  n : Nw w wr
  st : TS w.heap.size wr D (s.take f) (tolds s f) es AL cL blkL A c x blk
  e : es.map (fun e => e.2.2.2) = (tolds s f).1.map fun y => ((s.take f).drop y.1).take y.2
  b : ∀ B, x = .iface 54 (.pointer (some ⟨B, 0, none⟩)) → w.heap.size ≤ B
theorem tells_in (w : World) (hE : ErrT w) (A : Option Addr) (n c : Nat) (s : List UInt8) (hb : BytesAt w A s) (hn : s.length = n) (hc : n ≤ c) (h : n ≤ 9000)
    (Ac : Option Addr) (m cc : Nat) (ns : List Int) (hns : Rd w Ac (ns.map (Value.int .i64))) (hm : ns.length = m) (h2 : m ≤ 60) :
    Calls Tryd.prog 4 #[.slice A n c, .slice Ac m cc] w fun e w' => e = .returned (.bool true) ∧ Nw w w' := by
  have g1 : ¬ (9000 : Int) < (n : Int) := by omega
  have g2 : ¬ (60 : Int) < (m : Int) := by omega
  have HE := Lib.hid hE
  have HEP := Lib.hid hE.pos
  have HB := Lib.hid hb
  have HN := Lib.hid (And.intro hn (And.intro hc h))
  have HNS := Lib.hid (And.intro hns hm)
  obtain ⟨i0, hi0, hz0, hz1, hz2⟩ := info_parts infoU8f
  have HL1 := Lib.hid hi0
  have HL2 := Lib.hid hz0
  have HL3 := Lib.hid hz1
  have HL4 := Lib.hid hz2
  obtain ⟨j0, hj0, hy0, hy1, hy2⟩ := info_parts infoSl
  have HJ1 := Lib.hid hj0
  have HJ2 := Lib.hid hy0
  have HJ3 := Lib.hid hy1
  have HJ4 := Lib.hid hy2
  clear hE hb hn hc h hns hm hi0 hz0 hz1 hz2 hj0 hy0 hy1 hy2
  go_enter Tryd.func4, Tryd.ntmps4
  go_upto_region 3 with (fail)
  go_wp2_with fail
  refine (decNew_any w).mono ?_
  rintro e w1 ⟨rfl, d1, n1⟩
  have H1 := Lib.hid (show TellsIn w w1 w.heap.size s 0 [] none 0 none none 0 .nilIface none from ⟨n1, ⟨by
      unfold DecS tolds
      simpa [toldF] using d1, Own.nil _ _ _, (fun e he => by cases he), (fun k hk => by rcases hk with hk | hk; { exact Nat.le_of_eq hk.symm }; { cases hk }), (fun g hg => by cases hg), (fun e he => by cases he)⟩, by simp [tolds, toldF], fun B hB => by cases hB⟩)
  clear d1 n1
  go_wp2_with fail
  go_loopw [6, 7, 8] (fun x y z wr => ∃ (i f : Nat) (es : List Tx) (AL : Option Addr) (cL : Nat) (blkL : Option Nat) (A2 : Option Addr) (c2 : Nat) (x2 : Value) (blk2 : Option Nat), x = .slice AL es.length cL ∧ y = .int .i64 (f : Int) ∧ z = .int .i64 (i : Int) ∧ i ≤ m + 1 ∧ f ≤ n ∧ Hid (TellsIn w wr w.heap.size s f es AL cL blkL A2 c2 x2 blk2)) (fun _ _ z _ => m + 2 - (intOf z).toNat)
  case atStart => exact ⟨0, 0, [], none, 0, none, none, 0, _, none, rfl, rfl, rfl, by omega, by omega, H1⟩
  case round =>
    obtain ⟨i, f, es, AL, cL, blkL, A2, c2, x2, blk2, rfl, rfl, rfl, hi, hf, HI⟩ := hrel
    obtain ⟨w0, hw0⟩ : ∃ w0, w0 = wr := ⟨_, rfl⟩
    subst hw0
    obtain ⟨ne, hne⟩ : ∃ k, es.length = k := ⟨_, rfl⟩
    rw [hne]
    have HNE := Lib.hid hne
    clear hne H1
    by_cases hlt : i ≤ m
    rotate_left
    · have i1 : ¬ (i : Int) ≤ (m : Int) := by omega
      have KK := Lib.hid (known_any w0 (HE.out.nw HI.out.n))
      go_wp2_with fail
      refine KK.out.mono ?_
      rintro e w9 ⟨rfl, n9⟩
      go_wp2_with fail
      go_ret
      exact ⟨rfl, HI.out.n.trans (n9.mono HI.out.n.size)⟩
    have i1 : (i : Int) ≤ (m : Int) := by omega
    go_upto_if 39 with (fail)
    go_cut [9] (fun s9 wx => ∃ t : Nat, s9 = .int .i64 (t : Int) ∧ f ≤ t ∧ t ≤ n ∧ Hid (wx = w0))
    case first =>
      by_cases hlm : i < m
      · have i2 : (i : Int) < (m : Int) := by omega
        obtain ⟨gc, oc, rfl, hcc⟩ : ∃ gc oc, Ac = some ⟨gc, oc, none⟩ ∧ w0.cell? ⟨gc, oc + i, none⟩ = some (.int .i64 (ns[i]'(by rw [HNS.out.2]; exact hlm))) := by
          rcases HNS.out.1 with h | ⟨g, o, e1, h⟩
          · have := congrArg List.length h; rw [List.length_map, HNS.out.2] at this; simp at this; omega
          · exact ⟨g, o, e1, HI.out.n.cell (h i _ (by simp [HNS.out.2, hlm]))⟩
        obtain ⟨z, hz⟩ : ∃ z, ns[i]'(by rw [HNS.out.2]; exact hlm) = z := ⟨_, rfl⟩
        rw [hz] at hcc
        clear hz
        go_wp2_with fail
        go_meet
        exact ⟨(min (max z (f : Int)) (n : Int)).toNat, by rw [show (((min (max z (f : Int)) (n : Int)).toNat : Nat) : Int) = min (max z (f : Int)) (n : Int) by omega], by omega, by omega, Lib.hid rfl⟩
      · have i2 : ¬ (i : Int) < (m : Int) := by omega
        go_wp2_with fail
        go_meet
        exact ⟨n, rfl, hf, Nat.le_refl _, Lib.hid rfl⟩
    case rest =>
      obtain ⟨t, rfl, hft, htn, hwx⟩ := hcut
      rw [hwx.out]
      clear hwx wc
      go_upto_region 12 with (fail)
      obtain ⟨L, hL⟩ : ∃ L, t - f = L := ⟨_, rfl⟩
      have hrl : ((s.drop f).take L).length = L := by rw [List.length_take, List.length_drop]; have := HN.out; omega
      have hrt : s.take f ++ (s.drop f).take L = s.take t := by rw [← List.take_add]; congr 1; omega
      obtain ⟨r, hr⟩ : ∃ r, (s.drop f).take L = r := ⟨_, rfl⟩
      rw [hr] at hrl hrt
      have HR := Lib.hid (And.intro hrl (And.intro hrt (And.intro hL hr)))
      clear hrl hrt
      go_cut [10] (fun s10 wx => ∃ (Ab : Option Addr) (cb : Nat) (blkC : Option Nat), s10 = .slice Ab L cb ∧ Hid (Own wx 5 1 (.slice Ab L cb) L (bcells r) blkC ∧ (∀ g, blkC = some g → w0.heap.size ≤ g) ∧ Nw w0 wx))
      case first =>
        have e1 : (f : Int) ≤ (t : Int) := by omega
        have e2 : (t : Int) ≤ (c : Int) := by have := HN.out; omega
        by_cases hcf : c = f
        · obtain rfl : t = f := by have := HN.out; omega
          have hL0 : L = 0 := by omega
          subst hL0
          have hr0 : r = [] := List.eq_nil_of_length_eq_zero HR.out.1
          subst hr0
          subst hcf
          clear hL hr
          go_wp2_with (at_builtin; refine wpList_append_at w0 rfl _ _ _ rfl 5 i0 _ 1 1 Tryd.underlying22 HL1.out HL2.out HL3.out HL4.out rfl (by omega) _ 0 [] none rfl (Own.nil _ _ _) _ 0 0 [] rfl rfl (.inl rfl) (fun u hu => by cases hu) (by simp only [maxLen]; omega) (by omega) ?_; intro A6 c6 w6 blk6 hown hchg hat; have HO6 := Lib.hid hown; have HC6 := Lib.hid hchg; have HT6 := Lib.hid hat; clear hown hchg hat)
          go_meet
          refine ⟨A6, c6, blk6, rfl, Lib.hid ⟨by simpa [bcells] using HO6.out, fun g hg => ?_, HC6.out.below (fun k _ hk => by cases hk) (Nat.le_refl _)⟩⟩
          rcases HT6.out with h | h
          · rw [h] at hg; cases hg
          · rw [h] at hg; injection hg with hg; omega
        · have e3 : ¬ (c : Int) = (f : Int) := by omega
          have e4 : (t : Int) - (f : Int) = (L : Int) := by omega
          have e5 : (c : Int) - (f : Int) = ((c - f : Nat) : Int) := by have := HN.out; omega
          have HRB := Lib.hid (show BytesAt w0 (A.map fun x => x.add f) r by
            have h0 : BytesAt w0 A s := Rd.below HB.out HI.out.n (Nat.le_refl _)
            have h1 := h0.cut (s.length + 1) (k := f) (by have := HN.out; omega) (by omega)
            rw [if_neg (by have := HN.out; omega)] at h1
            rw [← HR.out.2.2.2]
            exact h1.take L)
          go_wp2_with (at_builtin; refine wpList_append_at w0 rfl _ _ _ rfl 5 i0 _ 1 1 Tryd.underlying22 HL1.out HL2.out HL3.out HL4.out rfl (by omega) _ 0 [] none rfl (Own.nil _ _ _) _ L (c - f) (bcells r) rfl (by rw [bcells_length, HR.out.1]; omega) HRB.out (bcells_one _) (by have := HR.out; have := HN.out; simp only [maxLen]; omega) (by have := HR.out; have := HN.out; omega) ?_; intro A6 c6 w6 blk6 hown hchg hat; have HO6 := Lib.hid hown; have HC6 := Lib.hid hchg; have HT6 := Lib.hid hat; clear hown hchg hat)
          go_meet
          refine ⟨A6, c6, blk6, rfl, Lib.hid ⟨by simpa using HO6.out, fun g hg => ?_, HC6.out.below (fun k _ hk => by cases hk) (Nat.le_refl _)⟩⟩
          rcases HT6.out with h | h
          · rw [h] at hg; cases hg
          · rw [h] at hg; injection hg with hg; omega
      case rest =>
        obtain ⟨Ab, cb, blkC, rfl, HC⟩ := hcut
        have hL9 : L ≤ 9000 := by have := HN.out; omega
        have hTf : (tolds s f).2.2 ≤ (s.take f).length := (toldF_end _ _ 0 (Nat.zero_le _)).2
        have S1 := Lib.hid (HI.out.st.nw HC.out.2.2)
        have KP := Lib.hid (pushT_any wc w.heap.size (s.take f) (tolds s f) A2 c2 x2 blk2 S1.out.d hTf Ab L cb r (own_rdA HC.out.1).1 HR.out.1 (by rw [List.length_take]; have := HN.out; have := HR.out; omega))
        rw [HR.out.2.1] at KP
        clear hTf hL hr
        go_upto_region 13 with (fail)
        go_wp2_with fail
        refine KP.out.mono ?_
        rintro e w2 ⟨rfl, A3, c3, blk3, d3, ch3, hb3⟩
        have hBw : w.heap.size ≤ wc.heap.size := Nat.le_trans HI.out.n.size HC.out.2.2.size
        have hbC : blk3 ≠ blkC ∨ blkC = none := by
          rcases hb3 with h | h
          · cases hq : blkC with
            | none => exact .inr rfl
            | some g =>
              left
              intro he
              have h5 := HC.out.2.1 g hq
              have h6 := HI.out.st.lt g (.inr (by rw [← he, h]))
              omega
          · cases hq : blkC with
            | none => exact .inr rfl
            | some g =>
              left
              intro he
              rw [h] at he
              injection he with he
              have := HC.out.1.lt g hq
              omega
        have S2 := Lib.hid (show TS w.heap.size w2 w.heap.size (s.take t) (tolds s f) es AL cL blkL A3 c3 x2 blk3 by
          have h5 := HR.out.2.1
          rw [← h5] at d3 ⊢
          exact S1.out.push d3 ch3 hb3 hBw)
        have HO2 := Lib.hid (show Own w2 5 1 (.slice Ab L cb) L (bcells r) blkC from HC.out.1.chg ch3 (fun g hg hk => by
          have h5 := HC.out.2.1 g hg
          have h6 := HI.out.st.lt g hk
          omega))
        have N2 := Lib.hid (show Nw w w2 from (HI.out.n.trans (HC.out.2.2.mono HI.out.n.size)).trans (ch3.below (fun k _ hk => HI.out.st.m k hk) hBw))
        have HBC := Lib.hid (And.intro hbC hBw)
        clear d3 ch3 hb3 hbC hBw
        go_wp2_with fail
        go_loopw [11] (fun y wr => ∃ (k : Nat) (bs : List UInt8), y = .int .i64 (k : Int) ∧ k ≤ L ∧ Hid (bs.length = L ∧ Own wr 5 1 (.slice Ab L cb) L (bcells bs) blkC ∧ Chg (fun k => some k = blkC) w2 wr)) (fun y _ => L - (intOf y).toNat)
        case atStart => exact ⟨0, r, rfl, Nat.zero_le _, Lib.hid ⟨HR.out.1, HO2.out, Chg.refl _ _⟩⟩
        case round =>
          obtain ⟨k, bs, rfl, hk, HK⟩ := hrel
          by_cases hkl : k < L
          · have q1 : (k : Int) < (L : Int) := by omega
            obtain ⟨gb, ob, hAb, hbC⟩ : ∃ g o, Ab = some ⟨g, o, none⟩ ∧ blkC = some g := by
              rcases own_place HK.out.2.1 with h | h
              · have := congrArg List.length h; rw [bcells_length, HK.out.1] at this; simp at this; omega
              · exact h
            subst hAb hbC
            have hkb : k < bs.length := by rw [HK.out.1]; exact hkl
            obtain ⟨y, hy⟩ : ∃ y, bs[k]'hkb = y := ⟨_, rfl⟩
            have ck : wr.cell? ⟨gb, ob + k, none⟩ = some (.int .u8 (y.toNat : Int)) := by
              obtain ⟨b', o', e1, _, h⟩ := BytesAt.get (show BytesAt wr _ bs from (own_rdA HK.out.2.1).1) (k := k) hkb
              injection e1 with e1; injection e1 with e1 e2; subst e1 e2
              rw [h, hy]
            have zk : wr.frozen? ⟨gb, ob + k, none⟩ = false := by
              obtain ⟨cur, hcur⟩ := own_ty HK.out.2.1
              exact hcur.frozen _
            have hy8 := y.toNat_lt
            have wv : IntKind.u8.wrap ((y.toNat : Int) + 1) = ((y + 1).toNat : Int) := by
              have h1 : (y + 1).toNat = (y.toNat + 1) % 256 := by rw [UInt8.toNat_add]; rfl
              rw [h1]
              show ((y.toNat : Int) + 1) % 256 = _
              omega
            have HY := Lib.hid hy
            clear hy hy8
            as_aux_lemma =>
              go_wp2_with fail
              go_roundw
              case rel =>
                refine ⟨k + 1, bs.set k (y + 1), by push_cast; rfl, hkl, Lib.hid ⟨by rw [List.length_set]; exact HK.out.1, ?_, HK.out.2.2.setCell (.inl rfl) _⟩⟩
                have h5 := own_setF HK.out.2.1 hkl (.int .u8 ((y + 1).toNat : Int))
                rw [show bcells (bs.set k (y + 1)) = (bcells bs).set k (.int .u8 ((y + 1).toNat : Int)) by simp [bcells, List.map_set]]
                exact h5
              case measure => simp [intOf]; omega
          · obtain rfl : k = L := by omega
            have q1 : ¬ (k : Int) < (k : Int) := by omega
            have hS3 : TS w.heap.size wr w.heap.size (s.take t) (tolds s f) es AL cL blkL A3 c3 x2 blk3 := by
              refine S2.out.young HK.out.2.2 HC.out.2.1 HBC.out.1 fun j hj => ?_
              rcases hj with hj | hj | ⟨e, he, hj⟩ | hj
              · rw [hj]; have hd : Dec _ _ _ _ _ _ _ _ _ := HI.out.st.d; exact hd.b.lt
              · exact HI.out.st.o.lt j hj.symm
              · rw [← hj]; exact (HI.out.st.x e he).2.2.1
              · exact (HI.out.st.brkB j hj).2.2
            have hn3 : Nw w wr := N2.out.trans (HK.out.2.2.below (fun j _ hj => by have := HC.out.2.1 j hj.symm; have := HI.out.n.size; omega) N2.out.size)
            have S3 := Lib.hid (And.intro hS3 hn3)
            have HT2 := Lib.hid (show BytesAt wr A (s.take t) ∧ (s.take t).length = t from ⟨(BytesAt.take (Rd.below HB.out hn3 (Nat.le_refl _)) t), by rw [List.length_take]; have := HN.out; omega⟩)
            clear hS3 hn3
            have tc : (t : Int) ≤ (c : Int) := by have := HN.out; omega
            have KT := Lib.hid (told02_any wr A t c (s.take t) HT2.out.1 HT2.out.2 (by omega) (by have := HN.out; omega))
            obtain ⟨TT, hTT⟩ : ∃ TT, tolds s t = TT := ⟨_, rfl⟩
            rw [show toldF (s.take t) ((s.take t).length + 1) 0 = TT from hTT] at KT
            have HTT := Lib.hid hTT
            clear hTT
            go_upto_region 19 with (fail)
            go_wp2_with fail
            refine KT.out.mono ?_
            rintro e w4 ⟨Aw, cw, bw, ow, cbw, rfl, rd4, bt4, n4, g4⟩
            have R4 := Lib.hid (And.intro rd4 (And.intro bt4 (And.intro n4 g4)))
            have S4 := Lib.hid (And.intro (S3.out.1.nw n4) (S3.out.2.trans (n4.mono S3.out.2.size)))
            clear rd4 bt4 n4 g4
            have hD0 : 0 ≠ w.heap.size := by have := HEP.out; omega
            have hM4 : ∀ j, decM w.heap.size blk3 j → j ≠ 0 := fun j hj => by have := S4.out.1.m j hj; omega
            have KL := Lib.hid (tellT_any w4 (HE.out.nw S4.out.2) w.heap.size hD0 (s.take t) (tolds s f) A3 c3 x2 blk3 S4.out.1.d (by rw [HT2.out.2]; have := HN.out; omega) (by
              have h5 := (toldF_end (s.take f) ((s.take f).length + 1) 0 (Nat.zero_le _)).2
              have h6 : (tolds s f).2.2 ≤ (s.take f).length := h5
              rw [List.length_take] at h6; rw [HT2.out.2]; have := HN.out; omega) hM4 (fun _ _ => .inr trivial))
            have hX := toldX_app (s.take f) r
            rw [HR.out.2.1] at hX
            obtain ⟨X, hXX⟩ : ∃ X, toldX (s.take t) (tolds s f) = X := ⟨_, rfl⟩
            rw [hXX] at KL
            have hTX : TT = ((tolds s f).1 ++ X.1, X.2) := by
              rw [← HTT.out, ← hXX]; exact hX
            have HX := Lib.hid hTX
            obtain ⟨ee, hee⟩ : ∃ ee, TT.2.1 = ee := ⟨_, rfl⟩
            obtain ⟨pp, hpp⟩ : ∃ pp, TT.2.2 = pp := ⟨_, rfl⟩
            obtain ⟨nw, hnw⟩ : ∃ nw, TT.1.length = nw := ⟨_, rfl⟩
            have hX1 : X.2.1 = ee := by rw [← hee, hTX]
            rw [hX1] at KL
            rw [hee, hpp, hnw]
            have HPP := Lib.hid (And.intro hee (And.intro hpp (And.intro hnw (show pp ≤ t from by
              have h5 := (toldF_end (s.take t) ((s.take t).length + 1) 0 (Nat.zero_le _)).2
              rw [show toldF (s.take t) ((s.take t).length + 1) 0 = TT from HTT.out, hpp, HT2.out.2] at h5
              exact h5))))
            clear hD0 hM4 hX hXX hTX hee hpp hnw hX1
            go_upto_region 20 with (fail)
            go_wp2_with fail
            refine KL.out.mono ?_
            rintro e w5 ⟨AL5, cL5, es5, blk5, rfl, o5, g5, x5, e5, ch5, A6, c6, x6, blk6, d6, hb6, hx6⟩
            have S5 := Lib.hid (show TS w.heap.size w5 w.heap.size (s.take t) X es AL cL blkL A6 c6 x6 blk6 from S4.out.1.tell d6 ch5 hb6)
            have N5 := Lib.hid (show Nw w w5 from S4.out.2.trans (ch5.below (fun j _ hj => S4.out.1.m j hj) S4.out.2.size))
            have W5 := Lib.hid (show Nw w4 w5 → True from fun _ => trivial)
            have F5 := Lib.hid (And.intro o5 (And.intro x5 (And.intro e5 (And.intro hx6 hb6))))
            have hne5 : ne + es5.length = nw := by
              have h5 := congrArg List.length e5
              have h6 := congrArg List.length HI.out.e
              rw [List.length_map, List.length_map] at h5 h6
              have h7 := HPP.out.2.2.1
              rw [HX.out] at h7
              simp only [List.length_append] at h7
              have := HNE.out
              omega
            have hnw9 : nw ≤ 9000 := by
              have h5 := toldF_many (s.take t) ((s.take t).length + 1) 0 (Nat.zero_le _)
              rw [show toldF (s.take t) ((s.take t).length + 1) 0 = TT from HTT.out, HPP.out.2.2.1, HT2.out.2] at h5
              have := HN.out
              omega
            obtain ⟨n5, hn5⟩ : ∃ k, es5.length = k := ⟨_, rfl⟩
            rw [hn5] at hne5 ⊢
            have HN5 := Lib.hid hn5
            have HBT := Lib.hid (fun (W : World) (hW : Nw w W) => (show BytesAt W (some ⟨bw, ow, none⟩) (s.take t) from by
              rcases R4.out.2.1 with h | h
              · rw [h]; exact .inl rfl
              · rw [← h]; exact BytesAt.take (Rd.below HB.out hW (Nat.le_refl _)) t))
            have HRD := Lib.hid (show Rd w5 Aw (toldV bw ow cbw TT.1) ∧ (TT.1 = [] ∨ ∃ g o, Aw = some ⟨g, o, none⟩ ∧ wr.heap.size ≤ g ∧ g < w4.heap.size) from by
              rcases R4.out.1 with h | ⟨g, o, rfl, h⟩
              · exact ⟨by rw [h]; exact .inl rfl, .inl (by simpa [toldV] using h)⟩
              · rcases R4.out.2.2.2 with h1 | ⟨g', o', h1, h2⟩
                · exact ⟨by rw [h1]; exact .inl rfl, .inl h1⟩
                · injection h1 with h1; injection h1 with h1 h3; subst h1 h3
                  by_cases h9 : TT.1 = []
                  · exact ⟨by rw [h9]; exact .inl rfl, .inl h9⟩
                  · have hlt : 0 < (toldV bw ow cbw TT.1).length := by simp only [toldV, List.length_map]; exact List.length_pos_iff.2 h9
                    have hg4 : g < w4.heap.size := World.block_lt_of_cell? w4 _ (h 0 _ (List.getElem?_eq_getElem hlt))
                    have hnM : ¬ decM w.heap.size blk3 g := fun hk => by
                      have h5 := S3.out.1.lt g hk
                      omega
                    refine ⟨.inr ⟨g, o, rfl, fun j u hu => ?_⟩, .inr ⟨g, o, rfl, h2, hg4⟩⟩
                    have h5 := h j u hu
                    have h6 := ch5.block g hg4 hnM
                    unfold World.cell? at h5 ⊢
                    simpa [h6] using h5)
            clear o5 g5 x5 e5 ch5 d6 hb6 hx6 hn5
            go_upto_region 22 with (at_builtin; refine wpList_append_at w5 rfl _ _ _ rfl 22 j0 _ 1 24 Tryd.underlying27 HJ1.out HJ2.out HJ3.out HJ4.out rfl (by omega) _ ne (es.map Tx.v) blkL rfl (by have := S5.out.o; rw [HNE.out] at this; exact this) _ n5 cL5 (es5.map Tx.v) rfl (by rw [List.length_map, HN5.out]; omega) (own_rdA F5.out.1).1 (by intro u hu; obtain ⟨e, _, rfl⟩ := List.mem_map.1 hu; rfl) (by simp only [maxLen]; omega) (by omega) ?_; intro A7 c7 w7 blk7 hown hchg hat; have HO7 := Lib.hid hown; have HC7 := Lib.hid hchg; have HT7 := Lib.hid hat; clear hown hchg hat)
            have S7 := Lib.hid (show TS w.heap.size w7 w.heap.size (s.take t) X (es ++ es5) A7 c7 blk7 A6 c6 x6 blk6 from S5.out.app (b1 := w4.heap.size) F5.out.2.1 (fun j hj => by
                have h5 : decM w.heap.size blk3 j := by
                  rcases hj with hj | hj
                  · exact .inl hj
                  · rcases F5.out.2.2.2.2 with h | h
                    · exact .inr (by rw [hj, h])
                    · rw [h] at hj; cases hj
                exact S4.out.1.lt j h5) (fun g hg => S4.out.1.o.lt g hg) S4.out.2.size (by
                have h5 := HO7.out
                rw [List.length_append, HNE.out, HN5.out, List.map_append]
                exact h5) HC7.out HT7.out N5.out.size)
            have N7 := Lib.hid (show Nw w w7 from N5.out.trans (HC7.out.below (fun j _ hj => S5.out.gl j hj.symm) N5.out.size))
            have HRD7 := Lib.hid (show Rd w7 Aw (toldV bw ow cbw TT.1) from by
              rcases HRD.out.1 with h | ⟨g, o, rfl, h⟩
              · rw [h]; exact .inl rfl
              · rcases HRD.out.2 with h1 | ⟨g', o', h1, h2, h3⟩
                · rw [h1]; exact .inl rfl
                · injection h1 with h1; injection h1 with h1 h4; subst h1 h4
                  have hnM : ¬ some g = blkL := fun hk => by have h5 := S3.out.1.o.lt g hk.symm; omega
                  refine .inr ⟨g, o, rfl, fun j u hu => ?_⟩
                  have h5 := h j u hu
                  have h6 := HC7.out.block g (World.block_lt_of_cell? w5 _ h5) hnM
                  unfold World.cell? at h5 ⊢
                  simpa [h6] using h5)
            have hlen7 : (es ++ es5).length = nw := by rw [List.length_append, HNE.out, HN5.out]; exact hne5
            have he7 : (es ++ es5).map (fun e => e.2.2.2) = TT.1.map fun y => ((s.take t).drop y.1).take y.2 := by
              rw [List.map_append, HI.out.e, F5.out.2.2.1, HX.out, List.map_append]
              congr 1
              apply List.map_congr_left
              intro y hy
              have h5 := toldF_mem (s.take f) ((s.take f).length + 1) 0 (Nat.zero_le _) y hy
              rw [← HR.out.2.1]
              exact (drop_app (s.take f) r y.1 y.2 h5.2.2.2).symm
            have hmem7 : ∀ y ∈ TT.1, y.1 + y.2 ≤ (s.take t).length := by
              intro y hy
              rw [← HTT.out] at hy
              exact (toldF_mem (s.take t) ((s.take t).length + 1) 0 (Nat.zero_le _) y hy).2.2.2
            have KS := Lib.hid (same02_any w7 A7 c7 (es ++ es5) Aw cw bw ow cbw nw (s.take t) TT.1 w.heap.size (own_rdA S7.out.o).1 S7.out.x HRD7.out (HBT.out w7 N7.out) hmem7 he7 hlen7 (by omega))
            have E7 := Lib.hid (And.intro hlen7 he7)
            clear hlen7 he7 hmem7 hne5
            have hX2 : X.2.1 = ee ∧ X.2.2 = pp := by
              have h5 := HPP.out.1; have h6 := HPP.out.2.1
              rw [HX.out] at h5 h6
              exact ⟨h5, h6⟩
            have hD7 : Dec w7 w.heap.size (if ee = 0 then (s.take t).drop pp else []) pp ee A6 c6 x6 blk6 := by
              have h5 : Dec _ _ _ _ _ _ _ _ _ := S7.out.d
              rw [hX2.1, hX2.2] at h5
              exact h5
            have HD7 := Lib.hid hD7
            have HX2 := Lib.hid hX2
            clear hX2 hD7
            have HFIN := Lib.hid (And.intro hlt (And.intro htn hft))
            have HRS := Lib.hid (show pp ≤ t ∧ t ≤ 9000 from ⟨HPP.out.2.2.2, by have := HN.out; omega⟩)
            clear hi hf hft htn hL9 q1 tc hnw9 i1 g1 g2 hlt hk
            have hpt : pp ≤ t := HRS.out.1
            have ht9 : t ≤ 9000 := HRS.out.2
            have hi60 : i ≤ 60 := by have := HFIN.out.1; omega
            go_upto_if 90 with (fail)
            go_cut [17] (fun s17 wx => ∃ rr : Int, s17 = .int .i64 rr ∧ Hid (wx = w7 ∧ rr = (((if ee = 0 then (s.take t).drop pp else []).length : Nat) : Int)))
            case first =>
              have q6 : IntKind.i64.wrap ((t : Int) - (pp : Int)) = (t : Int) - (pp : Int) := by have := HRS.out; rw [IntKind.wrap_i64]; omega
              by_cases he0 : ee = 0
              · have q5 : (ee != 0) = false := by simp [he0]
                have HE0 := Lib.hid he0
                clear he0
                go_wp2_with fail
                go_meet
                refine ⟨_, rfl, Lib.hid ⟨rfl, ?_⟩⟩
                rw [if_pos HE0.out, List.length_drop, HT2.out.2]
                have := HRS.out
                omega
              · have q5 : (ee != 0) = true := by simp [he0]
                have HE0 := Lib.hid he0
                clear he0
                go_wp2_with fail
                go_meet
                refine ⟨_, rfl, Lib.hid ⟨rfl, ?_⟩⟩
                rw [if_neg HE0.out]
                rfl
            case rest =>
              obtain ⟨rr, rfl, hwx⟩ := hcut
              rw [hwx.out.1]
              have KR : Hid (∀ (W : World), Nw w7 W → Calls Tryd.prog 10 #[.pointer (some ⟨w.heap.size, 0, none⟩)] W fun e w' => e = .returned (.int .i64 rr) ∧ w' = W) := Lib.hid (fun W hW => by rw [hwx.out.2]; exact decRest_any W _ _ _ _ _ _ _ _ (HD7.out.nw hW))
              clear hwx
              have q5 : (ee != ee) = false := by simp
              have q6 : (rr != rr) = false := by simp
              go_upto_region 25 with (fail)
              go_wp2_with fail
              refine KS.out.mono ?_
              rintro e w8 ⟨rfl, n8⟩
              have N8 := Lib.hid n8
              go_wp2_with fail
              refine (KR.out w8 n8).mono ?_
              rintro e w9 ⟨rfl, h9⟩
              rw [h9]
              clear h9 w9 n8
              go_wp2_with fail
              refine (wrong_any w8 (HE.out.nw (N7.out.trans (N8.out.mono N7.out.size))) _ _ pp _ _ _ _ _ (HD7.out.nw N8.out)).mono ?_
              rintro e w9 ⟨rfl, n9⟩
              have N9 := Lib.hid n9
              clear n9
              go_wp2_with fail
              have hlt := HFIN.out.1
              have htn := HFIN.out.2.1
              go_roundw
              case rel =>
                have h79 : Nw w7 w9 := N8.out.trans (N9.out.mono N8.out.size)
                refine ⟨i + 1, t, es ++ es5, A7, c7, blk7, A6, c6, x6, blk6, by rw [E7.out.1], rfl, by push_cast; rfl, by omega, htn, Lib.hid ⟨N7.out.trans (h79.mono N7.out.size), ?_, ?_, ?_⟩⟩
                · have h5 := S7.out.nw h79
                  have h6 : tolds s t = TT := HTT.out
                  rw [h6]
                  refine ⟨?_, h5.o, h5.x, h5.m, h5.gl, h5.far⟩
                  have h7 : TT.2 = X.2 := by rw [HX.out]
                  have h8 : DecS w9 w.heap.size (s.take t) X A6 c6 x6 blk6 := h5.d
                  unfold DecS at h8 ⊢
                  rw [h7]
                  exact h8
                · rw [show tolds s t = TT from HTT.out]; exact E7.out.2
                · intro B hB
                  rcases F5.out.2.2.2.1 with h | h
                  · exact HI.out.b B (by rw [← h]; exact hB)
                  · exact Nat.le_trans S4.out.2.size (h B hB)
              case measure => simp [intOf]; omega
end Go.Proofs.YtalcafaibmbgjaaDoor
