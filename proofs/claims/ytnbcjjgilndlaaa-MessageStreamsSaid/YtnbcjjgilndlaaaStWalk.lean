/- MessageStreams: the walk of the law. Helper. -/
import Derived.Test.YtnbcjjgilndlaaaStArgH
import Derived.Test.YtnbcjjgilndlaaaStStr
import Derived.Test.YtnbcjjgilndlaaaRdKnown
import Derived.Test.YtnbcjjgilndlaaaStFrm
namespace Go.Proofs.Ytnbcjjgilndlaaa
open Go.RowKit
set_option linter.unusedVariables false
set_option linter.unusedSimpArgs false
set_option maxRecDepth 100000
set_option maxHeartbeats 6400000
theorem wpList_load_mid_g {P : Program} {ops : Array Oper} {rest : List Oper} {op : Oper} {a : Act} {w : World} {Q : Exit → Act → World → Prop} (hw : Region.wanted op (yielded ops a.tmps) = true) (ty : TypeId) (x : Operand) (ho : op.op = .load ty x)
    (b o : Nat) (hx : a.eval x = .pointer (some ⟨b, o, none⟩)) (cs : List Value) (d : TypeDesc) (hc : w.rangeAt b o cs)
    (hu : P.underlying ty = some d) (hd : d.isRow = true) (hi : (P.info? ty).map (·.size) = some cs.length)
    (h : wpList P ops Q rest (a.put op.dst (.agg cs.toArray)) w) : wpList P ops Q (op :: rest) a w :=
  wpList_step fun K hK => by rw [if_pos hw]; exact wp_load_mid ty x ho b o hx cs d hc hu hd hi (hK _ _ h)
structure StrOne (w wr : World) (es : List (Rq × Option Addr × Nat)) (i : Nat) (mb : Bool) (v : Value) : Prop where
  n : Nw w wr
  m : mb = true ↔ ∀ e ∈ es.take i, mayQ e.1 = true
  s : mb = true → ∃ A' c' blk, v = .slice A' (strB (es.take i)).length c' ∧ StrIn w wr es i A' c' blk
  le : ∀ e ∈ es.take i, e.1.md.length ≤ 5000
theorem StrOne.start (w : World) (es : List (Rq × Option Addr × Nat)) : StrOne w w es 0 true (.slice none 0 0) :=
  ⟨Nw.refl w, by simp, fun _ => ⟨none, 0, none, rfl, ⟨Own.nil _ _ _, (fun g hg => by cases hg), Nw.refl w, by simp, by simp [strB]⟩⟩, by simp⟩
theorem StrOne.no {w wr wr' : World} {es : List (Rq × Option Addr × Nat)} {i : Nat} {mb : Bool} {v v' : Value} (h : StrOne w wr es i mb v) (hie : i < es.length) (hn : Nw w wr') (hm : ¬ (mb = true ∧ mayQ (es[i]'hie).1 = true)) (hl : (es[i]'hie).1.md.length ≤ 5000) : StrOne w wr' es (i + 1) false v' := by
  refine ⟨hn, ⟨fun h => (by cases h), fun h' => ?_⟩, fun h => (by cases h), fun e he => ?_⟩
  · rw [List.take_succ_eq_append_getElem hie] at h'
    exact absurd ⟨h.m.2 fun e he => h' e (List.mem_append_left _ he), h' _ (List.mem_append_right _ (by simp))⟩ hm
  · rw [List.take_succ_eq_append_getElem hie] at he
    rcases List.mem_append.1 he with h1 | h1
    · exact h.le e h1
    · rw [List.mem_singleton.1 h1]; exact hl
structure StrTwo (w wr : World) (es : List (Rs × Option Addr × Nat)) (i : Nat) (mb : Bool) (v : Value) : Prop where
  n : Nw w wr
  m : mb = true ↔ ∀ e ∈ es.take i, mayS e.1 = true
  s : mb = true → ∃ A' c' blk, v = .slice A' (strC (es.take i)).length c' ∧ StrInS w wr es i A' c' blk
  le : ∀ e ∈ es.take i, e.1.vs.length ≤ 100
theorem StrTwo.start (w : World) (es : List (Rs × Option Addr × Nat)) : StrTwo w w es 0 true (.slice none 0 0) :=
  ⟨Nw.refl w, by simp, fun _ => ⟨none, 0, none, rfl, ⟨Own.nil _ _ _, (fun g hg => by cases hg), Nw.refl w, by simp, by simp [strC]⟩⟩, by simp⟩
theorem StrTwo.no {w wr wr' : World} {es : List (Rs × Option Addr × Nat)} {i : Nat} {mb : Bool} {v v' : Value} (h : StrTwo w wr es i mb v) (hie : i < es.length) (hn : Nw w wr') (hm : ¬ (mb = true ∧ mayS (es[i]'hie).1 = true)) (hl : (es[i]'hie).1.vs.length ≤ 100) : StrTwo w wr' es (i + 1) false v' := by
  refine ⟨hn, ⟨fun h => (by cases h), fun h' => ?_⟩, fun h => (by cases h), fun e he => ?_⟩
  · rw [List.take_succ_eq_append_getElem hie] at h'
    exact absurd ⟨h.m.2 fun e he => h' e (List.mem_append_left _ he), h' _ (List.mem_append_right _ (by simp))⟩ hm
  · rw [List.take_succ_eq_append_getElem hie] at he
    rcases List.mem_append.1 he with h1 | h1
    · exact h.le e h1
    · rw [List.mem_singleton.1 h1]; exact hl
theorem RessW.nw {w W : World} {A : Option Addr} {es : List (Rs × Option Addr × Nat)} (h : RessW w A es) (n : Nw w W) : RessW W A es :=
  ⟨h.at_.imp_right fun ⟨g, off, e, hr⟩ => ⟨g, off, e, fun i hi j v hv => n.cell (hr i hi j v hv)⟩, fun e he => Rd.nw (h.vs e he) n, h.rg, h.len⟩
theorem told_list (w : World) (A : Option Addr) (n c : Nat) (ls : List (List UInt8)) (hl : ∀ l ∈ ls, 1 ≤ l.length ∧ l.length ≤ 4096) (hb : BytesAt w A (ls.map frameB).flatten) (hn : (ls.map frameB).flatten.length = n) (hc : n ≤ c) (hm : n ≤ 1000000) :
    Calls Try.prog 28 #[.slice A n c] w fun e w' => ∃ A' c' x, e = .returned (.tuple #[.slice A' ls.length c', .int .i64 0, .int .i64 x]) ∧ Nw w w' := by
  have T := told_frames ls hl
  rcases hb with h0 | ⟨b, off, rfl, hr⟩
  · have h1 : (ls.map frameB).flatten = [] := by simpa [bcells] using h0
    have h2 : n = 0 := by rw [← hn, h1]; rfl
    have h3 : ls = [] := by
      cases ls with
      | nil => rfl
      | cons l ls =>
        rw [h2] at hn
        simp only [List.map_cons, List.flatten_cons, List.length_append, frameB_length] at hn
        omega
    subst h2 h3
    refine (Told_none w A c).mono ?_
    rintro e w' ⟨rfl, n1⟩
    exact ⟨none, 0, 0, rfl, n1⟩
  · refine (Told_any w b off n c _ (.inr ⟨b, off, rfl, hr⟩) hn hc hm).mono ?_
    rintro e w' ⟨A', c', rfl, _, n1⟩
    rw [T.1, T.2]
    exact ⟨A', c', _, rfl, n1⟩
theorem streams_out (w : World) (A : Option Addr) (n c : Nat) (B : Option Addr) (m d0 : Nat) (h : (20 : Int) < (n : Int)) :
    Calls Try.prog 7 #[.slice A n c, .slice B m d0] w fun e w' => e = .returned (.bool true) ∧ Nw w w' := by
  go_enter Try.func7, Try.ntmps7
  go_wp2_with fail
  refine (known_any w).mono ?_
  rintro e w2 ⟨rfl, n2⟩
  have N2 := Lib.hid n2
  clear n2
  go_wp2_with fail
  go_ret
  exact ⟨rfl, N2.out⟩
theorem streams_out2 (w : World) (A : Option Addr) (n c : Nat) (B : Option Addr) (m d0 : Nat) (h1 : ¬ (20 : Int) < (n : Int)) (h : (20 : Int) < (m : Int)) :
    Calls Try.prog 7 #[.slice A n c, .slice B m d0] w fun e w' => e = .returned (.bool true) ∧ Nw w w' := by
  go_enter Try.func7, Try.ntmps7
  go_wp2_with fail
  refine (known_any w).mono ?_
  rintro e w2 ⟨rfl, n2⟩
  have N2 := Lib.hid n2
  clear n2
  go_wp2_with fail
  go_ret
  exact ⟨rfl, N2.out⟩
theorem streams_in (w : World) (A : Option Addr) (n c : Nat) (es : List (Rq × Option Addr × Nat)) (B : Option Addr) (m d0 : Nat) (fs : List (Rs × Option Addr × Nat)) (h : ReqsW w A es) (k : RessW w B fs) (hn : es.length = n) (hm : fs.length = m) (hnl : n ≤ 20) (hml : m ≤ 20) :
    Calls Try.prog 7 #[.slice A n c, .slice B m d0] w fun e w' => e = .returned (.bool true) ∧ Nw w w' := by
  have HE := Lib.hid h
  have KB := Lib.hid k
  have HN := Lib.hid (And.intro hn hnl)
  have KN := Lib.hid (And.intro hm hml)
  obtain ⟨i0, hi0, hz0, hz1, hz2⟩ := info_parts infoU8
  have HL1 := Lib.hid hi0
  have HL2 := Lib.hid hz0
  have HL3 := Lib.hid hz1
  have HL4 := Lib.hid hz2
  obtain ⟨d, hd⟩ := stRq
  have HD := Lib.hid hd
  obtain ⟨ds, hds⟩ := stRs
  have HDS := Lib.hid hds
  have ha : ¬ (20 : Int) < (n : Int) := by omega
  have hb : ¬ (20 : Int) < (m : Int) := by omega
  clear h k hn hm hi0 hz0 hz1 hz2 hd hds
  go_enter Try.func7, Try.ntmps7
  go_wp2_with fail
  go_loopw [5, 7, 9] (fun x y z wr => ∃ (i : Nat) (mb : Bool) (v : Value), i ≤ n ∧ v = x ∧ y = .bool mb ∧ z = .int .i64 (i : Int) ∧ Hid (StrOne w wr es i mb v)) (fun _ _ z _ => n - (intOf z).toNat)
  case atStart => exact ⟨0, true, _, Nat.zero_le _, rfl, rfl, rfl, Lib.hid (StrOne.start w es)⟩
  case round =>
    obtain ⟨i, mb, v, hi, rfl, rfl, rfl, HI⟩ := hrel
    by_cases hlt : i < n
    rotate_left
    · obtain rfl : n = i := by omega
      have i1 : ¬ (n : Int) < (n : Int) := by omega
      obtain ⟨w1, hw1⟩ : ∃ W, W = wr := ⟨_, rfl⟩
      subst hw1
      obtain ⟨ob, hob⟩ : ∃ b, b = mb := ⟨_, rfl⟩
      subst hob
      obtain ⟨ov, hov⟩ : ∃ b, b = v := ⟨_, rfl⟩
      subst hov
      have H1 := HI
      clear HI hlt hi
      have KB := Lib.hid (KB.out.nw H1.out.n)
      go_wp2_with fail
      go_loopw [6, 8, 10] (fun x y z wr => ∃ (i : Nat) (mb : Bool) (v : Value), i ≤ m ∧ v = x ∧ y = .bool mb ∧ z = .int .i64 (i : Int) ∧ Hid (StrTwo w1 wr fs i mb v)) (fun _ _ z _ => m - (intOf z).toNat)
      case atStart => exact ⟨0, true, _, Nat.zero_le _, rfl, rfl, rfl, Lib.hid (StrTwo.start w1 fs)⟩
      case round =>
        obtain ⟨i, mb, v, hi, rfl, rfl, rfl, HI⟩ := hrel
        by_cases hlt : i < m
        rotate_left
        · obtain rfl : m = i := by omega
          have i1 : ¬ (m : Int) < (m : Int) := by omega
          have N1 := Lib.hid (Nw.trans H1.out.n HI.out.n)
          have hte : es.take n = es := by rw [← HN.out.1, List.take_length]
          have htf : fs.take m = fs := by rw [← KN.out.1, List.take_length]
          have K1 := reqs_any wr A n c es ((HE.out.at fun e he => H1.out.le e (by rw [hte]; exact he)).nw N1.out) HN.out.1 (by omega)
          have K2 := fun (W : World) (hW : Nw wr W) => ress_any W B m d0 fs ((KB.out.at fun e he => HI.out.le e (by rw [htf]; exact he)).nw (Nw.trans HI.out.n hW)) KN.out.1 (by omega)
          have E1 : ob = true ↔ ∀ e ∈ es, mayQ e.1 = true := by have h := H1.out.m; rw [hte] at h; exact h
          have E2 : mb = true ↔ ∀ e ∈ fs, mayS e.1 = true := by have h := HI.out.m; rw [htf] at h; exact h
          have HLE : Hid (ob = true → ∀ l ∈ es.map fun e => reqB e.1, 1 ≤ l.length ∧ l.length ≤ 4096) := Lib.hid fun h l hl => by
            obtain ⟨e, he, rfl⟩ := List.mem_map.1 hl
            exact reqB_small e.1 (E1.1 h e he)
          cases ob with
          | false =>
            cases mb with
            | false =>
              rw [if_neg (fun h => by have := E1.2 h; cases this)] at K1
              simp only [if_neg (show ¬ ∀ e ∈ fs, mayS e.1 = true from fun h => by have := E2.2 h; cases this)] at K2
              have HK1 := Lib.hid K1
              have HK2 := Lib.hid K2
              clear K1 K2 E1 E2 hte htf
              as_aux_lemma =>
                go_wp2_with fail
                refine HK1.out.mono ?_
                rintro e w5 ⟨rfl, n5⟩
                have N5 := Lib.hid n5
                clear n5
                go_wp2_with fail
                refine (HK2.out w5 N5.out).mono ?_
                rintro e w6 ⟨rfl, n6⟩
                have N56 := Lib.hid n6
                have N6 := Lib.hid (Nw.trans N5.out n6)
                clear n6
                go_wp2_with fail
                refine (known_any w6).mono ?_
                rintro e w8 ⟨rfl, n8⟩
                have N8 := Lib.hid (Nw.trans (Nw.trans N1.out N6.out) n8)
                clear n8
                go_wp2_with fail
                go_ret
                exact ⟨rfl, N8.out⟩
            | true =>
              rw [if_neg (fun h => by have := E1.2 h; cases this)] at K1
              simp only [if_pos (E2.1 rfl)] at K2
              obtain ⟨A2, c2, blk2, rfl, HS2⟩ := HI.out.s rfl
              have hw2 : BytesAt wr A2 (strC fs) := by
                obtain ⟨_, _, e2, hrd, hnc, _⟩ := HS2.o.rd
                injection e2 with e3 _ e4
                subst e3 e4
                rw [htf] at hrd
                exact hrd
              have hlstrC := HS2.l
              rw [htf] at hlstrC
              clear HS2
              rw [htf]
              have HW2 := Lib.hid hw2
              obtain ⟨SC, hSC⟩ : ∃ S, strC fs = S := ⟨_, rfl⟩
              rw [hSC] at HW2 K2 ⊢
              obtain ⟨LC, hLC⟩ : ∃ L, SC.length = L := ⟨_, rfl⟩
              have HLLC := Lib.hid hLC
              rw [hLC]
              clear hw2 hlstrC hSC hLC
              have HK1 := Lib.hid K1
              have HK2 := Lib.hid K2
              clear K1 K2 E1 E2 hte htf
              as_aux_lemma =>
                go_wp2_with fail
                refine HK1.out.mono ?_
                rintro e w5 ⟨rfl, n5⟩
                have N5 := Lib.hid n5
                clear n5
                go_wp2_with fail
                refine (HK2.out w5 N5.out).mono ?_
                rintro e w6 ⟨Ab, cb, rfl, hbb, hcb, n6⟩
                rw [HLLC.out] at hcb ⊢
                have HA6 := Lib.hid (And.intro hbb hcb)
                have N56 := Lib.hid n6
                have N6 := Lib.hid (Nw.trans N5.out n6)
                clear hbb hcb n6
                have s3 := BytesAt.str (show BytesAt w6 Ab SC from Rd.nw HA6.out.1 (Nw.refl w6)) 22 5 9 cb Try.underlying22 Try.underlying5 Try.underlying9
                have s4 := BytesAt.str (show BytesAt w6 A2 SC from Rd.nw HW2.out N6.out) 22 5 9 c2 Try.underlying22 Try.underlying5 Try.underlying9
                rw [HLLC.out] at s3 s4
                go_wp2_with fail
                refine (known_any w6).mono ?_
                rintro e w8 ⟨rfl, n8⟩
                have N8 := Lib.hid (Nw.trans (Nw.trans N1.out N6.out) n8)
                clear n8
                go_wp2_with fail
                go_ret
                exact ⟨rfl, N8.out⟩
          | true =>
            cases mb with
            | false =>
              rw [if_pos (E1.1 rfl)] at K1
              obtain ⟨A1, c1, blk1, rfl, HS1⟩ := H1.out.s rfl
              have hw1 : BytesAt w1 A1 (strB es) := by
                obtain ⟨_, _, e2, hrd, hnc, _⟩ := HS1.o.rd
                injection e2 with e3 _ e4
                subst e3 e4
                rw [hte] at hrd
                exact hrd
              have hlstrB := HS1.l
              rw [hte] at hlstrB
              clear HS1
              rw [hte]
              simp only [if_neg (show ¬ ∀ e ∈ fs, mayS e.1 = true from fun h => by have := E2.2 h; cases this)] at K2
              have HW1 := Lib.hid (Rd.nw hw1 HI.out.n)
              have HLB := Lib.hid hlstrB
              obtain ⟨SB, hSB⟩ : ∃ S, strB es = S := ⟨_, rfl⟩
              rw [hSB] at HW1 HLB K1 ⊢
              have HSB := Lib.hid hSB
              obtain ⟨LB, hLB⟩ : ∃ L, SB.length = L := ⟨_, rfl⟩
              have HLLB := Lib.hid hLB
              rw [hLB] at HLB ⊢
              clear hw1 hlstrB hSB hLB
              have HK1 := Lib.hid K1
              have HK2 := Lib.hid K2
              clear K1 K2 E1 E2 hte htf
              as_aux_lemma =>
                go_wp2_with fail
                refine HK1.out.mono ?_
                rintro e w5 ⟨Aa, ca, rfl, hba, hca, n5⟩
                rw [HLLB.out] at hca ⊢
                have HA5 := Lib.hid (And.intro hba hca)
                have N5 := Lib.hid n5
                clear hba hca n5
                go_wp2_with fail
                refine (HK2.out w5 N5.out).mono ?_
                rintro e w6 ⟨rfl, n6⟩
                have N56 := Lib.hid n6
                have N6 := Lib.hid (Nw.trans N5.out n6)
                clear n6
                go_upto_region 26 with (fail)
                have KT := Lib.hid (told_list w6 Aa LB ca (es.map fun e => reqB e.1) (HLE.out (by trivial)) (by
                  have h := Rd.nw HA5.out.1 N56.out
                  rw [← HSB.out] at h
                  unfold strB at h
                  rw [List.map_map]
                  exact h) (by have h := HLLB.out; rw [← HSB.out] at h; unfold strB at h; rw [List.map_map]; exact h) HA5.out.2 (by have := HLB.out; omega))
                rw [List.length_map, HN.out.1] at KT
                go_wp2_with fail
                refine KT.out.mono ?_
                rintro e w7 ⟨A7, c7, x7, rfl, n7⟩
                have N67 := Lib.hid n7
                have N7 := Lib.hid (Nw.trans N6.out n7)
                have s1 := BytesAt.str (show BytesAt w7 Aa SB from Rd.nw HA5.out.1 (Nw.trans N56.out N67.out)) 22 5 9 ca Try.underlying22 Try.underlying5 Try.underlying9
                have s2 := BytesAt.str (show BytesAt w7 A1 SB from Rd.nw HW1.out N7.out) 22 5 9 c1 Try.underlying22 Try.underlying5 Try.underlying9
                rw [HLLB.out] at s1 s2
                clear n7
                go_wp2_with fail
                refine (known_any w7).mono ?_
                rintro e w8 ⟨rfl, n8⟩
                have N8 := Lib.hid (Nw.trans (Nw.trans N1.out N7.out) n8)
                clear n8
                go_wp2_with fail
                go_ret
                exact ⟨rfl, N8.out⟩
            | true =>
              rw [if_pos (E1.1 rfl)] at K1
              obtain ⟨A1, c1, blk1, rfl, HS1⟩ := H1.out.s rfl
              have hw1 : BytesAt w1 A1 (strB es) := by
                obtain ⟨_, _, e2, hrd, hnc, _⟩ := HS1.o.rd
                injection e2 with e3 _ e4
                subst e3 e4
                rw [hte] at hrd
                exact hrd
              have hlstrB := HS1.l
              rw [hte] at hlstrB
              clear HS1
              rw [hte]
              simp only [if_pos (E2.1 rfl)] at K2
              obtain ⟨A2, c2, blk2, rfl, HS2⟩ := HI.out.s rfl
              have hw2 : BytesAt wr A2 (strC fs) := by
                obtain ⟨_, _, e2, hrd, hnc, _⟩ := HS2.o.rd
                injection e2 with e3 _ e4
                subst e3 e4
                rw [htf] at hrd
                exact hrd
              have hlstrC := HS2.l
              rw [htf] at hlstrC
              clear HS2
              rw [htf]
              have HW1 := Lib.hid (Rd.nw hw1 HI.out.n)
              have HLB := Lib.hid hlstrB
              obtain ⟨SB, hSB⟩ : ∃ S, strB es = S := ⟨_, rfl⟩
              rw [hSB] at HW1 HLB K1 ⊢
              have HSB := Lib.hid hSB
              obtain ⟨LB, hLB⟩ : ∃ L, SB.length = L := ⟨_, rfl⟩
              have HLLB := Lib.hid hLB
              rw [hLB] at HLB ⊢
              clear hw1 hlstrB hSB hLB
              have HW2 := Lib.hid hw2
              obtain ⟨SC, hSC⟩ : ∃ S, strC fs = S := ⟨_, rfl⟩
              rw [hSC] at HW2 K2 ⊢
              obtain ⟨LC, hLC⟩ : ∃ L, SC.length = L := ⟨_, rfl⟩
              have HLLC := Lib.hid hLC
              rw [hLC]
              clear hw2 hlstrC hSC hLC
              have HK1 := Lib.hid K1
              have HK2 := Lib.hid K2
              clear K1 K2 E1 E2 hte htf
              as_aux_lemma =>
                go_wp2_with fail
                refine HK1.out.mono ?_
                rintro e w5 ⟨Aa, ca, rfl, hba, hca, n5⟩
                rw [HLLB.out] at hca ⊢
                have HA5 := Lib.hid (And.intro hba hca)
                have N5 := Lib.hid n5
                clear hba hca n5
                go_wp2_with fail
                refine (HK2.out w5 N5.out).mono ?_
                rintro e w6 ⟨Ab, cb, rfl, hbb, hcb, n6⟩
                rw [HLLC.out] at hcb ⊢
                have HA6 := Lib.hid (And.intro hbb hcb)
                have N56 := Lib.hid n6
                have N6 := Lib.hid (Nw.trans N5.out n6)
                clear hbb hcb n6
                go_upto_region 26 with (fail)
                have KT := Lib.hid (told_list w6 Aa LB ca (es.map fun e => reqB e.1) (HLE.out (by trivial)) (by
                  have h := Rd.nw HA5.out.1 N56.out
                  rw [← HSB.out] at h
                  unfold strB at h
                  rw [List.map_map]
                  exact h) (by have h := HLLB.out; rw [← HSB.out] at h; unfold strB at h; rw [List.map_map]; exact h) HA5.out.2 (by have := HLB.out; omega))
                rw [List.length_map, HN.out.1] at KT
                go_wp2_with fail
                refine KT.out.mono ?_
                rintro e w7 ⟨A7, c7, x7, rfl, n7⟩
                have N67 := Lib.hid n7
                have N7 := Lib.hid (Nw.trans N6.out n7)
                have s1 := BytesAt.str (show BytesAt w7 Aa SB from Rd.nw HA5.out.1 (Nw.trans N56.out N67.out)) 22 5 9 ca Try.underlying22 Try.underlying5 Try.underlying9
                have s2 := BytesAt.str (show BytesAt w7 A1 SB from Rd.nw HW1.out N7.out) 22 5 9 c1 Try.underlying22 Try.underlying5 Try.underlying9
                rw [HLLB.out] at s1 s2
                clear n7
                go_upto_region 29 with (fail)
                clear s1 s2
                have s3 := BytesAt.str (show BytesAt w7 Ab SC from Rd.nw HA6.out.1 N67.out) 22 5 9 cb Try.underlying22 Try.underlying5 Try.underlying9
                have s4 := BytesAt.str (show BytesAt w7 A2 SC from Rd.nw HW2.out N7.out) 22 5 9 c2 Try.underlying22 Try.underlying5 Try.underlying9
                rw [HLLC.out] at s3 s4
                go_wp2_with fail
                refine (known_any w7).mono ?_
                rintro e w8 ⟨rfl, n8⟩
                have N8 := Lib.hid (Nw.trans (Nw.trans N1.out N7.out) n8)
                clear n8
                go_wp2_with fail
                go_ret
                exact ⟨rfl, N8.out⟩
        have i1 : (i : Int) < (m : Int) := by omega
        have hie : i < fs.length := by rw [KN.out.1]; exact hlt
        have hne : fs ≠ [] := fun h => by rw [h] at hie; simp at hie
        obtain ⟨g, off, rfl, hrow⟩ := KB.out.at_.resolve_left hne
        obtain ⟨q, Aq, cq, hq⟩ : ∃ q Aq cq, fs[i]'hie = (q, Aq, cq) := ⟨_, _, _, rfl⟩
        have hmem : (q, Aq, cq) ∈ fs := by rw [← hq]; exact List.getElem_mem hie
        have hrow1 := hrow i hie
        rw [hq] at hrow1
        have RW := Lib.hid (show w1.rangeAt g (off + i * 18) (q.c Aq cq) from hrow1)
        have HQE := Lib.hid (show ∃ h : i < fs.length, fs[i]'h = (q, Aq, cq) from ⟨hie, hq⟩)
        obtain ⟨lm, hlm⟩ : ∃ lm, q.vs.length = lm := ⟨_, rfl⟩
        have c3 : wr.cell? ⟨g, off + i * 18 + 4, none⟩ = some (.slice Aq lm cq) := HI.out.n.cell (hrow1 4 _ (by rw [← hlm]; rfl))
        have hlmx : lm ≤ maxLen := by rw [← hlm]; exact KB.out.len _ hmem
        simp only [maxLen] at hlmx
        by_cases h5 : (100 : Int) < (lm : Int)
        · have N1 := Lib.hid HI.out.n
          clear hrow hrow1 hq hmem hie hne
          as_aux_lemma =>
            go_wp2_with fail
            refine (known_any wr).mono ?_
            rintro e w2 ⟨rfl, n2⟩
            have N2 := Lib.hid (Nw.trans N1.out n2)
            clear n2
            go_wp2_with fail
            go_ret
            exact ⟨rfl, Nw.trans H1.out.n N2.out⟩
        have HF := Lib.hid (show q.Fit from fitS_of (KB.out.rg _ hmem).1 (KB.out.rg _ hmem).2.1 (KB.out.rg _ hmem).2.2 (by omega))
        have HQ := Lib.hid (show q.vs.length = lm ∧ IntsAt w1 Aq q.vs ∧ lm ≤ 100 from ⟨hlm, KB.out.vs _ hmem, by omega⟩)
        obtain ⟨Q0, hQ0⟩ : ∃ Q, (q.c Aq cq).toArray = Q := ⟨_, rfl⟩
        have HQR := Lib.hid hQ0
        have HIL := Lib.hid (show (Try.prog.info? 42).map (·.size) = some (q.c Aq cq).length by kernel_rfl)
        clear hrow hrow1 hq hmem hie hne hlm hQ0
        cases mb with
        | false =>
          as_aux_lemma =>
            go_wp2_with fail
            obtain ⟨hie, hq⟩ := HQE.out
            exact ⟨⟨i + 1, false, _, hlt, rfl, rfl, by go_num, Lib.hid (HI.out.no hie HI.out.n (fun h => by cases h.1) (by rw [hq]; show q.vs.length ≤ 100; have := HQ.out; omega))⟩, by simp [intOf]; omega⟩
        | true =>
          obtain ⟨A', c', blk, rfl, HS0⟩ := HI.out.s rfl
          have HS := Lib.hid HS0
          clear HS0
          obtain ⟨LL, hLL⟩ : ∃ L, (strC (fs.take i)).length = L := ⟨_, rfl⟩
          rw [hLL]
          have HLL := Lib.hid hLL
          have KM := Lib.hid (fun (W : World) (hW : Nw w1 W) => by
            have h := mays7_any W q Aq cq (Rd.nw HQ.out.2.1 hW)
            rw [HQR.out] at h
            exact h)
          clear hLL
          go_wp2_with (first | (refine wpList_load_mid_g rfl 42 _ rfl g (off + i * 18) rfl (q.c Aq cq) (.struct ds) (fun j v hv => HI.out.n.cell (RW.out j v hv)) HDS.out rfl HIL.out ?_; rw [HQR.out]))
          refine (KM.out wr HI.out.n).mono ?_
          rintro e w2 ⟨rfl, n2⟩
          have N2 := Lib.hid (Nw.trans HI.out.n n2)
          have HO2 := Lib.hid (HS.out.o.kept fun g hg => n2.block g (HS.out.o.lt g hg))
          rw [HLL.out] at HO2
          clear n2
          obtain ⟨mq, hmq⟩ : ∃ mq, mayS q = mq := ⟨_, rfl⟩
          have HMQ := Lib.hid hmq
          rw [hmq]
          clear hmq
          cases mq with
          | false =>
            as_aux_lemma =>
              go_wp2_with fail
              obtain ⟨hie, hq⟩ := HQE.out
              exact ⟨⟨i + 1, false, _, hlt, rfl, rfl, by go_num, Lib.hid (HI.out.no hie N2.out (fun h => by rw [hq] at h; have h2 : mayS q = true := h.2; rw [HMQ.out] at h2; cases h2) (by rw [hq]; show q.vs.length ≤ 100; have := HQ.out; omega))⟩, by simp [intOf]; omega⟩
          | true =>
            have HKK := Lib.hid (show 1 ≤ q.k ∧ q.k ≤ 5 by
                  have h := HMQ.out
                  simp only [mayS, Bool.and_eq_true, decide_eq_true_eq] at h
                  exact ⟨h.1.1, h.1.2.1⟩)
            have hsm := resB_small q HMQ.out
            obtain ⟨BB, hBB⟩ : ∃ BB, resB q = BB := ⟨_, rfl⟩
            rw [hBB] at hsm
            obtain ⟨Lb, hLb⟩ : ∃ L, BB.length = L := ⟨_, rfl⟩
            rw [hLb] at hsm
            have KE := Lib.hid (fun (W : World) (hW : Nw w1 W) => by
              have h := encs7_any W q Aq cq (Rd.nw HQ.out.2.1 hW) ⟨HKK.out, HF.out.id, HF.out.nu, by rw [HQ.out.1]; have := HQ.out.2.2; omega⟩
              rw [HQR.out, show (encB q) = BB from hBB] at h
              exact h)
            have HBB := Lib.hid (And.intro hBB (And.intro hLb hsm))
            clear hBB hLb hsm
            as_aux_lemma =>
              go_wp2_with (first | (refine wpList_load_mid rfl 42 _ rfl g (off + i * 18) rfl (q.c Aq cq) (.struct ds) (fun j v hv => N2.out.cell (RW.out j v hv)) HDS.out rfl HIL.out ?_; rw [HQR.out]))
              refine (KE.out w2 N2.out).mono ?_
              rintro e w3 ⟨A5, c5, rfl, hb5, hc5, n3⟩
              have KF := Lib.hid (refFrame_any w3 A5 BB.length c5 BB hb5 rfl (by have := HBB.out; omega) (by have := HBB.out; omega))
              rw [HBB.out.2.1] at KF ⊢
              have N3 := Lib.hid n3
              clear hb5 hc5 n3
              go_wp2_with fail
              refine KF.out.mono ?_
              rintro e w4 ⟨A6, c6, rfl, hb6, hc6, n4⟩
              have N24 := Lib.hid (Nw.trans N3.out n4)
              have HO4 := Lib.hid (HO2.out.kept fun g hg => N24.out.block g (HO2.out.lt g hg))
              have hfl : (frameB BB).length = 6 + Lb := by rw [frameB_length, HBB.out.2.1]
              have H6 := Lib.hid (And.intro hb6 (And.intro hc6 hfl))
              have hLb2 : Lb ≤ 4096 := HBB.out.2.2.2
              have hLL2 : LL ≤ 4102 * 20 := by have h1 := HS.out.l; have h2 := KN.out.2; rw [HLL.out] at h1; omega
              clear n4 hb6 hc6 hfl
              go_upto_region 20 with (at_builtin; refine wpList_append_at w4 rfl _ _ _ rfl 5 i0 _ 1 1 Try.underlying22 HL1.out HL2.out HL3.out HL4.out rfl (by omega) _ LL (bcells (strC (fs.take i))) blk rfl HO4.out _ (6 + Lb) c6 (bcells (frameB BB)) rfl (by rw [bcells_length, H6.out.2.2]; omega) H6.out.1 (bcells_one _) (by simp only [maxLen]; omega) (by omega) ?_; intro A2 c2 w6 blk2 hown hchg hat; have HO6 := Lib.hid hown; have HC6 := Lib.hid hchg; have HT6 := Lib.hid hat; clear hown hchg hat)
              go_wp2_with fail
              obtain ⟨hie, hq⟩ := HQE.out
              have hsn := strC_snoc fs i hie
              rw [hq] at hsn
              simp only at hsn
              rw [HBB.out.1] at hsn
              have hlen : (strC (fs.take (i + 1))).length = LL + (6 + Lb) := by rw [hsn, List.length_append, HLL.out, H6.out.2.2]
              have N04 := Nw.trans N2.out N24.out
              have N06 : Nw w1 w6 := Below.trans N04 (HC6.out.below (fun k _ hq => HS.out.g k hq.symm) N04.size)
              have hall : ∀ e ∈ fs.take (i + 1), mayS e.1 = true := fun e he => by
                rw [List.take_succ_eq_append_getElem hie] at he
                rcases List.mem_append.1 he with h | h
                · exact HS.out.m e h
                · rw [List.mem_singleton.1 h, hq]; exact HMQ.out
              refine ⟨⟨i + 1, true, _, hlt, rfl, rfl, by go_num, Lib.hid ⟨N06, ⟨fun _ => hall, fun _ => rfl⟩, fun _ => ⟨A2, c2, blk2, by rw [hlen], ?_, ?_, N06, hall, ?_⟩, fun e he => ?_⟩⟩, by simp [intOf]; omega⟩
              · have h := HO6.out
                have e : bcells (strC (fs.take (i + 1))) = bcells (strC (fs.take i)) ++ bcells (frameB BB) := by rw [hsn]; simp [bcells]
                rw [hlen, e]
                exact h
              · intro g hg
                rcases HT6.out with h | h
                · exact HS.out.g g (h ▸ hg)
                · rw [h] at hg; injection hg with hg
                  have := N04.size
                  omega
              · have := HS.out.l; rw [HLL.out] at this; rw [hlen]; omega
              · rw [List.take_succ_eq_append_getElem hie] at he
                rcases List.mem_append.1 he with h | h
                · exact HI.out.le e h
                · rw [List.mem_singleton.1 h, hq]; show q.vs.length ≤ 100; have := HQ.out; omega
    have i1 : (i : Int) < (n : Int) := by omega
    have hie : i < es.length := by rw [HN.out.1]; exact hlt
    have hne : es ≠ [] := fun h => by rw [h] at hie; simp at hie
    obtain ⟨g, off, rfl, hrow⟩ := HE.out.at_.resolve_left hne
    obtain ⟨q, Aq, cq, hq⟩ : ∃ q Aq cq, es[i]'hie = (q, Aq, cq) := ⟨_, _, _, rfl⟩
    have hmem : (q, Aq, cq) ∈ es := by rw [← hq]; exact List.getElem_mem hie
    have hrow1 := hrow i hie
    rw [hq] at hrow1
    have RW := Lib.hid (show w.rangeAt g (off + i * 17) (q.c Aq cq) from hrow1)
    have HQE := Lib.hid (show ∃ h : i < es.length, es[i]'h = (q, Aq, cq) from ⟨hie, hq⟩)
    obtain ⟨lm, hlm⟩ : ∃ lm, q.md.length = lm := ⟨_, rfl⟩
    have c3 : wr.cell? ⟨g, off + i * 17 + 3, none⟩ = some (.slice Aq lm cq) := HI.out.n.cell (hrow1 3 _ (by rw [← hlm]; rfl))
    have hlmx : lm ≤ maxLen := by rw [← hlm]; exact HE.out.len _ hmem
    simp only [maxLen] at hlmx
    by_cases h5 : (5000 : Int) < (lm : Int)
    · have N1 := Lib.hid HI.out.n
      clear hrow hrow1 hq hmem hie hne
      as_aux_lemma =>
        go_wp2_with fail
        refine (known_any wr).mono ?_
        rintro e w2 ⟨rfl, n2⟩
        have N2 := Lib.hid (Nw.trans N1.out n2)
        clear n2
        go_wp2_with fail
        go_ret
        exact ⟨rfl, N2.out⟩
    have HF := Lib.hid (show q.Fit from fit_of (HE.out.rg _ hmem).1 (HE.out.rg _ hmem).2 (by omega))
    have HQ := Lib.hid (show q.md.length = lm ∧ BytesAt w Aq q.md ∧ lm ≤ 5000 from ⟨hlm, HE.out.md _ hmem, by omega⟩)
    obtain ⟨Q0, hQ0⟩ : ∃ Q, (q.c Aq cq).toArray = Q := ⟨_, rfl⟩
    have HQR := Lib.hid hQ0
    have HIL := Lib.hid (show (Try.prog.info? 33).map (·.size) = some (q.c Aq cq).length by kernel_rfl)
    clear hrow hrow1 hq hmem hie hne hlm hQ0
    cases mb with
    | false =>
      as_aux_lemma =>
        go_wp2_with fail
        obtain ⟨hie, hq⟩ := HQE.out
        exact ⟨⟨i + 1, false, _, hlt, rfl, rfl, by go_num, Lib.hid (HI.out.no hie HI.out.n (fun h => by cases h.1) (by rw [hq]; show q.md.length ≤ 5000; have := HQ.out; omega))⟩, by simp [intOf]; omega⟩
    | true =>
      obtain ⟨A', c', blk, rfl, HS0⟩ := HI.out.s rfl
      have HS := Lib.hid HS0
      clear HS0
      obtain ⟨LL, hLL⟩ : ∃ L, (strB (es.take i)).length = L := ⟨_, rfl⟩
      rw [hLL]
      have HLL := Lib.hid hLL
      have KM := Lib.hid (fun (W : World) (hW : Nw w W) => by
        have h := may7_any W q Aq cq (Rd.nw HQ.out.2.1 hW) (by rw [HQ.out.1]; have := HQ.out.2.2; omega)
        rw [HQR.out] at h
        exact h)
      clear hLL
      go_wp2_with (first | (refine wpList_load_mid_g rfl 33 _ rfl g (off + i * 17) rfl (q.c Aq cq) (.struct d) (fun j v hv => HI.out.n.cell (RW.out j v hv)) HD.out rfl HIL.out ?_; rw [HQR.out]))
      refine (KM.out wr HI.out.n).mono ?_
      rintro e w2 ⟨rfl, n2⟩
      have N2 := Lib.hid (Nw.trans HI.out.n n2)
      have HO2 := Lib.hid (HS.out.o.kept fun g hg => n2.block g (HS.out.o.lt g hg))
      rw [HLL.out] at HO2
      clear n2
      obtain ⟨mq, hmq⟩ : ∃ mq, mayQ q = mq := ⟨_, rfl⟩
      have HMQ := Lib.hid hmq
      rw [hmq]
      clear hmq
      cases mq with
      | false =>
        as_aux_lemma =>
          go_wp2_with fail
          obtain ⟨hie, hq⟩ := HQE.out
          exact ⟨⟨i + 1, false, _, hlt, rfl, rfl, by go_num, Lib.hid (HI.out.no hie N2.out (fun h => by rw [hq] at h; have h2 : mayQ q = true := h.2; rw [HMQ.out] at h2; cases h2) (by rw [hq]; show q.md.length ≤ 5000; have := HQ.out; omega))⟩, by simp [intOf]; omega⟩
      | true =>
        have HKK := Lib.hid (show 1 ≤ q.k ∧ q.k ≤ 12 by
              have h := HMQ.out
              simp only [mayQ, Bool.and_eq_true, decide_eq_true_eq] at h
              exact ⟨h.1.1.1, h.1.1.2.1⟩)
        have hsm := reqB_small q HMQ.out
        obtain ⟨BB, hBB⟩ : ∃ BB, reqB q = BB := ⟨_, rfl⟩
        rw [hBB] at hsm
        obtain ⟨Lb, hLb⟩ : ∃ L, BB.length = L := ⟨_, rfl⟩
        rw [hLb] at hsm
        have KE := Lib.hid (fun (W : World) (hW : Nw w W) => by
          have h := encr7_any W q Aq cq (Rd.nw HQ.out.2.1 hW) ⟨HF.out.id, HF.out.nu, HF.out.md⟩ HKK.out
          rw [HQR.out, show (beW q.k 1 ++ askB q) = BB from hBB] at h
          exact h)
        have HBB := Lib.hid (And.intro hBB (And.intro hLb hsm))
        clear hBB hLb hsm
        as_aux_lemma =>
          go_wp2_with (first | (refine wpList_load_mid rfl 33 _ rfl g (off + i * 17) rfl (q.c Aq cq) (.struct d) (fun j v hv => N2.out.cell (RW.out j v hv)) HD.out rfl HIL.out ?_; rw [HQR.out]))
          refine (KE.out w2 N2.out).mono ?_
          rintro e w3 ⟨A5, c5, rfl, hb5, hc5, n3⟩
          have KF := Lib.hid (refFrame_any w3 A5 BB.length c5 BB hb5 rfl (by have := HBB.out; omega) (by have := HBB.out; omega))
          rw [HBB.out.2.1] at KF ⊢
          have N3 := Lib.hid n3
          clear hb5 hc5 n3
          go_wp2_with fail
          refine KF.out.mono ?_
          rintro e w4 ⟨A6, c6, rfl, hb6, hc6, n4⟩
          have N24 := Lib.hid (Nw.trans N3.out n4)
          have HO4 := Lib.hid (HO2.out.kept fun g hg => N24.out.block g (HO2.out.lt g hg))
          have hfl : (frameB BB).length = 6 + Lb := by rw [frameB_length, HBB.out.2.1]
          have H6 := Lib.hid (And.intro hb6 (And.intro hc6 hfl))
          have hLb2 : Lb ≤ 4096 := HBB.out.2.2.2
          have hLL2 : LL ≤ 4102 * 20 := by have h1 := HS.out.l; have h2 := HN.out.2; rw [HLL.out] at h1; omega
          clear n4 hb6 hc6 hfl
          go_upto_region 12 with (at_builtin; refine wpList_append_at w4 rfl _ _ _ rfl 5 i0 _ 1 1 Try.underlying22 HL1.out HL2.out HL3.out HL4.out rfl (by omega) _ LL (bcells (strB (es.take i))) blk rfl HO4.out _ (6 + Lb) c6 (bcells (frameB BB)) rfl (by rw [bcells_length, H6.out.2.2]; omega) H6.out.1 (bcells_one _) (by simp only [maxLen]; omega) (by omega) ?_; intro A2 c2 w6 blk2 hown hchg hat; have HO6 := Lib.hid hown; have HC6 := Lib.hid hchg; have HT6 := Lib.hid hat; clear hown hchg hat)
          go_wp2_with fail
          obtain ⟨hie, hq⟩ := HQE.out
          have hsn := strB_snoc es i hie
          rw [hq] at hsn
          simp only at hsn
          rw [HBB.out.1] at hsn
          have hlen : (strB (es.take (i + 1))).length = LL + (6 + Lb) := by rw [hsn, List.length_append, HLL.out, H6.out.2.2]
          have N04 := Nw.trans N2.out N24.out
          have N06 : Nw w w6 := Below.trans N04 (HC6.out.below (fun k _ hq => HS.out.g k hq.symm) N04.size)
          have hall : ∀ e ∈ es.take (i + 1), mayQ e.1 = true := fun e he => by
            rw [List.take_succ_eq_append_getElem hie] at he
            rcases List.mem_append.1 he with h | h
            · exact HS.out.m e h
            · rw [List.mem_singleton.1 h, hq]; exact HMQ.out
          refine ⟨⟨i + 1, true, _, hlt, rfl, rfl, by go_num, Lib.hid ⟨N06, ⟨fun _ => hall, fun _ => rfl⟩, fun _ => ⟨A2, c2, blk2, by rw [hlen], ?_, ?_, N06, hall, ?_⟩, fun e he => ?_⟩⟩, by simp [intOf]; omega⟩
          · have h := HO6.out
            have e : bcells (strB (es.take (i + 1))) = bcells (strB (es.take i)) ++ bcells (frameB BB) := by rw [hsn]; simp [bcells]
            rw [hlen, e]
            exact h
          · intro g hg
            rcases HT6.out with h | h
            · exact HS.out.g g (h ▸ hg)
            · rw [h] at hg; injection hg with hg
              have := N04.size
              omega
          · have := HS.out.l; rw [HLL.out] at this; rw [hlen]; omega
          · rw [List.take_succ_eq_append_getElem hie] at he
            rcases List.mem_append.1 he with h | h
            · exact HI.out.le e h
            · rw [List.mem_singleton.1 h, hq]; show q.md.length ≤ 5000; have := HQ.out; omega
end Go.Proofs.Ytnbcjjgilndlaaa
