/- Messages: the streams of requests and of responses (ours). Helper. -/
import Derived.Test.YtnbcjjgilndlaaaStFrm
import Derived.Test.YtnbcjjgilndlaaaAkMayO
import Derived.Test.YtnbcjjgilndlaaaAkArgF
import Derived.Deep.MidRow
import Derived.Test.YtnbcjjgilndlaaaTlMayP
import Derived.Test.YtnbcjjgilndlaaaTlArgG
namespace Go.Proofs.Ytnbcjjgilndlaaa
open Go.RowKit
set_option linter.unusedVariables false
set_option linter.unusedSimpArgs false
set_option maxRecDepth 100000
set_option maxHeartbeats 6400000
/-- Requests that lie one behind the other. -/
structure ReqsAt (w : World) (A : Option Addr) (es : List (Rq × Option Addr × Nat)) : Prop where
  at_ : es = [] ∨ ∃ g off, A = some ⟨g, off, none⟩ ∧ ∀ i (h : i < es.length), w.rangeAt g (off + i * 17) ((es[i]'h).1.c (es[i]'h).2.1 (es[i]'h).2.2)
  md : ∀ e ∈ es, BytesAt w e.2.1 e.1.md
  fit : ∀ e ∈ es, e.1.Fit ∧ e.1.md.length ≤ 70000
theorem ReqsAt.nw {w W : World} {A : Option Addr} {es : List (Rq × Option Addr × Nat)} (h : ReqsAt w A es) (n : Nw w W) : ReqsAt W A es :=
  ⟨h.at_.imp_right fun ⟨g, off, e, hr⟩ => ⟨g, off, e, fun i hi j v hv => n.cell (hr i hi j v hv)⟩, fun e he => Rd.nw (h.md e he) n, h.fit⟩
/-- A request's bytes. -/
def reqB (q : Rq) : List UInt8 := beW q.k 1 ++ askB q
/-- The frames of requests, one behind the other. -/
def strB (es : List (Rq × Option Addr × Nat)) : List UInt8 := (es.map fun e => frameB (reqB e.1)).flatten
theorem strB_snoc (es : List (Rq × Option Addr × Nat)) (i : Nat) (h : i < es.length) : strB (es.take (i + 1)) = strB (es.take i) ++ frameB (reqB (es[i]'h).1) := by
  unfold strB
  rw [List.take_succ_eq_append_getElem h, List.map_append, List.flatten_append]
  simp only [List.map_cons, List.map_nil, List.flatten_cons, List.flatten_nil, List.append_nil]
theorem reqB_small (q : Rq) (hm : mayQ q = true) : 1 ≤ (reqB q).length ∧ (reqB q).length ≤ 4096 := by
  refine ⟨?_, askB_small q hm⟩
  unfold reqB
  rw [List.length_append, beW_len]
  omega
/-- The stream so far. -/
structure StrIn (w wr : World) (es : List (Rq × Option Addr × Nat)) (i : Nat) (A' : Option Addr) (c' : Nat) (blk : Option Nat) : Prop where
  o : Own wr 5 1 (.slice A' (strB (es.take i)).length c') (strB (es.take i)).length (bcells (strB (es.take i))) blk
  g : ∀ g, blk = some g → w.heap.size ≤ g
  n : Nw w wr
  m : ∀ e ∈ es.take i, mayQ e.1 = true
  l : (strB (es.take i)).length ≤ 4102 * i
theorem str_any (w : World) (A : Option Addr) (n c : Nat) (es : List (Rq × Option Addr × Nat)) (h : ReqsAt w A es) (hn : es.length = n) (hl : n ≤ 1000) :
    Calls Try.prog 46 #[.slice A n c, .func (.func 17) #[] #[]] w (EncF w (if ∀ e ∈ es, mayQ e.1 = true then some (strB es) else none)) := by
  obtain ⟨r, hr⟩ : ∃ r, (if ∀ e ∈ es, mayQ e.1 = true then some (strB es) else none) = r := ⟨_, rfl⟩
  rw [hr]
  have HR := Lib.hid hr
  have HE := Lib.hid h
  have HN := Lib.hid (And.intro hn hl)
  obtain ⟨i0, hi0, hz0, hz1, hz2⟩ := info_parts infoU8
  have HL1 := Lib.hid hi0
  have HL2 := Lib.hid hz0
  have HL3 := Lib.hid hz1
  have HL4 := Lib.hid hz2
  obtain ⟨d, hd⟩ := stRq
  have HD := Lib.hid hd
  clear hi0 hz0 hz1 hz2 h hn hl hr hd
  go_enter Try.func46, Try.ntmps46
  go_wp2_with fail
  go_loopw [6, 14] (fun x y wr => ∃ (i : Nat) (A' : Option Addr) (c' : Nat) (blk : Option Nat), i ≤ n ∧ x = .slice A' (strB (es.take i)).length c' ∧ y = .int .i64 (i : Int) ∧ Hid (StrIn w wr es i A' c' blk)) (fun _ y _ => n - (intOf y).toNat)
  case atStart => exact ⟨0, none, 0, none, Nat.zero_le _, rfl, rfl, Lib.hid ⟨Own.nil _ _ _, (fun g hg => by cases hg), Nw.refl w, by simp, by simp [strB]⟩⟩
  case round =>
    obtain ⟨i, A', c', blk, hi, rfl, rfl, HI⟩ := hrel
    obtain ⟨L, hL⟩ : ∃ L, (strB (es.take i)).length = L := ⟨_, rfl⟩
    rw [hL]
    have HLL := Lib.hid hL
    clear hL
    by_cases hlt : i < n
    rotate_left
    · obtain rfl : i = n := by omega
      have i1 : ¬ (i : Int) < (i : Int) := by omega
      have hall : es.take i = es := by rw [← HN.out.1, List.take_length]
      have hr : r = some (strB es) := by rw [← HR.out, if_pos (by rw [← hall]; exact HI.out.m)]
      subst hr
      go_wp2_with fail
      go_ret2
      obtain ⟨_, _, e2, hrd, hnc, _⟩ := HI.out.o.rd
      injection e2 with e3 _ e4
      subst e3 e4
      rw [hall] at hrd hnc
      have hLL := HLL.out
      rw [hall] at hLL
      exact ⟨_, _, by rw [hLL]; rfl, hrd, hnc, HI.out.n⟩
    have i1 : (i : Int) < (n : Int) := by omega
    have hie : i < es.length := by rw [HN.out.1]; exact hlt
    obtain ⟨g, off, rfl, hrow⟩ := HE.out.at_.resolve_left (fun h => by rw [h] at hie; simp at hie)
    obtain ⟨q, Aq, cq, hq⟩ : ∃ q Aq cq, es[i]'hie = (q, Aq, cq) := ⟨_, _, _, rfl⟩
    have hmem : (q, Aq, cq) ∈ es := by rw [← hq]; exact List.getElem_mem hie
    have hrow1 := hrow i hie
    rw [hq] at hrow1
    have RW := Lib.hid (show wr.rangeAt g (off + i * 17) (q.c Aq cq) from fun j v hv => HI.out.n.cell (hrow1 j v hv))
    have HQ := Lib.hid (show q.Fit ∧ q.md.length ≤ 70000 ∧ BytesAt w Aq q.md from ⟨(HE.out.fit _ hmem).1, (HE.out.fit _ hmem).2, HE.out.md _ hmem⟩)
    have HQE := Lib.hid (show ∃ h : i < es.length, es[i]'h = (q, Aq, cq) from ⟨hie, hq⟩)
    have hin : (i : Int) ≤ 1000 := by have := HN.out.2; omega
    clear hrow hrow1 hq hmem hie
    obtain ⟨Q0, hQ0⟩ : ∃ Q, (q.c Aq cq).toArray = Q := ⟨_, rfl⟩
    have HQ0 := Lib.hid (show Q0.size = 17 ∧ Q0.all (·.oneCell') = true ∧ Q0 = (q.c Aq cq).toArray by rw [← hQ0]; exact ⟨rfl, by simp [Rq.c, Value.oneCell'], rfl⟩)
    have HIL := Lib.hid (show (Try.prog.info? 33).map (·.size) = some (q.c Aq cq).length by kernel_rfl)
    have HI0 := Lib.hid (show (Try.prog.info? 33).map (·.size) = some Q0.size by rw [HQ0.out.1]; kernel_rfl)
    have HZ := Lib.hid (show (#[.int .i64 0, .int .u32 0, .int .i64 0, .slice none 0 0, .int .i64 0, .int .i64 0, .int .i64 0, .int .i64 0, .int .i64 0, .int .i64 0, .int .u32 0, .int .i64 0, .int .i64 0, .int .i64 0, .int .i64 0, .int .i64 0, .int .i64 0] : Array Value).size = Q0.size by rw [HQ0.out.1]; rfl)
    obtain ⟨w2, hw2⟩ : ∃ W, wr.alloc (.cells Q0 33) = W := ⟨_, rfl⟩
    obtain ⟨G8, hG8⟩ : ∃ G, wr.heap.size = G := ⟨_, rfl⟩
    have b2 : Blk w2 G8 33 Q0 := by rw [← hw2]; exact Blk.last wr _ _ hG8
    have n2 : Nw wr w2 := by rw [← hw2]; exact (Nw.refl wr).alloc _
    have nw2 : Nw w w2 := Nw.trans HI.out.n n2
    have K := encQ_eq w2 q HQ.out.1 HQ.out.2.1 Aq cq (Rd.nw HQ.out.2.2 nw2) (bytes_blk (Rd.nw HQ.out.2.2 nw2))
    rw [hQ0] at K
    have KE := Lib.hid K
    have HW2 := Lib.hid (And.intro hw2 hG8)
    have B2 := Lib.hid b2
    have N2 := Lib.hid n2
    have HQR := Lib.hid hQ0
    clear hw2 hG8 b2 n2 nw2 K hQ0
    go_upto_region 5 with (first | (refine wpList_load_mid rfl 33 _ rfl g (off + i * 17) rfl (q.c Aq cq) (.struct d) RW.out HD.out rfl HIL.out ?_; rw [HQR.out]) | (refine wpList_store_row rfl 33 _ _ rfl wr.heap.size Q0 rfl rfl 33 _ (heap_last _ _ rfl) HI0.out HZ.out HQ0.out.2.1 ?_; rw [setRow_last _ _ _ _ rfl]))
    rw [HW2.out.1, HW2.out.2]
    go_wp2_with (refine wpList_load_row rfl 33 _ rfl G8 rfl 33 Q0 (0, 0) (.struct d) B2.out HD.out rfl HI0.out ?_)
    refine KE.out.mono ?_
    intro e w3 h
    by_cases hm : mayQ q = true
    rotate_left
    · rw [if_neg hm] at h
      obtain ⟨rfl, n3⟩ := h
      have hr : r = none := by
        rw [← HR.out, if_neg]
        intro hall
        obtain ⟨hie, hq⟩ := HQE.out
        have := hall (es[i]'hie) (List.getElem_mem hie)
        rw [hq] at this
        exact hm this
      subst hr
      have N3 := Lib.hid (Nw.trans HI.out.n (Nw.trans N2.out n3))
      clear n3 hm
      as_aux_lemma =>
        go_wp2_with fail
        go_ret2
        exact ⟨rfl, N3.out⟩
    rw [if_pos hm] at h
    obtain ⟨A5, c5, rfl, hb5, hc5, n3⟩ := h
    have hsm := reqB_small q hm
    obtain ⟨BB, hBB⟩ : ∃ BB, reqB q = BB := ⟨_, rfl⟩
    rw [show beW q.k 1 ++ askB q = BB from hBB] at hb5 hc5 ⊢
    rw [hBB] at hsm
    obtain ⟨Lb, hLb⟩ : ∃ L, BB.length = L := ⟨_, rfl⟩
    rw [hLb] at hc5 hsm ⊢
    have KF := Lib.hid (frmEnc_ok w3 A5 Lb c5 BB hb5 hLb hsm.1 hsm.2)
    have HBB := Lib.hid (And.intro hBB (And.intro hLb hsm))
    have HM := Lib.hid hm
    have N3 := Lib.hid (Nw.trans N2.out n3)
    clear hb5 hc5 hBB hLb hsm n3 hm
    go_wp2_with fail
    refine KF.out.mono ?_
    rintro e w4 ⟨A6, c6, rfl, hb6, hc6, n4⟩
    have N4 := Lib.hid (Nw.trans N3.out n4)
    have HO4 := Lib.hid (HI.out.o.kept fun g hg => N4.out.block g (HI.out.o.lt g hg))
    rw [HLL.out] at HO4
    have hfl : (frameB BB).length = 6 + Lb := by rw [frameB_length, HBB.out.2.1]
    have H6 := Lib.hid (And.intro hb6 (And.intro hc6 hfl))
    have hLb2 : Lb ≤ 4096 := HBB.out.2.2.2
    have hLL2 : L ≤ 4102000 := by have h1 := HI.out.l; have h2 := HN.out.2; rw [HLL.out] at h1; omega
    clear n4 hb6 hc6 hfl
    go_upto_region 11 with (fail)
    go_upto_region 12 with (at_builtin; refine wpList_append_at w4 rfl _ _ _ rfl 5 i0 _ 1 1 Try.underlying22 HL1.out HL2.out HL3.out HL4.out rfl (by omega) _ L (bcells (strB (es.take i))) blk rfl HO4.out _ (6 + Lb) c6 (bcells (frameB BB)) rfl (by rw [bcells_length, H6.out.2.2]; omega) H6.out.1 (bcells_one _) (by simp only [maxLen]; omega) (by omega) ?_; intro A2 c2 w6 blk2 hown hchg hat; have HO6 := Lib.hid hown; have HC6 := Lib.hid hchg; have HT6 := Lib.hid hat; clear hown hchg hat)
    go_wp2_with fail
    obtain ⟨hie, hq⟩ := HQE.out
    have hsn := strB_snoc es i hie
    rw [hq] at hsn
    simp only at hsn
    rw [HBB.out.1] at hsn
    have hlen : (strB (es.take (i + 1))).length = L + (6 + Lb) := by rw [hsn, List.length_append, HLL.out, H6.out.2.2]
    have N04 := Nw.trans HI.out.n N4.out
    refine ⟨⟨i + 1, A2, c2, blk2, hlt, by rw [hlen], by go_num, Lib.hid ⟨?_, ?_, ?_, ?_, ?_⟩⟩, by simp [intOf]; omega⟩
    · have h := HO6.out
      have e : bcells (strB (es.take (i + 1))) = bcells (strB (es.take i)) ++ bcells (frameB BB) := by rw [hsn]; simp [bcells]
      rw [hlen, e]
      exact h
    · intro g hg
      rcases HT6.out with h | h
      · exact HI.out.g g (h ▸ hg)
      · rw [h] at hg; injection hg with hg
        have := N04.size
        omega
    · exact Below.trans N04 (HC6.out.below (fun k _ hq => HI.out.g k hq.symm) N04.size)
    · intro e he
      rw [List.take_succ_eq_append_getElem hie] at he
      rcases List.mem_append.1 he with h | h
      · exact HI.out.m e h
      · rw [List.mem_singleton.1 h, hq]; exact HM.out
    · have := HI.out.l; rw [HLL.out] at this; rw [hlen]; omega
end Go.Proofs.Ytnbcjjgilndlaaa
/- Messages: a stream of responses' frames (ours). Helper. -/
namespace Go.Proofs.Ytnbcjjgilndlaaa
open Go.RowKit
set_option linter.unusedVariables false
set_option linter.unusedSimpArgs false
set_option maxRecDepth 100000
set_option maxHeartbeats 6400000
/-- Requests that lie one behind the other. -/
structure RessAt (w : World) (A : Option Addr) (es : List (Rs × Option Addr × Nat)) : Prop where
  at_ : es = [] ∨ ∃ g off, A = some ⟨g, off, none⟩ ∧ ∀ i (h : i < es.length), w.rangeAt g (off + i * 18) ((es[i]'h).1.c (es[i]'h).2.1 (es[i]'h).2.2)
  vs : ∀ e ∈ es, IntsAt w e.2.1 e.1.vs
  fit : ∀ e ∈ es, e.1.Fit ∧ e.1.vs.length ≤ 1000
theorem RessAt.nw {w W : World} {A : Option Addr} {es : List (Rs × Option Addr × Nat)} (h : RessAt w A es) (n : Nw w W) : RessAt W A es :=
  ⟨h.at_.imp_right fun ⟨g, off, e, hr⟩ => ⟨g, off, e, fun i hi j v hv => n.cell (hr i hi j v hv)⟩, fun e he => Rd.nw (h.vs e he) n, h.fit⟩
/-- A request's bytes. -/
def resB (q : Rs) : List UInt8 := encB q
/-- The frames of requests, one behind the other. -/
def strC (es : List (Rs × Option Addr × Nat)) : List UInt8 := (es.map fun e => frameB (resB e.1)).flatten
theorem strC_snoc (es : List (Rs × Option Addr × Nat)) (i : Nat) (h : i < es.length) : strC (es.take (i + 1)) = strC (es.take i) ++ frameB (resB (es[i]'h).1) := by
  unfold strC
  rw [List.take_succ_eq_append_getElem h, List.map_append, List.flatten_append]
  simp only [List.map_cons, List.map_nil, List.flatten_cons, List.flatten_nil, List.append_nil]
theorem resB_small (q : Rs) (hm : mayS q = true) : 1 ≤ (resB q).length ∧ (resB q).length ≤ 4096 := by
  refine ⟨?_, encB_small q hm⟩
  unfold resB
  unfold encB
  repeat' split
  all_goals simp only [List.length_append, beW_len]; omega
/-- The stream so far. -/
structure StrInS (w wr : World) (es : List (Rs × Option Addr × Nat)) (i : Nat) (A' : Option Addr) (c' : Nat) (blk : Option Nat) : Prop where
  o : Own wr 5 1 (.slice A' (strC (es.take i)).length c') (strC (es.take i)).length (bcells (strC (es.take i))) blk
  g : ∀ g, blk = some g → w.heap.size ≤ g
  n : Nw w wr
  m : ∀ e ∈ es.take i, mayS e.1 = true
  l : (strC (es.take i)).length ≤ 4102 * i
theorem strS_any (w : World) (A : Option Addr) (n c : Nat) (es : List (Rs × Option Addr × Nat)) (h : RessAt w A es) (hn : es.length = n) (hl : n ≤ 1000) :
    Calls Try.prog 47 #[.slice A n c, .func (.func 21) #[] #[]] w (EncF w (if ∀ e ∈ es, mayS e.1 = true then some (strC es) else none)) := by
  obtain ⟨r, hr⟩ : ∃ r, (if ∀ e ∈ es, mayS e.1 = true then some (strC es) else none) = r := ⟨_, rfl⟩
  rw [hr]
  have HR := Lib.hid hr
  have HE := Lib.hid h
  have HN := Lib.hid (And.intro hn hl)
  obtain ⟨i0, hi0, hz0, hz1, hz2⟩ := info_parts infoU8
  have HL1 := Lib.hid hi0
  have HL2 := Lib.hid hz0
  have HL3 := Lib.hid hz1
  have HL4 := Lib.hid hz2
  obtain ⟨d, hd⟩ := stRs
  have HD := Lib.hid hd
  clear hi0 hz0 hz1 hz2 h hn hl hr hd
  go_enter Try.func47, Try.ntmps47
  go_wp2_with fail
  go_loopw [6, 14] (fun x y wr => ∃ (i : Nat) (A' : Option Addr) (c' : Nat) (blk : Option Nat), i ≤ n ∧ x = .slice A' (strC (es.take i)).length c' ∧ y = .int .i64 (i : Int) ∧ Hid (StrInS w wr es i A' c' blk)) (fun _ y _ => n - (intOf y).toNat)
  case atStart => exact ⟨0, none, 0, none, Nat.zero_le _, rfl, rfl, Lib.hid ⟨Own.nil _ _ _, (fun g hg => by cases hg), Nw.refl w, by simp, by simp [strC]⟩⟩
  case round =>
    obtain ⟨i, A', c', blk, hi, rfl, rfl, HI⟩ := hrel
    obtain ⟨L, hL⟩ : ∃ L, (strC (es.take i)).length = L := ⟨_, rfl⟩
    rw [hL]
    have HLL := Lib.hid hL
    clear hL
    by_cases hlt : i < n
    rotate_left
    · obtain rfl : i = n := by omega
      have i1 : ¬ (i : Int) < (i : Int) := by omega
      have hall : es.take i = es := by rw [← HN.out.1, List.take_length]
      have hr : r = some (strC es) := by rw [← HR.out, if_pos (by rw [← hall]; exact HI.out.m)]
      subst hr
      go_wp2_with fail
      go_ret2
      obtain ⟨_, _, e2, hrd, hnc, _⟩ := HI.out.o.rd
      injection e2 with e3 _ e4
      subst e3 e4
      rw [hall] at hrd hnc
      have hLL := HLL.out
      rw [hall] at hLL
      exact ⟨_, _, by rw [hLL]; rfl, hrd, hnc, HI.out.n⟩
    have i1 : (i : Int) < (n : Int) := by omega
    have hie : i < es.length := by rw [HN.out.1]; exact hlt
    obtain ⟨g, off, rfl, hrow⟩ := HE.out.at_.resolve_left (fun h => by rw [h] at hie; simp at hie)
    obtain ⟨q, Aq, cq, hq⟩ : ∃ q Aq cq, es[i]'hie = (q, Aq, cq) := ⟨_, _, _, rfl⟩
    have hmem : (q, Aq, cq) ∈ es := by rw [← hq]; exact List.getElem_mem hie
    have hrow1 := hrow i hie
    rw [hq] at hrow1
    have RW := Lib.hid (show wr.rangeAt g (off + i * 18) (q.c Aq cq) from fun j v hv => HI.out.n.cell (hrow1 j v hv))
    have HQ := Lib.hid (show q.Fit ∧ q.vs.length ≤ 1000 ∧ IntsAt w Aq q.vs from ⟨(HE.out.fit _ hmem).1, (HE.out.fit _ hmem).2, HE.out.vs _ hmem⟩)
    have HQE := Lib.hid (show ∃ h : i < es.length, es[i]'h = (q, Aq, cq) from ⟨hie, hq⟩)
    have hin : (i : Int) ≤ 1000 := by have := HN.out.2; omega
    clear hrow hrow1 hq hmem hie
    obtain ⟨Q0, hQ0⟩ : ∃ Q, (q.c Aq cq).toArray = Q := ⟨_, rfl⟩
    have HQ0 := Lib.hid (show Q0.size = 18 ∧ Q0.all (·.oneCell') = true ∧ Q0 = (q.c Aq cq).toArray by rw [← hQ0]; exact ⟨rfl, by simp [Rs.c, Value.oneCell'], rfl⟩)
    have HIL := Lib.hid (show (Try.prog.info? 42).map (·.size) = some (q.c Aq cq).length by kernel_rfl)
    have HI0 := Lib.hid (show (Try.prog.info? 42).map (·.size) = some Q0.size by rw [HQ0.out.1]; kernel_rfl)
    have HZ := Lib.hid (show (#[.int .i64 0, .int .u32 0, .int .i64 0, .int .i64 0, .slice none 0 0, .int .i64 0, .int .i64 0, .int .i64 0, .int .i64 0, .int .i64 0, .int .i64 0, .int .u32 0, .int .i64 0, .int .i64 0, .int .i64 0, .int .i64 0, .int .i64 0, .int .i64 0] : Array Value).size = Q0.size by rw [HQ0.out.1]; rfl)
    obtain ⟨w2, hw2⟩ : ∃ W, wr.alloc (.cells Q0 42) = W := ⟨_, rfl⟩
    obtain ⟨G8, hG8⟩ : ∃ G, wr.heap.size = G := ⟨_, rfl⟩
    have b2 : Blk w2 G8 42 Q0 := by rw [← hw2]; exact Blk.last wr _ _ hG8
    have n2 : Nw wr w2 := by rw [← hw2]; exact (Nw.refl wr).alloc _
    have nw2 : Nw w w2 := Nw.trans HI.out.n n2
    have K := encS_eq w2 q HQ.out.1 Aq cq (Rd.nw HQ.out.2.2 nw2)
    rw [hQ0] at K
    have KE := Lib.hid K
    have HW2 := Lib.hid (And.intro hw2 hG8)
    have B2 := Lib.hid b2
    have N2 := Lib.hid n2
    have HQR := Lib.hid hQ0
    clear hw2 hG8 b2 n2 nw2 K hQ0
    go_upto_region 5 with (first | (refine wpList_load_mid rfl 42 _ rfl g (off + i * 18) rfl (q.c Aq cq) (.struct d) RW.out HD.out rfl HIL.out ?_; rw [HQR.out]) | (refine wpList_store_row rfl 42 _ _ rfl wr.heap.size Q0 rfl rfl 42 _ (heap_last _ _ rfl) HI0.out HZ.out HQ0.out.2.1 ?_; rw [setRow_last _ _ _ _ rfl]))
    rw [HW2.out.1, HW2.out.2]
    go_wp2_with (refine wpList_load_row rfl 42 _ rfl G8 rfl 42 Q0 (0, 0) (.struct d) B2.out HD.out rfl HI0.out ?_)
    refine KE.out.mono ?_
    intro e w3 h
    by_cases hm : mayS q = true
    rotate_left
    · rw [if_neg hm] at h
      obtain ⟨rfl, n3⟩ := h
      have hr : r = none := by
        rw [← HR.out, if_neg]
        intro hall
        obtain ⟨hie, hq⟩ := HQE.out
        have := hall (es[i]'hie) (List.getElem_mem hie)
        rw [hq] at this
        exact hm this
      subst hr
      have N3 := Lib.hid (Nw.trans HI.out.n (Nw.trans N2.out n3))
      clear n3 hm
      as_aux_lemma =>
        go_wp2_with fail
        go_ret2
        exact ⟨rfl, N3.out⟩
    rw [if_pos hm] at h
    obtain ⟨A5, c5, rfl, hb5, hc5, n3⟩ := h
    have hsm := resB_small q hm
    obtain ⟨BB, hBB⟩ : ∃ BB, resB q = BB := ⟨_, rfl⟩
    rw [show encB q = BB from hBB] at hb5 hc5 ⊢
    rw [hBB] at hsm
    obtain ⟨Lb, hLb⟩ : ∃ L, BB.length = L := ⟨_, rfl⟩
    rw [hLb] at hc5 hsm ⊢
    have KF := Lib.hid (frmEnc_ok w3 A5 Lb c5 BB hb5 hLb hsm.1 hsm.2)
    have HBB := Lib.hid (And.intro hBB (And.intro hLb hsm))
    have HM := Lib.hid hm
    have N3 := Lib.hid (Nw.trans N2.out n3)
    clear hb5 hc5 hBB hLb hsm n3 hm
    go_wp2_with fail
    refine KF.out.mono ?_
    rintro e w4 ⟨A6, c6, rfl, hb6, hc6, n4⟩
    have N4 := Lib.hid (Nw.trans N3.out n4)
    have HO4 := Lib.hid (HI.out.o.kept fun g hg => N4.out.block g (HI.out.o.lt g hg))
    rw [HLL.out] at HO4
    have hfl : (frameB BB).length = 6 + Lb := by rw [frameB_length, HBB.out.2.1]
    have H6 := Lib.hid (And.intro hb6 (And.intro hc6 hfl))
    have hLb2 : Lb ≤ 4096 := HBB.out.2.2.2
    have hLL2 : L ≤ 4102000 := by have h1 := HI.out.l; have h2 := HN.out.2; rw [HLL.out] at h1; omega
    clear n4 hb6 hc6 hfl
    go_upto_region 11 with (fail)
    go_upto_region 12 with (at_builtin; refine wpList_append_at w4 rfl _ _ _ rfl 5 i0 _ 1 1 Try.underlying22 HL1.out HL2.out HL3.out HL4.out rfl (by omega) _ L (bcells (strC (es.take i))) blk rfl HO4.out _ (6 + Lb) c6 (bcells (frameB BB)) rfl (by rw [bcells_length, H6.out.2.2]; omega) H6.out.1 (bcells_one _) (by simp only [maxLen]; omega) (by omega) ?_; intro A2 c2 w6 blk2 hown hchg hat; have HO6 := Lib.hid hown; have HC6 := Lib.hid hchg; have HT6 := Lib.hid hat; clear hown hchg hat)
    go_wp2_with fail
    obtain ⟨hie, hq⟩ := HQE.out
    have hsn := strC_snoc es i hie
    rw [hq] at hsn
    simp only at hsn
    rw [HBB.out.1] at hsn
    have hlen : (strC (es.take (i + 1))).length = L + (6 + Lb) := by rw [hsn, List.length_append, HLL.out, H6.out.2.2]
    have N04 := Nw.trans HI.out.n N4.out
    refine ⟨⟨i + 1, A2, c2, blk2, hlt, by rw [hlen], by go_num, Lib.hid ⟨?_, ?_, ?_, ?_, ?_⟩⟩, by simp [intOf]; omega⟩
    · have h := HO6.out
      have e : bcells (strC (es.take (i + 1))) = bcells (strC (es.take i)) ++ bcells (frameB BB) := by rw [hsn]; simp [bcells]
      rw [hlen, e]
      exact h
    · intro g hg
      rcases HT6.out with h | h
      · exact HI.out.g g (h ▸ hg)
      · rw [h] at hg; injection hg with hg
        have := N04.size
        omega
    · exact Below.trans N04 (HC6.out.below (fun k _ hq => HI.out.g k hq.symm) N04.size)
    · intro e he
      rw [List.take_succ_eq_append_getElem hie] at he
      rcases List.mem_append.1 he with h | h
      · exact HI.out.m e h
      · rw [List.mem_singleton.1 h, hq]; exact HM.out
    · have := HI.out.l; rw [HLL.out] at this; rw [hlen]; omega
end Go.Proofs.Ytnbcjjgilndlaaa
/- Messages: the streams of requests and of responses (ours). Helper. -/
namespace Go.Proofs.Ytnbcjjgilndlaaa
open Go.RowKit
set_option linter.unusedVariables false
set_option linter.unusedSimpArgs false
set_option maxRecDepth 100000
set_option maxHeartbeats 3200000
theorem reqs_any (w : World) (A : Option Addr) (n c : Nat) (es : List (Rq × Option Addr × Nat)) (h : ReqsAt w A es) (hn : es.length = n) (hl : n ≤ 1000) :
    Calls Try.prog 26 #[.slice A n c] w (EncF w (if ∀ e ∈ es, mayQ e.1 = true then some (strB es) else none)) := by
  have K := str_any w A n c es h hn hl
  obtain ⟨r, hr⟩ : ∃ r, (if ∀ e ∈ es, mayQ e.1 = true then some (strB es) else none) = r := ⟨_, rfl⟩
  rw [hr] at K ⊢
  have HK := Lib.hid K
  clear K h hn hl hr
  go_enter Try.func26, Try.ntmps26
  go_wp2_with fail
  refine HK.out.mono ?_
  intro e w1 h
  cases r with
  | none =>
    obtain ⟨rfl, n1⟩ := h
    have N1 := Lib.hid n1
    clear n1
    go_wp2_with fail
    go_ret2
    exact ⟨rfl, N1.out⟩
  | some l =>
    obtain ⟨A1, c1, rfl, hb, hc, n1⟩ := h
    have H := Lib.hid (And.intro hb (And.intro hc n1))
    obtain ⟨L, hL⟩ : ∃ L, l.length = L := ⟨_, rfl⟩
    have HL := Lib.hid hL
    rw [hL]
    clear hb hc n1 hL
    go_wp2_with fail
    go_ret2
    exact ⟨A1, c1, by rw [HL.out]; rfl, H.out.1, H.out.2.1, H.out.2.2⟩
theorem ress_any (w : World) (A : Option Addr) (n c : Nat) (es : List (Rs × Option Addr × Nat)) (h : RessAt w A es) (hn : es.length = n) (hl : n ≤ 1000) :
    Calls Try.prog 27 #[.slice A n c] w (EncF w (if ∀ e ∈ es, mayS e.1 = true then some (strC es) else none)) := by
  have K := strS_any w A n c es h hn hl
  obtain ⟨r, hr⟩ : ∃ r, (if ∀ e ∈ es, mayS e.1 = true then some (strC es) else none) = r := ⟨_, rfl⟩
  rw [hr] at K ⊢
  have HK := Lib.hid K
  clear K h hn hl hr
  go_enter Try.func27, Try.ntmps27
  go_wp2_with fail
  refine HK.out.mono ?_
  intro e w1 h
  cases r with
  | none =>
    obtain ⟨rfl, n1⟩ := h
    have N1 := Lib.hid n1
    clear n1
    go_wp2_with fail
    go_ret2
    exact ⟨rfl, N1.out⟩
  | some l =>
    obtain ⟨A1, c1, rfl, hb, hc, n1⟩ := h
    have H := Lib.hid (And.intro hb (And.intro hc n1))
    obtain ⟨L, hL⟩ : ∃ L, l.length = L := ⟨_, rfl⟩
    have HL := Lib.hid hL
    rw [hL]
    clear hb hc n1 hL
    go_wp2_with fail
    go_ret2
    exact ⟨A1, c1, by rw [HL.out]; rfl, H.out.1, H.out.2.1, H.out.2.2⟩
end Go.Proofs.Ytnbcjjgilndlaaa
