/- Outbox: acts done by both, with the blocks that may turn said. Helper of OutboxCopies. -/
import Derived.Test.YtmjikfhabfodkaaBoxPlays
namespace Go.Proofs.Ytmjikfhabfodkaa
open Go.RowKit
set_option linter.unusedVariables false
set_option linter.unusedSimpArgs false
/-- The blocks that an act may turn. -/
def MO (w : World) (Hm : Nat → Prop) (k : Nat) : Prop := Hm k ∧ ∃ cs fr t, (t = 48 ∨ t = 27 ∨ t = 51) ∧ w.heap[k]? = some (.cells cs t fr)
theorem Chg.thenB {w a b : World} {Hm Hm' : Nat → Prop} (h : Chg (MO w Hm) w a) (k : Chg (MB a Hm') a b) (hm : ∀ i, i < w.heap.size → Hm' i → Hm i) : Chg (MO w Hm) w b :=
  h.trans k fun i hi hM => Classical.byContradiction fun hno => by
    have e := h.block i hi hno
    obtain ⟨h1, cs, fr, t, ht, hg⟩ := hM
    exact hno ⟨hm i hi h1, cs, fr, t, by rcases ht with h | h; exact .inl h; exact .inr (.inl h), by rw [← e]; exact hg⟩
theorem Chg.thenR {w a b : World} {Hm Hm' : Nat → Prop} (h : Chg (MO w Hm) w a) (k : Chg (MR a Hm') a b) (hm : ∀ i, i < w.heap.size → Hm' i → Hm i) : Chg (MO w Hm) w b :=
  h.trans k fun i hi hM => Classical.byContradiction fun hno => by
    have e := h.block i hi hno
    obtain ⟨h1, cs, fr, hg⟩ := hM
    exact hno ⟨hm i hi h1, cs, fr, 51, .inr (.inr rfl), by rw [← e]; exact hg⟩
theorem Chg.thenO {w a b : World} {Hm Hm' : Nat → Prop} (h : Chg (MO w Hm) w a) (k : Chg (MO a Hm') a b) (hm : ∀ i, i < w.heap.size → Hm' i → Hm i) : Chg (MO w Hm) w b :=
  h.trans k fun i hi hM => Classical.byContradiction fun hno => by
    have e := h.block i hi hno
    obtain ⟨h1, cs, fr, t, ht, hg⟩ := hM
    exact hno ⟨hm i hi h1, cs, fr, t, ht, by rw [← e]; exact hg⟩
/-- Where both stand, alike, each in its home. -/
structure BothH (w : World) (Hm : Nat → Prop) (B R : Nat) (ls : List (List UInt8)) (bs : List UInt8) (ends : List Nat) (sent M : Nat) : Prop where
  ob : OBh w Hm B ls M sent
  rb : RB w Hm R bs ends sent M
  sim : Sim ls bs ends sent
  le : ls.length ≤ M
  big : M ≤ 9223372036854775807
theorem BothH.new {w w' : World} {Hm : Nat → Prop} {B R : Nat} {ls : List (List UInt8)} {bs : List UInt8} {ends : List Nat} {sent M : Nat} (h : BothH w Hm B R ls bs ends sent M) (hB : Below w.heap.size w w') : BothH w' Hm B R ls bs ends sent M :=
  ⟨h.ob.new hB, h.rb.new hB, h.sim, h.le, h.big⟩
theorem BothH.wide {w : World} {Hm Hx : Nat → Prop} {B R : Nat} {ls : List (List UInt8)} {bs : List UInt8} {ends : List Nat} {sent M : Nat} (h : BothH w Hm B R ls bs ends sent M) : BothH w (fun k => Hm k ∨ Hx k) B R ls bs ends sent M :=
  ⟨h.ob.mono (fun _ _ hk => .inl hk), h.rb.mono (fun _ _ hk => .inl hk), h.sim, h.le, h.big⟩
theorem BothH.mono {w : World} {Hm Hm' : Nat → Prop} {B R : Nat} {ls : List (List UInt8)} {bs : List UInt8} {ends : List Nat} {sent M : Nat} (h : BothH w Hm B R ls bs ends sent M) (hm : ∀ k, k < w.heap.size → Hm k → Hm' k) : BothH w Hm' B R ls bs ends sent M :=
  ⟨h.ob.mono hm, h.rb.mono hm, h.sim, h.le, h.big⟩
/-- Two homes share no block that an act may turn. -/
def Apart (w : World) (H1 H2 : Nat → Prop) : Prop := ∀ k cs t fr, w.heap[k]? = some (.cells cs t fr) → H1 k → H2 k → t ≠ 48 ∧ t ≠ 27 ∧ t ≠ 51
theorem BothH.far {w w' : World} {H1 H2 : Nat → Prop} {B R : Nat} {ls : List (List UInt8)} {bs : List UInt8} {ends : List Nat} {sent M : Nat} (h : BothH w H2 B R ls bs ends sent M) (hc : Chg (MO w H1) w w') (ha : Apart w H1 H2) : BothH w' H2 B R ls bs ends sent M := by
  have hno : ∀ g, H2 g → ¬ MO w H1 g := fun g hg ⟨h1, cs, fr, t, ht, hk⟩ => by
    obtain ⟨a1, a2, a3⟩ := ha g cs t fr hk h1 hg
    rcases ht with rfl | rfl | rfl
    · exact a1 rfl
    · exact a2 rfl
    · exact a3 rfl
  exact ⟨h.ob.kept hc.size fun g cs t fr hg _ hH => hc.block g (heap_lt hg) (hno g hH), h.rb.kept fun g cs t fr hg _ hH => hc.block g (heap_lt hg) (hno g hH), h.sim, h.le, h.big⟩
set_option maxHeartbeats 1600000 in
theorem doH_put (Hm : Nat → Prop) (B R : Nat) (ls : List (List UInt8)) (bs : List UInt8) (ends : List Nat) (sent M : Nat) (a : Option Addr) (l : List UInt8) (c : Nat) (N : Int) (i : Nat) (w : World) (h : BothH w Hm B R ls bs ends sent M) (hb : Bnd ls bs ends i) (hi : i ≤ 60)
    (ha : ∀ w', Chg (MO w Hm) w w' → BytesAt w' a l) (hl : l.length ≤ 300) (h0 : l ≠ []) :
    Calls Try.prog 15 #[.pointer (some ⟨B, 0, none⟩), .pointer (some ⟨R, 0, none⟩), .agg #[.int .i64 1, .slice a l.length c, .int .i64 N]] w fun e w' => e = .returned (.bool true) ∧ (∃ ls' bs' ends', BothH w' (fun k => Hm k ∨ w.heap.size ≤ k) B R ls' bs' ends' sent M ∧ Bnd ls' bs' ends' (i + 1)) ∧ Chg (MO w Hm) w w' := by
  obtain ⟨i0, hi0, hz0, hz1, hz2⟩ := info_parts rinfo5
  have HL1 := Lib.hid hi0
  have HL2 := Lib.hid hz0
  have HL3 := Lib.hid hz1
  have HL4 := Lib.hid hz2
  clear hi0 hz0 hz1 hz2
  have hpos : 0 < l.length := List.length_pos_iff.2 h0
  have ha1 : ∀ o, BytesAt (w.alloc o) a l := fun o => ha _ ((Chg.refl _ _).alloc _)
  obtain ⟨hb1, hb2, hb3⟩ := hb
  obtain ⟨hob, hrb, hsim, hle, hbig⟩ := h
  have hob0 := hob.mono (Hm' := fun k => Hm k ∧ k < w.heap.size) (fun k h1 h2 => ⟨h2, h1⟩)
  have hrb0 := hrb.mono (Hm' := fun k => Hm k ∧ k < w.heap.size) (fun k h1 h2 => ⟨h2, h1⟩)
  have hlL : (putL ls l M).length ≤ ls.length + 1 ∧ (putL ls l M).length ≤ M := putL_len ls l M hle
  clear hob hrb
  go_enter Try.func15, Try.ntmps15
  go_wp2_with (at_builtin; refine wpList_append_at _ rfl _ _ _ rfl 5 i0 _ 1 1 Try.underlying27 HL1.out HL2.out HL3.out HL4.out rfl (by omega) (.slice none 0 0) 0 [] none rfl (Own.emp _ _) a l.length c (bcells l) rfl (by simp [bcells]) (ha1 _) (bcells_one l) (by simp only [maxLen]; omega) (by omega) ?_; intro A3 c3 w2 blk3 hown3 hchg3 hat3; simp only [Nat.zero_add, List.nil_append] at hown3)
  obtain ⟨g, off, cc, hv, rfl, hI⟩ := ints8_own hown3 hpos
  injection hv with hv _ hv2
  subst hv hv2
  have hs3 := hchg3.size
  simp at hs3
  have hg : g = w.heap.size + 1 := by
    rcases hat3 with h | h
    · cases h
    · injection h with h; simpa using h
  have hg2 : g < w2.heap.size := ints_far hI 0 hpos
  have hgw : w.heap.size < g := by omega
  clear hg
  have hD : Blk w2 w.heap.size 39 #[.int .i64 1, .slice a l.length c, .int .i64 N] := (Blk.last w 39 _ rfl).chg hchg3 (fun h => none_no h)
  have hBw2 : Below w.heap.size w w2 := ((Below.refl _ _).alloc (Nat.le_refl _) _).trans (hchg3.below (fun i _ h => (none_no h).elim) (by simp))
  have hob2 := hob0.new hBw2
  have hrb2 := hrb0.new hBw2
  have hby : BytesAt w2 (some ⟨g, off, none⟩) l := by
    obtain ⟨x1, x2, hv, hx, _⟩ := hown3.rd
    injection hv with hv
    subst hv
    exact hx
  have hp := putH _ B ls M sent (some ⟨g, off, none⟩) l c3 w2 hob2 hby hbig hle (by omega) (by omega)
  have hrf := fun wr hr hbt => ref_put (fun k => Hm k ∧ k < w.heap.size) R ls bs ends sent M a l c wr hr hsim hle hbt hl (by omega) (by omega)
  generalize putR ls l M = r at *
  generalize putL ls l M = ls' at *
  have HRF := Lib.hid hrf
  clear hrf hown3 hchg3 hat3 ha1 hob0 hrb0 hby
  refine hp.mono ?_
  rintro e w3 ⟨rfl, hob3, hch3⟩
  have hI3 := hI.keep (hch3.block g hg2 (fun ⟨h, _⟩ => by omega))
  have hD3 : Blk w3 w.heap.size 39 _ := hD.chg hch3 (fun ⟨h, _⟩ => by omega)
  have hrb3 := hrb2.chgB hch3
  have hB3 : Chg (MO w Hm) w w3 := (Chg.of_below hBw2 (Nat.le_refl _) _).thenB hch3 (fun k _ h => h.1)
  have hs4 := hch3.size
  clear hp hI hD hob2 hrb2 hch3
  go_wp2_with fail
  go_loopw [9] (fun at_ wr => ∃ j : Nat, j ≤ l.length ∧ at_ = .int .i64 j ∧ Ints8 wr g off l.length ∧ OBh wr (fun k => (Hm k ∧ k < w.heap.size) ∨ w2.heap.size ≤ k) B ls' M sent ∧ RB wr (fun k => Hm k ∧ k < w.heap.size) R bs ends sent M ∧ Blk wr w.heap.size 39 #[.int .i64 1, .slice a l.length c, .int .i64 N] ∧ Chg (MO w Hm) w wr ∧ w2.heap.size ≤ wr.heap.size) (fun at_ _ => l.length - (intOf at_).toNat)
  case atStart => exact ⟨0, Nat.zero_le _, rfl, hI3, hob3, hrb3, hD3, hB3, hs4⟩
  case round =>
    obtain ⟨j, hj, rfl, hI4, hob4, hrb4, hD4, hB4, hs5⟩ := hrel
    clear hI3 hob3 hrb3 hD3 hB3
    by_cases hlt : j < l.length
    · obtain ⟨⟨v, v1, v2, v3⟩, v4⟩ := hI4 j hlt
      have hset := fun (x : Int) (h1 : 0 ≤ x) (h2 : x < 256) => hI4.set hlt h1 h2
      have hne : ¬ (w.heap.size = g) := by omega
      have hng : ¬ ((Hm g ∧ g < w.heap.size) ∨ w2.heap.size ≤ g) := fun h => by rcases h with h | h <;> omega
      have hfin := fun (x : Int) (h1 : 0 ≤ x) (h2 : x < 256) => (show Ints8 (wr.setCell ⟨g, off + j, none⟩ (.int .u8 x)) g off l.length ∧ OBh (wr.setCell ⟨g, off + j, none⟩ (.int .u8 x)) (fun k => (Hm k ∧ k < w.heap.size) ∨ w2.heap.size ≤ k) B ls' M sent ∧ RB (wr.setCell ⟨g, off + j, none⟩ (.int .u8 x)) (fun k => Hm k ∧ k < w.heap.size) R bs ends sent M ∧ Blk (wr.setCell ⟨g, off + j, none⟩ (.int .u8 x)) w.heap.size 39 #[.int .i64 1, .slice a l.length c, .int .i64 N] ∧ Chg (MO w Hm) w (wr.setCell ⟨g, off + j, none⟩ (.int .u8 x)) ∧ w2.heap.size ≤ (wr.setCell ⟨g, off + j, none⟩ (.int .u8 x)).heap.size from
        ⟨hset x h1 h2, hob4.far (p := ⟨g, off + j, none⟩) hng _, hrb4.far (p := ⟨g, off + j, none⟩) (fun h => hng (.inl h)) _, hD4.far (p := ⟨g, off + j, none⟩) hne _, hB4.setCell (p := ⟨g, off + j, none⟩) (.inr (by show w.heap.size ≤ g; omega)) _, by simpa [World.setCell] using hs5⟩)
      have HF := Lib.hid hfin
      clear hset hI4 hob4 hrb4 hD4 hB4 hfin
      go_wp2_with fail
      go_roundw
      case rel => exact ⟨j + 1, hlt, by go_num, HF.out _ (by omega) (by omega)⟩
      case measure => simp [intOf]; omega
    · obtain rfl : j = l.length := by omega
      have hby := ha wr hB4
      have hrf := HRF.out wr hrb4 hby
      have d1 := hD4.cell 1
      simp at d1
      clear HRF hI4 hD4 hrb4
      go_wp2_with (go_at_call 22; refine hrf.mono ?_; rintro e w5 ⟨rfl, ⟨bs', ends', hrb5, hsim5, hb5, he5⟩, hch5⟩)
      go_ret
      have hob5 := hob4.chgR hch5
      have hs6 := hch5.size
      refine ⟨rfl, ⟨ls', bs', ends', ⟨hob5.mono (fun k _ hk => by rcases hk with hk | hk; exact .inl hk.1; exact .inr (by omega)), hrb5.mono (fun k _ hk => by rcases hk with hk | hk; exact .inl hk.1; exact .inr (by omega)), hsim5, hlL.2, hbig⟩, ⟨by omega, by omega, by omega⟩⟩, hB4.thenR hch5 (fun k _ h => h.1)⟩
theorem doH_put0 (Hm : Nat → Prop) (B R : Nat) (ls : List (List UInt8)) (bs : List UInt8) (ends : List Nat) (sent M : Nat) (a : Option Addr) (c : Nat) (N : Int) (i : Nat) (w : World) (h : BothH w Hm B R ls bs ends sent M) (hb : Bnd ls bs ends i) :
    Calls Try.prog 15 #[.pointer (some ⟨B, 0, none⟩), .pointer (some ⟨R, 0, none⟩), .agg #[.int .i64 1, .slice a 0 c, .int .i64 N]] w fun e w' => e = .returned (.bool true) ∧ (∃ ls' bs' ends', BothH w' (fun k => Hm k ∨ w.heap.size ≤ k) B R ls' bs' ends' sent M ∧ Bnd ls' bs' ends' (i + 1)) ∧ Chg (MO w Hm) w w' := by
  obtain ⟨i0, hi0, hz0, hz1, hz2⟩ := info_parts rinfo5
  have HL1 := Lib.hid hi0
  have HL2 := Lib.hid hz0
  have HL3 := Lib.hid hz1
  have HL4 := Lib.hid hz2
  clear hi0 hz0 hz1 hz2
  have hbn := hb
  clear hb
  go_enter Try.func15, Try.ntmps15
  go_wp2_with (at_builtin; refine wpList_append_at _ rfl _ _ _ rfl 5 i0 _ 1 1 Try.underlying27 HL1.out HL2.out HL3.out HL4.out rfl (by omega) (.slice none 0 0) 0 [] none rfl (Own.emp _ _) a 0 c [] rfl (by simp) (.inl rfl) (by simp) (by simp only [maxLen]; omega) (by omega) ?_; intro A3 c3 w2 blk3 hown3 hchg3 hat3)
  have hD : Blk w2 w.heap.size 39 #[.int .i64 1, .slice a 0 c, .int .i64 N] := (Blk.last w 39 _ rfl).chg hchg3 (fun h => none_no h)
  have hBw2 : Below w.heap.size w w2 := ((Below.refl _ _).alloc (Nat.le_refl _) _).trans (hchg3.below (fun i _ h => (none_no h).elim) (by simp))
  have d1 := hD.cell 1
  simp at d1
  refine (Put_no B A3 c3 w2).mono ?_
  rintro e w3 ⟨rfl, rfl⟩
  clear hown3 hchg3 hat3 hD
  go_wp2_with fail
  have HB2 := Lib.hid hBw2
  clear hBw2
  go_loopw [9] (fun at_ wr => at_ = .int .i64 0 ∧ Hid (Below w.heap.size w wr) ∧ wr.cell? ⟨w.heap.size, 1, none⟩ = some (.slice a 0 c)) (fun _ _ => 0)
  case atStart => exact ⟨rfl, HB2, d1⟩
  case round =>
    obtain ⟨rfl, HB3, d2⟩ := hrel
    clear HB2 d1
    go_wp2_with fail
    refine (refPut_no R a c wr).mono ?_
    rintro e w5 ⟨rfl, rfl⟩
    go_wp2_with fail
    go_ret
    have hBw2 := HB3.out
    exact ⟨rfl, ⟨ls, bs, ends, (h.new hBw2).wide, hbn.up⟩, Chg.of_below hBw2 (Nat.le_refl _) _⟩
set_option maxHeartbeats 1600000 in
theorem doH_take (Hm : Nat → Prop) (B R : Nat) (ls : List (List UInt8)) (bs : List UInt8) (ends : List Nat) (sent M : Nat) (v0 : Value) (N : Int) (i : Nat) (w : World) (h : BothH w Hm B R ls bs ends sent M) (hb : Bnd ls bs ends i) (hi : i ≤ 60) :
    Calls Try.prog 15 #[.pointer (some ⟨B, 0, none⟩), .pointer (some ⟨R, 0, none⟩), .agg #[.int .i64 2, v0, .int .i64 N]] w fun e w' => e = .returned (.bool true) ∧ (∃ ls' bs' ends' sent', BothH w' (fun k => Hm k ∨ w.heap.size ≤ k) B R ls' bs' ends' sent' M ∧ Bnd ls' bs' ends' (i + 1)) ∧ Chg (MO w Hm) w w' := by
  obtain ⟨hb1, hb2, hb3⟩ := hb
  obtain ⟨hob, hrb, hsim, hle, hbig⟩ := h
  have hob0 := (hob.mono (Hm' := fun k => Hm k ∧ k < w.heap.size) (fun k h1 h2 => ⟨h2, h1⟩)).new ((Below.refl _ _).alloc (Nat.le_refl _) (.cells #[.int .i64 2, v0, .int .i64 N] 39))
  have hrb0 := (hrb.mono (Hm' := fun k => Hm k ∧ k < w.heap.size) (fun k h1 h2 => ⟨h2, h1⟩)).new ((Below.refl _ _).alloc (Nat.le_refl _) (.cells #[.int .i64 2, v0, .int .i64 N] 39))
  have hleft := hsim.left
  obtain ⟨n, hn⟩ : ∃ n, takeN ls N = n := ⟨_, rfl⟩
  have hnl : n ≤ lens ls := by rw [← hn]; unfold takeN; omega
  have hrN := hsim.takeN N
  rw [hn] at hrN
  have hxs : (bs.drop sent).take n = ls.flatten.take n := by rw [hsim.2.2.1]
  have hsim' := hsim.take hnl
  obtain ⟨xs, hX⟩ : ∃ xs, ls.flatten.take n = xs := ⟨_, rfl⟩
  rw [hX] at hxs
  have hxl : xs.length ≤ 4294967295 := by rw [← hX, List.length_take, ← lens_flat]; omega
  have hdl := dropB_le ls n
  have tk := takeH _ B ls M sent N _ hob0 (by omega) (by omega) (by omega)
  rw [hn, hX] at tk
  have TK := Lib.hid tk
  have HR0 := Lib.hid hrb0
  have hD : Blk (w.alloc (.cells #[.int .i64 2, v0, .int .i64 N] 39)) w.heap.size 39 #[.int .i64 2, v0, .int .i64 N] := Blk.last w 39 _ rfl
  have HD := Lib.hid hD
  clear tk hob hrb hob0 hrb0 hD
  go_enter Try.func15, Try.ntmps15
  go_wp2_with (go_at_call 9; refine TK.out.mono ?_; rintro e w2 ⟨v, rfl, hv, hob2, hch2⟩)
  have hrb2 := HR0.out.chgB hch2
  have hD2 := HD.out.chg hch2 (fun ⟨h, _⟩ => by omega)
  have hs2 := hch2.size
  simp at hs2
  have hB2 : Chg (MO w Hm) w w2 := ((Chg.refl _ _).alloc _).thenB hch2 (fun k _ h => h.1)
  have rt := refTake_any (fun k => Hm k ∧ k < w.heap.size) R bs ends sent M N n w2.drew hrb2.drew (by omega) (by omega) hrN
  rw [hxs] at rt
  have RT := Lib.hid rt
  have s1 := (Taken.keep (w' := w2.drew) hv (fun g _ _ => rfl)).str
  have d2 := hD2.cell 2
  simp at d2
  have hv' : Taken w2 (w.heap.size + 1) v xs := by simpa using hv
  clear hv
  clear rt TK HR0 HD hch2 hrb2
  go_region_with (go_at_call 23; refine RT.out.mono ?_; rintro e w4 ⟨A4, c4, rfl, hby4, hrb4, hch4⟩; have s2 := hby4.str 27 5 9 c4 Try.underlying27 Try.underlying5 Try.underlying9; have hv4 := hv'.keep (w' := w4) (fun g h1 h2 => hch4.block g h2 (fun hh => by have := hh.1.2; omega)); have s3 := hv4.str)
  all_goals
    have hob4 : OBh w4 (fun k => Hm k ∧ k < w.heap.size) B (dropB ls n) M ((sent + n : Nat) : Int) := by
      rw [Int.natCast_add]
      exact (hob2.new ((Below.refl _ _).drew)).chgR hch4
    have hB4 : Chg (MO w Hm) w w4 := (hB2.drew).thenR hch4 (fun k _ h => h.1)
    have hs4 := hch4.size
    simp at hs4
    clear s1 s2 s3 d2 hD2 hB2 RT hch4 hob2 hby4 hv'
    rcases hv4 with ⟨hx0, hv⟩ | ⟨O, hv, hO, hO2⟩
    · subst hv
      have HB4 := Lib.hid hB4
      clear hB4
      go_wp2_with fail
      go_loopw [12] (fun at_ wr => at_ = .int .i64 0 ∧ wr = w4) (fun _ _ => 0)
      case atStart => exact ⟨rfl, rfl⟩
      case round =>
        obtain ⟨rfl, rfl⟩ := hrel
        go_wp2_with fail
        go_ret
        exact ⟨rfl, ⟨dropB ls n, bs, ends, sent + n, ⟨hob4.mono (fun k _ hk => .inl hk.1), hrb4.mono (fun k _ hk => .inl hk.1), hsim', by omega, hbig⟩, ⟨by omega, Nat.le_trans hb2 (Nat.mul_le_mul_right 300 (Nat.le_succ i)), by omega⟩⟩, HB4.out⟩
    · subst hv
      have hI0 := ints8_blk hO
      have hOlt := hO.lt
      generalize xs.length = m at *
      clear hO
      go_wp2_with fail
      go_loopw [12] (fun at_ wr => ∃ j : Nat, j ≤ m ∧ at_ = .int .i64 j ∧ Ints8 wr O 0 m ∧ OBh wr (fun k => Hm k ∧ k < w.heap.size) B (dropB ls n) M ((sent + n : Nat) : Int) ∧ RB wr (fun k => Hm k ∧ k < w.heap.size) R bs ends (sent + n) M ∧ Chg (MO w Hm) w wr ∧ w2.heap.size ≤ wr.heap.size) (fun at_ _ => m - (intOf at_).toNat)
      case atStart => exact ⟨0, Nat.zero_le _, rfl, hI0, hob4, hrb4, hB4, hs4⟩
      case round =>
        obtain ⟨j, hj, rfl, hI5, hob5, hrb5, hB5, hs5⟩ := hrel
        clear hI0 hob4 hrb4 hB4
        by_cases hlt : j < m
        · obtain ⟨⟨v, v1, v2, v3⟩, v4⟩ := hI5 j hlt
          have hset := fun (x : Int) (h1 : 0 ≤ x) (h2 : x < 256) => hI5.set hlt h1 h2
          rw [Nat.zero_add] at v3 v4 hset
          have hfin := fun (x : Int) (h1 : 0 ≤ x) (h2 : x < 256) => (show Ints8 (wr.setCell ⟨O, j, none⟩ (.int .u8 x)) O 0 m ∧ OBh (wr.setCell ⟨O, j, none⟩ (.int .u8 x)) (fun k => Hm k ∧ k < w.heap.size) B (dropB ls n) M ((sent + n : Nat) : Int) ∧ RB (wr.setCell ⟨O, j, none⟩ (.int .u8 x)) (fun k => Hm k ∧ k < w.heap.size) R bs ends (sent + n) M ∧ Chg (MO w Hm) w (wr.setCell ⟨O, j, none⟩ (.int .u8 x)) ∧ w2.heap.size ≤ (wr.setCell ⟨O, j, none⟩ (.int .u8 x)).heap.size from
            ⟨hset x h1 h2, hob5.far (p := ⟨O, j, none⟩) (fun h => by have := h.2; have : O < w.heap.size := this; omega) _, hrb5.far (p := ⟨O, j, none⟩) (fun h => by have := h.2; have : O < w.heap.size := this; omega) _, hB5.setCell (p := ⟨O, j, none⟩) (.inr (by show w.heap.size ≤ O; omega)) _, by simpa [World.setCell] using hs5⟩)
          have HF := Lib.hid hfin
          clear hset hI5 hob5 hrb5 hB5 hfin
          go_wp2_with fail
          go_roundw
          case rel => exact ⟨j + 1, hlt, by go_num, HF.out _ (by omega) (by omega)⟩
          case measure => simp [intOf]; omega
        · obtain rfl : j = m := by omega
          have HB5 := Lib.hid hB5
          clear hB5 hI5
          go_wp2_with fail
          go_ret
          exact ⟨rfl, ⟨dropB ls n, bs, ends, sent + n, ⟨hob5.mono (fun k _ hk => .inl hk.1), hrb5.mono (fun k _ hk => .inl hk.1), hsim', by omega, hbig⟩, ⟨by omega, Nat.le_trans hb2 (Nat.mul_le_mul_right 300 (Nat.le_succ i)), by omega⟩⟩, HB5.out⟩
theorem doH_any (Hm : Nat → Prop) (B R : Nat) (ls : List (List UInt8)) (bs : List UInt8) (ends : List Nat) (sent M : Nat) (k : Int) (a : Option Addr) (l : List UInt8) (c : Nat) (N : Int) (i : Nat) (w : World) (h : BothH w Hm B R ls bs ends sent M) (hb : Bnd ls bs ends i) (hi : i ≤ 60)
    (ha : ∀ w', Chg (MO w Hm) w w' → BytesAt w' a l) (hl : l.length ≤ 300) :
    Calls Try.prog 15 #[.pointer (some ⟨B, 0, none⟩), .pointer (some ⟨R, 0, none⟩), .agg #[.int .i64 k, .slice a l.length c, .int .i64 N]] w fun e w' => e = .returned (.bool true) ∧ (∃ ls' bs' ends' sent', BothH w' (fun k => Hm k ∨ w.heap.size ≤ k) B R ls' bs' ends' sent' M ∧ Bnd ls' bs' ends' (i + 1)) ∧ Chg (MO w Hm) w w' := by
  by_cases k1 : k = 1
  · subst k1
    by_cases h0 : l = []
    · subst h0
      refine (doH_put0 Hm B R ls bs ends sent M a c N i w h hb).mono ?_
      rintro e w' ⟨rfl, ⟨ls', bs', ends', h1, h2⟩, hB⟩
      exact ⟨rfl, ⟨ls', bs', ends', sent, h1, h2⟩, hB⟩
    · refine (doH_put Hm B R ls bs ends sent M a l c N i w h hb hi ha hl h0).mono ?_
      rintro e w' ⟨rfl, ⟨ls', bs', ends', h1, h2⟩, hB⟩
      exact ⟨rfl, ⟨ls', bs', ends', sent, h1, h2⟩, hB⟩
  · by_cases k2 : k = 2
    · subst k2
      exact doH_take Hm B R ls bs ends sent M _ N i w h hb hi
    · refine (do_other B R k _ _ w k1 k2).mono ?_
      rintro e w' ⟨rfl, hB⟩
      exact ⟨rfl, ⟨ls, bs, ends, sent, (h.new hB).wide, hb.up⟩, Chg.of_below hB (Nat.le_refl _) _⟩
end Go.Proofs.Ytmjikfhabfodkaa
