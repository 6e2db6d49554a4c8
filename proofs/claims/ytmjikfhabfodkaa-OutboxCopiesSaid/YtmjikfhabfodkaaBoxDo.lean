/- Outbox: an act of Put done by both. Helper of OutboxPlays. -/
import Derived.Test.YtmjikfhabfodkaaBoxE
import Derived.Test.YtmjikfhabfodkaaBoxSim
import Derived.Test.YtmjikfhabfodkaaRefB
namespace Go.Proofs.Ytmjikfhabfodkaa
open Go.RowKit
set_option linter.unusedVariables false
set_option linter.unusedSimpArgs false
/-- n bytes that may be written -/
def Ints8 (w : World) (g off n : Nat) : Prop := ∀ j, j < n → (∃ v : Int, 0 ≤ v ∧ v < 256 ∧ w.cell? ⟨g, off + j, none⟩ = some (.int .u8 v)) ∧ w.frozen? ⟨g, off + j, none⟩ = false
theorem Ints8.set {w : World} {g off n : Nat} (h : Ints8 w g off n) {i : Nat} (hi : i < n) {v : Int} (h1 : 0 ≤ v) (h2 : v < 256) : Ints8 (w.setCell ⟨g, off + i, none⟩ (.int .u8 v)) g off n := by
  intro j hj
  obtain ⟨⟨u, u1, u2, u3⟩, u4⟩ := h j hj
  obtain ⟨⟨x, x1, x2, x3⟩, x4⟩ := h i hi
  refine ⟨?_, by rw [World.frozen?_setCell]; exact u4⟩
  by_cases e : j = i
  · subst e
    exact ⟨v, h1, h2, World.cell?_setCell_same _ _ _ u3⟩
  · exact ⟨u, u1, u2, by rw [World.cell?_setCell_other _ _ _ _ (fun h => e (by injection h with _ h _; omega))]; exact u3⟩
theorem ints8_own {w : World} {e : TypeId} {v : Value} {n : Nat} {l : List UInt8} {b : Option Nat} (h : Own w e 1 v n (bcells l) b) (hn : 0 < n) : ∃ g off c, v = .slice (some ⟨g, off, none⟩) n c ∧ b = some g ∧ Ints8 w g off n := by
  obtain ⟨hl, A, c, rfl, h1, h2, h3 | ⟨g, off, cur, rfl, rfl, hg, h4, h5⟩⟩ := h
  · omega
  · refine ⟨g, off, c, rfl, rfl, fun j hj => ⟨?_, hg.frozen _⟩⟩
    rw [bcells_length] at hl
    have hj' : j < l.length := by omega
    refine ⟨(l[j].toNat : Int), by omega, by have := l[j].toNat_lt; omega, ?_⟩
    rw [hg.cell]
    have e1 : ((cur.toList.drop off).take (n * 1))[j]? = cur[off + j]? := by
      rw [List.getElem?_take, if_pos (by omega), List.getElem?_drop]; simp
    rw [← e1, h5]
    simp [bcells, hj']
/-- Where both stand, alike, all of it new since base. -/
structure Both (w : World) (base B R : Nat) (ls : List (List UInt8)) (bs : List UInt8) (ends : List Nat) (sent M : Nat) : Prop where
  ob : OBh w (fun k => base ≤ k) B ls M sent
  rb : RB w (fun k => base ≤ k) R bs ends sent M
  sim : Sim ls bs ends sent
  le : ls.length ≤ M
  big : M ≤ 9223372036854775807
  room : base ≤ w.heap.size
def Bnd (ls : List (List UInt8)) (bs : List UInt8) (ends : List Nat) (i : Nat) : Prop := ls.length ≤ i ∧ bs.length ≤ i * 300 ∧ ends.length ≤ i
theorem Both.new {w w' : World} {base B R : Nat} {ls : List (List UInt8)} {bs : List UInt8} {ends : List Nat} {sent M : Nat} (h : Both w base B R ls bs ends sent M) (hB : Below w.heap.size w w') : Both w' base B R ls bs ends sent M :=
  ⟨h.ob.new hB, h.rb.new hB, h.sim, h.le, h.big, Nat.le_trans h.room hB.size⟩
theorem ints_far {w : World} {g off n : Nat} (h : Ints8 w g off n) : ∀ j, j < n → g < w.heap.size := fun j hj => by
  obtain ⟨⟨u, _, _, u3⟩, _⟩ := h j hj
  have := World.block_lt_of_cell? w _ u3
  simpa using this
set_option maxHeartbeats 1600000 in
theorem do_other (B R : Nat) (k : Int) (v : Value) (n : Value) (w : World) (h1 : k ≠ 1) (h2 : k ≠ 2) :
    Calls Try.prog 15 #[.pointer (some ⟨B, 0, none⟩), .pointer (some ⟨R, 0, none⟩), .agg #[.int .i64 k, v, n]] w fun e w' => e = .returned (.bool true) ∧ Below w.heap.size w w' := by
  have g1 : (k == 1) = false := by simpa using h1
  have g2 : (k == 2) = false := by simpa using h2
  go_enter Try.func15, Try.ntmps15
  go_wp2
  go_ret
  exact ⟨rfl, (Below.refl _ _).alloc (Nat.le_refl _) _⟩
theorem Ints8.keep {w w' : World} {g off n : Nat} (h : Ints8 w g off n) (hk : w'.heap[g]? = w.heap[g]?) : Ints8 w' g off n := by
  intro j hj
  obtain ⟨⟨u, u1, u2, u3⟩, u4⟩ := h j hj
  refine ⟨⟨u, u1, u2, ?_⟩, ?_⟩
  · simp only [World.cell?, hk] at u3 ⊢; exact u3
  · simp only [World.frozen?, hk] at u4 ⊢; exact u4
theorem putL_len (ls : List (List UInt8)) (l : List UInt8) (M : Nat) (h : ls.length ≤ M) : (putL ls l M).length ≤ ls.length + 1 ∧ (putL ls l M).length ≤ M := by
  unfold putL
  split
  · omega
  · split
    · omega
    · rw [List.length_append, List.length_singleton]; omega
theorem ref_put (Hm0 : Nat → Prop) (R : Nat) (ls : List (List UInt8)) (bs : List UInt8) (ends : List Nat) (sent M : Nat) (a : Option Addr) (l : List UInt8) (c : Nat) (wr : World) (h : RB wr Hm0 R bs ends sent M) (hs : Sim ls bs ends sent) (hle : ls.length ≤ M)
    (ha : BytesAt wr a l) (hl : l.length ≤ 300) (hbl : bs.length ≤ 4294967295) (hel : ends.length ≤ 4294967295) :
    Calls Try.prog 22 #[.pointer (some ⟨R, 0, none⟩), .slice a l.length c] wr fun e w' => e = .returned (.int .i64 (putR ls l M)) ∧ (∃ bs' ends', RB w' (fun k => Hm0 k ∨ wr.heap.size ≤ k) R bs' ends' sent M ∧ Sim (putL ls l M) bs' ends' sent ∧ bs'.length ≤ bs.length + 300 ∧ ends'.length ≤ ends.length + 1) ∧ Chg (MR wr Hm0) wr w' := by
  have hlen := hs.len
  by_cases h0 : l = []
  · subst h0
    refine (refPut_no R a c wr).mono ?_
    rintro e w' ⟨rfl, rfl⟩
    exact ⟨by simp [putR], ⟨bs, ends, h.mono (fun k _ hk => .inl hk), by simpa [putL] using hs, by omega, by omega⟩, Chg.refl _ _⟩
  · by_cases h4 : ls.length = M
    · refine (refPut_full Hm0 R bs ends sent M a l.length c wr h (List.length_pos_iff.2 h0) hel (by omega)).mono ?_
      rintro e w' ⟨rfl, hr, hB⟩
      exact ⟨by simp [putR, h0, h4], ⟨bs, ends, hr.mono (fun k _ hk => .inl hk), by simpa [putL, h0, h4] using hs, by omega, by omega⟩, Chg.of_below hB (Nat.le_refl _) _⟩
    · refine (refPut_ok Hm0 R bs ends sent M a l c wr h ha h0 hbl (by omega) hel (by omega)).mono ?_
      rintro e w' ⟨rfl, hr, hc⟩
      exact ⟨by simp [putR, h0, h4], ⟨_, _, hr, by simpa [putL, h0, h4] using hs.put h0, by simp; omega, by simp⟩, hc⟩
set_option maxHeartbeats 1600000 in
theorem do_put (base B R : Nat) (ls : List (List UInt8)) (bs : List UInt8) (ends : List Nat) (sent M : Nat) (a : Option Addr) (l : List UInt8) (c : Nat) (N : Int) (i : Nat) (w : World) (h : Both w base B R ls bs ends sent M) (hb : Bnd ls bs ends i) (hi : i ≤ 60)
    (ha : ∀ w', Below base w w' → BytesAt w' a l) (hl : l.length ≤ 300) (h0 : l ≠ []) :
    Calls Try.prog 15 #[.pointer (some ⟨B, 0, none⟩), .pointer (some ⟨R, 0, none⟩), .agg #[.int .i64 1, .slice a l.length c, .int .i64 N]] w fun e w' => e = .returned (.bool true) ∧ (∃ ls' bs' ends', Both w' base B R ls' bs' ends' sent M ∧ Bnd ls' bs' ends' (i + 1)) ∧ Below base w w' := by
  obtain ⟨i0, hi0, hz0, hz1, hz2⟩ := info_parts rinfo5
  have HL1 := Lib.hid hi0
  have HL2 := Lib.hid hz0
  have HL3 := Lib.hid hz1
  have HL4 := Lib.hid hz2
  clear hi0 hz0 hz1 hz2
  have hpos : 0 < l.length := List.length_pos_iff.2 h0
  have ha1 : ∀ o, BytesAt (w.alloc o) a l := fun o => ha _ ((Below.refl _ _).alloc h.room _)
  obtain ⟨hb1, hb2, hb3⟩ := hb
  obtain ⟨hob, hrb, hsim, hle, hbig, hroom⟩ := h
  have hob0 := hob.mono (Hm' := fun k => base ≤ k ∧ k < w.heap.size) (fun k h1 h2 => ⟨h2, h1⟩)
  have hrb0 := hrb.mono (Hm' := fun k => base ≤ k ∧ k < w.heap.size) (fun k h1 h2 => ⟨h2, h1⟩)
  have hlL : (putL ls l M).length ≤ ls.length + 1 ∧ (putL ls l M).length ≤ M := putL_len ls l M hle
  clear hob hrb
  go_enter Try.func15, Try.ntmps15
  go_wp2_with (at_builtin; refine wpList_append_at _ rfl _ _ _ rfl 5 i0 _ 1 1 Try.underlying27 HL1.out HL2.out HL3.out HL4.out rfl (by omega) (.slice none 0 0) 0 [] none rfl (Own.emp _ _) a l.length c (bcells l) rfl (by simp [bcells]) (ha1 _) (bcells_one l) (by simp only [maxLen]; omega) (by omega) ?_; intro A3 c3 w2 blk3 hown3 hchg3 hat3; simp only [Nat.zero_add, List.nil_append] at hown3)
  obtain ⟨g, off, cc, hv, rfl, hI⟩ := ints8_own hown3 hpos
  injection hv with hv _ hv2
  subst hv hv2
  have hs3 := hchg3.size
  simp at hs3
  have hg : g = w.heap.size + 1 := by
    rcases hat3 with h | h
    · cases h
    · injection h with h; simpa using h
  have hg2 : g < w2.heap.size := ints_far hI 0 hpos
  have hgw : w.heap.size < g := by omega
  clear hg
  have hD : Blk w2 w.heap.size 39 #[.int .i64 1, .slice a l.length c, .int .i64 N] := (Blk.last w 39 _ rfl).chg hchg3 (fun h => none_no h)
  have hBw2 : Below w.heap.size w w2 := ((Below.refl _ _).alloc (Nat.le_refl _) _).trans (hchg3.below (fun i _ h => (none_no h).elim) (by simp))
  have hob2 := hob0.new hBw2
  have hrb2 := hrb0.new hBw2
  have hby : BytesAt w2 (some ⟨g, off, none⟩) l := by
    obtain ⟨x1, x2, hv, hx, _⟩ := hown3.rd
    injection hv with hv
    subst hv
    exact hx
  have hp := putH _ B ls M sent (some ⟨g, off, none⟩) l c3 w2 hob2 hby hbig hle (by omega) (by omega)
  have hrf := fun wr hr hbt => ref_put (fun k => base ≤ k ∧ k < w.heap.size) R ls bs ends sent M a l c wr hr hsim hle hbt hl (by omega) (by omega)
  generalize putR ls l M = r at *
  generalize putL ls l M = ls' at *
  have HRF := Lib.hid hrf
  clear hrf hown3 hchg3 hat3 ha1 hob0 hrb0 hby
  refine hp.mono ?_
  rintro e w3 ⟨rfl, hob3, hch3⟩
  have hI3 := hI.keep (hch3.block g hg2 (fun ⟨h, _⟩ => by omega))
  have hD3 : Blk w3 w.heap.size 39 _ := hD.chg hch3 (fun ⟨h, _⟩ => by omega)
  have hrb3 := hrb2.chgB hch3
  have hB3 : Below base w w3 := (hBw2.mono hroom).trans (hch3.below (fun k _ h => h.1.1) (by omega))
  have hs4 := hch3.size
  clear hp hI hD hob2 hrb2 hch3
  go_wp2_with fail
  go_loopw [9] (fun at_ wr => ∃ j : Nat, j ≤ l.length ∧ at_ = .int .i64 j ∧ Ints8 wr g off l.length ∧ OBh wr (fun k => (base ≤ k ∧ k < w.heap.size) ∨ w2.heap.size ≤ k) B ls' M sent ∧ RB wr (fun k => base ≤ k ∧ k < w.heap.size) R bs ends sent M ∧ Blk wr w.heap.size 39 #[.int .i64 1, .slice a l.length c, .int .i64 N] ∧ Below base w wr ∧ w2.heap.size ≤ wr.heap.size) (fun at_ _ => l.length - (intOf at_).toNat)
  case atStart => exact ⟨0, Nat.zero_le _, rfl, hI3, hob3, hrb3, hD3, hB3, hs4⟩
  case round =>
    obtain ⟨j, hj, rfl, hI4, hob4, hrb4, hD4, hB4, hs5⟩ := hrel
    clear hI3 hob3 hrb3 hD3 hB3
    by_cases hlt : j < l.length
    · obtain ⟨⟨v, v1, v2, v3⟩, v4⟩ := hI4 j hlt
      have hset := fun (x : Int) (h1 : 0 ≤ x) (h2 : x < 256) => hI4.set hlt h1 h2
      have hne : ¬ (w.heap.size = g) := by omega
      have hng : ¬ ((base ≤ g ∧ g < w.heap.size) ∨ w2.heap.size ≤ g) := by omega
      have hfin := fun (x : Int) (h1 : 0 ≤ x) (h2 : x < 256) => (show Ints8 (wr.setCell ⟨g, off + j, none⟩ (.int .u8 x)) g off l.length ∧ OBh (wr.setCell ⟨g, off + j, none⟩ (.int .u8 x)) (fun k => (base ≤ k ∧ k < w.heap.size) ∨ w2.heap.size ≤ k) B ls' M sent ∧ RB (wr.setCell ⟨g, off + j, none⟩ (.int .u8 x)) (fun k => base ≤ k ∧ k < w.heap.size) R bs ends sent M ∧ Blk (wr.setCell ⟨g, off + j, none⟩ (.int .u8 x)) w.heap.size 39 #[.int .i64 1, .slice a l.length c, .int .i64 N] ∧ Below base w (wr.setCell ⟨g, off + j, none⟩ (.int .u8 x)) ∧ w2.heap.size ≤ (wr.setCell ⟨g, off + j, none⟩ (.int .u8 x)).heap.size from
        ⟨hset x h1 h2, hob4.far (p := ⟨g, off + j, none⟩) hng _, hrb4.far (p := ⟨g, off + j, none⟩) (fun h => hng (.inl h)) _, hD4.far (p := ⟨g, off + j, none⟩) hne _, hB4.setCell (p := ⟨g, off + j, none⟩) (by show base ≤ g; omega) _, by simpa [World.setCell] using hs5⟩)
      have HF := Lib.hid hfin
      clear hset hI4 hob4 hrb4 hD4 hB4 hfin
      go_wp2_with fail
      go_roundw
      case rel => exact ⟨j + 1, hlt, by go_num, HF.out _ (by omega) (by omega)⟩
      case measure => simp [intOf]; omega
    · obtain rfl : j = l.length := by omega
      have hby := ha wr hB4
      have hrf := HRF.out wr hrb4 hby
      have d1 := hD4.cell 1
      simp at d1
      clear HRF hI4 hD4 hrb4
      go_wp2_with (go_at_call 22; refine hrf.mono ?_; rintro e w5 ⟨rfl, ⟨bs', ends', hrb5, hsim5, hb5, he5⟩, hch5⟩)
      go_ret
      have hob5 := hob4.chgR hch5
      have hs6 := hch5.size
      refine ⟨rfl, ⟨ls', bs', ends', ⟨hob5.mono (fun k _ hk => by rcases hk with hk | hk <;> omega), hrb5.mono (fun k _ hk => by rcases hk with hk | hk <;> omega), hsim5, hlL.2, hbig, by omega⟩, ⟨by omega, by omega, by omega⟩⟩, hB4.trans (hch5.below (fun k _ h => h.1.1) (by omega))⟩
end Go.Proofs.Ytmjikfhabfodkaa
