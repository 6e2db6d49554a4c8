/- Outbox: an act of Take done by both. Helper of OutboxPlays. -/
import Derived.Test.YtmjikfhabfodkaaBoxDo
namespace Go.Proofs.Ytmjikfhabfodkaa
open Go.RowKit
set_option linter.unusedVariables false
set_option linter.unusedSimpArgs false
theorem Bnd.up {ls : List (List UInt8)} {bs : List UInt8} {ends : List Nat} {i : Nat} (h : Bnd ls bs ends i) : Bnd ls bs ends (i + 1) := by
  obtain ⟨h1, h2, h3⟩ := h
  exact ⟨by omega, Nat.le_trans h2 (Nat.mul_le_mul_right 300 (Nat.le_succ i)), by omega⟩
theorem do_put0 (base B R : Nat) (ls : List (List UInt8)) (bs : List UInt8) (ends : List Nat) (sent M : Nat) (a : Option Addr) (c : Nat) (N : Int) (i : Nat) (w : World) (h : Both w base B R ls bs ends sent M) (hb : Bnd ls bs ends i) :
    Calls Try.prog 15 #[.pointer (some ⟨B, 0, none⟩), .pointer (some ⟨R, 0, none⟩), .agg #[.int .i64 1, .slice a 0 c, .int .i64 N]] w fun e w' => e = .returned (.bool true) ∧ (∃ ls' bs' ends', Both w' base B R ls' bs' ends' sent M ∧ Bnd ls' bs' ends' (i + 1)) ∧ Below base w w' := by
  obtain ⟨i0, hi0, hz0, hz1, hz2⟩ := info_parts rinfo5
  have HL1 := Lib.hid hi0
  have HL2 := Lib.hid hz0
  have HL3 := Lib.hid hz1
  have HL4 := Lib.hid hz2
  clear hi0 hz0 hz1 hz2
  have hbn := hb
  clear hb
  go_enter Try.func15, Try.ntmps15
  go_wp2_with (at_builtin; refine wpList_append_at _ rfl _ _ _ rfl 5 i0 _ 1 1 Try.underlying27 HL1.out HL2.out HL3.out HL4.out rfl (by omega) (.slice none 0 0) 0 [] none rfl (Own.emp _ _) a 0 c [] rfl (by simp) (.inl rfl) (by simp) (by simp only [maxLen]; omega) (by omega) ?_; intro A3 c3 w2 blk3 hown3 hchg3 hat3)
  have hD : Blk w2 w.heap.size 39 #[.int .i64 1, .slice a 0 c, .int .i64 N] := (Blk.last w 39 _ rfl).chg hchg3 (fun h => none_no h)
  have hBw2 : Below w.heap.size w w2 := ((Below.refl _ _).alloc (Nat.le_refl _) _).trans (hchg3.below (fun i _ h => (none_no h).elim) (by simp))
  have d1 := hD.cell 1
  simp at d1
  refine (Put_no B A3 c3 w2).mono ?_
  rintro e w3 ⟨rfl, rfl⟩
  clear hown3 hchg3 hat3 hD
  go_wp2_with fail
  have HB2 := Lib.hid hBw2
  clear hBw2
  go_loopw [9] (fun at_ wr => at_ = .int .i64 0 ∧ Hid (Below w.heap.size w wr) ∧ wr.cell? ⟨w.heap.size, 1, none⟩ = some (.slice a 0 c)) (fun _ _ => 0)
  case atStart => exact ⟨rfl, HB2, d1⟩
  case round =>
    obtain ⟨rfl, HB3, d2⟩ := hrel
    clear HB2 d1
    go_wp2_with fail
    refine (refPut_no R a c wr).mono ?_
    rintro e w5 ⟨rfl, rfl⟩
    go_wp2_with fail
    go_ret
    have hBw2 := HB3.out
    exact ⟨rfl, ⟨ls, bs, ends, h.new hBw2, hbn.up⟩, hBw2.mono h.room⟩
theorem Taken.keep {w w' : World} {f : Nat} {v : Value} {xs : List UInt8} (h : Taken w f v xs) (hk : ∀ g, f ≤ g → g < w.heap.size → w'.heap[g]? = w.heap[g]?) : Taken w' f v xs := by
  rcases h with ⟨h1, h2⟩ | ⟨O, h1, h2, h3⟩
  · exact .inl ⟨h1, h2⟩
  · exact .inr ⟨O, h1, (hk O h3 h2.lt).trans h2, h3⟩
theorem ints8_blk {w : World} {O : Nat} {xs : List UInt8} (h : Blk w O 5 (bcells xs).toArray) : Ints8 w O 0 xs.length := by
  intro j hj
  refine ⟨⟨(xs[j].toNat : Int), by omega, by have := xs[j].toNat_lt; omega, ?_⟩, h.frozen _⟩
  rw [h.cell]
  simp [bcells, hj]
set_option maxHeartbeats 1600000 in
theorem do_take (base B R : Nat) (ls : List (List UInt8)) (bs : List UInt8) (ends : List Nat) (sent M : Nat) (v0 : Value) (N : Int) (i : Nat) (w : World) (h : Both w base B R ls bs ends sent M) (hb : Bnd ls bs ends i) (hi : i ≤ 60) :
    Calls Try.prog 15 #[.pointer (some ⟨B, 0, none⟩), .pointer (some ⟨R, 0, none⟩), .agg #[.int .i64 2, v0, .int .i64 N]] w fun e w' => e = .returned (.bool true) ∧ (∃ ls' bs' ends' sent', Both w' base B R ls' bs' ends' sent' M ∧ Bnd ls' bs' ends' (i + 1)) ∧ Below base w w' := by
  obtain ⟨hb1, hb2, hb3⟩ := hb
  obtain ⟨hob, hrb, hsim, hle, hbig, hroom⟩ := h
  have hob0 := (hob.mono (Hm' := fun k => base ≤ k ∧ k < w.heap.size) (fun k h1 h2 => ⟨h2, h1⟩)).new ((Below.refl _ _).alloc (Nat.le_refl _) (.cells #[.int .i64 2, v0, .int .i64 N] 39))
  have hrb0 := (hrb.mono (Hm' := fun k => base ≤ k ∧ k < w.heap.size) (fun k h1 h2 => ⟨h2, h1⟩)).new ((Below.refl _ _).alloc (Nat.le_refl _) (.cells #[.int .i64 2, v0, .int .i64 N] 39))
  have hleft := hsim.left
  obtain ⟨n, hn⟩ : ∃ n, takeN ls N = n := ⟨_, rfl⟩
  have hnl : n ≤ lens ls := by rw [← hn]; unfold takeN; omega
  have hrN := hsim.takeN N
  rw [hn] at hrN
  have hxs : (bs.drop sent).take n = ls.flatten.take n := by rw [hsim.2.2.1]
  have hsim' := hsim.take hnl
  obtain ⟨xs, hX⟩ : ∃ xs, ls.flatten.take n = xs := ⟨_, rfl⟩
  rw [hX] at hxs
  have hxl : xs.length ≤ 4294967295 := by rw [← hX, List.length_take, ← lens_flat]; omega
  have hdl := dropB_le ls n
  have tk := takeH _ B ls M sent N _ hob0 (by omega) (by omega) (by omega)
  rw [hn, hX] at tk
  have TK := Lib.hid tk
  have HR0 := Lib.hid hrb0
  have hD : Blk (w.alloc (.cells #[.int .i64 2, v0, .int .i64 N] 39)) w.heap.size 39 #[.int .i64 2, v0, .int .i64 N] := Blk.last w 39 _ rfl
  have HD := Lib.hid hD
  clear tk hob hrb hob0 hrb0 hD
  go_enter Try.func15, Try.ntmps15
  go_wp2_with (go_at_call 9; refine TK.out.mono ?_; rintro e w2 ⟨v, rfl, hv, hob2, hch2⟩)
  have hrb2 := HR0.out.chgB hch2
  have hD2 := HD.out.chg hch2 (fun ⟨h, _⟩ => by omega)
  have hs2 := hch2.size
  simp at hs2
  have hB2 : Below base w w2 := ((Below.refl _ _).alloc hroom _).trans (hch2.below (fun k _ h => h.1.1) (by simp; omega))
  have rt := refTake_any (fun k => base ≤ k ∧ k < w.heap.size) R bs ends sent M N n w2.drew hrb2.drew (by omega) (by omega) hrN
  rw [hxs] at rt
  have RT := Lib.hid rt
  have s1 := (Taken.keep (w' := w2.drew) hv (fun g _ _ => rfl)).str
  have d2 := hD2.cell 2
  simp at d2
  have hv' : Taken w2 (w.heap.size + 1) v xs := by simpa using hv
  clear hv
  clear rt TK HR0 HD hch2 hrb2
  go_region_with (go_at_call 23; refine RT.out.mono ?_; rintro e w4 ⟨A4, c4, rfl, hby4, hrb4, hch4⟩; have s2 := hby4.str 27 5 9 c4 Try.underlying27 Try.underlying5 Try.underlying9; have hv4 := hv'.keep (w' := w4) (fun g h1 h2 => hch4.block g h2 (fun hh => by have := hh.1.2; omega)); have s3 := hv4.str)
  all_goals
    have hob4 : OBh w4 (fun k => base ≤ k ∧ k < w.heap.size) B (dropB ls n) M ((sent + n : Nat) : Int) := by
      rw [Int.natCast_add]
      exact (hob2.new ((Below.refl _ _).drew)).chgR hch4
    have hB4 : Below base w w4 := (hB2.drew).trans (hch4.below (fun k _ h => h.1.1) (by simp; omega))
    have hs4 := hch4.size
    simp at hs4
    clear s1 s2 s3 d2 hD2 hB2 RT hch4 hob2 hby4 hv'
    rcases hv4 with ⟨hx0, hv⟩ | ⟨O, hv, hO, hO2⟩
    · subst hv
      have HB4 := Lib.hid hB4
      clear hB4
      go_wp2_with fail
      go_loopw [12] (fun at_ wr => at_ = .int .i64 0 ∧ wr = w4) (fun _ _ => 0)
      case atStart => exact ⟨rfl, rfl⟩
      case round =>
        obtain ⟨rfl, rfl⟩ := hrel
        go_wp2_with fail
        go_ret
        exact ⟨rfl, ⟨dropB ls n, bs, ends, sent + n, ⟨hob4.mono (fun k _ hk => hk.1), hrb4.mono (fun k _ hk => hk.1), hsim', by omega, hbig, by omega⟩, ⟨by omega, Nat.le_trans hb2 (Nat.mul_le_mul_right 300 (Nat.le_succ i)), by omega⟩⟩, HB4.out⟩
    · subst hv
      have hI0 := ints8_blk hO
      have hOlt := hO.lt
      generalize xs.length = m at *
      clear hO
      go_wp2_with fail
      go_loopw [12] (fun at_ wr => ∃ j : Nat, j ≤ m ∧ at_ = .int .i64 j ∧ Ints8 wr O 0 m ∧ OBh wr (fun k => base ≤ k ∧ k < w.heap.size) B (dropB ls n) M ((sent + n : Nat) : Int) ∧ RB wr (fun k => base ≤ k ∧ k < w.heap.size) R bs ends (sent + n) M ∧ Below base w wr ∧ w2.heap.size ≤ wr.heap.size) (fun at_ _ => m - (intOf at_).toNat)
      case atStart => exact ⟨0, Nat.zero_le _, rfl, hI0, hob4, hrb4, hB4, hs4⟩
      case round =>
        obtain ⟨j, hj, rfl, hI5, hob5, hrb5, hB5, hs5⟩ := hrel
        clear hI0 hob4 hrb4 hB4
        by_cases hlt : j < m
        · obtain ⟨⟨v, v1, v2, v3⟩, v4⟩ := hI5 j hlt
          have hset := fun (x : Int) (h1 : 0 ≤ x) (h2 : x < 256) => hI5.set hlt h1 h2
          rw [Nat.zero_add] at v3 v4 hset
          have hfin := fun (x : Int) (h1 : 0 ≤ x) (h2 : x < 256) => (show Ints8 (wr.setCell ⟨O, j, none⟩ (.int .u8 x)) O 0 m ∧ OBh (wr.setCell ⟨O, j, none⟩ (.int .u8 x)) (fun k => base ≤ k ∧ k < w.heap.size) B (dropB ls n) M ((sent + n : Nat) : Int) ∧ RB (wr.setCell ⟨O, j, none⟩ (.int .u8 x)) (fun k => base ≤ k ∧ k < w.heap.size) R bs ends (sent + n) M ∧ Below base w (wr.setCell ⟨O, j, none⟩ (.int .u8 x)) ∧ w2.heap.size ≤ (wr.setCell ⟨O, j, none⟩ (.int .u8 x)).heap.size from
            ⟨hset x h1 h2, hob5.far (p := ⟨O, j, none⟩) (fun h => by have := h.2; have : O < w.heap.size := this; omega) _, hrb5.far (p := ⟨O, j, none⟩) (fun h => by have := h.2; have : O < w.heap.size := this; omega) _, hB5.setCell (p := ⟨O, j, none⟩) (by show base ≤ O; omega) _, by simpa [World.setCell] using hs5⟩)
          have HF := Lib.hid hfin
          clear hset hI5 hob5 hrb5 hB5 hfin
          go_wp2_with fail
          go_roundw
          case rel => exact ⟨j + 1, hlt, by go_num, HF.out _ (by omega) (by omega)⟩
          case measure => simp [intOf]; omega
        · obtain rfl : j = m := by omega
          have HB5 := Lib.hid hB5
          clear hB5 hI5
          go_wp2_with fail
          go_ret
          exact ⟨rfl, ⟨dropB ls n, bs, ends, sent + n, ⟨hob5.mono (fun k _ hk => hk.1), hrb5.mono (fun k _ hk => hk.1), hsim', by omega, hbig, by omega⟩, ⟨by omega, Nat.le_trans hb2 (Nat.mul_le_mul_right 300 (Nat.le_succ i)), by omega⟩⟩, HB5.out⟩
end Go.Proofs.Ytmjikfhabfodkaa
