/- Outbox: both look the same. Helper of OutboxPlays. -/
import Derived.Test.YtmjikfhabfodkaaBoxDo
namespace Go.Proofs.Ytmjikfhabfodkaa
open Go.RowKit
set_option linter.unusedVariables false
set_option linter.unusedSimpArgs false
structure SI (w W : World) : Prop where
  heap : W.heap = w.heap
  below : Below w.heap.size w W
theorem Both.at_ {w W : World} {base B R : Nat} {ls : List (List UInt8)} {bs : List UInt8} {ends : List Nat} {sent M : Nat} (h : Both w base B R ls bs ends sent M) (s : SI w W) : Both W base B R ls bs ends sent M := h.new s.below
theorem len_at {w W : World} {base B R : Nat} {ls : List (List UInt8)} {bs : List UInt8} {ends : List Nat} {sent M : Nat} (h : Both w base B R ls bs ends sent M) (s : SI w W) :
    Calls Try.prog 10 #[.pointer (some ⟨B, 0, none⟩)] W fun e w' => e = .returned (.int .i64 ls.length) ∧ W = w' := by
  obtain ⟨blk, T, hb, _⟩ := (h.at_ s).ob
  exact Len_any B blk T ls M sent W hb
theorem left_at {w W : World} {base B R : Nat} {ls : List (List UInt8)} {bs : List UInt8} {ends : List Nat} {sent M : Nat} (h : Both w base B R ls bs ends sent M) (s : SI w W) (hl : ls.length ≤ 4294967295) (hs : lens ls ≤ 4294967295) :
    Calls Try.prog 11 #[.pointer (some ⟨B, 0, none⟩)] W fun e w' => e = .returned (.int .i64 (lens ls)) ∧ W = w' := by
  obtain ⟨blk, T, hb, _⟩ := (h.at_ s).ob
  exact Left_any B blk T ls M sent W hb hl hs
theorem sent_at {w W : World} {base B R : Nat} {ls : List (List UInt8)} {bs : List UInt8} {ends : List Nat} {sent M : Nat} (h : Both w base B R ls bs ends sent M) (s : SI w W) :
    Calls Try.prog 25 #[.pointer (some ⟨B, 0, none⟩)] W fun e w' => e = .returned (.int .i64 sent) ∧ W = w' := by
  obtain ⟨blk, T, hb, _⟩ := (h.at_ s).ob
  exact Sent_any B blk T ls M sent W hb
theorem room_at {w W : World} {base B R : Nat} {ls : List (List UInt8)} {bs : List UInt8} {ends : List Nat} {sent M : Nat} (h : Both w base B R ls bs ends sent M) (s : SI w W) (hl : ls.length ≤ 4294967295) {m : Nat} (hm : ((M : Int) - (ls.length : Int)) = (m : Int)) :
    Calls Try.prog 12 #[.pointer (some ⟨B, 0, none⟩)] W fun e w' => e = .returned (.int .i64 (m : Int)) ∧ SI w w' := by
  obtain ⟨blk, T, hb, _⟩ := (h.at_ s).ob
  refine (Room_any B blk T ls M sent W hb h.big hl).mono ?_
  rintro e w' ⟨rfl, rfl⟩
  exact ⟨by rw [hm], s.heap, s.below.drew⟩
theorem rlen_at {w W : World} {base B R : Nat} {ls : List (List UInt8)} {bs : List UInt8} {ends : List Nat} {sent M : Nat} (h : Both w base B R ls bs ends sent M) (s : SI w W) (hl : ends.length ≤ 4294967295) :
    Calls Try.prog 24 #[.pointer (some ⟨R, 0, none⟩)] W fun e w' => e = .returned (.int .i64 ls.length) ∧ SI w w' := by
  have hr := refLen_any _ R bs ends sent M W (h.at_ s).rb hl
  rw [h.sim.len] at hr
  refine hr.mono ?_
  rintro e w' ⟨rfl, _, hB, hh⟩
  exact ⟨rfl, hh.trans s.heap, s.below.trans (hB.mono s.below.size)⟩
theorem SI.cell {w W : World} (s : SI w W) {p : Addr} {v : Value} (h : w.cell? p = some v) : W.cell? p = some v := cellH s.heap h
set_option maxHeartbeats 1600000 in
theorem same_any (base B R : Nat) (ls : List (List UInt8)) (bs : List UInt8) (ends : List Nat) (sent M : Nat) (i : Nat) (w : World) (h : Both w base B R ls bs ends sent M) (hb : Bnd ls bs ends i) (hi : i ≤ 100) :
    Calls Try.prog 16 #[.pointer (some ⟨B, 0, none⟩), .pointer (some ⟨R, 0, none⟩)] w fun e w' => e = .returned (.bool true) ∧ SI w w' := by
  obtain ⟨hb1, hb2, hb3⟩ := hb
  have hleft := h.sim.left
  have hsub : ((bs.length : Int) - (sent : Int)) = (lens ls : Int) := by omega
  obtain ⟨m, hmN⟩ : ∃ m, m = M - ls.length := ⟨_, rfl⟩
  have hm : ((M : Int) - (ls.length : Int)) = (m : Int) := by have := h.le; omega
  have hmb : m ≤ 9223372036854775807 := by have := h.big; omega
  have hMb : M ≤ 9223372036854775807 := h.big
  clear hmN
  have hw1 : IntKind.i64.wrap (m : Int) = (m : Int) := IntWalk.i64_in _ (by omega)
  have hw2 : IntKind.i64.wrap (lens ls : Int) = (lens ls : Int) := IntWalk.i64_in _ (by omega)
  have hl1 : ls.length ≤ 4294967295 := by omega
  have hl2 : lens ls ≤ 4294967295 := by omega
  have hl3 : ends.length ≤ 4294967295 := by omega
  have hH := Lib.hid h
  have hc : ∃ A c, w.cell? ⟨R, 0, none⟩ = some (.slice A bs.length c) ∧ w.cell? ⟨R, 2, none⟩ = some (.int .i64 sent) ∧ w.cell? ⟨R, 3, none⟩ = some (.int .i64 M) := by
    obtain ⟨v1, v2, b1, b2, h1, h2, _⟩ := h.rb
    obtain ⟨A, c, rfl, _⟩ := h2.rd
    exact ⟨A, c, h1.cell 0, h1.cell 2, h1.cell 3⟩
  obtain ⟨A, c, c0, c2, c3⟩ := hc
  have i0 : SI w w.drew := ⟨rfl, (Below.refl _ _).drew⟩
  clear h hb1 hb2 hb3 hleft hi
  go_enter Try.func16, Try.ntmps16
  go_wp2
  go_region_held3 (fun W => SI w W ∧ W.cell? ⟨R, 0, none⟩ = some (.slice A bs.length c) ∧ W.cell? ⟨R, 2, none⟩ = some (.int .i64 sent) ∧ W.cell? ⟨R, 3, none⟩ = some (.int .i64 M)) (first | exact ⟨i0, c0, c2, c3⟩ | exact ⟨by assumption, SI.cell (by assumption) c0, SI.cell (by assumption) c2, SI.cell (by assumption) c3⟩) (first
    | (go_at_call 10; refine (len_at hH.out (by assumption)).mono ?_; rintro e w' ⟨rfl, rfl⟩)
    | (go_at_call 24; refine (rlen_at hH.out (by assumption) hl3).mono ?_; rintro e w5 ⟨rfl, i5⟩; have k0 := i5.cell c0; have k2 := i5.cell c2; have k3 := i5.cell c3)
    | (go_at_call 12; refine (room_at hH.out (by assumption) hl1 hm).mono ?_; rintro e w6 ⟨rfl, i6⟩; have k0 := i6.cell c0; have k2 := i6.cell c2; have k3 := i6.cell c3)
    | (go_at_call 11; refine (left_at hH.out (by assumption) hl1 hl2).mono ?_; rintro e w' ⟨rfl, rfl⟩)
    | (go_at_call 25; refine (sent_at hH.out (by assumption)).mono ?_; rintro e w' ⟨rfl, rfl⟩))
  all_goals go_wp2
  all_goals go_ret
  all_goals exact ⟨rfl, by assumption⟩
end Go.Proofs.Ytmjikfhabfodkaa
