/- Outbox: Put and Take as steps of one that is new since a world. Helper of OutboxParts. -/
import Derived.Test.YtmjikfhabfodkaaBoxB
namespace Go.Proofs.Ytmjikfhabfodkaa
open Go.RowKit
set_option linter.unusedVariables false
set_option linter.unusedSimpArgs false
/-- An outbox all of whose blocks are new since base. -/
def OB (w : World) (base B : Nat) (ls : List (List UInt8)) (most : Nat) (sent : Int) : Prop :=
  ∃ blk T, Box w B blk T ls most sent ∧ Full ls ∧ base ≤ B ∧ (∀ g, blk = some g → base ≤ g) ∧ ∀ k, T k → base ≤ k ∧ k < w.heap.size
def putR (ls : List (List UInt8)) (l : List UInt8) (most : Nat) : Int := if l = [] then 2 else if ls.length = most then 5 else 0
def putL (ls : List (List UInt8)) (l : List UInt8) (most : Nat) : List (List UInt8) := if l = [] then ls else if ls.length = most then ls else ls ++ [l]
def takeN (ls : List (List UInt8)) (n : Int) : Nat := min n.toNat (lens ls)
theorem Chg.below_base {M : Nat → Prop} {w w' : World} {base : Nat} (h : Chg M w w') (hM : ∀ k, M k → base ≤ k) (hb : base ≤ w.heap.size) : Below base w w' :=
  ⟨h.os, h.tape, h.output, h.size, fun i hi => h.block i (by omega) (fun hm => by have := hM i hm; omega)⟩
theorem Box.below {w w' : World} {B : Nat} {blk : Option Nat} {T : Nat → Prop} {ls : List (List UInt8)} {most : Nat} {sent : Int} (h : Box w B blk T ls most sent) (hT : ∀ k, T k → k < w.heap.size) (hB : Below w.heap.size w w') : Box w' B blk T ls most sent :=
  h.kept hB h.lt.1 h.lt.2 hT
theorem OB.below {w w' : World} {base B : Nat} {ls : List (List UInt8)} {most : Nat} {sent : Int} (h : OB w base B ls most sent) (hB : Below w.heap.size w w') : OB w' base B ls most sent := by
  obtain ⟨blk, T, hb, hF, h1, h2, h3⟩ := h
  exact ⟨blk, T, hb.below (fun k hk => (h3 k hk).2) hB, hF, h1, h2, fun k hk => ⟨(h3 k hk).1, Nat.lt_of_lt_of_le (h3 k hk).2 hB.size⟩⟩
theorem Full.drop {ls : List (List UInt8)} (h : Full ls) (n : Nat) : Full (dropB ls n) := dropB_full ls n h
theorem OB.lt {w : World} {base B : Nat} {ls : List (List UInt8)} {most : Nat} {sent : Int} (h : OB w base B ls most sent) : base ≤ w.heap.size := by
  obtain ⟨blk, T, hb, _, h1, _, _⟩ := h
  have := hb.lt.1
  omega
theorem New_step (n : Int) (M : Nat) (hM : n.toNat = M) (w : World) :
    Calls Try.prog 7 #[.int .i64 n] w fun e w' => e = .returned (.pointer (some ⟨w.heap.size, 0, none⟩)) ∧ OB w' w.heap.size w.heap.size [] M 0 ∧ Below w.heap.size w w' := by
  refine (New_any n M hM w).mono ?_
  rintro e w' ⟨rfl, rfl⟩
  exact ⟨rfl, ⟨none, fun _ => False, new_box w M _, by intro l hl; simp at hl, Nat.le_refl _, fun g hg => (by cases hg), fun k hk => hk.elim⟩, (Below.refl _ _).alloc (Nat.le_refl _) _⟩
theorem Put_step (base B : Nat) (ls : List (List UInt8)) (most : Nat) (sent : Int) (a : Option Addr) (l : List UInt8) (c : Nat) (w : World) (h : OB w base B ls most sent) (ha : BytesAt w a l)
    (hm : most ≤ 4294967295) (hle : ls.length ≤ most) (hl : l.length ≤ 4294967295) :
    Calls Try.prog 8 #[.pointer (some ⟨B, 0, none⟩), .slice a l.length c] w fun e w' => e = .returned (.int .i64 (putR ls l most)) ∧ OB w' base B (putL ls l most) most sent ∧ Below base w w' := by
  have hsz := h.lt
  by_cases h0 : l = []
  · subst h0
    refine (Put_no B a c w).mono ?_
    rintro e w' ⟨rfl, rfl⟩
    exact ⟨by simp [putR], by simpa [putL] using h, Below.refl _ _⟩
  · have hh := h
    obtain ⟨blk, T, hb, hF, h1, h2, h3⟩ := h
    by_cases h4 : ls.length = most
    · refine (Put_full B blk T ls most sent a l.length c w hb (List.length_pos_iff.2 h0) hm h4).mono ?_
      rintro e w' ⟨rfl, rfl⟩
      exact ⟨by simp [putR, h0, h4], by simpa [putL, h0, h4] using hh.below ((Below.refl _ _).drew), (Below.refl _ _).drew⟩
    · refine (Put_ok B blk T ls most sent a l c w hb ha h0 (by omega) (by omega) (by omega) hl).mono ?_
      rintro e w' ⟨blk', T', rfl, hb', hch, hbk, hT'⟩
      refine ⟨by simp [putR, h0, h4], ?_, hch.below_base (fun k hk => ?_) hsz⟩
      · rw [show putL ls l most = ls ++ [l] by simp [putL, h0, h4]]
        refine ⟨blk', fun k => T' k ∧ k < w'.heap.size, ?_, ?_, h1, fun g hg => ?_, fun k hk => ⟨?_, hk.2⟩⟩
        · obtain ⟨vl, vs, g1, g2, g3⟩ := hb'
          refine ⟨vl, vs, g1, g2, fun i hi => ?_⟩
          obtain ⟨u, hu, hx⟩ := g3 i hi
          exact ⟨u, hu, hx.kept fun g cur fr hT hg => ⟨rfl, hT, heap_lt hg⟩⟩
        · intro x hx
          rcases List.mem_append.1 hx with hx | hx
          · exact hF x hx
          · obtain rfl : x = l := by simpa using hx
            exact h0
        · rcases hbk g hg with hg | hg
          · exact h2 g hg
          · omega
        · rcases hT' k hk.1 with hk | hk
          · exact (h3 k hk).1
          · omega
      · rcases hk with rfl | hk
        · exact h1
        · exact h2 k hk.symm
/-- what Take hands out: nothing, or a block of its own -/
def Taken (w' : World) (from_ : Nat) (v : Value) (xs : List UInt8) : Prop :=
  (xs = [] ∧ v = .slice none 0 0) ∨ ∃ O, v = .slice (some ⟨O, 0, none⟩) xs.length xs.length ∧ Blk w' O 5 (bcells xs).toArray ∧ from_ ≤ O
theorem Take_step (base B : Nat) (ls : List (List UInt8)) (most : Nat) (sent : Int) (n : Int) (w : World) (h : OB w base B ls most sent) (hl : ls.length ≤ 4294967295) (hs : lens ls ≤ 4294967295) (hsent : 0 ≤ sent ∧ sent ≤ 4294967295) :
    Calls Try.prog 9 #[.pointer (some ⟨B, 0, none⟩), .int .i64 n] w fun e w' => ∃ v, e = .returned v ∧ Taken w' w.heap.size v (ls.flatten.take (takeN ls n)) ∧ OB w' base B (dropB ls (takeN ls n)) most (sent + takeN ls n) ∧ Below base w w' := by
  have hsz := h.lt
  have hh := h
  obtain ⟨blk, T, hb, hF, h1, h2, h3⟩ := h
  by_cases h0 : takeN ls n = 0
  · rw [h0]
    refine (Take_no B blk T ls most sent n w hb hl hs (by unfold takeN at h0; omega)).mono ?_
    rintro e w' ⟨rfl, rfl⟩
    refine ⟨_, rfl, .inl ⟨by simp, rfl⟩, ?_, Below.refl _ _⟩
    rw [dropB_zero ls hF]
    simpa using hh
  · obtain ⟨N, hN⟩ : ∃ N, takeN ls n = N := ⟨_, rfl⟩
    rw [hN] at h0 ⊢
    have hlen : (ls.flatten.take N).length = N := by
      rw [List.length_take, ← lens_flat]; unfold takeN at hN; omega
    refine (Take_ok B blk T ls most sent n N w hb hF (fun k hk => (h3 k hk).2) hl hs (by omega) (by unfold takeN at hN; omega) hsent).mono ?_
    rintro e w' ⟨blk', O, rfl, hb', hch, hbk, hO, hO2⟩
    refine ⟨_, rfl, .inr ⟨O, by rw [hlen], hO, hO2⟩, ⟨blk', T, hb', hF.drop N, h1, fun g hg => h2 g (hbk g hg), fun k hk => ⟨(h3 k hk).1, Nat.lt_of_lt_of_le (h3 k hk).2 hch.size⟩⟩, hch.below_base (fun k hk => ?_) hsz⟩
    rcases hk with rfl | hk
    · exact h1
    · exact h2 k hk.symm
theorem Taken.bytes {w' : World} {f : Nat} {v : Value} {xs : List UInt8} (h : Taken w' f v xs) : ∃ A c, v = .slice A xs.length c ∧ BytesAt w' A xs := by
  rcases h with ⟨rfl, rfl⟩ | ⟨O, rfl, hO, _⟩
  · exact ⟨none, 0, rfl, .inl rfl⟩
  · refine ⟨_, _, rfl, .inr ⟨O, 0, rfl, fun j u hu => ?_⟩⟩
    rw [hO.cell]
    simpa using hu
end Go.Proofs.Ytmjikfhabfodkaa
