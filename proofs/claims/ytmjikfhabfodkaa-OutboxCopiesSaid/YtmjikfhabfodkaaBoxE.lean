/- Outbox: Put and Take, with the blocks that may turn. Helper of OutboxPlays. -/
import Derived.Test.YtmjikfhabfodkaaBoxParts
import Derived.Test.YtmjikfhabfodkaaRefA
namespace Go.Proofs.Ytmjikfhabfodkaa
open Go.RowKit
set_option linter.unusedVariables false
set_option linter.unusedSimpArgs false
/-- The blocks of an outbox that may turn. -/
def MB (w : World) (Hm : Nat → Prop) (k : Nat) : Prop := Hm k ∧ ∃ cs fr t, (t = 48 ∨ t = 27) ∧ w.heap[k]? = some (.cells cs t fr)
/-- An outbox all of whose blocks lie where Hm says. -/
def OBh (w : World) (Hm : Nat → Prop) (B : Nat) (ls : List (List UInt8)) (most : Nat) (sent : Int) : Prop :=
  ∃ blk T, Box w B blk T ls most sent ∧ Full ls ∧ Hm B ∧ (∀ g, blk = some g → Hm g) ∧ ∀ k, T k → Hm k ∧ k < w.heap.size
theorem OBh.mono {w : World} {Hm Hm' : Nat → Prop} {B : Nat} {ls : List (List UInt8)} {most : Nat} {sent : Int} (h : OBh w Hm B ls most sent) (hm : ∀ k, k < w.heap.size → Hm k → Hm' k) : OBh w Hm' B ls most sent := by
  obtain ⟨blk, T, hb, hF, h1, h2, h3⟩ := h
  exact ⟨blk, T, hb, hF, hm _ hb.lt.1 h1, fun g hg => hm g (hb.lt.2 g hg) (h2 g hg), fun k hk => ⟨hm k (h3 k hk).2 (h3 k hk).1, (h3 k hk).2⟩⟩
theorem Box.tys {w : World} {B : Nat} {blk : Option Nat} {T : Nat → Prop} {ls : List (List UInt8)} {most : Nat} {sent : Int} (h : Box w B blk T ls most sent) :
    (∃ cs, Blk w B 48 cs) ∧ ∀ g, blk = some g → ∃ cs, Blk w g 27 cs := by
  obtain ⟨vl, vs, hb, ho, ht⟩ := h
  exact ⟨⟨_, hb⟩, fun g hg => ho.ty g hg⟩
theorem Box.keep {w w' : World} {B : Nat} {blk : Option Nat} {T : Nat → Prop} {ls : List (List UInt8)} {most : Nat} {sent : Int} (h : Box w B blk T ls most sent) (h1 : w'.heap[B]? = w.heap[B]?) (h2 : ∀ g, blk = some g → w'.heap[g]? = w.heap[g]?)
    (h3 : ∀ g cur fr, T g → w.heap[g]? = some (.cells cur 5 fr) → w'.heap[g]? = w.heap[g]?) : Box w' B blk T ls most sent := by
  obtain ⟨vl, vs, hb, ho, ht⟩ := h
  refine ⟨vl, vs, h1.trans hb, ho.kept h2, fun i hi => ?_⟩
  obtain ⟨u, hu, hx⟩ := ht i hi
  exact ⟨u, hu, hx.kept fun g cur fr hT hg => ⟨h3 g cur fr hT hg, hT⟩⟩
theorem OBh.kept {w w' : World} {Hm : Nat → Prop} {B : Nat} {ls : List (List UInt8)} {most : Nat} {sent : Int} (h : OBh w Hm B ls most sent) (hs : w.heap.size ≤ w'.heap.size)
    (hk : ∀ g cs t fr, w.heap[g]? = some (.cells cs t fr) → t = 48 ∨ t = 27 ∨ t = 5 → Hm g → w'.heap[g]? = w.heap[g]?) : OBh w' Hm B ls most sent := by
  obtain ⟨blk, T, hb, hF, h1, h2, h3⟩ := h
  obtain ⟨⟨cs, ht⟩, ht2⟩ := hb.tys
  refine ⟨blk, T, hb.keep (hk B _ 48 _ ht (.inl rfl) h1) (fun g hg => ?_) (fun g cur fr hT hg => hk g cur 5 fr hg (.inr (.inr rfl)) (h3 g hT).1), hF, h1, h2, fun k hk' => ⟨(h3 k hk').1, Nat.lt_of_lt_of_le (h3 k hk').2 hs⟩⟩
  obtain ⟨cs', hc⟩ := ht2 g hg
  exact hk g _ 27 _ hc (.inr (.inl rfl)) (h2 g hg)
theorem Box.chg {w w' : World} {Hm : Nat → Prop} {B : Nat} {blk : Option Nat} {T : Nat → Prop} {ls : List (List UInt8)} {most : Nat} {sent : Int} (h : Box w B blk T ls most sent) (h1 : Hm B) (h2 : ∀ g, blk = some g → Hm g)
    (hc : Chg (fun k => k = B ∨ some k = blk) w w') : Chg (MB w Hm) w w' := by
  obtain ⟨⟨cs, ht⟩, ht2⟩ := h.tys
  refine hc.mono fun i hi hm => ?_
  rcases hm with rfl | hm
  · exact ⟨h1, cs, _, 48, .inl rfl, ht⟩
  · obtain ⟨cs', hc'⟩ := ht2 i hm.symm
    exact ⟨h2 i hm.symm, cs', _, 27, .inr rfl, hc'⟩
theorem OBh.chgR {w w' : World} {Hm Hm2 : Nat → Prop} {B : Nat} {ls : List (List UInt8)} {most : Nat} {sent : Int} (h : OBh w Hm B ls most sent) (hc : Chg (MR w Hm2) w w') : OBh w' Hm B ls most sent :=
  h.kept hc.size fun g cs t fr hg ht _ => hc.block g (heap_lt hg) fun ⟨_, cs', fr', h'⟩ => by
    rw [hg] at h'; injection h' with h'; injection h' with _ h' _; rcases ht with rfl | rfl | rfl <;> exact absurd h' (by decide)
theorem RB.chgB {w w' : World} {Hm Hm2 : Nat → Prop} {R : Nat} {bs : List UInt8} {ends : List Nat} {sent M : Nat} (h : RB w Hm R bs ends sent M) (hc : Chg (MB w Hm2) w w') : RB w' Hm R bs ends sent M :=
  h.kept fun g cs t fr hg ht _ => hc.block g (heap_lt hg) fun ⟨_, cs', fr', t', ht', h'⟩ => by
    rw [hg] at h'; injection h' with h'; injection h' with _ h' _; subst h'; rcases ht with rfl | rfl | rfl <;> rcases ht' with h | h <;> exact absurd h (by decide)
theorem OBh.new {w w' : World} {Hm : Nat → Prop} {B : Nat} {ls : List (List UInt8)} {most : Nat} {sent : Int} (h : OBh w Hm B ls most sent) (hB : Below w.heap.size w w') : OBh w' Hm B ls most sent :=
  h.kept hB.size fun g cs t fr hg _ _ => hB.block g (heap_lt hg)
theorem RB.new {w w' : World} {Hm : Nat → Prop} {R : Nat} {bs : List UInt8} {ends : List Nat} {sent M : Nat} (h : RB w Hm R bs ends sent M) (hB : Below w.heap.size w w') : RB w' Hm R bs ends sent M :=
  h.kept fun g cs t fr hg _ _ => hB.block g (heap_lt hg)
theorem OBh.far {w : World} {Hm : Nat → Prop} {B : Nat} {ls : List (List UInt8)} {most : Nat} {sent : Int} (h : OBh w Hm B ls most sent) {p : Addr} (hp : ¬ Hm p.block) (v : Value) : OBh (w.setCell p v) Hm B ls most sent :=
  h.kept (by simp [World.setCell]) fun g cs t fr hg _ hm => Below.heap_setCell _ _ _ _ (fun e => hp (e ▸ hm))
theorem RB.far {w : World} {Hm : Nat → Prop} {R : Nat} {bs : List UInt8} {ends : List Nat} {sent M : Nat} (h : RB w Hm R bs ends sent M) {p : Addr} (hp : ¬ Hm p.block) (v : Value) : RB (w.setCell p v) Hm R bs ends sent M :=
  h.kept fun g cs t fr hg _ hm => Below.heap_setCell _ _ _ _ (fun e => hp (e ▸ hm))
theorem putH (Hm : Nat → Prop) (B : Nat) (ls : List (List UInt8)) (most : Nat) (sent : Int) (a : Option Addr) (l : List UInt8) (c : Nat) (w : World) (h : OBh w Hm B ls most sent) (ha : BytesAt w a l)
    (hm : most ≤ 9223372036854775807) (hle : ls.length ≤ most) (hl2 : ls.length ≤ 4294967295) (hl : l.length ≤ 4294967295) :
    Calls Try.prog 8 #[.pointer (some ⟨B, 0, none⟩), .slice a l.length c] w fun e w' => e = .returned (.int .i64 (putR ls l most)) ∧ OBh w' (fun k => Hm k ∨ w.heap.size ≤ k) B (putL ls l most) most sent ∧ Chg (MB w Hm) w w' := by
  by_cases h0 : l = []
  · subst h0
    refine (Put_no B a c w).mono ?_
    rintro e w' ⟨rfl, rfl⟩
    exact ⟨by simp [putR], by simpa [putL] using h.mono (fun k _ hk => .inl hk), Chg.refl _ _⟩
  · have hh := h
    obtain ⟨blk, T, hb, hF, h1, h2, h3⟩ := h
    by_cases h4 : ls.length = most
    · refine (Put_full B blk T ls most sent a l.length c w hb (List.length_pos_iff.2 h0) (by omega) h4).mono ?_
      rintro e w' ⟨rfl, rfl⟩
      exact ⟨by simp [putR, h0, h4], by simpa [putL, h0, h4] using (hh.new ((Below.refl _ _).drew)).mono (fun k _ hk => .inl hk), (Chg.refl _ _).drew⟩
    · refine (Put_ok B blk T ls most sent a l c w hb ha h0 hm (by omega) hl2 hl).mono ?_
      rintro e w' ⟨blk', T', rfl, hb', hch, hbk, hT'⟩
      refine ⟨by simp [putR, h0, h4], ?_, hb.chg h1 h2 hch⟩
      rw [show putL ls l most = ls ++ [l] by simp [putL, h0, h4]]
      refine ⟨blk', fun k => T' k ∧ k < w'.heap.size, ?_, ?_, .inl h1, fun g hg => ?_, fun k hk => ⟨?_, hk.2⟩⟩
      · obtain ⟨vl, vs, g1, g2, g3⟩ := hb'
        refine ⟨vl, vs, g1, g2, fun i hi => ?_⟩
        obtain ⟨u, hu, hx⟩ := g3 i hi
        exact ⟨u, hu, hx.kept fun g cur fr hT hg => ⟨rfl, hT, heap_lt hg⟩⟩
      · intro x hx
        rcases List.mem_append.1 hx with hx | hx
        · exact hF x hx
        · obtain rfl : x = l := by simpa using hx
          exact h0
      · rcases hbk g hg with hg | hg
        · exact .inl (h2 g hg)
        · exact .inr hg
      · rcases hT' k hk.1 with hk | hk
        · exact .inl (h3 k hk).1
        · exact .inr hk
theorem takeH (Hm : Nat → Prop) (B : Nat) (ls : List (List UInt8)) (most : Nat) (sent : Int) (n : Int) (w : World) (h : OBh w Hm B ls most sent) (hl : ls.length ≤ 4294967295) (hs : lens ls ≤ 4294967295) (hsent : 0 ≤ sent ∧ sent ≤ 4294967295) :
    Calls Try.prog 9 #[.pointer (some ⟨B, 0, none⟩), .int .i64 n] w fun e w' => ∃ v, e = .returned v ∧ Taken w' w.heap.size v (ls.flatten.take (takeN ls n)) ∧ OBh w' Hm B (dropB ls (takeN ls n)) most (sent + takeN ls n) ∧ Chg (MB w Hm) w w' := by
  have hh := h
  obtain ⟨blk, T, hb, hF, h1, h2, h3⟩ := h
  by_cases h0 : takeN ls n = 0
  · rw [h0]
    refine (Take_no B blk T ls most sent n w hb hl hs (by unfold takeN at h0; omega)).mono ?_
    rintro e w' ⟨rfl, rfl⟩
    refine ⟨_, rfl, .inl ⟨by simp, rfl⟩, ?_, Chg.refl _ _⟩
    rw [dropB_zero ls hF]
    simpa using hh
  · obtain ⟨N, hN⟩ : ∃ N, takeN ls n = N := ⟨_, rfl⟩
    rw [hN] at h0 ⊢
    have hlen : (ls.flatten.take N).length = N := by
      rw [List.length_take, ← lens_flat]; unfold takeN at hN; omega
    refine (Take_ok B blk T ls most sent n N w hb hF (fun k hk => (h3 k hk).2) hl hs (by omega) (by unfold takeN at hN; omega) hsent).mono ?_
    rintro e w' ⟨blk', O, rfl, hb', hch, hbk, hO, hO2⟩
    exact ⟨_, rfl, .inr ⟨O, by rw [hlen], hO, hO2⟩, ⟨blk', T, hb', hF.drop N, h1, fun g hg => h2 g (hbk g hg), fun k hk => ⟨(h3 k hk).1, Nat.lt_of_lt_of_le (h3 k hk).2 hch.size⟩⟩, hb.chg h1 h2 hch⟩
end Go.Proofs.Ytmjikfhabfodkaa
