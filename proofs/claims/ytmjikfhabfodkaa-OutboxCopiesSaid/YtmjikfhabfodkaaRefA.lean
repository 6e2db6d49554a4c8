/- Outbox: the document's outbox in memory: New, Len, Take, and where Put refuses. Helper of OutboxPlays. -/
import Derived.Test.YtmjikfhabfodkaaProg
import Derived.Test.YtmjikfhabfodkaaMem
import Derived.Deep.RegionHeld3
import Derived.Deep.RegionLaw
import Derived.Deep.QuietTactic
import Derived.BigQuiet
import Derived.WalkSpells
import Derived.WalkLawsBesides
import Derived.Deep.RegionWith
namespace Go.Proofs.Ytmjikfhabfodkaa
open Go.RowKit
set_option linter.unusedVariables false
set_option linter.unusedSimpArgs false
def icells (l : List Nat) : List Value := l.map fun (x : Nat) => Value.int .i64 x
/-- The document's outbox: its struct in block R, its bytes in block b1, its ends in block b2, all of them where Hm says. -/
def RB (w : World) (Hm : Nat → Prop) (R : Nat) (bs : List UInt8) (ends : List Nat) (sent M : Nat) : Prop :=
  ∃ v1 v2 b1 b2, Blk w R 51 #[v1, v2, .int .i64 sent, .int .i64 M] ∧ Own w 5 1 v1 bs.length (bcells bs) b1 ∧ Own w 3 1 v2 ends.length (icells ends) b2 ∧ Hm R ∧ (∀ g, b1 = some g → Hm g) ∧ ∀ g, b2 = some g → Hm g
theorem Own.ty {w : World} {e : TypeId} {size : Nat} {v : Value} {n : Nat} {xs : List Value} {blk : Option Nat} (h : Own w e size v n xs blk) : ∀ g, blk = some g → ∃ cur, Blk w g e cur := by
  rintro g rfl
  obtain ⟨_, A, c, _, _, _, h | ⟨g', off, cur, _, hb, hg, _⟩⟩ := h
  · cases h.2
  · injection hb with hb; subst hb; exact ⟨cur, hg⟩
theorem RB.kept {w w' : World} {Hm : Nat → Prop} {R : Nat} {bs : List UInt8} {ends : List Nat} {sent M : Nat} (h : RB w Hm R bs ends sent M)
    (hk : ∀ g cs t fr, w.heap[g]? = some (.cells cs t fr) → t = 51 ∨ t = 5 ∨ t = 3 → Hm g → w'.heap[g]? = w.heap[g]?) : RB w' Hm R bs ends sent M := by
  obtain ⟨v1, v2, b1, b2, h1, h2, h3, h4, h5, h6⟩ := h
  refine ⟨v1, v2, b1, b2, (hk R _ 51 _ h1 (.inl rfl) h4).trans h1, h2.kept fun g hg => ?_, h3.kept fun g hg => ?_, h4, h5, h6⟩
  · obtain ⟨cur, hc⟩ := h2.ty g hg
    exact hk g _ 5 _ hc (.inr (.inl rfl)) (h5 g hg)
  · obtain ⟨cur, hc⟩ := h3.ty g hg
    exact hk g _ 3 _ hc (.inr (.inr rfl)) (h6 g hg)
theorem RB.mono {w : World} {Hm Hm' : Nat → Prop} {R : Nat} {bs : List UInt8} {ends : List Nat} {sent M : Nat} (h : RB w Hm R bs ends sent M) (hm : ∀ k, k < w.heap.size → Hm k → Hm' k) : RB w Hm' R bs ends sent M := by
  obtain ⟨v1, v2, b1, b2, h1, h2, h3, h4, h5, h6⟩ := h
  exact ⟨v1, v2, b1, b2, h1, h2, h3, hm _ h1.lt h4, fun g hg => hm _ (h2.lt g hg) (h5 g hg), fun g hg => hm _ (h3.lt g hg) (h6 g hg)⟩
theorem refNew_any (n : Int) (M : Nat) (hM : n.toNat = M) (w : World) :
    Calls Try.prog 14 #[.int .i64 n] w fun e w' => e = .returned (.pointer (some ⟨w.heap.size, 0, none⟩)) ∧ RB w' (fun k => w.heap.size ≤ k) w.heap.size [] [] 0 M ∧ Below w.heap.size w w' := by
  have hr : ∀ M : Nat, RB (w.alloc (.cells #[.slice none 0 0, .slice none 0 0, .int .i64 (0 : Nat), .int .i64 M] 51)) (fun k => w.heap.size ≤ k) w.heap.size [] [] 0 M := fun M =>
    ⟨_, _, none, none, Blk.last w 51 _ rfl, Own.nil _ 5 1, Own.nil _ 3 1, Nat.le_refl _, fun g hg => (by cases hg), fun g hg => (by cases hg)⟩
  have hB : ∀ o, Below w.heap.size w (w.alloc o) := fun o => (Below.refl _ _).alloc (Nat.le_refl _) _
  by_cases h : 0 ≤ n
  · obtain ⟨k, rfl⟩ := Int.eq_ofNat_of_zero_le h
    obtain rfl : k = M := by omega
    have h2 : ¬ (k : Int) < 0 := by omega
    clear hM
    go_enter Try.func14, Try.ntmps14
    go_wp2
    go_ret
    exact ⟨rfl, hr k, hB _⟩
  · have h2 : n < 0 := by omega
    obtain rfl : M = 0 := by omega
    clear hM
    go_enter Try.func14, Try.ntmps14
    go_wp2
    go_ret
    exact ⟨rfl, hr 0, hB _⟩
def lenE (ends : List Nat) (sent : Nat) : Nat := (ends.filter (sent < ·)).length
theorem lenE_take (ends : List Nat) (sent k : Nat) (h : k < ends.length) : lenE (ends.take (k + 1)) sent = lenE (ends.take k) sent + if sent < ends[k] then 1 else 0 := by
  unfold lenE
  rw [List.take_succ_eq_append_getElem h, List.filter_append, List.length_append]
  by_cases hs : sent < ends[k] <;> simp [hs]
theorem lenE_le (ends : List Nat) (sent : Nat) : lenE ends sent ≤ ends.length := List.length_filter_le _ _
set_option maxHeartbeats 400000 in
theorem refLen_any (Hm : Nat → Prop) (R : Nat) (bs : List UInt8) (ends : List Nat) (sent M : Nat) (w : World) (h : RB w Hm R bs ends sent M) (hl : ends.length ≤ 4294967295) :
    Calls Try.prog 24 #[.pointer (some ⟨R, 0, none⟩)] w fun e w' => e = .returned (.int .i64 (lenE ends sent)) ∧ RB w' Hm R bs ends sent M ∧ Below w.heap.size w w' ∧ w'.heap = w.heap := by
  have hrb := h
  obtain ⟨v1, v2, b1, b2, h1, h2, h3, h4, h5, h6⟩ := h
  obtain ⟨A, c, rfl, hr, _, _⟩ := h3.rd
  have c0 := h1.cell 1
  have c2 := h1.cell 2
  simp at c0 c2
  clear h1 h2 h3 h4 h5 h6
  go_enter Try.func24, Try.ntmps24
  go_wp2
  go_loopw [3, 4] (fun n i wr => ∃ k : Nat, k ≤ ends.length ∧ i = .int .i64 k ∧ n = .int .i64 (lenE (ends.take k) sent) ∧ wr.heap = w.heap ∧ Below w.heap.size w wr) (fun _ i _ => ends.length - (intOf i).toNat)
  case atStart => exact ⟨0, Nat.zero_le _, rfl, by simp [lenE], rfl, Below.refl _ _⟩
  case round =>
    obtain ⟨k, hk, rfl, rfl, hh, hB⟩ := hrel
    have hcw : ∀ p, wr.cell? p = w.cell? p := fun p => by simp only [World.cell?, hh]
    have d0 := (hcw _).trans c0
    have d2 := (hcw _).trans c2
    by_cases hlt : k < ends.length
    · obtain ⟨b, o, rfl, _, hc⟩ := hr.get (k := k) (by simpa [icells] using hlt)
      have hcell := (hcw _).trans (hc k (.int .i64 ends[k]) (by simp [icells, hlt]))
      have e1 := lenE_take ends sent k hlt
      have e2 := lenE_le (ends.take k) sent
      rw [List.length_take] at e2
      have hlt' : (k : Int) < (ends.length : Int) := by omega
      generalize hq : ends[k] = q at *
      by_cases hs : sent < q
      · rw [if_pos hs] at e1
        have hs' : (sent : Int) < (q : Int) := by omega
        have E1 := Lib.hid e1
        clear e1 hs c0 c2 hq hcw hc
        go_wp2
        go_region
        all_goals
          go_wp2
          go_roundw
          case rel => exact ⟨k + 1, hlt, by go_num, by rw [E1.out]; go_num, hh, hB.drew⟩
          case measure => simp [intOf]; omega
      · rw [if_neg hs] at e1
        have hs' : ¬ (sent : Int) < (q : Int) := by omega
        have E1 := Lib.hid e1
        clear e1 hs c0 c2 hq hcw hc
        go_wp2
        go_region
        all_goals
          go_wp2
          go_roundw
          case rel => exact ⟨k + 1, hlt, by go_num, by rw [E1.out]; go_num, hh, hB.drew⟩
          case measure => simp [intOf]; omega
    · obtain rfl : k = ends.length := by omega
      rw [List.take_length]
      clear hcw c0 c2
      go_wp2
      go_ret
      exact ⟨rfl, hrb.kept (fun g cs t fr _ _ _ => by rw [hh]), hB, hh⟩
/-- the blocks of the document's outbox that may turn -/
def MR (w : World) (Hm : Nat → Prop) (k : Nat) : Prop := Hm k ∧ ∃ cs fr, w.heap[k]? = some (.cells cs 51 fr)
theorem RB.set_sent {w : World} {Hm : Nat → Prop} {R : Nat} {bs : List UInt8} {ends : List Nat} {sent M : Nat} (h : RB w Hm R bs ends sent M) (s' : Nat) : RB (w.setCell ⟨R, 2, none⟩ (.int .i64 s')) Hm R bs ends s' M := by
  obtain ⟨v1, v2, b1, b2, h1, h2, h3, h4, h5, h6⟩ := h
  refine ⟨v1, v2, b1, b2, h1.set_ 2 _, h2.kept fun g hg => ?_, h3.kept fun g hg => ?_, h4, h5, h6⟩
  · obtain ⟨cur, hc⟩ := h2.ty g hg
    exact Below.heap_setCell _ _ _ _ (hc.ne_ h1 (by decide))
  · obtain ⟨cur, hc⟩ := h3.ty g hg
    exact Below.heap_setCell _ _ _ _ (hc.ne_ h1 (by decide))
theorem RB.drew {w : World} {Hm : Nat → Prop} {R : Nat} {bs : List UInt8} {ends : List Nat} {sent M : Nat} (h : RB w Hm R bs ends sent M) : RB w.drew Hm R bs ends sent M := h.kept fun _ _ _ _ _ _ _ => rfl
def rTake (bs : List UInt8) (sent : Nat) (n : Int) : Nat := min n.toNat (bs.length - sent)
theorem refTake_any (Hm : Nat → Prop) (R : Nat) (bs : List UInt8) (ends : List Nat) (sent M : Nat) (n : Int) (N : Nat) (w : World) (h : RB w Hm R bs ends sent M) (hs : sent ≤ bs.length) (hl : bs.length ≤ 4294967295) (hN : rTake bs sent n = N) :
    Calls Try.prog 23 #[.pointer (some ⟨R, 0, none⟩), .int .i64 n] w fun e w' => ∃ A c, e = .returned (.slice A ((bs.drop sent).take N).length c) ∧ BytesAt w' A ((bs.drop sent).take N) ∧ RB w' Hm R bs ends (sent + N) M ∧ Chg (MR w Hm) w w' := by
  have hln : ((bs.drop sent).take N).length = N := by rw [List.length_take, List.length_drop]; unfold rTake at hN; omega
  rw [hln]
  have hNb : sent + N ≤ bs.length := by unfold rTake at hN; omega
  obtain ⟨S, hS⟩ : ∃ S, sent + N = S := ⟨_, rfl⟩
  rw [hS]
  have hset := h.set_sent S
  obtain ⟨v1, v2, b1, b2, h1, h2, h3, h4, h5, h6⟩ := h
  obtain ⟨A, c, rfl, hr, hc1, hc2⟩ := h2.rd
  have hch : Chg (MR w Hm) w (w.setCell ⟨R, 2, none⟩ (.int .i64 (S : Int))) := (Chg.refl _ w).setCell (.inl ⟨h4, _, _, h1⟩) _
  have d1 := (h1.set_ 2 (.int .i64 (S : Int))).cell 0
  have d2 := (h1.set_ 2 (.int .i64 (S : Int))).cell 2
  simp only [List.getElem?_toArray, Array.getElem?_setIfInBounds] at d1 d2
  simp at d1 d2
  have hr' : BytesAt (w.setCell ⟨R, 2, none⟩ (.int .i64 (S : Int))) A bs := by
    obtain ⟨w1, w2, x1, x2, g1, g2, g3, _⟩ := hset
    obtain ⟨A', c', hv, hr2, _⟩ := g2.rd
    have e0 := g1.cell 0
    simp at e0
    rw [d1] at e0
    injection e0 with e0
    rw [← e0] at hv
    injection hv with hv
    subst hv
    exact hr2
  have hcut := ((BytesAt.cut hr' c hs hc1).take N).drew
  have c0 := h1.cell 0
  have c2 := h1.cell 2
  have f2 := h1.frozen 2
  simp at c0 c2
  have g1 : (0 : Int) ≤ (sent : Int) := by omega
  have g2 : (sent : Int) ≤ (S : Int) := by omega
  have g3 : (S : Int) ≤ (c : Int) := by omega
  have hx : ((S : Int) - (sent : Int)) = N := by omega
  have hx' : ((S : Int) - (sent : Int)).toNat = N := by omega
  have hx2 : S - sent = N := by omega
  have hset' := hset.drew
  have hch' := hch.drew
  obtain ⟨W, hW⟩ : ∃ W, w.setCell ⟨R, 2, none⟩ (.int .i64 (S : Int)) = W := ⟨_, rfl⟩
  rw [hW] at hset' hch' hcut d1 d2
  clear h1 h2 h3 h4 h5 h6 hr hset hch hr' hln
  unfold rTake at hN
  by_cases hn : n < 0
  · have hSs : (sent : Int) = (S : Int) := by omega
    have hm : ¬ ((bs.length : Int) - (sent : Int)) < 0 := by omega
    have HX := Lib.hid hW
    have HS := Lib.hid hSs
    clear hW hSs hN
    go_enter Try.func23, Try.ntmps23
    go_wp2
    rw [show World.setCell w ⟨R, 2, none⟩ (.int .i64 (sent : Int)) = W by rw [HS.out]; exact HX.out]
    go_region
    all_goals go_wp2
    all_goals go_ret
    all_goals refine ⟨_, ⟨_, rfl⟩, ?_, hset', hch'⟩
    all_goals first | (rw [if_pos (by assumption)] at hcut; exact hcut) | (rw [if_neg (by assumption)] at hcut; exact hcut)
  · obtain ⟨k, rfl⟩ := Int.eq_ofNat_of_zero_le (show 0 ≤ n by omega)
    have hn' : ¬ (k : Int) < 0 := by omega
    by_cases hkD : (bs.length : Int) - (sent : Int) < (k : Int)
    · have hSs : (sent : Int) + ((bs.length : Int) - (sent : Int)) = (S : Int) := by omega
      have HX := Lib.hid hW
      have HS := Lib.hid hSs
      clear hW hSs hN
      go_enter Try.func23, Try.ntmps23
      go_wp2
      rw [show World.setCell w ⟨R, 2, none⟩ (.int .i64 ((sent : Int) + ((bs.length : Int) - (sent : Int)))) = W by rw [HS.out]; exact HX.out]
      go_region
      all_goals go_wp2
      all_goals go_ret
      all_goals refine ⟨_, ⟨_, rfl⟩, ?_, hset', hch'⟩
      all_goals first | (rw [if_pos (by assumption)] at hcut; exact hcut) | (rw [if_neg (by assumption)] at hcut; exact hcut)
    · have hSs : (sent : Int) + (k : Int) = (S : Int) := by omega
      have HX := Lib.hid hW
      have HS := Lib.hid hSs
      clear hW hSs hN
      go_enter Try.func23, Try.ntmps23
      go_wp2
      rw [show World.setCell w ⟨R, 2, none⟩ (.int .i64 ((sent : Int) + (k : Int))) = W by rw [HS.out]; exact HX.out]
      go_region
      all_goals go_wp2
      all_goals go_ret
      all_goals refine ⟨_, ⟨_, rfl⟩, ?_, hset', hch'⟩
      all_goals first | (rw [if_pos (by assumption)] at hcut; exact hcut) | (rw [if_neg (by assumption)] at hcut; exact hcut)
theorem cellH {w w' : World} (hh : w'.heap = w.heap) {p : Addr} {v : Value} (h : w.cell? p = some v) : w'.cell? p = some v := by
  rw [← h]; simp only [World.cell?, hh]
theorem refPut_no (R : Nat) (a : Option Addr) (c : Nat) (w : World) :
    Calls Try.prog 22 #[.pointer (some ⟨R, 0, none⟩), .slice a 0 c] w fun e w' => e = .returned (.int .i64 2) ∧ w = w' := by
  go_enter Try.func22, Try.ntmps22
  go_wp2
  go_ret
  exact ⟨rfl, rfl⟩
theorem refPut_full (Hm : Nat → Prop) (R : Nat) (bs : List UInt8) (ends : List Nat) (sent M : Nat) (a : Option Addr) (n c : Nat) (w : World) (h : RB w Hm R bs ends sent M) (hn : 0 < n) (hl : ends.length ≤ 4294967295) (hf : M ≤ lenE ends sent) :
    Calls Try.prog 22 #[.pointer (some ⟨R, 0, none⟩), .slice a n c] w fun e w' => e = .returned (.int .i64 5) ∧ RB w' Hm R bs ends sent M ∧ Below w.heap.size w w' := by
  have hne : ((n : Int) == 0) = false := by simp; omega
  have k1 := refLen_any Hm R bs ends sent M w.drew h.drew hl
  have K := Lib.hid k1
  have hf' : (M : Int) ≤ ((lenE ends sent : Nat) : Int) := by omega
  obtain ⟨v1, v2, b1, b2, h1, h2, h3, h4, h5, h6⟩ := h
  have c3 := h1.cell 3
  simp at c3
  clear k1 h1 h2 h3 h4 h5 h6
  go_enter Try.func22, Try.ntmps22
  go_wp2
  go_region_with (go_at_call 24; with_reducible refine K.out.mono ?_; rintro e w1 ⟨rfl, hR1, hB1, hh1⟩; have d3 : w1.cell? ⟨R, 3, none⟩ = some (.int .i64 M) := cellH (w := w) hh1 c3)
  all_goals go_wp2
  all_goals go_ret
  all_goals exact ⟨rfl, hR1, (Below.refl _ _).drew.trans hB1⟩
end Go.Proofs.Ytmjikfhabfodkaa
