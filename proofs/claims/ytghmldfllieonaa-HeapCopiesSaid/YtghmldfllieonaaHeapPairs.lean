/- Both heaps, act by act: Take, Least, Most, Has, what is listed. Helper. -/
import Derived.Test.YtghmldfllieonaaHeapSteps
import Derived.Test.YtghmldfllieonaaHeapList
import Derived.Test.YtghmldfllieonaaHeapRefTake
namespace Go.Proofs.Ytghmldfllieonaa
open Go.RowKit
set_option linter.unusedVariables false
set_option linter.unusedSimpArgs false
theorem lists_eq {l L l' : List It} {f : Int → Int → Option Nat} (hn : NameOk l f) (hp : l.Perm L) (hs : Srt L) (hp' : l'.Perm l) (ho : Ord l') : l' = L := by
  have h1 : l'.Pairwise fun a b => b.less a = false := by
    rw [List.pairwise_iff_getElem]
    intro i j hi hj hij
    have := ho i j hij hj
    rwa [g_get _ _ hi, g_get _ _ hj] at this
  have h2 : L.Pairwise fun a b => b.less a = false := hs.imp fun h => It.less_asymm h
  refine (hp'.trans hp).eq_of_pairwise (fun a b ha hb h h' => ?_) h1 h2
  have ht := It.tie h' h
  exact hn.eq (hp'.mem_iff.1 ha) (hp.mem_iff.2 hb) (by rw [ht.1]) ht.2
/-- Ours has taken. -/
def TakeMid (w W : World) (gB gR : Nat) (L : List It) (x : It) (is : Bool) : Prop :=
  (is = false ∧ x = It.zero ∧ L = [] ∧ BothH w W gB gR L) ∨
  (is = true ∧ 0 < L.length ∧ x = g L 0 ∧ (∀ y ∈ L, isN (g L 0).k.O (g L 0).n y → y = g L 0) ∧ Srt L ∧ ∃ blk, HeapO (RU gR blk) w W gB (L.erase (g L 0)) ∧ RefH W gR L blk ∧ w.heap.size ≤ gR ∧ ∀ g, blk = some g → w.heap.size ≤ g)
theorem TakeMid.step {w W W' : World} {gB gR : Nat} {L : List It} {x : It} {is : Bool} (h : TakeMid w W gB gR L x is) (hB : Below W.heap.size W W') : TakeMid w W' gB gR L x is := by
  rcases h with ⟨h1, h2, h3, h4⟩ | ⟨h1, h2, h3, h4, h5, blk, h6, h7, h8⟩
  · exact .inl ⟨h1, h2, h3, h4.step hB⟩
  · exact .inr ⟨h1, h2, h3, h4, h5, blk, h6.step hB, h7.new hB, h8⟩
/-- What an act leaves that changes nothing. -/
def lastI (L : List It) : It := if L.length = 0 then It.zero else g L (L.length - 1)
def firstI (L : List It) : It := if L.length = 0 then It.zero else g L 0
def isI (L : List It) : Bool := decide (0 < L.length)
theorem srt_head {L : List It} (hs : Srt L) (h0 : 0 < L.length) : ∃ r, L = g L 0 :: r := by
  cases L with
  | nil => simp at h0
  | cons a r => exact ⟨r, rfl⟩
theorem srt_last {L : List It} (hs : Srt L) (h0 : 0 < L.length) : g L (L.length - 1) ∈ L ∧ ∀ y ∈ L, (g L (L.length - 1)).less y = false := by
  refine ⟨g_mem (by omega), fun y hy => ?_⟩
  obtain ⟨j, hj, rfl⟩ := mem_g hy
  by_cases e : j = L.length - 1
  · rw [e]; exact It.less_irrefl _
  · have h1 : (g L j).less (g L (L.length - 1)) = true := by
      rw [g_get L j hj, g_get L _ (by omega)]
      exact List.pairwise_iff_getElem.1 hs j (L.length - 1) hj (by omega) (by omega)
    exact It.less_asymm h1
section
variable (w W : World) (gB gR : Nat) (L : List It)
theorem take_mine (h : BothH w W gB gR L) (hl : L.length ≤ 100000) : Calls Try.prog 13 #[.pointer (some ⟨gB, 0, none⟩)] W fun r w' => ∃ x is, r = .returned (itv x is) ∧ TakeMid w w' gB gR L x is := by
  obtain ⟨blk, h1, h2, h3, h4, h5⟩ := h
  by_cases h0 : 0 < L.length
  · obtain ⟨r, e⟩ := srt_head h5 h0
    obtain ⟨q1, q2, _⟩ := h5.least e
    exact (take_in (RU gR blk) w W gB L (g L 0) h1 q1 q2 hl).mono fun r w' ⟨hr, ho⟩ => ⟨_, true, hr, .inr ⟨rfl, h0, rfl, Srt.uniq h1 q1, h5, blk, ho.1, BothH.ours h2 ho, h3, h4⟩⟩
  · have e : L = [] := List.eq_nil_of_length_eq_zero (by omega)
    subst e
    exact (takeNo_in (RU gR blk) w W gB h1).mono fun r w' ⟨hr, ho⟩ => ⟨_, false, hr, .inl ⟨rfl, rfl, rfl, blk, ho.1, BothH.ours (L' := []) h2 ho, h3, h4, h5⟩⟩
theorem take_theirs (x : It) (is : Bool) (h : TakeMid w W gB gR L x is) (hl : L.length ≤ 100000) : Calls Try.prog 33 #[.pointer (some ⟨gR, 0, none⟩)] W fun r w' => r = .returned (itv x is) ∧ ∃ L', L'.length ≤ L.length ∧ BothH w w' gB gR L' := by
  rcases h with ⟨rfl, rfl, hL, hb⟩ | ⟨rfl, h0, rfl, hu, hs, blk, h1, h2, h3, h4⟩
  · obtain ⟨blk, h1, h2, h3⟩ := hb
    exact (refTake_none W gR L blk h2 hL).mono fun r w' ⟨hr, hB⟩ => ⟨hr, L, Nat.le_refl _, blk, h1.step hB, h2.new hB, h3⟩
  · exact (refTake_any W gR L blk h2 h0 hl hu).mono fun r w' ⟨hr, k, blk', hk, hg, h2', hc, hfr⟩ =>
      ⟨hr, L.take k ++ L.drop (k + 1), by rw [List.length_append, List.length_take, List.length_drop]; omega, blk', (BothH.refs h1 h2 ⟨_, h2'⟩ hc hfr h3).perm (by rw [← hg]; exact drop_erase hk), h2', h3, fun g hg => Nat.le_trans h1.nw.size (hfr g hg), drop_sorted hs k⟩
theorem least_mine (h : BothH w W gB gR L) (hl : L.length ≤ 100000) : Calls Try.prog 16 #[.pointer (some ⟨gB, 0, none⟩)] W fun r w' => r = .returned (itv (firstI L) (isI L)) ∧ BothH w w' gB gR L := by
  obtain ⟨blk, h1, h2, h3, h4, h5⟩ := h
  by_cases h0 : 0 < L.length
  · obtain ⟨r, e⟩ := srt_head h5 h0
    obtain ⟨q1, q2, _⟩ := h5.least e
    have e1 : firstI L = g L 0 := if_neg (by omega)
    have e2 : isI L = true := decide_eq_true h0
    rw [e1, e2]
    exact (least_in (RU gR blk) w W gB L (g L 0) h1 q1 q2 hl).mono fun r w' ⟨hr, ho⟩ => ⟨hr, blk, ho.1, BothH.ours (L' := L) h2 ho, h3, h4, h5⟩
  · have e : L = [] := List.eq_nil_of_length_eq_zero (by omega)
    subst e
    exact (leastNo_in (RU gR blk) w W gB h1).mono fun r w' ⟨hr, ho⟩ => ⟨hr, blk, ho.1, BothH.ours (L' := []) h2 ho, h3, h4, h5⟩
theorem most_mine (h : BothH w W gB gR L) (hl : L.length ≤ 100000) : Calls Try.prog 17 #[.pointer (some ⟨gB, 0, none⟩)] W fun r w' => r = .returned (itv (lastI L) (isI L)) ∧ BothH w w' gB gR L := by
  obtain ⟨blk, h1, h2, h3, h4, h5⟩ := h
  by_cases h0 : 0 < L.length
  · obtain ⟨q1, q2⟩ := srt_last h5 h0
    have e1 : lastI L = g L (L.length - 1) := if_neg (by omega)
    have e2 : isI L = true := decide_eq_true h0
    rw [e1, e2]
    exact (most_in (RU gR blk) w W gB L _ h1 q1 q2 hl).mono fun r w' ⟨hr, ho⟩ => ⟨hr, blk, ho.1, BothH.ours (L' := L) h2 ho, h3, h4, h5⟩
  · have e : L = [] := List.eq_nil_of_length_eq_zero (by omega)
    subst e
    exact (mostNo_in (RU gR blk) w W gB h1).mono fun r w' ⟨hr, ho⟩ => ⟨hr, blk, ho.1, BothH.ours (L' := []) h2 ho, h3, h4, h5⟩
theorem least_theirs (h : BothH w W gB gR L) (hl : L.length ≤ 100000) : Calls Try.prog 34 #[.pointer (some ⟨gR, 0, none⟩)] W fun r w' => r = .returned (itv (firstI L) (isI L)) ∧ BothH w w' gB gR L := by
  have hb := h
  obtain ⟨blk, h1, h2, h3⟩ := h
  by_cases h0 : 0 < L.length
  · have e1 : firstI L = g L 0 := if_neg (by omega)
    have e2 : isI L = true := decide_eq_true h0
    rw [e1, e2]
    exact (refLeastI_any W gR L blk h2 h0 hl).mono fun r w' ⟨hr, hB⟩ => ⟨hr, hb.step hB⟩
  · have e : L = [] := List.eq_nil_of_length_eq_zero (by omega)
    have e1 : firstI L = It.zero := if_pos (by omega)
    have e2 : isI L = false := decide_eq_false h0
    rw [e1, e2]
    exact (refLeast_none W gR L blk h2 e).mono fun r w' ⟨hr, hB⟩ => ⟨hr, hb.step hB⟩
theorem most_theirs (h : BothH w W gB gR L) (hl : L.length ≤ 100000) : Calls Try.prog 35 #[.pointer (some ⟨gR, 0, none⟩)] W fun r w' => r = .returned (itv (lastI L) (isI L)) ∧ BothH w w' gB gR L := by
  have hb := h
  obtain ⟨blk, h1, h2, h3⟩ := h
  by_cases h0 : 0 < L.length
  · have e1 : lastI L = g L (L.length - 1) := if_neg (by omega)
    have e2 : isI L = true := decide_eq_true h0
    rw [e1, e2]
    exact (refMost_any W gR L blk h2 (L.length - 1) (by omega) hl).mono fun r w' ⟨hr, hB⟩ => ⟨hr, hb.step hB⟩
  · have e : L = [] := List.eq_nil_of_length_eq_zero (by omega)
    have e1 : lastI L = It.zero := if_pos (by omega)
    have e2 : isI L = false := decide_eq_false h0
    rw [e1, e2]
    exact (refMost_none W gR L blk h2 e).mono fun r w' ⟨hr, hB⟩ => ⟨hr, hb.step hB⟩
/-- Is one of a name there? -/
def hasN (L : List It) (O N : Int) : Prop := ∃ y ∈ L, isN O N y
theorem has_mine (O N : Int) (h : BothH w W gB gR L) (hO : W64 O) (hN : W64 N) : Calls Try.prog 25 #[.pointer (some ⟨gB, 0, none⟩), .int .i64 O, .int .i64 N] W fun r w' => ∃ b : Bool, r = .returned (.bool b) ∧ (b = true ↔ hasN L O N) ∧ w' = W := by
  obtain ⟨blk, ⟨S, v, f, blk2, l, hp, hh, ht, hu, hn⟩, h2, h3, h4, h5⟩ := h
  refine (has_any W gB S v l f blk2 hh O N hO hN).mono fun r w' ⟨hr, hw⟩ => ⟨_, hr, ?_, hw⟩
  constructor
  · intro hb
    obtain ⟨i, hi⟩ := Option.isSome_iff_exists.1 hb
    obtain ⟨q1, q2, q3⟩ := hh.nm.2 O N i hi
    exact ⟨g l i, hp.mem_iff.1 (g_mem q1), q2, q3⟩
  · rintro ⟨y, hy, hO', hN'⟩
    obtain ⟨i, q1, _⟩ := hh.nm.some (hp.mem_iff.2 hy)
    rw [hO', hN'] at q1
    rw [q1]; rfl
theorem of_theirs (O N : Int) (h : BothH w W gB gR L) (hl : L.length ≤ 100000) : Calls Try.prog 28 #[.pointer (some ⟨gR, 0, none⟩), .int .i64 O, .int .i64 N] W fun r w' => ∃ x : Int, r = .returned (.int .i64 x) ∧ (0 ≤ x ↔ hasN L O N) ∧ w' = W := by
  obtain ⟨blk, h1, h2, h3⟩ := h
  refine (refOf_any W gR L blk h2 O N hl).mono fun r w' ⟨x, hr, ho, hw⟩ => ⟨x, hr, ?_, hw⟩
  rcases ho with ⟨rfl, hno⟩ | ⟨i, hi, rfl, hn⟩
  · constructor
    · intro h; omega
    · rintro ⟨y, hy, hyn⟩; exact absurd hyn (hno y hy)
  · constructor
    · intro _; exact ⟨g L i, g_mem hi, hn⟩
    · intro _; omega
/-- What is listed. -/
theorem list_mine (most : Int) (h : BothH w W gB gR L) (hl : L.length ≤ 100000) : Calls Try.prog 36 #[.pointer (some ⟨gB, 0, none⟩), .int .i64 most] W fun r w' => ∃ A c, r = .returned (.tuple #[.slice A (kN most L.length) c, .bool true]) ∧ Rd w' A (rowsI (L.take (kN most L.length))) ∧ BothH w w' gB gR L ∧ Nw W w' := by
  have hb := h
  obtain ⟨blk, ⟨S, v, f, blk2, l, hp, hh, ht, hu, hn⟩, h2, h3, h4, h5⟩ := h
  refine (list_any W gB S v l f blk2 most hh (by rw [hp.length_eq]; exact hl)).mono fun r w' ⟨v', L', hr, hp', ho, hrow, hN⟩ => ?_
  have e : L' = L := lists_eq hh.nm hp h5 hp' ho
  rw [e] at hrow
  obtain ⟨hlen, hc⟩ := hrow
  rcases hc with ⟨rfl, h0⟩ | ⟨b, c, cur, rfl, q1, q2, q3, q4, q5, q6⟩
  · refine ⟨none, 0, by rw [hr, h0], .inl ?_, hb.step hN, hN⟩
    rw [h0]; simp [rowsI]
  · refine ⟨_, c, hr, .inr ⟨b, 0, rfl, fun j u hu' => ?_⟩, hb.step hN, hN⟩
    have hbk : Blk w' b 36 cur := q2
    rw [hbk.cell, Nat.zero_add, ← hu', ← q6, ← Array.getElem?_toList]
    rw [List.getElem?_take]
    split
    · rfl
    · rename_i hj
      rw [← q6, List.getElem?_take, if_neg hj] at hu'
      cases hu'
theorem len_mine (h : BothH w W gB gR L) : Calls Try.prog 18 #[.pointer (some ⟨gB, 0, none⟩)] W fun e w' => e = .returned (.int .i64 (L.length : Int)) ∧ w' = W := by
  obtain ⟨blk, h1, _⟩ := h
  exact len_in _ w W gB L h1
/-- The document's list in memory. -/
theorem refs_list (h : BothH w W gB gR L) : ∃ A c, W.cell? ⟨gR, 0, none⟩ = some (.slice A L.length c) ∧ Rd W A (rowsI L) ∧ L.length ≤ c := by
  obtain ⟨blk, _, ⟨A, c, hb, ho⟩, _⟩ := h
  obtain ⟨A', c', e, hr, hc, _⟩ := ho.rd
  injection e with e1 _ e3
  subst e1 e3
  exact ⟨A, c, (hb.cell 0).trans rfl, hr, hc⟩
end
end Go.Proofs.Ytghmldfllieonaa
