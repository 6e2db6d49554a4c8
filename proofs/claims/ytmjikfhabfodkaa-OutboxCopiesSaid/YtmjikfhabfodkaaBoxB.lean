/- Outbox: Take hands out the first bytes and keeps the rest. Helper of OutboxParts. -/
import Derived.Test.YtmjikfhabfodkaaBoxA
import Derived.Deep.OwnRows
import Derived.Laws.CopyOwn
import Derived.Lib.SliceRun
namespace Go.Proofs.Ytmjikfhabfodkaa
open Go.RowKit
set_option linter.unusedVariables false
set_option linter.unusedSimpArgs false
/-- what is left behind n bytes -/
def dropB : List (List UInt8) → Nat → List (List UInt8)
  | [], _ => []
  | l :: ls, n => if n < l.length then l.drop n :: ls else dropB ls (n - l.length)
def Full (ls : List (List UInt8)) : Prop := ∀ l ∈ ls, l ≠ []
theorem dropB_zero (ls : List (List UInt8)) (h : Full ls) : dropB ls 0 = ls := by
  cases ls with
  | nil => rfl
  | cons l ls =>
    have : 0 < l.length := List.length_pos_iff.2 (h l (by simp))
    simp [dropB, this]
theorem dropB_flat : ∀ (ls : List (List UInt8)) (n : Nat), (dropB ls n).flatten = ls.flatten.drop n
  | [], n => by simp [dropB]
  | l :: ls, n => by
    unfold dropB
    split
    · rename_i h
      simp [List.drop_append_of_le_length (Nat.le_of_lt h)]
    · rename_i h
      have hnil : l.drop n = [] := List.drop_eq_nil_of_le (by omega)
      rw [dropB_flat ls, List.flatten_cons, List.drop_append, hnil, List.nil_append]
theorem dropB_full : ∀ (ls : List (List UInt8)) (n : Nat), Full ls → Full (dropB ls n)
  | [], n, _ => by intro l hl; simp [dropB] at hl
  | l :: ls, n, h => by
    unfold dropB
    split
    · rename_i hlt
      intro x hx
      rcases List.mem_cons.1 hx with rfl | hx
      · intro e; have := congrArg List.length e; simp at this; omega
      · exact h x (by simp [hx])
    · exact dropB_full ls _ (fun x hx => h x (by simp [hx]))
theorem dropB_add : ∀ (ls : List (List UInt8)) (a b : Nat), dropB (dropB ls a) b = dropB ls (a + b)
  | [], a, b => by simp [dropB]
  | l :: ls, a, b => by
    by_cases h : a < l.length
    · have e : dropB (l :: ls) a = l.drop a :: ls := by simp [dropB, h]
      rw [e]
      unfold dropB
      rw [List.length_drop]
      by_cases h2 : b < l.length - a
      · rw [if_pos h2, if_pos (by omega), List.drop_drop]
      · rw [if_neg h2, if_neg (by omega)]
        congr 1; omega
    · have e : dropB (l :: ls) a = dropB ls (a - l.length) := by simp [dropB, h]
      rw [e, dropB_add ls]
      conv => rhs; unfold dropB
      rw [if_neg (by omega)]
      congr 1; omega
theorem lens_flat (ls : List (List UInt8)) : lens ls = ls.flatten.length := by simp [lens, List.length_flatten]
theorem lens_dropB (ls : List (List UInt8)) (n : Nat) : lens (dropB ls n) = lens ls - n := by
  rw [lens_flat, dropB_flat, List.length_drop, lens_flat]
/-- the bytes that are handed out, in the making -/
def outL (ls : List (List UInt8)) (N k : Nat) : List Value := bcells (ls.flatten.take k) ++ List.replicate (N - k) (.int .u8 0)
theorem outL_length (ls : List (List UInt8)) (N k : Nat) (hk : k ≤ N) (hN : N ≤ lens ls) : (outL ls N k).length = N := by
  rw [lens_flat] at hN
  unfold outL
  rw [List.length_append, bcells_length, List.length_take, List.length_replicate]; omega
theorem outL_zero (ls : List (List UInt8)) (N : Nat) : (outL ls N 0).toArray = madeCells #[.int .u8 0] N := by
  apply Array.ext
  · simp [outL, bcells, madeCells]
  · intro i h1 h2
    have : i < N := by simpa [madeCells] using h2
    simp [outL, bcells, madeCells, Nat.mod_one]
theorem outL_full (ls : List (List UInt8)) (N : Nat) : outL ls N N = bcells (ls.flatten.take N) := by simp [outL]
theorem outL_splice (ls : List (List UInt8)) (N k q : Nat) (l0 : List UInt8) (rest : List (List UInt8)) (hd : dropB ls k = l0 :: rest) (hq : q ≤ l0.length) (hk : k + q ≤ N) (hN : N ≤ lens ls) :
    splice (outL ls N k) k (bcells (l0.take q)) = outL ls N (k + q) := by
  have hN' := hN
  rw [lens_flat] at hN'
  have hfl : ls.flatten.drop k = l0 ++ rest.flatten := by rw [← dropB_flat, hd]; rfl
  have hlen1 : (bcells (ls.flatten.take k)).length = k := by rw [bcells_length, List.length_take]; omega
  have hlen2 : (bcells (l0.take q)).length = q := by rw [bcells_length, List.length_take]; omega
  have e1 : ls.flatten.take (k + q) = ls.flatten.take k ++ l0.take q := by
    rw [List.take_add, hfl, List.take_append_of_le_length hq]
  unfold splice outL
  have hnil : List.drop (k + q) (bcells (ls.flatten.take k)) = [] := List.drop_eq_nil_of_le (by omega)
  rw [hlen2, List.take_append_of_le_length (by omega), List.take_of_length_le (by omega), List.drop_append, hnil, List.nil_append, hlen1, List.drop_replicate, e1]
  simp only [bcells, List.map_append, List.append_assoc]
  congr 3
  omega
theorem dropB_lt (l0 : List UInt8) (rest : List (List UInt8)) (q : Nat) (h : q < l0.length) : dropB (l0 :: rest) q = l0.drop q :: rest := by simp [dropB, h]
theorem dropB_eq (l0 : List UInt8) (rest : List (List UInt8)) (h : Full rest) : dropB (l0 :: rest) l0.length = rest := by
  have : dropB (l0 :: rest) l0.length = dropB rest 0 := by simp [dropB]
  rw [this, dropB_zero rest h]
attribute [irreducible] outL dropB
theorem Chg.below_trans {M : Nat → Prop} {w a b : World} (h : Chg M w a) (hb : Below w.heap.size a b) : Chg M w b :=
  ⟨hb.os.trans h.os, hb.tape.trans h.tape, hb.output.trans h.output, Nat.le_trans h.size hb.size, fun i hi hn => (hb.block i hi).trans (h.block i hi hn)⟩
/-- An outbox whose list's first cell holds whatever. -/
def BoxX (w : World) (B gl off c : Nat) (cur : Array Value) (T : Nat → Prop) (rest : List (List UInt8)) (most : Nat) (sent : Int) : Prop :=
  Blk w B 48 #[.slice (some ⟨gl, off, none⟩) (rest.length + 1) c, .int .i64 most, .int .i64 sent] ∧ Blk w gl 27 cur ∧ rest.length + 1 ≤ c ∧ c ≤ maxLen ∧ off + c ≤ cur.size ∧
    ∀ i (h : i < rest.length), ∃ u, cur[off + (i + 1)]? = some u ∧ Txt w T u rest[i]
theorem Box.head {w : World} {B : Nat} {blk : Option Nat} {T : Nat → Prop} {l0 : List UInt8} {rest : List (List UInt8)} {most : Nat} {sent : Int} (h : Box w B blk T (l0 :: rest) most sent) :
    ∃ gl off c cur v0, blk = some gl ∧ BoxX w B gl off c cur T rest most sent ∧ cur[off]? = some v0 ∧ Txt w T v0 l0 := by
  obtain ⟨vl, vs, hb, ⟨hl, A, c, rfl, h1, h2, h | ⟨g, off, cur, rfl, rfl, hg, h3, h4⟩⟩, ht⟩ := h
  · simp at h1; omega
  · simp at h1
    have hat : ∀ i, i < rest.length + 1 → cur[off + i]? = vs[i]? := fun i hi => by
      rw [← h4, List.getElem?_take, if_pos (by simp; omega), List.getElem?_drop]; simp
    obtain ⟨v0, hv0, ht0⟩ := ht 0 (by simp)
    refine ⟨g, off, c, cur, v0, rfl, ⟨hb, hg, h1, h2, by omega, fun i hi => ?_⟩, by have := hat 0 (by omega); simp at this; rw [this]; exact hv0, ht0⟩
    obtain ⟨u, hu, hx⟩ := ht (i + 1) (by simp; omega)
    exact ⟨u, by rw [hat (i + 1) (by omega)]; exact hu, by simpa using hx⟩
theorem BoxX.cons {w : World} {B gl off c : Nat} {cur : Array Value} {T : Nat → Prop} {rest : List (List UInt8)} {most : Nat} {sent : Int} (h : BoxX w B gl off c cur T rest most sent) {v0 : Value} {l0 : List UInt8}
    (h0 : cur[off]? = some v0) (ht : Txt w T v0 l0) : Box w B (some gl) T (l0 :: rest) most sent := by
  obtain ⟨hb, hg, h1, h2, h3, h4⟩ := h
  have hln : ((cur.toList.drop off).take ((rest.length + 1) * 1)).length = rest.length + 1 := by have := @Array.length_toList _ cur; rw [List.length_take, List.length_drop]; omega
  refine ⟨_, (cur.toList.drop off).take ((rest.length + 1) * 1), hb, ⟨by rw [hln]; simp, _, c, rfl, by simpa using h1, h2, .inr ⟨gl, off, cur, rfl, rfl, hg, by omega, by simp⟩⟩, fun i hi => ?_⟩
  have hget : ((cur.toList.drop off).take ((rest.length + 1) * 1))[i]? = cur[off + i]? := by
    rw [List.getElem?_take, if_pos (by simp at hi; omega), List.getElem?_drop]; simp
  rw [hget]
  cases i with
  | zero => exact ⟨v0, by simpa using h0, ht⟩
  | succ i =>
    obtain ⟨u, hu, hx⟩ := h4 i (by simpa using hi)
    exact ⟨u, hu, by simpa using hx⟩
theorem BoxX.set {w : World} {B gl off c : Nat} {cur : Array Value} {T : Nat → Prop} {rest : List (List UInt8)} {most : Nat} {sent : Int} (h : BoxX w B gl off c cur T rest most sent) (u : Value) :
    BoxX (w.setCell ⟨gl, off, none⟩ u) B gl off c (cur.setIfInBounds off u) T rest most sent := by
  obtain ⟨hb, hg, h1, h2, h3, h4⟩ := h
  refine ⟨hb.far (hb.ne_ hg (by decide)) u, hg.set_ off u, h1, h2, by simpa using h3, fun i hi => ?_⟩
  obtain ⟨x, hx, ht⟩ := h4 i hi
  refine ⟨x, by rw [Array.getElem?_setIfInBounds, if_neg (by omega)]; exact hx, ht.kept fun g cur' fr hT hg' => ⟨?_, hT⟩⟩
  exact Below.heap_setCell _ _ _ _ (fun e => by
    simp at e; subst e
    unfold Blk at hg; rw [hg] at hg'; injection hg' with hg'; injection hg' with _ ht _; exact absurd ht (by decide))
theorem BoxX.kept {w w' : World} {B gl off c : Nat} {cur : Array Value} {T : Nat → Prop} {rest : List (List UInt8)} {most : Nat} {sent : Int} (h : BoxX w B gl off c cur T rest most sent) {O : Nat} (hB : Below O w w') (h1 : B < O) (h2 : gl < O) (h3 : ∀ k, T k → k < O) :
    BoxX w' B gl off c cur T rest most sent := by
  obtain ⟨hb, hg, g1, g2, g3, g4⟩ := h
  refine ⟨hb.below hB h1, hg.below hB h2, g1, g2, g3, fun i hi => ?_⟩
  obtain ⟨x, hx, ht⟩ := g4 i hi
  exact ⟨x, hx, ht.kept fun g _ _ hT _ => ⟨hB.block g (h3 g hT), hT⟩⟩
theorem BoxX.pop {w : World} {B gl off c : Nat} {cur : Array Value} {T : Nat → Prop} {rest : List (List UInt8)} {most : Nat} {sent : Int} (h : BoxX w B gl off c cur T rest most sent) (A : Option Addr)
    (hA : A = if c = 1 then some ⟨gl, off, none⟩ else some ⟨gl, off + 1, none⟩) :
    Box (w.setCell ⟨B, 0, none⟩ (.slice A rest.length (c - 1))) B (if c = 1 then none else some gl) T rest most sent := by
  obtain ⟨hb, hg, h1, h2, h3, h4⟩ := h
  have hne := hb.ne_ hg (by decide)
  have hln : ((cur.toList.drop (off + 1)).take (rest.length * 1)).length = rest.length := by have := @Array.length_toList _ cur; rw [List.length_take, List.length_drop]; omega
  refine ⟨_, (cur.toList.drop (off + 1)).take (rest.length * 1), hb.set_ 0 _, ⟨by rw [hln]; simp, _, c - 1, rfl, by omega, by omega, ?_⟩, fun i hi => ?_⟩
  · by_cases hc : c = 1
    · left; exact ⟨by omega, by rw [if_pos hc]⟩
    · right
      rw [if_neg hc] at hA ⊢
      exact ⟨gl, off + 1, cur, hA, rfl, hg.far (fun e => hne (by simpa using e.symm)) _, by omega, rfl⟩
  · obtain ⟨u, hu, hx⟩ := h4 i hi
    refine ⟨u, by rw [List.getElem?_take, if_pos (by omega), List.getElem?_drop]; simp only [Array.getElem?_toList]; rw [show off + 1 + i = off + (i + 1) by omega]; exact hu, hx.kept fun g cur' fr hT hg' => ⟨?_, hT⟩⟩
    exact Below.heap_setCell _ _ _ _ (fun e => by
      simp at e; subst e
      unfold Blk at hb; rw [hb] at hg'; injection hg' with hg'; injection hg' with _ ht _; exact absurd ht (by decide))
theorem Txt.cut {w : World} {T : Nat → Prop} {g off c : Nat} {l : List UInt8} (h : Txt w T (.slice (some ⟨g, off, none⟩) l.length c) l) {q : Nat} (hq : q < l.length) : Txt w T (.slice (some ⟨g, off + q, none⟩) (l.length - q) (c - q)) (l.drop q) := by
  obtain ⟨h0, g', off', c', cur, fr, hv, h1, h2, h3, h4, h5⟩ := h
  injection hv with e1 e2 e3
  injection e1 with e1
  injection e1 with e1 e4 e5
  subst e1 e4 e3
  refine ⟨fun e => by have := congrArg List.length e; simp at this; omega, g, off + q, c - q, cur, fr, by rw [List.length_drop], by rw [List.length_drop]; omega, by omega, h3, h4, ?_⟩
  rw [List.length_drop]
  have : bcells (l.drop q) = (bcells l).drop q := by simp [bcells]
  rw [this, ← h5, List.drop_take, List.drop_drop]
theorem Box.kept {w w' : World} {B : Nat} {blk : Option Nat} {T : Nat → Prop} {ls : List (List UInt8)} {most : Nat} {sent : Int} (h : Box w B blk T ls most sent) {O : Nat} (hB : Below O w w') (h1 : B < O) (h2 : ∀ g, blk = some g → g < O) (h3 : ∀ k, T k → k < O) : Box w' B blk T ls most sent := by
  obtain ⟨vl, vs, hb, ho, ht⟩ := h
  refine ⟨vl, vs, hb.below hB h1, ho.kept (fun g hg => hB.block g (h2 g hg)), fun i hi => ?_⟩
  obtain ⟨u, hu, hx⟩ := ht i hi
  exact ⟨u, hu, hx.kept fun g _ _ hT _ => ⟨hB.block g (h3 g hT), hT⟩⟩
theorem Box.lt {w : World} {B : Nat} {blk : Option Nat} {T : Nat → Prop} {ls : List (List UInt8)} {most : Nat} {sent : Int} (h : Box w B blk T ls most sent) : B < w.heap.size ∧ ∀ g, blk = some g → g < w.heap.size := by
  obtain ⟨vl, vs, hb, ho, ht⟩ := h
  exact ⟨hb.lt, fun g hg => ho.lt g hg⟩
theorem Take_no (B : Nat) (blk : Option Nat) (T : Nat → Prop) (ls : List (List UInt8)) (most : Nat) (sent : Int) (n : Int) (w : World) (h : Box w B blk T ls most sent) (hl : ls.length ≤ 4294967295) (hs : lens ls ≤ 4294967295) (hn : n ≤ 0 ∨ lens ls = 0) :
    Calls Try.prog 9 #[.pointer (some ⟨B, 0, none⟩), .int .i64 n] w fun e w' => e = .returned (.slice none 0 0) ∧ w = w' := by
  have c := Left_any B blk T ls most sent w h hl hs
  have K := Lib.hid c
  clear c
  generalize lens ls = L at *
  by_cases h1 : (L : Int) < n
  · have h2 : L = 0 := by omega
    subst h2
    go_enter Try.func9, Try.ntmps9
    go_wp2_with (go_at_call 11; refine K.out.mono ?_; rintro e w' ⟨rfl, rfl⟩)
    go_ret
    exact ⟨rfl, rfl⟩
  · have h2 : n ≤ 0 := by omega
    go_enter Try.func9, Try.ntmps9
    go_wp2_with (go_at_call 11; refine K.out.mono ?_; rintro e w' ⟨rfl, rfl⟩)
    go_ret
    exact ⟨rfl, rfl⟩
theorem Txt.kept_set {w : World} {T : Nat → Prop} {u : Value} {l : List UInt8} (h : Txt w T u l) {p : Addr} {t : TypeId} {cur : Array Value} (hp : Blk w p.block t cur) (ht : t ≠ 5) (x : Value) : Txt (w.setCell p x) T u l :=
  h.kept fun g cur' fr hT hg' => ⟨Below.heap_setCell _ _ _ _ (fun e => by
    subst e
    unfold Blk at hp; rw [hp] at hg'; injection hg' with hg'; injection hg' with _ h2 _; exact ht h2), hT⟩
theorem Box.sent {w : World} {B : Nat} {blk : Option Nat} {T : Nat → Prop} {ls : List (List UInt8)} {most : Nat} {sent : Int} (h : Box w B blk T ls most sent) :
    (∃ v, w.cell? ⟨B, 0, none⟩ = some v) ∧ w.cell? ⟨B, 2, none⟩ = some (.int .i64 sent) ∧ w.frozen? ⟨B, 2, none⟩ = false ∧ ∀ s' : Int, Box (w.setCell ⟨B, 2, none⟩ (.int .i64 s')) B blk T ls most s' := by
  obtain ⟨vl, vs, hb, ho, ht⟩ := h
  refine ⟨⟨_, hb.cell 0⟩, hb.cell 2, hb.frozen 2, fun s' => ⟨vl, vs, hb.set_ 2 _, ho.kept (fun g hg => ?_), fun i hi => ?_⟩⟩
  · obtain ⟨hl, A, c, rfl, h1, h2, h | ⟨g', off, cur, rfl, rfl, hg', h3, h4⟩⟩ := ho
    · cases h.2 ▸ hg
    · injection hg with hg
      subst hg
      exact Below.heap_setCell _ _ _ _ (fun e => (hb.ne_ hg' (by decide)) (by simpa using e.symm))
  · obtain ⟨u, hu, hx⟩ := ht i hi
    exact ⟨u, hu, hx.kept_set (p := ⟨B, 2, none⟩) hb (by decide) _⟩
theorem popB {c gl g : Nat} (h : (if c = 1 then none else some gl) = some g) : g = gl := by
  split at h
  · cases h
  · injection h with h; exact h.symm
theorem run_clear_one (w : World) (b o c : Nat) (v : Value) (hc : w.cell? ⟨b, o, none⟩ = some v) (hf : w.frozen? ⟨b, o, none⟩ = false) :
    (Builtin.clear_ #[22] 0 #[.slice (some ⟨b, o, none⟩) 1 c]).run Try.prog w = .ok (.tuple #[]) (w.setCell ⟨b, o, none⟩ (.slice none 0 0)) := by
  have h := Lib.run_clear_slice (P := Try.prog) w 22 27 0 (.slice none 0 0) Try.underlying22 (fun w => by kernel_rfl) rfl rfl b o 1 c (by omega)
    (fun j hj => by
      obtain rfl : j = 0 := by omega
      simpa using congrArg Option.isSome hc)
    (fun j hj => by
      obtain rfl : j = 0 := by omega
      simpa using hf)
  rw [h]
  simp [World.setCells]
set_option maxHeartbeats 1600000 in
theorem Take_ok (B : Nat) (blk : Option Nat) (T : Nat → Prop) (ls : List (List UInt8)) (most : Nat) (sent : Int) (n : Int) (N : Nat) (w : World) (h : Box w B blk T ls most sent) (hF : Full ls) (hT : ∀ k, T k → k < w.heap.size) (hl : ls.length ≤ 4294967295) (hs : lens ls ≤ 4294967295)
    (h0 : 0 < N) (hN : (n = N ∧ N ≤ lens ls) ∨ ((lens ls : Int) < n ∧ N = lens ls)) (hsent : 0 ≤ sent ∧ sent ≤ 4294967295) :
    Calls Try.prog 9 #[.pointer (some ⟨B, 0, none⟩), .int .i64 n] w fun e w' => ∃ blk' O, e = .returned (.slice (some ⟨O, 0, none⟩) N N) ∧ Box w' B blk' T (dropB ls N) most (sent + N) ∧ Chg (fun k => k = B ∨ some k = blk) w w' ∧
      (∀ g, blk' = some g → blk = some g) ∧ Blk w' O 5 (bcells (ls.flatten.take N)).toArray ∧ w.heap.size ≤ O := by
  have c := Left_any B blk T ls most sent w h hl hs
  have K := Lib.hid c
  clear c
  have hNl : N ≤ lens ls := by omega
  have hNs : N ≤ 4294967295 := by omega
  have hmk := run_make_row' (P := Try.prog) 27 5 (.int .u8 0) 1 Try.underlying27 (by kernel_rfl) rfl .i64 .i64 N (by omega) (by omega)
  have hpos : (0 : Int) < (N : Int) := by omega
  have hstart : ∃ W, (w.alloc (.cells (madeCells #[.int .u8 0] N) 5)) = W ∧ Blk W w.heap.size 5 (outL ls N 0).toArray ∧ Chg (fun k => k = B ∨ some k = blk) w W ∧ Box W B blk T (dropB ls 0) most sent := by
    refine ⟨_, rfl, by rw [outL_zero]; exact Blk.last w 5 _ rfl, (Chg.refl _ w).alloc _, ?_⟩
    rw [dropB_zero ls hF]
    exact h.kept ((Below.refl w.heap.size w).alloc (Nat.le_refl _) _) h.lt.1 h.lt.2 hT
  obtain ⟨W0, hW0, bO, hc0, hbx0⟩ := hstart
  have HW := Lib.hid hW0
  clear hW0
  rcases hN with ⟨rfl, hN⟩ | ⟨hN, hN2⟩
  · have h2 : ¬ (lens ls : Int) < (N : Int) := by omega
    go_enter Try.func9, Try.ntmps9
    go_wp2_with (go_at_call 11; refine K.out.mono ?_; rintro e w' ⟨rfl, rfl⟩)
    rw [HW.out]
    try simp only [show (N = 0) = False from eq_false (by omega), decide_false]
    clear K hmk hN h2
    have hO : w.heap.size < W0.heap.size := bO.lt
    go_loopw [6, 7] (fun at_ _ wr => ∃ (k : Nat) (bk : Option Nat), k ≤ N ∧ at_ = .int .i64 k ∧ Box wr B bk T (dropB ls k) most sent ∧ Chg (fun k => k = B ∨ some k = blk) w wr ∧ Blk wr w.heap.size 5 (outL ls N k).toArray ∧ (∀ g, bk = some g → blk = some g)) (fun at_ _ _ => N - (intOf at_).toNat)
    case atStart => exact ⟨0, blk, Nat.zero_le _, rfl, hbx0, hc0, bO, fun _ h => h⟩
    case round =>
      obtain ⟨k, bk, hk, rfl, hbx, hch, bOr, hbk⟩ := hrel
      clear bO hc0 hbx0
      by_cases hlt : k < N
      · have hld := lens_dropB ls k
        have hFd := dropB_full ls k hF
        obtain ⟨l0, rest, hd⟩ : ∃ l0 rest, dropB ls k = l0 :: rest := by
          cases hq : dropB ls k with
          | nil => rw [hq] at hld; have e0 : lens [] = 0 := rfl; omega
          | cons l0 rest => exact ⟨l0, rest, rfl⟩
        rw [hd] at hbx hFd
        have hl0 : 0 < l0.length := List.length_pos_iff.2 (hFd l0 (by simp))
        obtain ⟨gl, off, c, cur, v0, rfl, hX, hv0, ht0⟩ := hbx.head
        obtain ⟨g0, o0, c0, rfl, hc1, hc2, hby⟩ := ht0.bytes
        have hXX := hX
        obtain ⟨xb, xg, x1, x2, x3, x4⟩ := hX
        obtain ⟨q, hq⟩ : ∃ q, q = Nat.min l0.length (N - k) := ⟨_, rfl⟩
        have hq1 : q ≤ l0.length := by rw [hq]; exact Nat.min_le_left _ _
        have hq2 : k + q ≤ N := by have hm := Nat.min_le_right l0.length (N - k); have hq' : q = min l0.length (N - k) := hq; omega
        have hq3 : 0 < q := by rw [hq]; exact Nat.lt_min.2 ⟨hl0, by omega⟩
        have hsp := outL_splice ls N k q l0 rest hd hq1 hq2 hNl
        have hdrop := dropB_add ls k q
        rw [hd] at hdrop
        have cB := xb.cell 0
        simp at cB
        have cE := (xg.cell off).trans hv0
        have hnk : ¬ N = k := by omega
        have hidx : (0 : Int) < (rest.length : Int) + 1 := by omega
        have hki : (k : Int) < (N : Int) := by omega
        have HQ := Lib.hid hq
        have HSP := Lib.hid hsp
        have HDR := Lib.hid hdrop
        have HD := Lib.hid hd
        clear hq hsp hdrop hd hld
        go_wp2_with fail
        have HS5 := Lib.hid (show (Try.prog.info? 5).map (·.size) = some 1 by kernel_rfl)
        have hlq : (bcells (List.take q l0)).length = q := by rw [bcells_length, List.length_take]; omega
        have hol := outL_length ls N k hk hNl
        have BO := Lib.hid (show wr.drew.heap[w.heap.size]? = some (.cells (outL ls N k).toArray 5 (0, 0)) from bOr)
        have hsrc : ∀ j v, (bcells (List.take q l0))[j]? = some v → wr.drew.cell? ((⟨g0, o0, none⟩ : Addr).add j) = some v := fun j v hj => by
          obtain ⟨b', o', e', _, hcc⟩ := Rd.get hby (k := 0) (by rw [bcells_length]; exact hl0)
          injection e' with e'
          injection e' with e1 e2 e3
          subst e1 e2
          rw [add_plain]
          refine hcc j v ?_
          have : bcells (List.take q l0) = (bcells l0).take q := by simp [bcells]
          rw [this, List.getElem?_take] at hj
          split at hj
          · exact hj
          · cases hj
        have hlB := h.lt.1
        have hlg := h.lt.2 gl (hbk gl rfl)
        have HSRC := Lib.hid hsrc
        have HOL := Lib.hid hol
        clear hsrc hol
        go_region_law (refine step_copy_splice (by rfl) _ _ 27 27 (by rfl) 5 Try.underlying27 HS5.out _ _ (N - k) (N - k) l0.length c0 (by rfl) (by rfl) w.heap.size k (outL ls N k) 5 BO.out (bcells (List.take q l0)) (by rw [hlq]; exact HQ.out) (fun _ => ⟨rfl, _, rfl, HSRC.out⟩) (by rw [hlq, HOL.out]; exact hq2) (bcells_one _) w.heap.size wr.drew (Below.refl _ _) (Nat.le_refl _) ?_; intro w4 hg4 hb4)
        have hb4' : Below w.heap.size wr w4 := (Below.refl _ _).drew.trans hb4
        have hX4 := hXX.kept hb4' hlB hlg hT
        have ht4 : Txt w4 T (.slice (some ⟨g0, o0, none⟩) l0.length c0) l0 := ht0.kept fun g _ _ hTg _ => ⟨hb4'.block g (hT g hTg), hTg⟩
        have bO4 : Blk w4 w.heap.size 5 (outL ls N (k + q)).toArray := by have := hg4.out; rw [HSP.out] at this; exact this
        have hxb4 := hX4.1
        have hxg4 := hX4.2.1
        have hne : ¬ B = gl := hxb4.ne_ hxg4 (by decide)
        have cB4 := hxb4.cell 0
        simp at cB4
        have cE4 := (hxg4.cell off).trans hv0
        have fE4 := hxg4.frozen off
        have fB4 := hxb4.frozen 0
        clear cB cE BO HSRC HOL hg4 xb xg x4
        by_cases hql : q < l0.length
        · have hcq : ¬ c0 = q := by omega
          go_wp2_with fail
          have hbx5 : Box (w4.setCell ⟨gl, off, none⟩ (.slice (some ⟨g0, o0 + q, none⟩) (l0.length - q) (c0 - q))) B (some gl) T (dropB ls (k + q)) most sent := by
            rw [← HDR.out, dropB_lt l0 rest q hql]
            refine (hX4.set _).cons (v0 := .slice (some ⟨g0, o0 + q, none⟩) (l0.length - q) (c0 - q)) (by rw [Array.getElem?_setIfInBounds, if_pos rfl, if_pos (by omega)]) ((ht4.cut hql).kept fun g _ _ hTg hg => ⟨?_, hTg⟩)
            exact Below.heap_setCell _ _ _ _ (fun e => by
              simp at e; subst e
              unfold Blk at hxg4; rw [hxg4] at hg; injection hg with hg; injection hg with _ ht _; exact absurd ht (by decide))
          have hch5 : Chg (fun k => k = B ∨ some k = blk) w (w4.setCell ⟨gl, off, none⟩ (.slice (some ⟨g0, o0 + q, none⟩) (l0.length - q) (c0 - q))) :=
            (hch.below_trans hb4').setCell (p := ⟨gl, off, none⟩) (.inl (.inr (hbk gl rfl).symm)) _
          have bO5 : Blk (w4.setCell ⟨gl, off, none⟩ (.slice (some ⟨g0, o0 + q, none⟩) (l0.length - q) (c0 - q))) w.heap.size 5 (outL ls N (k + q)).toArray := bO4.far (by show w.heap.size ≠ gl; omega) _
          clear HSP HDR HQ HD bO4 hX4 ht4 hxb4 hxg4
          go_region
          all_goals
            go_wp2_with fail
            go_roundw
            case rel => (exact ⟨k + q, some gl, hq2, by go_num, hbx5.kept ((Below.refl w.heap.size _).drew) hlB (fun g hg => by injection hg with hg; omega) hT, hch5.drew, bO5.drew, hbk⟩)
            case measure => simp [intOf]; omega
        · obtain rfl : q = l0.length := by omega
          obtain ⟨v5, hv5⟩ : ∃ v5 : Option Addr, v5 = if c0 = l0.length then some ⟨g0, o0, none⟩ else some ⟨g0, o0 + l0.length, none⟩ := ⟨_, rfl⟩
          have hclr : ∀ X, (Builtin.clear_ #[22] 0 #[.slice (some ⟨gl, off, none⟩) 1 c]).run Try.prog (w4.setCell ⟨gl, off, none⟩ X).drew = .ok (.tuple #[]) ((w4.setCell ⟨gl, off, none⟩ X).drew.setCell ⟨gl, off, none⟩ (.slice none 0 0)) :=
            fun X => run_clear_one _ _ _ _ X (World.cell?_setCell_same _ _ _ cE4) (by rw [World.frozen?_drew, World.frozen?_setCell]; exact fE4)
          have cB5 : ∀ X, ((w4.setCell ⟨gl, off, none⟩ X).drew.setCell ⟨gl, off, none⟩ (.slice none 0 0)).cell? ⟨B, 0, none⟩ = some (Value.slice (some { block := gl, off := off }) (rest.length + 1) c) := fun X => by
            have := (((hX4.set X).kept ((Below.refl w.heap.size _).drew) hlB hlg hT).set (.slice none 0 0)).1.cell 0
            simpa using this
          have fB5 : ∀ X, ((w4.setCell ⟨gl, off, none⟩ X).drew.setCell ⟨gl, off, none⟩ (.slice none 0 0)).frozen? ⟨B, 0, none⟩ = false := fun X => (((hX4.set X).kept ((Below.refl w.heap.size _).drew) hlB hlg hT).set (.slice none 0 0)).1.frozen 0
          have hfin : ∀ X, Box (((w4.setCell ⟨gl, off, none⟩ X).setCell ⟨gl, off, none⟩ (.slice none 0 0)).setCell ⟨B, 0, none⟩ (.slice (if c = 1 then some ⟨gl, off, none⟩ else some ⟨gl, off + 1, none⟩) rest.length (c - 1))).drew B (if c = 1 then none else some gl) T (dropB ls (k + l0.length)) most sent ∧
              Chg (fun k => k = B ∨ some k = blk) w (((w4.setCell ⟨gl, off, none⟩ X).setCell ⟨gl, off, none⟩ (.slice none 0 0)).setCell ⟨B, 0, none⟩ (.slice (if c = 1 then some ⟨gl, off, none⟩ else some ⟨gl, off + 1, none⟩) rest.length (c - 1))).drew ∧
              Blk (((w4.setCell ⟨gl, off, none⟩ X).setCell ⟨gl, off, none⟩ (.slice none 0 0)).setCell ⟨B, 0, none⟩ (.slice (if c = 1 then some ⟨gl, off, none⟩ else some ⟨gl, off + 1, none⟩) rest.length (c - 1))).drew w.heap.size 5 (outL ls N (k + l0.length)).toArray := fun X => by
            have hm : (fun k => k = B ∨ some k = blk) gl := .inr (hbk gl rfl).symm
            refine ⟨?_, (((hch.below_trans hb4').setCell (p := ⟨gl, off, none⟩) (.inl hm) X).setCell (p := ⟨gl, off, none⟩) (.inl hm) _).setCell (p := ⟨B, 0, none⟩) (.inl (.inl rfl)) _ |>.drew,
              (((bO4.far (by show w.heap.size ≠ gl; omega) X).far (by show w.heap.size ≠ gl; omega) _).far (by show w.heap.size ≠ B; omega) _).drew⟩
            rw [← HDR.out, dropB_eq l0 rest (fun x hx => hFd x (by simp [hx]))]
            exact (((hX4.set X).set _).pop _ rfl).kept ((Below.refl w.heap.size _).drew) hlB (fun g hg => by rw [popB hg]; exact hlg) hT
          clear HSP HQ HD bO4 hX4 ht4 hxb4 hxg4 hby hXX hbx bOr hv0 ht0 hch
          by_cases hcq : c0 = l0.length
          · go_wp2_with fail
            go_region
            all_goals
              go_wp2_with fail
              go_roundw
              case rel => exact ⟨k + l0.length, _, hq2, by go_num, (hfin _).1, (hfin _).2.1, (hfin _).2.2, fun g hg => popB hg ▸ hbk gl rfl⟩
              case measure => simp [intOf]; omega
          · go_wp2_with fail
            go_region
            all_goals
              go_wp2_with fail
              go_roundw
              case rel => exact ⟨k + l0.length, _, hq2, by go_num, (hfin _).1, (hfin _).2.1, (hfin _).2.2, fun g hg => popB hg ▸ hbk gl rfl⟩
              case measure => simp [intOf]; omega
      · have hkN : k = N := by omega
        subst hkN
        obtain ⟨⟨vB, cB⟩, cS, fS, hsn⟩ := hbx.sent
        have hsn1 := hsn (sent + k)
        have hch1 := hch.setCell (p := ⟨B, 2, none⟩) (.inl (.inl rfl)) (.int .i64 (sent + k))
        have bO1 := bOr.far (p := ⟨B, 2, none⟩) (by have := h.lt.1; show w.heap.size ≠ B; omega) (.int .i64 (sent + k))
        go_wp2_with fail
        go_ret
        exact ⟨bk, w.heap.size, rfl, hsn1, hch1, hbk, by rw [outL_full] at bO1; exact bO1, Nat.le_refl _⟩
  · have h2 : (lens ls : Int) < n := hN
    rw [hN2] at hmk
    have hLp : 0 < lens ls := by omega
    have hLp' : (0 : Int) < (lens ls : Int) := by omega
    have hnpos : ¬ n ≤ 0 := by omega
    go_enter Try.func9, Try.ntmps9
    go_wp2_with (go_at_call 11; refine K.out.mono ?_; rintro e w' ⟨rfl, rfl⟩)
    rw [← hN2, HW.out]
    try simp only [show (N = 0) = False from eq_false (by omega), decide_false]
    clear K hmk hN hN2
    have hO : w.heap.size < W0.heap.size := bO.lt
    go_loopw [6, 7] (fun at_ _ wr => ∃ (k : Nat) (bk : Option Nat), k ≤ N ∧ at_ = .int .i64 k ∧ Box wr B bk T (dropB ls k) most sent ∧ Chg (fun k => k = B ∨ some k = blk) w wr ∧ Blk wr w.heap.size 5 (outL ls N k).toArray ∧ (∀ g, bk = some g → blk = some g)) (fun at_ _ _ => N - (intOf at_).toNat)
    case atStart => exact ⟨0, blk, Nat.zero_le _, rfl, hbx0, hc0, bO, fun _ h => h⟩
    case round =>
      obtain ⟨k, bk, hk, rfl, hbx, hch, bOr, hbk⟩ := hrel
      clear bO hc0 hbx0
      by_cases hlt : k < N
      · have hld := lens_dropB ls k
        have hFd := dropB_full ls k hF
        obtain ⟨l0, rest, hd⟩ : ∃ l0 rest, dropB ls k = l0 :: rest := by
          cases hq : dropB ls k with
          | nil => rw [hq] at hld; have e0 : lens [] = 0 := rfl; omega
          | cons l0 rest => exact ⟨l0, rest, rfl⟩
        rw [hd] at hbx hFd
        have hl0 : 0 < l0.length := List.length_pos_iff.2 (hFd l0 (by simp))
        obtain ⟨gl, off, c, cur, v0, rfl, hX, hv0, ht0⟩ := hbx.head
        obtain ⟨g0, o0, c0, rfl, hc1, hc2, hby⟩ := ht0.bytes
        have hXX := hX
        obtain ⟨xb, xg, x1, x2, x3, x4⟩ := hX
        obtain ⟨q, hq⟩ : ∃ q, q = Nat.min l0.length (N - k) := ⟨_, rfl⟩
        have hq1 : q ≤ l0.length := by rw [hq]; exact Nat.min_le_left _ _
        have hq2 : k + q ≤ N := by have hm := Nat.min_le_right l0.length (N - k); have hq' : q = min l0.length (N - k) := hq; omega
        have hq3 : 0 < q := by rw [hq]; exact Nat.lt_min.2 ⟨hl0, by omega⟩
        have hsp := outL_splice ls N k q l0 rest hd hq1 hq2 hNl
        have hdrop := dropB_add ls k q
        rw [hd] at hdrop
        have cB := xb.cell 0
        simp at cB
        have cE := (xg.cell off).trans hv0
        have hnk : ¬ N = k := by omega
        have hidx : (0 : Int) < (rest.length : Int) + 1 := by omega
        have hki : (k : Int) < (N : Int) := by omega
        have HQ := Lib.hid hq
        have HSP := Lib.hid hsp
        have HDR := Lib.hid hdrop
        have HD := Lib.hid hd
        clear hq hsp hdrop hd hld
        go_wp2_with fail
        have HS5 := Lib.hid (show (Try.prog.info? 5).map (·.size) = some 1 by kernel_rfl)
        have hlq : (bcells (List.take q l0)).length = q := by rw [bcells_length, List.length_take]; omega
        have hol := outL_length ls N k hk hNl
        have BO := Lib.hid (show wr.drew.heap[w.heap.size]? = some (.cells (outL ls N k).toArray 5 (0, 0)) from bOr)
        have hsrc : ∀ j v, (bcells (List.take q l0))[j]? = some v → wr.drew.cell? ((⟨g0, o0, none⟩ : Addr).add j) = some v := fun j v hj => by
          obtain ⟨b', o', e', _, hcc⟩ := Rd.get hby (k := 0) (by rw [bcells_length]; exact hl0)
          injection e' with e'
          injection e' with e1 e2 e3
          subst e1 e2
          rw [add_plain]
          refine hcc j v ?_
          have : bcells (List.take q l0) = (bcells l0).take q := by simp [bcells]
          rw [this, List.getElem?_take] at hj
          split at hj
          · exact hj
          · cases hj
        have hlB := h.lt.1
        have hlg := h.lt.2 gl (hbk gl rfl)
        have HSRC := Lib.hid hsrc
        have HOL := Lib.hid hol
        clear hsrc hol
        go_region_law (refine step_copy_splice (by rfl) _ _ 27 27 (by rfl) 5 Try.underlying27 HS5.out _ _ (N - k) (N - k) l0.length c0 (by rfl) (by rfl) w.heap.size k (outL ls N k) 5 BO.out (bcells (List.take q l0)) (by rw [hlq]; exact HQ.out) (fun _ => ⟨rfl, _, rfl, HSRC.out⟩) (by rw [hlq, HOL.out]; exact hq2) (bcells_one _) w.heap.size wr.drew (Below.refl _ _) (Nat.le_refl _) ?_; intro w4 hg4 hb4)
        have hb4' : Below w.heap.size wr w4 := (Below.refl _ _).drew.trans hb4
        have hX4 := hXX.kept hb4' hlB hlg hT
        have ht4 : Txt w4 T (.slice (some ⟨g0, o0, none⟩) l0.length c0) l0 := ht0.kept fun g _ _ hTg _ => ⟨hb4'.block g (hT g hTg), hTg⟩
        have bO4 : Blk w4 w.heap.size 5 (outL ls N (k + q)).toArray := by have := hg4.out; rw [HSP.out] at this; exact this
        have hxb4 := hX4.1
        have hxg4 := hX4.2.1
        have hne : ¬ B = gl := hxb4.ne_ hxg4 (by decide)
        have cB4 := hxb4.cell 0
        simp at cB4
        have cE4 := (hxg4.cell off).trans hv0
        have fE4 := hxg4.frozen off
        have fB4 := hxb4.frozen 0
        clear cB cE BO HSRC HOL hg4 xb xg x4
        by_cases hql : q < l0.length
        · have hcq : ¬ c0 = q := by omega
          go_wp2_with fail
          have hbx5 : Box (w4.setCell ⟨gl, off, none⟩ (.slice (some ⟨g0, o0 + q, none⟩) (l0.length - q) (c0 - q))) B (some gl) T (dropB ls (k + q)) most sent := by
            rw [← HDR.out, dropB_lt l0 rest q hql]
            refine (hX4.set _).cons (v0 := .slice (some ⟨g0, o0 + q, none⟩) (l0.length - q) (c0 - q)) (by rw [Array.getElem?_setIfInBounds, if_pos rfl, if_pos (by omega)]) ((ht4.cut hql).kept fun g _ _ hTg hg => ⟨?_, hTg⟩)
            exact Below.heap_setCell _ _ _ _ (fun e => by
              simp at e; subst e
              unfold Blk at hxg4; rw [hxg4] at hg; injection hg with hg; injection hg with _ ht _; exact absurd ht (by decide))
          have hch5 : Chg (fun k => k = B ∨ some k = blk) w (w4.setCell ⟨gl, off, none⟩ (.slice (some ⟨g0, o0 + q, none⟩) (l0.length - q) (c0 - q))) :=
            (hch.below_trans hb4').setCell (p := ⟨gl, off, none⟩) (.inl (.inr (hbk gl rfl).symm)) _
          have bO5 : Blk (w4.setCell ⟨gl, off, none⟩ (.slice (some ⟨g0, o0 + q, none⟩) (l0.length - q) (c0 - q))) w.heap.size 5 (outL ls N (k + q)).toArray := bO4.far (by show w.heap.size ≠ gl; omega) _
          clear HSP HDR HQ HD bO4 hX4 ht4 hxb4 hxg4
          go_region
          all_goals
            go_wp2_with fail
            go_roundw
            case rel => (exact ⟨k + q, some gl, hq2, by go_num, hbx5.kept ((Below.refl w.heap.size _).drew) hlB (fun g hg => by injection hg with hg; omega) hT, hch5.drew, bO5.drew, hbk⟩)
            case measure => simp [intOf]; omega
        · obtain rfl : q = l0.length := by omega
          obtain ⟨v5, hv5⟩ : ∃ v5 : Option Addr, v5 = if c0 = l0.length then some ⟨g0, o0, none⟩ else some ⟨g0, o0 + l0.length, none⟩ := ⟨_, rfl⟩
          have hclr : ∀ X, (Builtin.clear_ #[22] 0 #[.slice (some ⟨gl, off, none⟩) 1 c]).run Try.prog (w4.setCell ⟨gl, off, none⟩ X).drew = .ok (.tuple #[]) ((w4.setCell ⟨gl, off, none⟩ X).drew.setCell ⟨gl, off, none⟩ (.slice none 0 0)) :=
            fun X => run_clear_one _ _ _ _ X (World.cell?_setCell_same _ _ _ cE4) (by rw [World.frozen?_drew, World.frozen?_setCell]; exact fE4)
          have cB5 : ∀ X, ((w4.setCell ⟨gl, off, none⟩ X).drew.setCell ⟨gl, off, none⟩ (.slice none 0 0)).cell? ⟨B, 0, none⟩ = some (Value.slice (some { block := gl, off := off }) (rest.length + 1) c) := fun X => by
            have := (((hX4.set X).kept ((Below.refl w.heap.size _).drew) hlB hlg hT).set (.slice none 0 0)).1.cell 0
            simpa using this
          have fB5 : ∀ X, ((w4.setCell ⟨gl, off, none⟩ X).drew.setCell ⟨gl, off, none⟩ (.slice none 0 0)).frozen? ⟨B, 0, none⟩ = false := fun X => (((hX4.set X).kept ((Below.refl w.heap.size _).drew) hlB hlg hT).set (.slice none 0 0)).1.frozen 0
          have hfin : ∀ X, Box (((w4.setCell ⟨gl, off, none⟩ X).setCell ⟨gl, off, none⟩ (.slice none 0 0)).setCell ⟨B, 0, none⟩ (.slice (if c = 1 then some ⟨gl, off, none⟩ else some ⟨gl, off + 1, none⟩) rest.length (c - 1))).drew B (if c = 1 then none else some gl) T (dropB ls (k + l0.length)) most sent ∧
              Chg (fun k => k = B ∨ some k = blk) w (((w4.setCell ⟨gl, off, none⟩ X).setCell ⟨gl, off, none⟩ (.slice none 0 0)).setCell ⟨B, 0, none⟩ (.slice (if c = 1 then some ⟨gl, off, none⟩ else some ⟨gl, off + 1, none⟩) rest.length (c - 1))).drew ∧
              Blk (((w4.setCell ⟨gl, off, none⟩ X).setCell ⟨gl, off, none⟩ (.slice none 0 0)).setCell ⟨B, 0, none⟩ (.slice (if c = 1 then some ⟨gl, off, none⟩ else some ⟨gl, off + 1, none⟩) rest.length (c - 1))).drew w.heap.size 5 (outL ls N (k + l0.length)).toArray := fun X => by
            have hm : (fun k => k = B ∨ some k = blk) gl := .inr (hbk gl rfl).symm
            refine ⟨?_, (((hch.below_trans hb4').setCell (p := ⟨gl, off, none⟩) (.inl hm) X).setCell (p := ⟨gl, off, none⟩) (.inl hm) _).setCell (p := ⟨B, 0, none⟩) (.inl (.inl rfl)) _ |>.drew,
              (((bO4.far (by show w.heap.size ≠ gl; omega) X).far (by show w.heap.size ≠ gl; omega) _).far (by show w.heap.size ≠ B; omega) _).drew⟩
            rw [← HDR.out, dropB_eq l0 rest (fun x hx => hFd x (by simp [hx]))]
            exact (((hX4.set X).set _).pop _ rfl).kept ((Below.refl w.heap.size _).drew) hlB (fun g hg => by rw [popB hg]; exact hlg) hT
          clear HSP HQ HD bO4 hX4 ht4 hxb4 hxg4 hby hXX hbx bOr hv0 ht0 hch
          by_cases hcq : c0 = l0.length
          · go_wp2_with fail
            go_region
            all_goals
              go_wp2_with fail
              go_roundw
              case rel => exact ⟨k + l0.length, _, hq2, by go_num, (hfin _).1, (hfin _).2.1, (hfin _).2.2, fun g hg => popB hg ▸ hbk gl rfl⟩
              case measure => simp [intOf]; omega
          · go_wp2_with fail
            go_region
            all_goals
              go_wp2_with fail
              go_roundw
              case rel => exact ⟨k + l0.length, _, hq2, by go_num, (hfin _).1, (hfin _).2.1, (hfin _).2.2, fun g hg => popB hg ▸ hbk gl rfl⟩
              case measure => simp [intOf]; omega
      · have hkN : k = N := by omega
        subst hkN
        obtain ⟨⟨vB, cB⟩, cS, fS, hsn⟩ := hbx.sent
        have hsn1 := hsn (sent + k)
        have hch1 := hch.setCell (p := ⟨B, 2, none⟩) (.inl (.inl rfl)) (.int .i64 (sent + k))
        have bO1 := bOr.far (p := ⟨B, 2, none⟩) (by have := h.lt.1; show w.heap.size ≠ B; omega) (.int .i64 (sent + k))
        go_wp2_with fail
        go_ret
        exact ⟨bk, w.heap.size, rfl, hsn1, hch1, hbk, by rw [outL_full] at bO1; exact bO1, Nat.le_refl _⟩
end Go.Proofs.Ytmjikfhabfodkaa
