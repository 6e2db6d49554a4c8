/- Outbox: known answers true. Helper of OutboxParts. -/
import Derived.Test.YtmjikfhabfodkaaBoxC
import Derived.Deep.RegionWith
namespace Go.Proofs.Ytmjikfhabfodkaa
open Go.RowKit
set_option linter.unusedVariables false
set_option linter.unusedSimpArgs false
theorem Taken.below {w w' : World} {f : Nat} {v : Value} {xs : List UInt8} (h : Taken w f v xs) {B : Nat} (hB : Below B w w') (hs : w.heap.size ≤ B) : Taken w' f v xs := by
  rcases h with ⟨h1, h2⟩ | ⟨O, h1, h2, h3⟩
  · exact .inl ⟨h1, h2⟩
  · exact .inr ⟨O, h1, h2.below hB (by have := h2.lt; omega), h3⟩
theorem Taken.str {w : World} {f : Nat} {v : Value} {xs : List UInt8} (h : Taken w f v xs) : (convert 27 9 v).run Try.prog w = .ok (.string ⟨xs.toArray⟩) w := by
  obtain ⟨A, c, rfl, hb⟩ := h.bytes
  exact hb.str 27 5 9 c Try.underlying27 Try.underlying5 Try.underlying9
theorem Room_step (base B : Nat) (ls : List (List UInt8)) (most : Nat) (sent : Int) (w : World) (h : OB w base B ls most sent) (hm : most ≤ 4294967295) (hl : ls.length ≤ 4294967295) :
    Calls Try.prog 12 #[.pointer (some ⟨B, 0, none⟩)] w fun e w' => e = .returned (.int .i64 ((most : Int) - (ls.length : Int))) ∧ OB w' base B ls most sent ∧ Below w.heap.size w w' := by
  have hh := h
  obtain ⟨blk, T, hb, _⟩ := h
  refine (Room_any B blk T ls most sent w hb (by omega) hl).mono ?_
  rintro e w' ⟨rfl, rfl⟩
  exact ⟨rfl, hh.below ((Below.refl _ _).drew), (Below.refl _ _).drew⟩
theorem Len_step (base B : Nat) (ls : List (List UInt8)) (most : Nat) (sent : Int) (w : World) (h : OB w base B ls most sent) :
    Calls Try.prog 10 #[.pointer (some ⟨B, 0, none⟩)] w fun e w' => e = .returned (.int .i64 ls.length) ∧ w = w' := by
  obtain ⟨blk, T, hb, _⟩ := h
  exact Len_any B blk T ls most sent w hb
theorem Left_step (base B : Nat) (ls : List (List UInt8)) (most : Nat) (sent : Int) (w : World) (h : OB w base B ls most sent) (hl : ls.length ≤ 4294967295) (hs : lens ls ≤ 4294967295) :
    Calls Try.prog 11 #[.pointer (some ⟨B, 0, none⟩)] w fun e w' => e = .returned (.int .i64 (lens ls)) ∧ w = w' := by
  obtain ⟨blk, T, hb, _⟩ := h
  exact Left_any B blk T ls most sent w hb hl hs
theorem Sent_step (base B : Nat) (ls : List (List UInt8)) (most : Nat) (sent : Int) (w : World) (h : OB w base B ls most sent) :
    Calls Try.prog 25 #[.pointer (some ⟨B, 0, none⟩)] w fun e w' => e = .returned (.int .i64 sent) ∧ w = w' := by
  obtain ⟨blk, T, hb, _⟩ := h
  exact Sent_any B blk T ls most sent w hb
theorem drops1 : dropB [[97, 98], [99]] 1 = [[98], [99]] := by decide +kernel
theorem drops2 : dropB [[98], [99]] 1 = [[99]] := by decide +kernel
theorem drops3 : dropB [[99]] 1 = [] := by decide +kernel
theorem c2 (w : World) : BytesAt (w.alloc (.cells #[.int .u8 97, .int .u8 98] 5 (2, 3))) (some ⟨w.heap.size, 0, none⟩) [97, 98] := by
  have h := bytesAt_new w [97, 98] 5 (2, 3)
  simpa using h
theorem c99 (w : World) : BytesAt (w.alloc (.cells #[.int .u8 99] 5 (1, 2))) (some ⟨w.heap.size, 0, none⟩) [99] := by
  have h := bytesAt_new w [99] 5 (1, 2)
  simpa using h
theorem c100 (w : World) : BytesAt (w.alloc (.cells #[.int .u8 100] 5 (1, 2))) (some ⟨w.heap.size, 0, none⟩) [100] := by
  have h := bytesAt_new w [100] 5 (1, 2)
  simpa using h
theorem known_put (base B : Nat) (ls ls' : List (List UInt8)) (l : List UInt8) (a : Option Addr) (r : Int) (n : Nat) (w w0 : World) (o : Obj) (h : OB w base B ls 2 0) (hw : w.alloc o = w0) (ha : BytesAt w0 a l) (hr : putR ls l 2 = r) (hl : putL ls l 2 = ls') (hn : l.length = n) (hle : ls.length ≤ 2) (hn2 : n ≤ 2) :
    Calls Try.prog 8 #[.pointer (some ⟨B, 0, none⟩), .slice a n n] w0 fun e w' => e = .returned (.int .i64 r) ∧ OB w' base B ls' 2 0 ∧ Below base w w' := by
  subst hw hr hl hn
  refine (Put_step base B ls 2 0 a l l.length _ (h.below ((Below.refl _ _).alloc (Nat.le_refl _) _)) ha (by omega) hle (by omega)).mono ?_
  rintro e w' ⟨rfl, h1, h2⟩
  exact ⟨rfl, h1, ((Below.refl _ _).alloc h.lt _).trans h2⟩
theorem known_take (base B : Nat) (ls ls' : List (List UInt8)) (n : Int) (N : Nat) (xs : List UInt8) (s : Int) (w : World) (h : OB w base B ls 2 s) (h1 : takeN ls n = N) (h2 : dropB ls N = ls') (h3 : ls.flatten.take N = xs) (hl : ls.length ≤ 4294967295) (hs : lens ls ≤ 4294967295) (hsent : 0 ≤ s ∧ s ≤ 4294967295) :
    Calls Try.prog 9 #[.pointer (some ⟨B, 0, none⟩), .int .i64 n] w fun e w' => ∃ v, e = .returned v ∧ Taken w' w.heap.size v xs ∧ OB w' base B ls' 2 (s + N) ∧ Below base w w' := by
  subst h1 h2 h3
  exact Take_step base B ls 2 s n w h hl hs hsent
set_option maxHeartbeats 800000 in
theorem known_any (w : World) : Calls Try.prog 6 #[] w fun e w' => e = .returned (.bool true) ∧ Below w.heap.size w w' := by
  have kc := fun (w : World) (C : Array Value) (n c : Nat) => Lib.run_convert_bytes_const (P := Try.prog) w 27 5 C n c Try.underlying27 Try.underlying5
  have s2 := New_step 2 2 rfl w
  have S2 := Lib.hid s2
  clear s2
  go_enter Try.func6, Try.ntmps6
  go_wp2_with (go_at_call 7; refine S2.out.mono ?_; rintro e w1 ⟨rfl, hO1, hB1⟩)
  refine (known_put _ _ _ [[97, 98]] [97, 98] _ 0 2 w1 _ _ hO1 rfl (c2 w1) (by decide) (by decide) rfl (by simp) (by omega)).mono ?_
  rintro e w2 ⟨rfl, hO2, hB2⟩
  have hB2' := hB1.trans hB2
  clear S2 hO1 hB1 hB2
  go_wp2_with fail
  refine (known_put _ _ _ [[97, 98], [99]] [99] _ 0 1 w2 _ _ hO2 rfl (c99 w2) (by decide) (by decide) rfl (by simp) (by omega)).mono ?_
  rintro e w3 ⟨rfl, hO3, hB3⟩
  have hB3' := hB2'.trans hB3
  clear hO2 hB2' hB3
  go_wp2_with fail
  refine (known_put _ _ _ [[97, 98], [99]] [100] _ 5 1 w3 _ _ hO3 rfl (c100 w3) (by decide) (by decide) rfl (by simp) (by omega)).mono ?_
  rintro e w4 ⟨rfl, hO4, hB4⟩
  have hB4' := hB3'.trans hB4
  clear hO3 hB3' hB4
  go_wp2_with fail
  have hO4d := hO4.below ((Below.refl _ _).drew)
  have hB4d := hB4'.drew
  have t1 := known_take _ _ _ _ 1 1 [97] 0 _ hO4d (by decide) drops1 (by decide) (by simp) (by decide) (by omega)
  have T1 := Lib.hid t1
  clear hO4 hB4' hO4d t1 kc
  go_region_with (first
    | (go_at_call 9; with_reducible refine T1.out.mono ?_; rintro e w5 ⟨v5, rfl, hv5, hO5, hB5⟩; have s5 := hv5.str; have hB5' := hB4d.trans hB5)
    | (go_at_call 12; with_reducible refine (Room_step _ _ _ _ _ _ hO5 (by omega) (by simp)).mono ?_; rintro e w6 ⟨rfl, hO6, hB6⟩; have s6 := (hv5.below hB6 (Nat.le_refl _)).str; have hB6' := hB5'.trans (hB6.mono hB5'.size)))
  all_goals
    clear hO5 hB5 hB5' hv5 hB6 hB4d T1 s5 s6
    go_wp2_with fail
  all_goals
    have hO6d := hO6.below ((Below.refl _ _).drew)
    have hB6d := hB6'.drew
    have t1 := known_take _ _ _ _ 1 1 [98] (0 + (1 : Nat)) _ hO6d (by decide) drops2 (by decide) (by simp) (by decide) (by omega)
    have T1 := Lib.hid t1
    clear hO6 hB6' hO6d t1
    go_simp
    go_region_with (first
    | (go_at_call 9; with_reducible refine T1.out.mono ?_; rintro e w7 ⟨v7, rfl, hv7, hO7, hB7⟩; have s7 := hv7.str; have hB7' := hB6d.trans hB7)
    | (go_at_call 12; with_reducible refine (Room_step _ _ _ _ _ _ hO7 (by omega) (by simp)).mono ?_; rintro e w8 ⟨rfl, hO8, hB8⟩; have s8 := (hv7.below hB8 (Nat.le_refl _)).str; have hB8' := hB7'.trans (hB8.mono hB7'.size)))
  all_goals
    have t1 := known_take _ _ _ _ 9 1 [99] (0 + (1 : Nat) + (1 : Nat)) _ hO8 (by decide) drops3 (by decide) (by simp) (by decide) (by omega)
    clear s7 hv7 hO7 hB7 hB7' hO8 s8 hB8
    go_simp
    go_wp2_with (go_at_call 9; refine t1.mono ?_; rintro e w9 ⟨v9, rfl, hv9, hO9, hB9⟩; have s9 := hv9.str)
    go_ret
    exact ⟨rfl, hB8'.trans hB9⟩
end Go.Proofs.Ytmjikfhabfodkaa
