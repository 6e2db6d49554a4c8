/- Outbox: its memory, and New, Len, Sent, Room, Left, Put. Helper of OutboxParts. -/
import Derived.Test.YtmjikfhabfodkaaProg
import Derived.Test.YtmjikfhabfodkaaMem
import Derived.Deep.RegionHeld3
import Derived.Deep.RegionLaw
import Derived.Deep.QuietTactic
import Derived.BigQuiet
import Derived.WalkSpells
import Derived.WalkLawsBesides
namespace Go.Proofs.Ytmjikfhabfodkaa
open Go.RowKit
set_option linter.unusedVariables false
set_option linter.unusedSimpArgs false
/-- A text that waits: at least one byte, in a block that T names. -/
def Txt (w : World) (T : Nat → Prop) (v : Value) (l : List UInt8) : Prop :=
  l ≠ [] ∧ ∃ g off c cur fr, v = .slice (some ⟨g, off, none⟩) l.length c ∧ l.length ≤ c ∧ c ≤ maxLen ∧ T g ∧ w.heap[g]? = some (.cells cur 5 fr) ∧ (cur.toList.drop off).take l.length = bcells l
theorem heap_lt {w : World} {g : Nat} {o : Obj} (h : w.heap[g]? = some o) : g < w.heap.size := (Array.getElem?_eq_some_iff.1 h).1
theorem Txt.kept {w w' : World} {T T' : Nat → Prop} {v : Value} {l : List UInt8} (h : Txt w T v l) (hk : ∀ g cur fr, T g → w.heap[g]? = some (.cells cur 5 fr) → w'.heap[g]? = w.heap[g]? ∧ T' g) : Txt w' T' v l := by
  obtain ⟨h0, g, off, c, cur, fr, rfl, h1, h2, h3, h4, h5⟩ := h
  obtain ⟨k1, k2⟩ := hk g cur fr h3 h4
  exact ⟨h0, g, off, c, cur, fr, rfl, h1, h2, k2, k1.trans h4, h5⟩
theorem Txt.bytes {w : World} {T : Nat → Prop} {v : Value} {l : List UInt8} (h : Txt w T v l) : ∃ g off c, v = .slice (some ⟨g, off, none⟩) l.length c ∧ l.length ≤ c ∧ c ≤ maxLen ∧ BytesAt w (some ⟨g, off, none⟩) l := by
  obtain ⟨h0, g, off, c, cur, fr, rfl, h1, h2, h3, h4, h5⟩ := h
  refine ⟨g, off, c, rfl, h1, h2, .inr ⟨g, off, rfl, fun j u hu => ?_⟩⟩
  rw [cell_of_row w g _ cur 5 fr h4]
  rw [← h5, List.getElem?_take] at hu
  split at hu
  · rw [List.getElem?_drop] at hu; simpa using hu
  · cases hu
/-- An outbox: its struct in block B, its list in block blk, its texts in T. -/
def Box (w : World) (B : Nat) (blk : Option Nat) (T : Nat → Prop) (ls : List (List UInt8)) (most : Nat) (sent : Int) : Prop :=
  ∃ vl vs, Blk w B 48 #[vl, .int .i64 most, .int .i64 sent] ∧ Own w 27 1 vl ls.length vs blk ∧ ∀ i (h : i < ls.length), ∃ u, vs[i]? = some u ∧ Txt w T u ls[i]
theorem Len_any (B : Nat) (blk : Option Nat) (T : Nat → Prop) (ls : List (List UInt8)) (most : Nat) (sent : Int) (w : World) (h : Box w B blk T ls most sent) :
    Calls Try.prog 10 #[.pointer (some ⟨B, 0, none⟩)] w fun e w' => e = .returned (.int .i64 ls.length) ∧ w = w' := by
  obtain ⟨vl, vs, hb, ho, _⟩ := h
  obtain ⟨A, c, rfl, _, _, _⟩ := ho.rd
  have h0 := hb.cell 0
  simp at h0
  go_enter Try.func10, Try.ntmps10
  go_wp2
  go_ret
  exact ⟨rfl, rfl⟩
theorem Sent_any (B : Nat) (blk : Option Nat) (T : Nat → Prop) (ls : List (List UInt8)) (most : Nat) (sent : Int) (w : World) (h : Box w B blk T ls most sent) :
    Calls Try.prog 25 #[.pointer (some ⟨B, 0, none⟩)] w fun e w' => e = .returned (.int .i64 sent) ∧ w = w' := by
  obtain ⟨vl, vs, hb, ho, _⟩ := h
  have h0 := hb.cell 2
  simp at h0
  go_enter Try.func25, Try.ntmps25
  go_wp2
  go_ret
  exact ⟨rfl, rfl⟩
theorem Room_any (B : Nat) (blk : Option Nat) (T : Nat → Prop) (ls : List (List UInt8)) (most : Nat) (sent : Int) (w : World) (h : Box w B blk T ls most sent) (hm : most ≤ 9223372036854775807) (hl : ls.length ≤ 4294967295) :
    Calls Try.prog 12 #[.pointer (some ⟨B, 0, none⟩)] w fun e w' => e = .returned (.int .i64 ((most : Int) - (ls.length : Int))) ∧ w.drew = w' := by
  obtain ⟨vl, vs, hb, ho, _⟩ := h
  obtain ⟨A, c, rfl, _, _, _⟩ := ho.rd
  have h0 := hb.cell 0
  have h1 := hb.cell 1
  simp at h0 h1
  go_enter Try.func12, Try.ntmps12
  go_wp2_with fail
  go_region
  go_wp2
  go_ret
  exact ⟨rfl, rfl⟩
theorem New_any (n : Int) (M : Nat) (hM : n.toNat = M) (w : World) :
    Calls Try.prog 7 #[.int .i64 n] w fun e w' => e = .returned (.pointer (some ⟨w.heap.size, 0, none⟩)) ∧ w.alloc (.cells #[.slice none 0 0, .int .i64 M, .int .i64 0] 48) = w' := by
  by_cases h : 0 ≤ n
  · obtain ⟨k, rfl⟩ := Int.eq_ofNat_of_zero_le h
    obtain rfl : k = M := by omega
    have h2 : ¬ (k : Int) < 0 := by omega
    clear hM
    go_enter Try.func7, Try.ntmps7
    go_wp2
    go_ret
    exact ⟨rfl, rfl⟩
  · have h2 : n < 0 := by omega
    obtain rfl : M = 0 := by omega
    clear hM
    go_enter Try.func7, Try.ntmps7
    go_wp2
    go_ret
    exact ⟨rfl, rfl⟩
theorem new_box (w : World) (M : Nat) (T : Nat → Prop) : Box (w.alloc (.cells #[.slice none 0 0, .int .i64 M, .int .i64 0] 48)) w.heap.size none T [] M 0 :=
  ⟨_, [], Blk.last w 48 _ rfl, Own.nil _ 27 1, fun i h => absurd h (by simp)⟩
def lens (ls : List (List UInt8)) : Nat := (ls.map List.length).sum
theorem lens_take (ls : List (List UInt8)) (k : Nat) (h : k < ls.length) : lens (ls.take (k + 1)) = lens (ls.take k) + ls[k].length := by
  unfold lens; rw [List.take_succ_eq_append_getElem h, List.map_append, List.sum_append]; simp only [List.map_cons, List.map_nil, List.sum_cons, List.sum_nil, Nat.add_zero]
theorem lens_take_le (ls : List (List UInt8)) (k : Nat) : lens (ls.take k) ≤ lens ls := by
  have : lens ls = lens (ls.take k) + lens (ls.drop k) := by
    unfold lens; rw [← List.sum_append, ← List.map_append, List.take_append_drop]
  omega
set_option maxHeartbeats 400000 in
theorem Left_any (B : Nat) (blk : Option Nat) (T : Nat → Prop) (ls : List (List UInt8)) (most : Nat) (sent : Int) (w : World) (h : Box w B blk T ls most sent) (hl : ls.length ≤ 4294967295) (hs : lens ls ≤ 4294967295) :
    Calls Try.prog 11 #[.pointer (some ⟨B, 0, none⟩)] w fun e w' => e = .returned (.int .i64 (lens ls)) ∧ w = w' := by
  obtain ⟨vl, vs, hb, ho, ht⟩ := h
  obtain ⟨A, c, rfl, hr, _, _⟩ := ho.rd
  have hvl := ho.1
  have h0 := hb.cell 0
  simp at h0
  go_enter Try.func11, Try.ntmps11
  go_wp2
  go_loop [2, 4, 12] (fun n _ i => ∃ k : Nat, k ≤ ls.length ∧ i = .int .i64 k ∧ n = .int .i64 (lens (ls.take k))) (fun _ _ i => ls.length - (intOf i).toNat)
  case atStart => exact ⟨0, Nat.zero_le _, rfl, rfl⟩
  case round =>
    obtain ⟨k, hk, rfl, rfl⟩ := hrel
    by_cases hlt : k < ls.length
    · obtain ⟨u, hu, htx⟩ := ht k hlt
      obtain ⟨g, off, c', rfl, _, _, _⟩ := htx.bytes
      obtain ⟨b, o2, rfl, _, hc⟩ := hr.get (k := k) (by rw [hvl]; omega)
      have hcell := hc k _ hu
      have e1 := lens_take ls k hlt
      have e2 := lens_take_le ls (k + 1)
      have e3 := lens_take_le ls k
      have E1 := Lib.hid e1
      have hb2 : lens (ls.take k) + ls[k].length ≤ 4294967295 := by omega
      clear e1 e2 hvl
      generalize lens (ls.take k) = L at *
      generalize hq : ls[k].length = q at *
      go_wp2
      go_round
      case rel => exact ⟨k + 1, by omega, by go_num, by rw [E1.out]; go_num⟩
      case measure => simp [intOf]; omega
    · obtain rfl : k = ls.length := by omega
      rw [List.take_length]
      clear hvl
      go_wp2
      go_ret
      exact ⟨rfl, rfl⟩
theorem Own.empty (w : World) (e : TypeId) (size : Nat) (A : Option Addr) : Own w e size (.slice A 0 0) 0 [] none := ⟨by simp, A, 0, rfl, Nat.le_refl _, Nat.zero_le _, .inl ⟨rfl, rfl⟩⟩
theorem info5 : (Try.prog.info? 5).map (fun i => (i.zero, i.size, i.bytes)) = some (some (.int .u8 0), 1, 1) := by kernel_rfl
set_option maxHeartbeats 400000 in
theorem Clone_any (a : Option Addr) (l : List UInt8) (c : Nat) (w : World) (ha : BytesAt w a l) (h0 : l ≠ []) (hl : l.length ≤ 4294967295) :
    Calls Try.prog 21 #[.slice a l.length c] w fun e w' => ∃ A' c' blk, e = .returned (.slice A' l.length c') ∧ Own w' 5 1 (.slice A' l.length c') l.length (bcells l) blk ∧ Below w.heap.size w w' ∧ ∀ g, blk = some g → w.heap.size ≤ g := by
  obtain ⟨i0, hi0, hz0, hz1, hz2⟩ := info_parts info5
  have HL1 := Lib.hid hi0
  have HL2 := Lib.hid hz0
  have HL3 := Lib.hid hz1
  have HL4 := Lib.hid hz2
  clear hi0 hz0 hz1 hz2
  have hpos : 0 < l.length := List.length_pos_iff.2 h0
  obtain ⟨b, off, rfl, _, _⟩ := ha.get hpos
  have hn := fun w => Lib.run_eql_slice_nil (P := Try.prog) w 27 5 (some ⟨b, off, none⟩) l.length c 0 0 Try.underlying27
  go_enter Try.func21, Try.ntmps21
  go_wp2_with (at_builtin; refine wpList_append_at _ rfl _ _ _ rfl 5 i0 _ 1 1 Try.underlying27 HL1.out HL2.out HL3.out HL4.out rfl (by omega) _ 0 [] none rfl (Own.empty _ _ _ _) _ l.length c (bcells l) rfl (by simp [bcells]) (Rd.below ha ((Below.refl w.heap.size w).alloc (Nat.le_refl _) _) (Nat.le_refl _)) (bcells_one l) (by simp only [maxLen]; omega) (by omega) ?_; intro A' c' w1 blk hown hchg hat; simp only [Nat.zero_add, List.nil_append] at hown)
  go_ret
  refine ⟨A', c', blk, rfl, hown, ((Below.refl w.heap.size w).alloc (Nat.le_refl _) _).trans (hchg.below (fun i _ h => by cases h) (by simp)), fun g hg => ?_⟩
  rcases hat with h | h
  · rw [h] at hg; cases hg
  · rw [h] at hg; injection hg with hg; simp at hg; omega
theorem info27 : (Try.prog.info? 27).map (fun i => (i.zero, i.size, i.bytes)) = some (some (.slice none 0 0), 1, 24) := by kernel_rfl
theorem Put_no (B : Nat) (a : Option Addr) (c : Nat) (w : World) :
    Calls Try.prog 8 #[.pointer (some ⟨B, 0, none⟩), .slice a 0 c] w fun e w' => e = .returned (.int .i64 2) ∧ w = w' := by
  go_enter Try.func8, Try.ntmps8
  go_wp2
  go_ret
  exact ⟨rfl, rfl⟩
theorem Put_full (B : Nat) (blk : Option Nat) (T : Nat → Prop) (ls : List (List UInt8)) (most : Nat) (sent : Int) (a : Option Addr) (n c : Nat) (w : World) (h : Box w B blk T ls most sent) (hn : 0 < n)
    (hm : most ≤ 4294967295) (hl : ls.length = most) :
    Calls Try.prog 8 #[.pointer (some ⟨B, 0, none⟩), .slice a n c] w fun e w' => e = .returned (.int .i64 5) ∧ w.drew = w' := by
  have hne : ((n : Int) == 0) = false := by simp; omega
  have c1 := Room_any B blk T ls most sent w h (by omega) (by omega)
  rw [hl, Int.sub_self] at c1
  have K := Lib.hid c1
  clear c1 hl
  go_enter Try.func8, Try.ntmps8
  go_wp2_with (go_at_call 12; refine K.out.mono ?_; rintro e w' ⟨rfl, rfl⟩)
  go_ret
  exact ⟨rfl, rfl⟩
theorem Own.type_ne {w : World} {e t : TypeId} {size : Nat} {v : Value} {n : Nat} {xs : List Value} {blk : Option Nat} (h : Own w e size v n xs blk) {g : Nat} {cur : Array Value} {fr : Nat × Nat} (hg : w.heap[g]? = some (.cells cur t fr)) (hne : e ≠ t) : blk ≠ some g := by
  rintro rfl
  obtain ⟨_, _, _, _, _, _, h | ⟨g', off, cur', _, hb, hg', _⟩⟩ := h
  · cases h.2
  · injection hb with hb; subst hb
    unfold Blk at hg'
    rw [hg] at hg'
    injection hg' with hg'
    injection hg' with _ ht _
    exact hne ht.symm
theorem Own.txt {w : World} {c : Nat} {A : Option Addr} {l : List UInt8} {blk : Option Nat} (h : Own w 5 1 (.slice A l.length c) l.length (bcells l) blk) (h0 : l ≠ []) : Txt w (fun k => some k = blk) (.slice A l.length c) l := by
  have hpos : 0 < l.length := List.length_pos_iff.2 h0
  obtain ⟨_, A', c', hv, h1, h2, h | ⟨g, off, cur, rfl, rfl, hg, h3, h4⟩⟩ := h
  · omega
  · injection hv with e1 e2 e3
    subst e1 e3
    exact ⟨h0, g, off, c, cur, (0, 0), rfl, h1, h2, rfl, hg, by rw [Nat.mul_one] at h4; exact h4⟩
theorem put_done {w w1 w3 : World} {B : Nat} {blk blk1 blk2 : Option Nat} {T : Nat → Prop} {ls : List (List UInt8)} {l : List UInt8} {most : Nat} {sent : Int} {A A1 A2 : Option Addr} {cap c1 c2 : Nat} {vs : List Value}
    (h0 : l ≠ []) (hb : Blk w B 48 #[.slice A ls.length cap, .int .i64 most, .int .i64 sent]) (ho : Own w 27 1 (.slice A ls.length cap) ls.length vs blk)
    (ht : ∀ i (h : i < ls.length), ∃ u, vs[i]? = some u ∧ Txt w T u ls[i])
    (hown1 : Own w1 5 1 (.slice A1 l.length c1) l.length (bcells l) blk1) (hB1 : Below w.heap.size w w1) (hnew1 : ∀ g, blk1 = some g → w.heap.size ≤ g)
    (hb3 : Blk w3 B 48 #[.slice A ls.length cap, .int .i64 most, .int .i64 sent])
    (hown2 : Own w3 27 1 (.slice A2 (ls.length + 1) c2) (ls.length + 1) (vs ++ [.slice A1 l.length c1]) blk2) (o : Obj) (hchg : Chg (fun k => some k = blk) (w1.alloc o) w3)
    (hat2 : blk2 = blk ∨ blk2 = some (w1.alloc o).heap.size) :
    ∃ blk' T', Box (w3.setCell ⟨B, 0, none⟩ (.slice A2 (ls.length + 1) c2)) B blk' T' (ls ++ [l]) most sent ∧ Chg (fun k => k = B ∨ some k = blk) w (w3.setCell ⟨B, 0, none⟩ (.slice A2 (ls.length + 1) c2)) ∧
      (∀ g, blk' = some g → blk = some g ∨ w.heap.size ≤ g) ∧ (∀ k, T' k → T k ∨ w.heap.size ≤ k) := by
  have hvl := ho.1
  have hs1 := hB1.size
  have hlB := hb.lt
  refine ⟨blk2, fun k => T k ∨ some k = blk1, ⟨_, _, hb3.set_ 0 _, by rw [List.length_append]; exact hown2.kept (fun g hg => Below.heap_setCell _ _ _ _ (fun e => by subst e; exact hown2.type_ne hb3 (by decide) hg)), fun i hi => ?_⟩, ?_, ?_, ?_⟩
  · rw [List.length_append] at hi
    simp at hi
    rcases Nat.lt_or_ge i ls.length with h | h
    · obtain ⟨u, hu, htx⟩ := ht i h
      refine ⟨u, by rw [List.getElem?_append_left (by omega)]; exact hu, ?_⟩
      rw [List.getElem_append_left h]
      refine htx.kept fun g cur fr hT hg => ⟨?_, .inl hT⟩
      have hlt := heap_lt hg
      have n1 : g ≠ B := fun e => by subst e; unfold Blk at hb; rw [hb] at hg; injection hg with hg; injection hg with _ ht _; exact absurd ht (by decide)
      rw [Below.heap_setCell _ _ _ _ n1, hchg.block g (by simp; omega) (fun e => ho.type_ne hg (by decide) e.symm), Below.heap_alloc _ _ _ (by omega), hB1.block g hlt]
    · obtain rfl : i = ls.length := by omega
      refine ⟨.slice A1 l.length c1, by rw [List.getElem?_append_right (by omega)]; simp [hvl], ?_⟩
      rw [List.getElem_append_right (by omega)]
      simp only [Nat.sub_self, List.getElem_cons_zero]
      refine (hown1.txt h0).kept fun g cur fr hT hg => ⟨?_, .inr hT⟩
      have hge := hnew1 g hT.symm
      have hlt := heap_lt hg
      rw [Below.heap_setCell _ _ _ _ (by show g ≠ B; omega), hchg.block g (by simp; omega) (fun e => by have := ho.lt g e.symm; omega), Below.heap_alloc _ _ _ (by omega)]
  · exact (((Chg.of_below hB1 (Nat.le_refl _) _).alloc o).trans hchg (fun i hi h => .inr h)).setCell (p := ⟨B, 0, none⟩) (.inl (.inl rfl)) _
  · intro g hg
    rcases hat2 with e | e
    · exact .inl (by rw [← e]; exact hg)
    · rw [e] at hg; injection hg with hg; simp at hg; exact .inr (by omega)
  · intro k hk
    rcases hk with hk | hk
    · exact .inl hk
    · exact .inr (hnew1 k hk.symm)
set_option maxHeartbeats 800000 in
theorem Put_ok (B : Nat) (blk : Option Nat) (T : Nat → Prop) (ls : List (List UInt8)) (most : Nat) (sent : Int) (a : Option Addr) (l : List UInt8) (c : Nat) (w : World) (h : Box w B blk T ls most sent) (ha : BytesAt w a l) (h0 : l ≠ [])
    (hm : most ≤ 9223372036854775807) (hlt : ls.length < most) (hlen : ls.length ≤ 4294967295) (hl : l.length ≤ 4294967295) :
    Calls Try.prog 8 #[.pointer (some ⟨B, 0, none⟩), .slice a l.length c] w fun e w' => ∃ blk' T', e = .returned (.int .i64 0) ∧ Box w' B blk' T' (ls ++ [l]) most sent ∧ Chg (fun k => k = B ∨ some k = blk) w w' ∧
      (∀ g, blk' = some g → blk = some g ∨ w.heap.size ≤ g) ∧ (∀ k, T' k → T k ∨ w.heap.size ≤ k) := by
  have hpos : 0 < l.length := List.length_pos_iff.2 h0
  have hne : ((l.length : Int) == 0) = false := by simp; omega
  have c1 := Room_any B blk T ls most sent w h hm hlen
  have K := Lib.hid c1
  have hne2 : ((most : Int) - (ls.length : Int) == 0) = false := by simp; omega
  have hbox := h
  obtain ⟨vl, vs, hb, ho, ht⟩ := h
  obtain ⟨A, cap, rfl, hr, _, _⟩ := ho.rd
  have hc0 := hb.cell 0
  have hf0 := hb.frozen 0
  simp at hc0
  clear c1
  go_enter Try.func8, Try.ntmps8
  go_wp2_with (go_at_call 12; refine K.out.mono ?_; rintro e w' ⟨rfl, rfl⟩)
  obtain ⟨i0, hi0, hz0, hz1, hz2⟩ := info_parts info27
  have HL1 := Lib.hid hi0
  have HL2 := Lib.hid hz0
  have HL3 := Lib.hid hz1
  have HL4 := Lib.hid hz2
  clear hi0 hz0 hz1 hz2 K
  have ha2 : BytesAt w.drew.drew a l := ha
  have hBne : ∀ g, blk = some g → B ≠ g := by
    rintro g rfl
    obtain ⟨_, _, _, _, _, _, h | ⟨g', off, cur, _, hbk, hg, _⟩⟩ := ho
    · cases h.2
    · injection hbk with hbk; subst hbk; exact hb.ne_ hg (by decide)
  have hlB := hb.lt
  go_region_law (first
    | (go_simp; go_at_call 21; refine (Clone_any a l c _ ha2 h0 hl).mono ?_; rintro e w1 ⟨A1, c1, blk1, rfl, hown1, hB1, hnew1⟩; have hb1 : Blk w1 B 48 _ := Blk.below (show Blk w.drew.drew B 48 _ from hb) hB1 hlB; have hc1 : w1.cell? ⟨B, 0, none⟩ = some (.slice A ls.length cap) := (hb1.cell 0).trans rfl; have hc1a : ∀ o, (w1.alloc o).cell? ⟨B, 0, none⟩ = some (.slice A ls.length cap) := fun o => ((hb1.alloc o).cell 0).trans rfl; have ho1 := Own.kept ho (w' := w1) (fun g hg => hB1.block g (ho.lt g hg)))
    | (refine step_append_at _ (by rfl) _ _ _ (by rfl) 27 i0 _ 1 24 Try.underlying22 HL1.out HL2.out HL3.out HL4.out rfl (by omega) _ ls.length vs blk (by rfl) (ho1.kept (fun g hg => Below.heap_alloc _ _ _ (by have := ho1.lt g hg; omega))) _ 1 1 [.slice A1 l.length c1] (by rfl) (by rfl) (.inr ⟨w1.heap.size, 0, rfl, fun j u hu => by rw [cell_of_row _ _ _ _ 27 (0, 0) (heap_last _ _ rfl)]; simpa using hu⟩) (by simp [Value.oneCell']) (by simp only [maxLen]; omega) (by omega) ?_; intro A2 c2 w3 blk2 hown2 hchg hat2; have hb3 : Blk w3 B 48 _ := (hb1.alloc _).chg hchg (fun h => (hBne _ h.symm) rfl); have hc3 : w3.cell? ⟨B, 0, none⟩ = some (.slice A ls.length cap) := (hb3.cell 0).trans rfl; have hf3 := hb3.frozen 0))
  all_goals go_wp2
  all_goals go_ret
  all_goals
    obtain ⟨blk', T', d1, d2, d3, d4⟩ := put_done h0 hb ho ht hown1 (show Below w.heap.size w w1 from (((Below.refl _ _).drew).drew).trans hB1) hnew1 hb3 hown2 _ hchg hat2
    exact ⟨blk', T', rfl, d1, d2, d3, d4⟩
end Go.Proofs.Ytmjikfhabfodkaa
