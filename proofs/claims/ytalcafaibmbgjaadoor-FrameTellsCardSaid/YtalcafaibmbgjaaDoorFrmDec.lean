/- Frames: a decoder in memory; what it is made as, what it is pushed. Helper. -/
import Derived.Test.YtalcafaibmbgjaaDoorFrmNum
import Derived.Test.YtalcafaibmbgjaaDoorFrmErrB
import Derived.Deep.RegionHeld3
import Derived.Deep.RegionWith
namespace Go.Proofs.YtalcafaibmbgjaaDoor
open Go.RowKit
set_option linter.unusedVariables false
set_option linter.unusedSimpArgs false
set_option maxRecDepth 100000
set_option maxHeartbeats 3200000
theorem own_rdA {w : World} {e : TypeId} {size : Nat} {A : Option Addr} {n c : Nat} {xs : List Value} {blk : Option Nat} (h : Own w e size (.slice A n c) n xs blk) : Rd w A xs ∧ n ≤ c ∧ c ≤ maxLen := by
  obtain ⟨_, _, e, h1, h2, h3⟩ := h.rd
  injection e with e1 _ e3
  subst e1 e3
  exact ⟨h1, h2, h3⟩
theorem own_void' (w : World) (e : TypeId) (size : Nat) (A : Option Addr) : Own w e size (.slice A 0 0) 0 [] none := ⟨by simp, A, 0, rfl, Nat.le_refl _, Nat.zero_le _, .inl ⟨rfl, rfl⟩⟩
theorem own_place {w : World} {e : TypeId} {size : Nat} {A : Option Addr} {n c : Nat} {xs : List Value} {blk : Option Nat} (h : Own w e size (.slice A n c) n xs blk) : xs = [] ∨ ∃ g o, A = some ⟨g, o, none⟩ ∧ blk = some g := by
  obtain ⟨hl, A', c', e, hn, _, h | ⟨g, off, cur, rfl, rfl, _, _, _⟩⟩ := h
  · injection e with e1 _ e3
    subst e1 e3
    obtain rfl : n = 0 := by omega
    exact .inl (List.eq_nil_of_length_eq_zero (by simpa using hl))
  · injection e with e1 _ e3
    subst e1 e3
    exact .inr ⟨g, off, rfl, rfl⟩
theorem frmClone_any (w : World) (A : Option Addr) (n c : Nat) (bs : List UInt8) (hb : BytesAt w A bs) (hn : bs.length = n) (hl : n ≤ 1000000) :
    Calls Tryd.prog 23 #[.slice A n c] w fun e w' => ∃ A' c', e = .returned (.slice A' n c') ∧ BytesAt w' A' bs ∧ n ≤ c' ∧ Nw w w' ∧ (bs = [] ∨ ∃ g o, A' = some ⟨g, o, none⟩ ∧ w.heap.size ≤ g) := by
  have heq := fun w => Lib.run_eql_slice_nil (P := Tryd.prog) w 22 5 A n c 0 0 Tryd.underlying22
  cases A with
  | none =>
    have h0 : bs = [] := by
      rcases hb with h | ⟨b, o, e, _⟩
      · simpa [bcells] using h
      · cases e
    subst h0
    simp at hn
    subst hn
    clear hb
    go_enter Tryd.func23, Tryd.ntmps23
    go_wp2_with fail
    go_ret
    exact ⟨none, 0, rfl, .inl rfl, Nat.le_refl _, Nw.refl w, by simp⟩
  | some a =>
    obtain ⟨i0, hi0, hz0, hz1, hz2⟩ := info_parts infoU8f
    have HL1 := Lib.hid hi0
    have HL2 := Lib.hid hz0
    have HL3 := Lib.hid hz1
    have HL4 := Lib.hid hz2
    have HB := Lib.hid hb
    have HN := Lib.hid hn
    clear hi0 hz0 hz1 hz2 hb hn
    go_enter Tryd.func23, Tryd.ntmps23
    go_wp2_with (at_builtin; refine wpList_append_at _ rfl _ _ _ rfl 5 i0 _ 1 1 Tryd.underlying22 HL1.out HL2.out HL3.out HL4.out rfl (by omega) _ 0 [] none rfl (own_void' _ _ _ _) _ n c (bcells bs) rfl (by rw [bcells_length, HN.out]; omega) (Rd.below HB.out ((Below.refl w.heap.size w).alloc (Nat.le_refl _) _) (Nat.le_refl _)) (bcells_one bs) (by simp only [maxLen]; omega) (by omega) ?_; intro A' c' w' blk' hown hchg hat; have HO := Lib.hid hown; have HC := Lib.hid hchg; have HT := Lib.hid hat; clear hown hchg hat; rw [show 0 + n = n by omega])
    go_ret
    obtain ⟨A2, c2, e, hrd, hnc, _⟩ := HO.out.rd
    injection e with e1 _ e3
    subst e1 e3
    refine ⟨A', c', rfl, (by simpa [BytesAt] using hrd), by omega, ((Below.refl w.heap.size w).alloc (Nat.le_refl _) _).trans (HC.out.below (fun i _ h => by cases h) (by simp)), ?_⟩
    rcases own_place HO.out with h | ⟨g, o, h1, h2⟩
    · left
      have := congrArg List.length h
      rw [List.nil_append, bcells_length] at this
      exact List.eq_nil_of_length_eq_zero this
    · right
      refine ⟨g, o, h1, ?_⟩
      rcases HT.out with h | h
      · rw [h2] at h; cases h
      · rw [h2] at h; injection h with h; subst h; simp
/-- A decoder in memory: what is left, where that stands, what is wrong (0: nothing). -/
structure Dec (w : World) (D : Nat) (l : List UInt8) (p : Nat) (e : Int) (A : Option Addr) (c : Nat) (x : Value) (blk : Option Nat) : Prop where
  b : Blk w D 49 #[.slice A l.length c, .int .i64 (p : Int), x]
  o : Own w 5 1 (.slice A l.length c) l.length (bcells l) blk
  x : (e = 0 ∧ x = .nilIface) ∨ (e ≠ 0 ∧ l = [] ∧ ∃ B, x = .iface 54 (.pointer (some ⟨B, 0, none⟩)) ∧ Blk w B 59 #[.int .i64 (p : Int), .int .i64 e])
/-- The blocks that a decoder turns. -/
def decM (D : Nat) (blk : Option Nat) (k : Nat) : Prop := k = D ∨ some k = blk
theorem Dec.ne {w : World} {D : Nat} {l : List UInt8} {p : Nat} {e : Int} {A : Option Addr} {c : Nat} {x : Value} {blk : Option Nat} (h : Dec w D l p e A c x blk) : blk ≠ some D := by
  rintro rfl
  obtain ⟨_, _, _, _, _, _, h2 | ⟨g, off, cur, _, e2, hg, _⟩⟩ := h.o
  · cases h2.2
  · injection e2 with e2; subst e2
    exact h.b.ne_ hg (by decide) rfl
theorem Dec.chg {M : Nat → Prop} {w w' : World} {D : Nat} {l : List UInt8} {p : Nat} {e : Int} {A : Option Addr} {c : Nat} {x : Value} {blk : Option Nat} (h : Dec w D l p e A c x blk) (hc : Chg M w w') (hM : ∀ k, decM D blk k → ¬ M k) (hB : ∀ B, x = .iface 54 (.pointer (some ⟨B, 0, none⟩)) → ¬ M B) : Dec w' D l p e A c x blk := by
  refine ⟨h.b.chg hc (hM D (.inl rfl)), h.o.chg hc fun g hg => hM g (.inr hg.symm), ?_⟩
  rcases h.x with h1 | ⟨h1, h2, B, h3, h4⟩
  · exact .inl h1
  · exact .inr ⟨h1, h2, B, h3, h4.chg hc (hB B h3)⟩
theorem Dec.nw {w w' : World} {D : Nat} {l : List UInt8} {p : Nat} {e : Int} {A : Option Addr} {c : Nat} {x : Value} {blk : Option Nat} (h : Dec w D l p e A c x blk) (n : Nw w w') : Dec w' D l p e A c x blk :=
  h.chg (Chg.of_below n (Nat.le_refl _) (fun _ => False)) (fun _ _ h => h) (fun _ _ h => h)
theorem decNew_any (w : World) : Calls Tryd.prog 6 #[] w fun e w' => e = .returned (.pointer (some ⟨w.heap.size, 0, none⟩)) ∧ Dec w' w.heap.size [] 0 0 none 0 .nilIface none ∧ Nw w w' := by
  go_enter Tryd.func6, Tryd.ntmps6
  go_wp2_with fail
  go_ret
  exact ⟨rfl, ⟨Blk.last _ _ _ rfl, Own.nil _ _ _, .inl ⟨rfl, rfl⟩⟩, (Nw.refl w).alloc _⟩
theorem decRest_any (w : World) (D : Nat) (l : List UInt8) (p : Nat) (e : Int) (A : Option Addr) (c : Nat) (x : Value) (blk : Option Nat) (h : Dec w D l p e A c x blk) :
    Calls Tryd.prog 10 #[.pointer (some ⟨D, 0, none⟩)] w fun e w' => e = .returned (.int .i64 (l.length : Int)) ∧ w' = w := by
  have c0 : w.cell? ⟨D, 0, none⟩ = some (.slice A l.length c) := (h.b.cell 0).trans rfl
  clear h
  go_enter Tryd.func10, Tryd.ntmps10
  go_wp2_with fail
  go_ret
  exact ⟨rfl, rfl⟩
theorem decPush_any (w : World) (D : Nat) (l : List UInt8) (p : Nat) (A : Option Addr) (c : Nat) (x : Value) (blk : Option Nat) (h : Dec w D l p 0 A c x blk) (A2 : Option Addr) (m c2 : Nat) (r : List UInt8) (hb : BytesAt w A2 r) (hm : r.length = m) (hl : l.length + m ≤ 1000000) :
    Calls Tryd.prog 7 #[.pointer (some ⟨D, 0, none⟩), .slice A2 m c2] w fun e w' => e = .returned (.tuple #[]) ∧ ∃ A' c' blk', Dec w' D (l ++ r) p 0 A' c' x blk' ∧ Chg (decM D blk) w w' ∧ (blk' = blk ∨ blk' = some w.heap.size) := by
  obtain rfl : x = .nilIface := by
    rcases h.x with h1 | h1
    · exact h1.2
    · exact absurd rfl h1.1
  have c0 : w.cell? ⟨D, 0, none⟩ = some (.slice A l.length c) := (h.b.cell 0).trans rfl
  have c2' : w.cell? ⟨D, 2, none⟩ = some .nilIface := (h.b.cell 2).trans rfl
  obtain ⟨i0, hi0, hz0, hz1, hz2⟩ := info_parts infoU8f
  have HL1 := Lib.hid hi0
  have HL2 := Lib.hid hz0
  have HL3 := Lib.hid hz1
  have HL4 := Lib.hid hz2
  have HB := Lib.hid hb
  have HH := Lib.hid h
  have HM := Lib.hid (And.intro hm hl)
  obtain ⟨n, hn⟩ : ∃ n, l.length = n := ⟨_, rfl⟩
  have HNN := Lib.hid hn
  rw [hn] at c0
  clear hi0 hz0 hz1 hz2 hb h hm hl hn
  go_enter Tryd.func7, Tryd.ntmps7
  go_upto_region 1 with (fail)
  go_wp2_with (at_builtin; refine wpList_append_at _ rfl _ _ _ rfl 5 i0 _ 1 1 Tryd.underlying22 HL1.out HL2.out HL3.out HL4.out rfl (by omega) _ n (bcells l) blk rfl (by have := HH.out.o; rw [HNN.out] at this; exact this) _ m c2 (bcells r) rfl (by rw [bcells_length, HM.out.1]; omega) HB.out (bcells_one r) (by have := HM.out; have := HNN.out; simp only [maxLen]; omega) (by have := HM.out; have := HNN.out; omega) ?_; intro A' c' w' blk' hown hchg hat; have HO := Lib.hid hown; have HC := Lib.hid hchg; have HT := Lib.hid hat; have HD := Lib.hid (HH.out.b.chg hchg fun h => HH.out.ne h.symm); have k0 : w'.cell? ⟨D, 0, none⟩ = some (.slice A n c) := (HD.out.cell 0).trans (by rw [HNN.out]; rfl); have kz : w'.frozen? ⟨D, 0, none⟩ = false := HD.out.frozen 0; clear hown hchg hat)
  go_end0
  have hlen : (l ++ r).length = n + m := by rw [List.length_append, HNN.out, HM.out.1]
  have hb2 : Blk (w'.setCell ⟨D, 0, none⟩ (.slice A' (n + m) c')) D 49 #[.slice A' (l ++ r).length c', .int .i64 (p : Int), .nilIface] := by
    rw [hlen]; exact HD.out.set_ 0 _
  refine ⟨rfl, A', c', blk', ⟨hb2, ?_, .inl ⟨rfl, rfl⟩⟩, (HC.out.mono fun k _ h => .inr h).setCell (.inl (.inl rfl)) _, HT.out⟩
  have ho := HO.out
  rw [hlen, show bcells (l ++ r) = bcells l ++ bcells r by simp [bcells]]
  refine ho.kept fun g hg => Below.heap_setCell _ _ _ g ?_
  intro hgD
  rw [show g = D from hgD] at hg
  obtain ⟨cur, hcur⟩ : ∃ cur, Blk w' D 5 cur := by
    obtain ⟨_, _, _, _, _, _, h2 | ⟨g, off, cur, _, e2, hg2, _⟩⟩ := ho
    · rw [hg] at h2; cases h2.2
    · rw [hg] at e2; injection e2 with e2; subst e2; exact ⟨cur, hg2⟩
  exact HD.out.ne_ hcur (by decide) rfl
/-- Where something is wrong, what is pushed is let be. -/
theorem decPush_no (w : World) (D : Nat) (l : List UInt8) (p : Nat) (e : Int) (he : e ≠ 0) (A : Option Addr) (c : Nat) (x : Value) (blk : Option Nat) (h : Dec w D l p e A c x blk) (A2 : Option Addr) (m c2 : Nat) :
    Calls Tryd.prog 7 #[.pointer (some ⟨D, 0, none⟩), .slice A2 m c2] w fun e w' => e = .returned (.tuple #[]) ∧ w' = w := by
  obtain ⟨B, rfl⟩ : ∃ B, x = .iface 54 (.pointer (some ⟨B, 0, none⟩)) := by
    rcases h.x with h1 | ⟨_, _, B, h1, _⟩
    · exact absurd h1.1 he
    · exact ⟨B, h1⟩
  have c2' : w.cell? ⟨D, 2, none⟩ = some (.iface 54 (.pointer (some ⟨B, 0, none⟩))) := (h.b.cell 2).trans rfl
  clear h
  go_enter Tryd.func7, Tryd.ntmps7
  go_wp2_with fail
  refine bodyPost_ret (results_none rfl _ _ _) rfl ?_
  exact ⟨rfl, rfl⟩
end Go.Proofs.YtalcafaibmbgjaaDoor
