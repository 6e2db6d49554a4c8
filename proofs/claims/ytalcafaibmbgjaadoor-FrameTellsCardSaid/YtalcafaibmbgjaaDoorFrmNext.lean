/- Frames: the next payload of a decoder. Helper. -/
import Derived.Test.YtalcafaibmbgjaaDoorFrmLook
namespace Go.Proofs.YtalcafaibmbgjaaDoor
open Go.RowKit
set_option linter.unusedVariables false
set_option linter.unusedSimpArgs false
set_option maxRecDepth 100000
set_option maxHeartbeats 6400000
/-- Nothing whole is there. -/
def noneB (l : List UInt8) : Prop := l.length < 2 ∨ (2 ≤ l.length ∧ (1 ≤ frN l 0 ∧ frN l 0 ≤ 4096) ∧ l.length < 6 + frN l 0)
/-- A box of one cell. -/
theorem box_cell (w : World) (t : TypeId) (v : Value) : (w.alloc (.cells #[v] t)).cell? ⟨w.heap.size, 0, none⟩ = some v ∧ (w.alloc (.cells #[v] t)).frozen? ⟨w.heap.size, 0, none⟩ = false :=
  ⟨((Blk.last w t #[v] rfl).cell 0).trans rfl, (Blk.last w t #[v] rfl).frozen 0⟩
theorem Dec.set2 {w : World} {D : Nat} {l : List UInt8} {p : Nat} {A : Option Addr} {c : Nat} {blk : Option Nat} (h : Dec w D l p 0 A c .nilIface blk) : Dec (w.setCell ⟨D, 2, none⟩ .nilIface) D l p 0 A c .nilIface blk :=
  ⟨h.b.set_ 2 _, h.o.kept fun g hg => Below.heap_setCell _ _ _ g (fun e => h.ne (by rw [hg, show g = D from e])), .inl ⟨rfl, rfl⟩⟩
theorem decNext_none (w : World) (D : Nat) (l : List UInt8) (p : Nat) (A : Option Addr) (c : Nat) (x : Value) (blk : Option Nat) (h : Dec w D l p 0 A c x blk) (hl : noneB l) (hm : l.length ≤ 1000000) :
    Calls Tryd.prog 15 #[.pointer (some ⟨D, 0, none⟩)] w fun e w' => e = .returned (.tuple #[.slice none 0 0, .bool false, .int .i64 0]) ∧ Chg (decM D blk) w w' ∧ Dec w' D l p 0 A c x blk := by
  obtain rfl := h.nil_x
  have KL := Lib.hid (decLook_none w D l p A c _ blk h hl hm)
  have c2 : w.cell? ⟨D, 2, none⟩ = some .nilIface := (h.b.cell 2).trans rfl
  have z2 : w.frozen? ⟨D, 2, none⟩ = false := h.b.frozen 2
  have HH := Lib.hid h
  have hlt := h.b.lt
  clear h hl
  go_enter Tryd.func15, Tryd.ntmps15
  go_upto_region 4 with (fail)
  go_wp2_with fail
  refine KL.out.mono ?_
  rintro e w1 ⟨rfl, rfl⟩
  go_upto_region 12 with (fail)
  obtain ⟨w2, hw2⟩ : ∃ W, w1.setCell ⟨D, 2, none⟩ .nilIface = W := ⟨_, rfl⟩
  rw [hw2]
  have H2 := Lib.hid (show Dec w2 D l p 0 A c .nilIface blk ∧ Chg (decM D blk) w1 w2 by rw [← hw2]; exact ⟨HH.out.set2, (Chg.refl _ w1).setCell (.inl (.inl rfl)) _⟩)
  have d2 : (w2.alloc (.cells #[.pointer none] 54)).cell? ⟨D, 2, none⟩ = some .nilIface := ((H2.out.1.b.alloc _).cell 2).trans rfl
  clear hw2 c2 z2
  go_wp2_with fail
  refine (as_nil _ _).mono ?_
  rintro e w3 ⟨rfl, rfl⟩
  go_wp2_with fail
  go_ret3
  exact ⟨rfl, H2.out.2.alloc _, H2.out.1.nw ((Nw.refl w2).alloc _)⟩
theorem decNext_bad (w : World) (hE : ErrT w) (D : Nat) (l : List UInt8) (p : Nat) (A : Option Addr) (c : Nat) (x : Value) (blk : Option Nat) (h : Dec w D l p 0 A c x blk) (hD : 0 ≠ D) (ee : Int) (he : ee ≠ 0)
    (hL : Calls Tryd.prog 22 #[.pointer (some ⟨D, 0, none⟩)] w fun e w' => ∃ B, w.heap.size ≤ B ∧ e = .returned (.tuple #[.slice none 0 0, .bool false, .iface 54 (.pointer (some ⟨B, 0, none⟩))]) ∧ Nw w w' ∧ Blk w' B 59 #[.int .i64 (p : Int), .int .i64 ee]) :
    Calls Tryd.prog 15 #[.pointer (some ⟨D, 0, none⟩)] w fun e w' => e = .returned (.tuple #[.slice none 0 0, .bool false, .int .i64 ee]) ∧ Chg (decM D blk) w w' ∧ ∃ x', Dec w' D [] p ee none 0 x' none ∧ (∀ B, x' = .iface 54 (.pointer (some ⟨B, 0, none⟩)) → w.heap.size ≤ B) := by
  obtain rfl := h.nil_x
  have KL := Lib.hid hL
  have c2 : w.cell? ⟨D, 2, none⟩ = some .nilIface := (h.b.cell 2).trans rfl
  have HH := Lib.hid h
  have HE := Lib.hid hE
  clear h hL hE
  go_enter Tryd.func15, Tryd.ntmps15
  go_upto_region 4 with (fail)
  go_wp2_with fail
  refine KL.out.mono ?_
  rintro e w1 ⟨B, hB, rfl, n1, hb1⟩
  have H1 := Lib.hid (show Dec w1 D l p 0 A c .nilIface blk ∧ Chg (decM D blk) w w1 from ⟨HH.out.nw n1, Chg.of_below n1 (Nat.le_refl _) _⟩)
  have HB := Lib.hid (And.intro hB hb1)
  have z2 : w1.frozen? ⟨D, 2, none⟩ = false := H1.out.1.b.frozen 2
  have c2' : w1.cell? ⟨D, 2, none⟩ = some .nilIface := (H1.out.1.b.cell 2).trans rfl
  have HE1 := Lib.hid (HE.out.nw n1)
  clear n1 hb1 c2
  go_upto_region 10 with (fail)
  have c0' : (w1.setCell ⟨D, 2, none⟩ (.iface 54 (.pointer (some ⟨B, 0, none⟩)))).cell? ⟨D, 0, none⟩ = some (.slice A l.length c) := ((H1.out.1.b.set_ 2 _).cell 0).trans rfl
  have z0' : (w1.setCell ⟨D, 2, none⟩ (.iface 54 (.pointer (some ⟨B, 0, none⟩)))).frozen? ⟨D, 0, none⟩ = false := (H1.out.1.b.set_ 2 _).frozen 0
  go_upto_region 12 with (fail)
  have hne : B ≠ D := by
    have := HB.out.1; have := HH.out.b.lt; omega
  obtain ⟨w2, hw2⟩ : ∃ W, (w1.setCell ⟨D, 2, none⟩ (.iface 54 (.pointer (some ⟨B, 0, none⟩)))).setCell ⟨D, 0, none⟩ (.slice none 0 0) = W := ⟨_, rfl⟩
  rw [hw2]
  have H2 := Lib.hid (show Dec w2 D [] p ee none 0 (.iface 54 (.pointer (some ⟨B, 0, none⟩))) none ∧ Chg (decM D blk) w w2 by
    rw [← hw2]
    exact ⟨⟨(H1.out.1.b.set_ 2 _).set_ 0 _, Own.nil _ _ _, .inr ⟨he, rfl, B, rfl, (HB.out.2.far hne _).far hne _⟩⟩, (H1.out.2.setCell (.inl (.inl rfl)) _).setCell (.inl (.inl rfl)) _⟩)
  have HE2 := Lib.hid (show ErrT w2 from (HE1.out.chg (((Chg.refl (fun k => k = D) w1).setCell (.inl rfl) (.iface 54 (.pointer (some ⟨B, 0, none⟩)))).setCell (.inl rfl) (.slice none 0 0)) hD) |> fun h => by rw [← hw2]; exact h)
  have d2 : (w2.alloc (.cells #[.pointer none] 54)).cell? ⟨D, 2, none⟩ = some (.iface 54 (.pointer (some ⟨B, 0, none⟩))) := ((H2.out.1.b.alloc _).cell 2).trans rfl
  have bx := box_cell w2 54 (.pointer none)
  clear hw2 c2' z2 c0' z0'
  go_wp2_with fail
  refine (as_hit _ _ (.pointer none) _ (HE2.out.nw ((Nw.refl w2).alloc _)) bx.1 bx.2).mono ?_
  rintro e w3 ⟨rfl, ch3, k3, _⟩
  have n3 : Nw w2 w3 := (((Chg.refl (fun k => k = w2.heap.size) w2).alloc (.cells #[.pointer none] 54)).trans ch3 (fun _ _ h => h)).below (fun i _ h => by rw [h]; exact Nat.le_refl _) (Nat.le_refl _)
  have hB3 : Blk w3 B 59 #[.int .i64 (p : Int), .int .i64 ee] := by
    rcases (H2.out.1.nw n3).x with h | ⟨_, _, B', h1, h2⟩
    · exact absurd h.1 he
    · injection h1 with _ h1; injection h1 with h1; injection h1 with h1; injection h1 with h1; subst h1; exact h2
  have b1 : w3.cell? ⟨B, 1, none⟩ = some (.int .i64 ee) := (hB3.cell 1).trans rfl
  have N3 := Lib.hid n3
  clear n3 ch3 hB3
  go_upto_region 14 with (fail)
  go_region
  go_wp2_with fail
  go_ret3
  have N3' := N3.out.drew
  exact ⟨rfl, (H2.out.2.trans (Chg.of_below N3' (Nat.le_refl _) (fun _ => False)) (fun _ _ h => h.elim)), _, H2.out.1.nw N3', fun B' h => by injection h with _ h; injection h with h; injection h with h; injection h with h; subst h; exact HB.out.1⟩
theorem own_cut {w : World} {g o n c : Nat} {l : List UInt8} (h : Own w 5 1 (.slice (some ⟨g, o, none⟩) n c) n (bcells l) (some g)) (k : Nat) (hk : k ≤ n) :
    Own w 5 1 (.slice (some ⟨g, o + k, none⟩) (n - k) (c - k)) (n - k) (bcells (l.drop k)) (some g) := by
  obtain ⟨hl, A', c', e, hn, hm, h | ⟨g', off, cur, rfl, e2, hg, hs, hx⟩⟩ := h
  · cases h.2
  · injection e with e1 _ e3
    injection e1 with e1
    injection e1 with e1 e4
    subst e1 e3 e4
    refine ⟨by rw [bcells_length, List.length_drop, ← bcells_length, hl]; omega, _, _, rfl, by omega, by omega, .inr ⟨g, o + k, cur, rfl, rfl, hg, by omega, ?_⟩⟩
    have e5 : bcells (l.drop k) = (bcells l).drop k := by simp [bcells]
    rw [e5, ← hx, List.drop_take, List.drop_drop, Nat.mul_one, Nat.mul_one]
theorem decNext_ok (w : World) (D : Nat) (l : List UInt8) (p : Nat) (A : Option Addr) (c : Nat) (x : Value) (blk : Option Nat) (h : Dec w D l p 0 A c x blk)
    (h3 : 1 ≤ frN l 0 ∧ frN l 0 ≤ 4096) (h4 : 6 + frN l 0 ≤ l.length) (hm : l.length ≤ 1000000) (hp : p ≤ 1000000) (hF : frameB (frP l 0) = l.take (6 + frN l 0)) :
    Calls Tryd.prog 15 #[.pointer (some ⟨D, 0, none⟩)] w fun e w' => ∃ g' o' c', e = .returned (.tuple #[.slice (some ⟨g', o', none⟩) (frN l 0) c', .bool true, .int .i64 0]) ∧ BytesAt w' (some ⟨g', o', none⟩) (frP l 0) ∧ w.heap.size ≤ g' ∧ frN l 0 ≤ c' ∧ Chg (decM D blk) w w' ∧
      ∃ A2 c2 blk2, Dec w' D (l.drop (6 + frN l 0)) (p + (6 + frN l 0)) 0 A2 c2 .nilIface blk2 ∧ (blk2 = blk ∨ blk2 = none) := by
  obtain rfl := h.nil_x
  have KL := Lib.hid ((decLook_all w D l p A c _ blk h h3 h4 hm).mono fun e w' h => (show Nw w w' ∧ ∃ g o, blk = some g ∧ A = some ⟨g, o, none⟩ ∧ e = .returned (.tuple #[.slice (some ⟨g, o + 6, none⟩) (frN l 0) (frN l 0), .bool true, .nilIface]) from ⟨h.1, (h.2.resolve_right fun h => h.1 hF).2⟩))
  have c2 : w.cell? ⟨D, 2, none⟩ = some .nilIface := (h.b.cell 2).trans rfl
  have HH := Lib.hid h
  have hlen : (frP l 0).length = frN l 0 := by unfold frP; rw [List.length_take, List.length_drop]; omega
  have HP := Lib.hid hlen
  have HLL := Lib.hid (show frP l 0 = (l.drop 6).take (frN l 0) from by unfold frP; rw [Nat.zero_add])
  obtain ⟨n, hn⟩ : ∃ n, l.length = n := ⟨_, rfl⟩
  obtain ⟨N, hN⟩ : ∃ N, frN l 0 = N := ⟨_, rfl⟩
  have HN := Lib.hid (And.intro hn hN)
  rw [hN] at KL h3 h4 HP HLL ⊢
  rw [hn] at h4 hm
  have HNB := Lib.hid (And.intro h3 (And.intro h4 (And.intro hm hp)))
  have g6 : IntKind.i64.wrap (6 + (N : Int)) = 6 + (N : Int) := by rw [IntKind.wrap_i64]; omega
  have g7 : IntKind.i64.wrap ((p : Int) + (6 + (N : Int))) = (p : Int) + (6 + (N : Int)) := by rw [IntKind.wrap_i64]; omega
  clear h hF hlen hn hN h3 h4 hm hp
  go_enter Tryd.func15, Tryd.ntmps15
  go_upto_region 4 with (fail)
  go_wp2_with fail
  refine KL.out.mono ?_
  rintro e w1 ⟨n1, g, o, rfl, rfl, rfl⟩
  have H1 := Lib.hid (HH.out.nw n1)
  have N1 := Lib.hid n1
  have c0 : w1.cell? ⟨D, 0, none⟩ = some (.slice (some ⟨g, o, none⟩) n c) := (H1.out.b.cell 0).trans (by rw [HN.out.1]; rfl)
  have z0 : w1.frozen? ⟨D, 0, none⟩ = false := H1.out.b.frozen 0
  have hnc : n ≤ c := by have := (own_rdA H1.out.o).2.1; rw [HN.out.1] at this; exact this
  have i1 : 6 + (N : Int) ≤ (n : Int) := by have := HNB.out; omega
  have i2 : (n : Int) ≤ (c : Int) := by omega
  have i3 : (0 : Int) ≤ 6 + (N : Int) := by omega
  have i4 : (6 + (N : Int)).toNat = 6 + N := by omega
  have i5 : max (6 + (N : Int)) 0 = 6 + (N : Int) := by omega
  clear n1 c2 hnc
  go_upto_region 6 with (fail)
  by_cases hc : c = 6 + N
  · have e1 : ((c : Nat) : Int) = 6 + (N : Int) := by omega
    have e2 : n = 6 + N := by have := HNB.out; omega
    subst hc
    subst e2
    go_upto_region 7 with (fail)
    obtain ⟨w2, hw2⟩ : ∃ W, w1.setCell ⟨D, 0, none⟩ (.slice (some ⟨g, o, none⟩) 0 0) = W := ⟨_, rfl⟩
    rw [hw2]
    have H2 := Lib.hid (show Blk w2 D 49 #[.slice (some ⟨g, o, none⟩) 0 0, .int .i64 (p : Int), .nilIface] by rw [← hw2]; exact H1.out.b.set_ 0 _)
    have C2 := Lib.hid (show Chg (fun k => k = D) w1 w2 by rw [← hw2]; exact (Chg.refl (fun k => k = D) w1).setCell (.inl rfl) _)
    have c1 : w2.cell? ⟨D, 1, none⟩ = some (.int .i64 (p : Int)) := (H2.out.cell 1).trans rfl
    have z1 : w2.frozen? ⟨D, 1, none⟩ = false := H2.out.frozen 1
    clear hw2 c0 z0
    go_upto_region 8 with (fail)
    obtain ⟨w3, hw3⟩ : ∃ W, w2.setCell ⟨D, 1, none⟩ (.int .i64 ((p : Int) + (6 + (N : Int)))) = W := ⟨_, rfl⟩
    rw [hw3]
    have H3 := Lib.hid (show Blk w3 D 49 #[.slice (some ⟨g, o, none⟩) 0 0, .int .i64 ((p : Int) + (6 + (N : Int))), .nilIface] by rw [← hw3]; exact H2.out.set_ 1 _)
    have C3 := Lib.hid (show Chg (fun k => k = D) w1 w3 by rw [← hw3]; exact C2.out.setCell (.inl rfl) _)
    clear hw3 c1 z1
    have hgD : g ≠ D := fun e => H1.out.ne (by rw [e])
    have ho := H1.out.o.chg C3.out (fun k hk (e : k = D) => hgD (by injection hk with hk; rw [hk, e]))
    have hbp : BytesAt w3 (some ⟨g, o + 6, none⟩) (frP l 0) := by
      rw [HLL.out]; exact bytes_sub (own_rdA ho).1 6 N (by have := HNB.out; have := HN.out; omega)
    have KC := Lib.hid (frmClone_any w3 (some ⟨g, o + 6, none⟩) N N (frP l 0) hbp HP.out (by have := HNB.out; omega))
    have HO := Lib.hid ho
    clear ho hbp
    go_wp2_with fail
    refine KC.out.mono ?_
    rintro e w4 ⟨A4, c4, rfl, hb4, hc4, n4, hor⟩
    obtain ⟨g4, o4, rfl, hg4⟩ : ∃ g o, A4 = some ⟨g, o, none⟩ ∧ w3.heap.size ≤ g := by
      rcases hor with h | h
      · have := HP.out; rw [h] at this; have := HNB.out; simp at *; omega
      · exact h
    have F4 := Lib.hid (And.intro hb4 (And.intro hg4 (And.intro hc4 n4)))
    clear hb4 hg4 hc4 n4 hor
    go_wp2_with fail
    go_ret3
    have hsz : w.heap.size ≤ g4 := Nat.le_trans N1.out.size (Nat.le_trans C3.out.size F4.out.2.1)
    have hch : Chg (decM D (some g)) w w4 := ((Chg.of_below N1.out (Nat.le_refl _) (decM D (some g))).trans (C3.out.mono (fun k _ h => (.inl h : decM D (some g) k))) (fun _ _ h => h)).trans (Chg.of_below F4.out.2.2.2 (Nat.le_refl _) (fun _ => False)) (fun _ _ h => h.elim)
    have hlen : (l.drop (6 + N)).length = 0 := by rw [List.length_drop, HN.out.1]; omega
    refine ⟨g4, o4, c4, rfl, F4.out.1, hsz, F4.out.2.2.1, hch, (some ⟨g, o, none⟩), 0, none, ⟨?_, ?_, .inl ⟨rfl, rfl⟩⟩, .inr rfl⟩
    · rw [hlen]
      have := H3.out.below F4.out.2.2.2 H3.out.lt
      rw [show (((p + (6 + N) : Nat)) : Int) = (p : Int) + (6 + (N : Int)) by push_cast; rfl]
      exact this
    · rw [hlen]
      rw [show l.drop (6 + N) = [] from List.eq_nil_of_length_eq_zero hlen]
      exact own_void' _ _ _ _
  · have e1 : ¬ ((c : Nat) : Int) = 6 + (N : Int) := by omega
    have e2 : ¬ c = 6 + N := hc
    go_upto_region 7 with (fail)
    obtain ⟨w2, hw2⟩ : ∃ W, w1.setCell ⟨D, 0, none⟩ (.slice (some ⟨g, o + (6 + N), none⟩) (n - (6 + N)) (c - (6 + N))) = W := ⟨_, rfl⟩
    rw [hw2]
    have H2 := Lib.hid (show Blk w2 D 49 #[.slice (some ⟨g, o + (6 + N), none⟩) (n - (6 + N)) (c - (6 + N)), .int .i64 (p : Int), .nilIface] by rw [← hw2]; exact H1.out.b.set_ 0 _)
    have C2 := Lib.hid (show Chg (fun k => k = D) w1 w2 by rw [← hw2]; exact (Chg.refl (fun k => k = D) w1).setCell (.inl rfl) _)
    have c1 : w2.cell? ⟨D, 1, none⟩ = some (.int .i64 (p : Int)) := (H2.out.cell 1).trans rfl
    have z1 : w2.frozen? ⟨D, 1, none⟩ = false := H2.out.frozen 1
    clear hw2 c0 z0
    go_upto_region 8 with (fail)
    obtain ⟨w3, hw3⟩ : ∃ W, w2.setCell ⟨D, 1, none⟩ (.int .i64 ((p : Int) + (6 + (N : Int)))) = W := ⟨_, rfl⟩
    rw [hw3]
    have H3 := Lib.hid (show Blk w3 D 49 #[.slice (some ⟨g, o + (6 + N), none⟩) (n - (6 + N)) (c - (6 + N)), .int .i64 ((p : Int) + (6 + (N : Int))), .nilIface] by rw [← hw3]; exact H2.out.set_ 1 _)
    have C3 := Lib.hid (show Chg (fun k => k = D) w1 w3 by rw [← hw3]; exact C2.out.setCell (.inl rfl) _)
    clear hw3 c1 z1
    have hgD : g ≠ D := fun e => H1.out.ne (by rw [e])
    have ho := H1.out.o.chg C3.out (fun k hk (e : k = D) => hgD (by injection hk with hk; rw [hk, e]))
    have hbp : BytesAt w3 (some ⟨g, o + 6, none⟩) (frP l 0) := by
      rw [HLL.out]; exact bytes_sub (own_rdA ho).1 6 N (by have := HNB.out; have := HN.out; omega)
    have KC := Lib.hid (frmClone_any w3 (some ⟨g, o + 6, none⟩) N N (frP l 0) hbp HP.out (by have := HNB.out; omega))
    have HO := Lib.hid ho
    clear ho hbp
    go_wp2_with fail
    refine KC.out.mono ?_
    rintro e w4 ⟨A4, c4, rfl, hb4, hc4, n4, hor⟩
    obtain ⟨g4, o4, rfl, hg4⟩ : ∃ g o, A4 = some ⟨g, o, none⟩ ∧ w3.heap.size ≤ g := by
      rcases hor with h | h
      · have := HP.out; rw [h] at this; have := HNB.out; simp at *; omega
      · exact h
    have F4 := Lib.hid (And.intro hb4 (And.intro hg4 (And.intro hc4 n4)))
    clear hb4 hg4 hc4 n4 hor
    go_wp2_with fail
    go_ret3
    have hsz : w.heap.size ≤ g4 := Nat.le_trans N1.out.size (Nat.le_trans C3.out.size F4.out.2.1)
    have hch : Chg (decM D (some g)) w w4 := ((Chg.of_below N1.out (Nat.le_refl _) (decM D (some g))).trans (C3.out.mono (fun k _ h => (.inl h : decM D (some g) k))) (fun _ _ h => h)).trans (Chg.of_below F4.out.2.2.2 (Nat.le_refl _) (fun _ => False)) (fun _ _ h => h.elim)
    have hlen : (l.drop (6 + N)).length = (n - (6 + N)) := by rw [List.length_drop, HN.out.1]
    refine ⟨g4, o4, c4, rfl, F4.out.1, hsz, F4.out.2.2.1, hch, (some ⟨g, o + (6 + N), none⟩), (c - (6 + N)), (some g), ⟨?_, ?_, .inl ⟨rfl, rfl⟩⟩, .inl rfl⟩
    · rw [hlen]
      have := H3.out.below F4.out.2.2.2 H3.out.lt
      rw [show (((p + (6 + N) : Nat)) : Int) = (p : Int) + (6 + (N : Int)) by push_cast; rfl]
      exact this
    · rw [hlen]
      have h5 := HO.out
      rw [HN.out.1] at h5
      exact (own_cut h5 (6 + N) (by have := HNB.out; omega)).kept fun k hk => F4.out.2.2.2.block k (H1.out.o.lt k hk |> fun h => Nat.lt_of_lt_of_le h C3.out.size)
end Go.Proofs.YtalcafaibmbgjaaDoor
