/- Frames: a decoder at which something is wrong; what it says of that. Helper. -/
import Derived.Test.YtalcafaibmbgjaaDoorFrmTell
namespace Go.Proofs.YtalcafaibmbgjaaDoor
open Go.RowKit
set_option linter.unusedVariables false
set_option linter.unusedSimpArgs false
set_option maxRecDepth 100000
set_option maxHeartbeats 6400000
theorem Dec.brk {w : World} {D : Nat} {l : List UInt8} {p : Nat} {e : Int} {A : Option Addr} {c : Nat} {x : Value} {blk : Option Nat} (h : Dec w D l p e A c x blk) (he : e ≠ 0) :
    l = [] ∧ ∃ B, x = .iface 54 (.pointer (some ⟨B, 0, none⟩)) ∧ Blk w B 59 #[.int .i64 (p : Int), .int .i64 e] := by
  rcases h.x with h1 | ⟨_, h2, h3⟩
  · exact absurd h1.1 he
  · exact ⟨h2, h3⟩
/-- errors.As into a new box. -/
theorem as_box (w : World) (hE : ErrT w) (e : Addr) :
    Calls Tryd.prog 20 #[.iface 54 (.pointer (some e)), .iface 57 (.pointer (some ⟨w.heap.size, 0, none⟩))] (w.alloc (.cells #[.pointer none] 54)) fun ev w' => ev = .returned (.bool true) ∧ Nw w w' ∧ w'.cell? ⟨w.heap.size, 0, none⟩ = some (.pointer (some e)) := by
  have bx := box_cell w 54 (.pointer none)
  refine (as_hit e ⟨w.heap.size, 0, none⟩ (.pointer none) _ (hE.nw ((Nw.refl w).alloc _)) bx.1 bx.2).mono ?_
  rintro ev w3 ⟨rfl, ch3, k3, _⟩
  exact ⟨rfl, (((Chg.refl (fun k => k = w.heap.size) w).alloc (.cells #[.pointer none] 54)).trans ch3 (fun _ _ h => h)).below (fun i _ h => by rw [h]; exact Nat.le_refl _) (Nat.le_refl _), k3⟩
theorem decNext_wrong (w : World) (hE : ErrT w) (D : Nat) (l : List UInt8) (p : Nat) (ee : Int) (he : ee ≠ 0) (A : Option Addr) (c : Nat) (x : Value) (blk : Option Nat) (h : Dec w D l p ee A c x blk) :
    Calls Tryd.prog 15 #[.pointer (some ⟨D, 0, none⟩)] w fun e w' => e = .returned (.tuple #[.slice none 0 0, .bool false, .int .i64 ee]) ∧ Nw w w' := by
  obtain ⟨rfl, B, rfl, hb⟩ := h.brk he
  have KA := Lib.hid (as_box w hE ⟨B, 0, none⟩)
  have c2 : w.cell? ⟨D, 2, none⟩ = some (.iface 54 (.pointer (some ⟨B, 0, none⟩))) := (h.b.cell 2).trans rfl
  have d2 : (w.alloc (.cells #[.pointer none] 54)).cell? ⟨D, 2, none⟩ = some (.iface 54 (.pointer (some ⟨B, 0, none⟩))) := ((h.b.alloc _).cell 2).trans rfl
  have HB := Lib.hid hb
  clear h hb
  go_enter Tryd.func15, Tryd.ntmps15
  go_upto_region 13 with (fail)
  go_wp2_with fail
  refine KA.out.mono ?_
  rintro e w3 ⟨rfl, n3, k3⟩
  have b1 : w3.cell? ⟨B, 1, none⟩ = some (.int .i64 ee) := ((HB.out.below n3 HB.out.lt).cell 1).trans rfl
  have N3 := Lib.hid n3
  clear n3
  go_upto_region 14 with (fail)
  go_region
  go_wp2_with fail
  go_ret3
  exact ⟨rfl, N3.out.drew⟩
theorem tell_wrong (w : World) (hE : ErrT w) (D : Nat) (l : List UInt8) (p : Nat) (ee : Int) (he : ee ≠ 0) (A : Option Addr) (c : Nat) (x : Value) (blk : Option Nat) (h : Dec w D l p ee A c x blk) :
    Calls Tryd.prog 8 #[.pointer (some ⟨D, 0, none⟩)] w fun e w' => e = .returned (.tuple #[.slice none 0 0, .int .i64 ee]) ∧ Nw w w' := by
  have KN := Lib.hid (decNext_wrong w hE D l p ee he A c x blk h)
  have q0 : (ee != 0) = true := by simp [he]
  clear h hE
  go_enter Tryd.func8, Tryd.ntmps8
  go_wp2_with fail
  refine wp_loop_rounds 1 ?_
  rw [rounds_succ]
  go_upto_region 5 with (fail)
  go_wp2_with fail
  refine KN.out.mono ?_
  rintro e w2 ⟨rfl, n2⟩
  have N2 := Lib.hid n2
  clear n2
  go_wp2_with fail
  go_ret2
  exact ⟨rfl, N2.out⟩
/-- A decoder behind the stream t, of which T was told. -/
def DecS (w : World) (D : Nat) (t : List UInt8) (T : List (Nat × Nat) × Int × Nat) (A : Option Addr) (c : Nat) (x : Value) (blk : Option Nat) : Prop :=
  Dec w D (if T.2.1 = 0 then t.drop T.2.2 else []) T.2.2 T.2.1 A c x blk
theorem pushT_any (w : World) (D : Nat) (u : List UInt8) (T : List (Nat × Nat) × Int × Nat) (A : Option Addr) (c : Nat) (x : Value) (blk : Option Nat) (h : DecS w D u T A c x blk) (hT : T.2.2 ≤ u.length) (A2 : Option Addr) (m c2 : Nat) (r : List UInt8) (hb : BytesAt w A2 r) (hm : r.length = m) (hl : u.length + m ≤ 1000000) :
    Calls Tryd.prog 7 #[.pointer (some ⟨D, 0, none⟩), .slice A2 m c2] w fun e w' => e = .returned (.tuple #[]) ∧ ∃ A' c' blk', DecS w' D (u ++ r) T A' c' x blk' ∧ Chg (decM D blk) w w' ∧ (blk' = blk ∨ blk' = some w.heap.size) := by
  unfold DecS at h
  by_cases he : T.2.1 = 0
  · rw [if_pos he, he] at h
    refine (decPush_any w D _ T.2.2 A c x blk h A2 m c2 r hb hm (by rw [List.length_drop]; omega)).mono ?_
    rintro e w' ⟨rfl, A', c', blk', d, ch, hb⟩
    refine ⟨rfl, A', c', blk', ?_, ch, hb⟩
    unfold DecS
    rw [if_pos he, he, List.drop_append_of_le_length hT]
    exact d
  · refine (decPush_no w D _ T.2.2 T.2.1 he A c x blk h A2 m c2).mono ?_
    rintro e w' ⟨rfl, rfl⟩
    refine ⟨rfl, A, c, blk, ?_, Chg.refl _ _, .inl rfl⟩
    unfold DecS
    rw [if_neg he] at h ⊢
    exact h
/-- What is told behind what was. -/
def toldX (t : List UInt8) (T : List (Nat × Nat) × Int × Nat) : List (Nat × Nat) × Int × Nat := if T.2.1 = 0 then toldF t (t.length + 1) T.2.2 else ([], T.2.1, T.2.2)
theorem tellT_any (w : World) (hE : ErrT w) (D : Nat) (hD : 0 ≠ D) (t : List UInt8) (T : List (Nat × Nat) × Int × Nat) (A : Option Addr) (c : Nat) (x : Value) (blk : Option Nat) (h : DecS w D t T A c x blk) (ht : t.length ≤ 9000) (hT : T.2.2 ≤ t.length) (hM : ∀ k, decM D blk k → k ≠ 0) (hx : ∀ B, x = .iface 54 (.pointer (some ⟨B, 0, none⟩)) → w.heap.size ≤ B ∨ True) :
    Calls Tryd.prog 8 #[.pointer (some ⟨D, 0, none⟩)] w fun e w' => ∃ A' c' es blkL, e = .returned (.tuple #[.slice A' es.length c', .int .i64 (toldX t T).2.1]) ∧ Own w' 22 1 (.slice A' es.length c') es.length (es.map Tx.v) blkL ∧ (∀ g, blkL = some g → w.heap.size ≤ g) ∧ Txs w' w.heap.size es ∧
      es.map (fun e => e.2.2.2) = (toldX t T).1.map (fun y => (t.drop y.1).take y.2) ∧ Chg (decM D blk) w w' ∧
      ∃ A2 c2 x2 blk2, DecS w' D t (toldX t T) A2 c2 x2 blk2 ∧ (blk2 = blk ∨ blk2 = none) ∧ (x2 = x ∨ ∀ B, x2 = .iface 54 (.pointer (some ⟨B, 0, none⟩)) → w.heap.size ≤ B) := by
  unfold DecS at h
  by_cases he : T.2.1 = 0
  · rw [if_pos he, he] at h
    have e1 : toldX t T = toldF t (t.length + 1) T.2.2 := if_pos he
    rw [e1]
    refine (tell_any w hE D hD t T.2.2 A c x blk h ht hT hM).mono ?_
    rintro e w' ⟨A', c', es, blkL, h1, h2, h3, h4, h5, h6, A2, c2, x2, blk2, h7, h8, h9⟩
    exact ⟨A', c', es, blkL, h1, h2, h3, h4, h5, h6, A2, c2, x2, blk2, h7, h8, .inr h9⟩
  · have e1 : toldX t T = ([], T.2.1, T.2.2) := if_neg he
    rw [e1]
    refine (tell_wrong w hE D _ _ _ he A c x blk h).mono ?_
    rintro e w' ⟨rfl, n⟩
    refine ⟨none, 0, [], none, rfl, Own.nil _ _ _, (fun g hg => by cases hg), (fun e he => by cases he), rfl, Chg.of_below n (Nat.le_refl _) _, A, c, x, blk, ?_, .inl rfl, .inl rfl⟩
    unfold DecS
    have := h.nw n
    rw [if_neg he] at this ⊢
    exact this
/-- What is told of more of a stream. -/
theorem toldX_app (u r : List UInt8) : toldF (u ++ r) ((u ++ r).length + 1) 0 = ((toldF u (u.length + 1) 0).1 ++ (toldX (u ++ r) (toldF u (u.length + 1) 0)).1, (toldX (u ++ r) (toldF u (u.length + 1) 0)).2) := by
  have h := toldF_app u r (u.length + 1) 0 ((u ++ r).length + 1) ((u ++ r).length + 1) (Nat.zero_le _) (by omega) (by omega) (by omega)
  rw [h]
  unfold toldX
  by_cases he : (toldF u (u.length + 1) 0).2.1 = 0
  · rw [if_pos he, if_pos he]
  · rw [if_neg he, if_neg he]; simp
theorem decWrong_any (w : World) (hE : ErrT w) (D : Nat) (l : List UInt8) (p : Nat) (ee : Int) (he : ee ≠ 0) (A : Option Addr) (c : Nat) (x : Value) (blk : Option Nat) (h : Dec w D l p ee A c x blk) :
    Calls Tryd.prog 18 #[.pointer (some ⟨D, 0, none⟩)] w fun e w' => ∃ B, e = .returned (.iface 54 (.pointer (some ⟨B, 0, none⟩))) ∧ Blk w' B 59 #[.int .i64 (p : Int), .int .i64 ee] ∧ Nw w w' := by
  obtain ⟨rfl, B, rfl, hb⟩ := h.brk he
  have KA := Lib.hid (as_box w hE ⟨B, 0, none⟩)
  have c2 : w.cell? ⟨D, 2, none⟩ = some (.iface 54 (.pointer (some ⟨B, 0, none⟩))) := (h.b.cell 2).trans rfl
  have d2 : (w.alloc (.cells #[.pointer none] 54)).cell? ⟨D, 2, none⟩ = some (.iface 54 (.pointer (some ⟨B, 0, none⟩))) := ((h.b.alloc _).cell 2).trans rfl
  have HB := Lib.hid hb
  clear h hb
  go_enter Tryd.func18, Tryd.ntmps18
  go_upto_region 4 with (fail)
  go_wp2_with fail
  refine KA.out.mono ?_
  rintro e w3 ⟨rfl, n3, k3⟩
  have b0 : w3.cell? ⟨B, 0, none⟩ = some (.int .i64 (p : Int)) := ((HB.out.below n3 HB.out.lt).cell 0).trans rfl
  have b1 : w3.cell? ⟨B, 1, none⟩ = some (.int .i64 ee) := ((HB.out.below n3 HB.out.lt).cell 1).trans rfl
  have N3 := Lib.hid n3
  clear n3
  go_upto_region 5 with (fail)
  go_wp2_with fail
  go_ret
  exact ⟨_, rfl, Blk.last _ _ _ rfl, N3.out.alloc _⟩
theorem decWrong_nil (w : World) (D : Nat) (l : List UInt8) (p : Nat) (A : Option Addr) (c : Nat) (x : Value) (blk : Option Nat) (h : Dec w D l p 0 A c x blk) :
    Calls Tryd.prog 18 #[.pointer (some ⟨D, 0, none⟩)] w fun e w' => e = .returned .nilIface ∧ w' = w := by
  obtain rfl := h.nil_x
  have c2 : w.cell? ⟨D, 2, none⟩ = some .nilIface := (h.b.cell 2).trans rfl
  clear h
  go_enter Tryd.func18, Tryd.ntmps18
  go_wp2_with fail
  go_ret
  exact ⟨rfl, rfl⟩
/-- What a decoder says of what is wrong is as it must be. -/
theorem wrong_any (w : World) (hE : ErrT w) (D : Nat) (l : List UInt8) (p : Nat) (ee : Int) (A : Option Addr) (c : Nat) (x : Value) (blk : Option Nat) (h : Dec w D l p ee A c x blk) :
    Calls Tryd.prog 13 #[.pointer (some ⟨D, 0, none⟩), .int .i64 ee, .int .i64 (p : Int)] w fun e w' => e = .returned (.bool true) ∧ Nw w w' := by
  by_cases he : ee = 0
  · subst he
    have KW := Lib.hid (decWrong_nil w D l p A c x blk h)
    clear h hE
    go_enter Tryd.func13, Tryd.ntmps13
    go_wp2_with fail
    refine KW.out.mono ?_
    rintro e w2 ⟨rfl, rfl⟩
    go_wp2_with fail
    go_ret
    exact ⟨rfl, Nw.refl _⟩
  · have KW := Lib.hid (decWrong_any w hE D l p ee he A c x blk h)
    have HE := Lib.hid hE
    have q0 : (ee == 0) = false := by simp [he]
    clear h hE
    go_enter Tryd.func13, Tryd.ntmps13
    go_wp2_with fail
    refine KW.out.mono ?_
    rintro e w2 ⟨B, rfl, hb, n2⟩
    have N2 := Lib.hid n2
    have HB := Lib.hid hb
    have KA := Lib.hid (as_box w2 (HE.out.nw n2) ⟨B, 0, none⟩)
    have KI := Lib.hid (is_hit B 0 ee (w2.alloc (.cells #[.pointer none] 54)) (((hb.alloc _).cell 1).trans rfl))
    clear n2 hb
    go_upto_region 5 with (fail)
    go_wp2_with fail
    refine KI.out.mono ?_
    rintro e w3 ⟨rfl, h3⟩
    rw [h3]
    clear h3 w3
    go_wp2_with fail
    refine KA.out.mono ?_
    rintro e w4 ⟨rfl, n4, k4⟩
    have b0 : w4.cell? ⟨B, 0, none⟩ = some (.int .i64 (p : Int)) := ((HB.out.below n4 HB.out.lt).cell 0).trans rfl
    have b1 : w4.cell? ⟨B, 1, none⟩ = some (.int .i64 ee) := ((HB.out.below n4 HB.out.lt).cell 1).trans rfl
    have N4 := Lib.hid (N2.out.trans (n4.mono N2.out.size))
    clear n4
    go_wp2_with fail
    go_ret
    exact ⟨rfl, N4.out⟩
end Go.Proofs.YtalcafaibmbgjaaDoor
