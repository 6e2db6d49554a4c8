/- Frames: what a decoder finds: nothing whole, something wrong, a payload. Helper. -/
import Derived.Test.YtalcafaibmbgjaaDoorFrmDec
namespace Go.Proofs.YtalcafaibmbgjaaDoor
open Go.RowKit
set_option linter.unusedVariables false
set_option linter.unusedSimpArgs false
set_option maxRecDepth 100000
set_option maxHeartbeats 3200000
theorem Dec.nil_x {w : World} {D : Nat} {l : List UInt8} {p : Nat} {A : Option Addr} {c : Nat} {x : Value} {blk : Option Nat} (h : Dec w D l p 0 A c x blk) : x = .nilIface := by
  rcases h.x with h1 | h1
  · exact h1.2
  · exact absurd rfl h1.1
theorem numB_two (l : List UInt8) (h : 2 ≤ l.length) : numB (l.take 2) = frN l 0 := by
  match l, h with
  | a :: b :: r, _ => simp [numB, frN]; omega
theorem numB_four (l : List UInt8) (h : 6 ≤ l.length) : ∃ b0 b1 b2 b3 b4 b5, l.take 6 = [b0, b1, b2, b3, b4, b5] ∧ (l.drop 2).take 4 = [b2, b3, b4, b5] ∧ 256 * b0.toNat + b1.toNat = frN l 0 ∧ numB ((l.drop 2).take 4) = 16777216 * b2.toNat + 65536 * b3.toNat + 256 * b4.toNat + b5.toNat := by
  match l, h with
  | b0 :: b1 :: b2 :: b3 :: b4 :: b5 :: r, _ => exact ⟨b0, b1, b2, b3, b4, b5, rfl, rfl, by simp [frN], by simp [numB]; omega⟩
/-- The sums are alike: the frame stands there. -/
theorem frame_iff (l : List UInt8) (h1 : 1 ≤ frN l 0 ∧ frN l 0 ≤ 4096) (h2 : 6 + frN l 0 ≤ l.length) : (crcMore 0#32 (frP l 0)).toNat = numB ((l.drop 2).take 4) ↔ frameB (frP l 0) = l.take (6 + frN l 0) := by
  obtain ⟨b0, b1, b2, b3, b4, b5, e1, e2, e3, e4⟩ := numB_four l (by omega)
  have hlen : (frP l 0).length = frN l 0 := by unfold frP; simp; omega
  rw [e4, ← head_iff (frN l 0) _ b0 b1 b2 b3 b4 b5 e3]
  unfold frameB
  rw [hlen, show l.take (6 + frN l 0) = l.take 6 ++ (l.drop 6).take (frN l 0) from List.take_add, e1]
  constructor
  · intro h; rw [h]; rfl
  · intro h; exact (List.append_inj h rfl).1
theorem decLook_none (w : World) (D : Nat) (l : List UInt8) (p : Nat) (A : Option Addr) (c : Nat) (x : Value) (blk : Option Nat) (h : Dec w D l p 0 A c x blk)
    (hl : l.length < 2 ∨ (2 ≤ l.length ∧ (1 ≤ frN l 0 ∧ frN l 0 ≤ 4096) ∧ l.length < 6 + frN l 0)) (hm : l.length ≤ 1000000) :
    Calls Tryd.prog 22 #[.pointer (some ⟨D, 0, none⟩)] w fun e w' => e = .returned (.tuple #[.slice none 0 0, .bool false, .nilIface]) ∧ w' = w := by
  have c0 : w.cell? ⟨D, 0, none⟩ = some (.slice A l.length c) := (h.b.cell 0).trans rfl
  have HR := Lib.hid (own_rdA h.o)
  obtain ⟨n, hn⟩ : ∃ n, l.length = n := ⟨_, rfl⟩
  rw [hn] at c0 hl hm HR
  have HN := Lib.hid hn
  clear h hn
  rcases hl with h2 | ⟨h2, ⟨h3, h4⟩, h5⟩
  · have g1 : (n : Int) < 2 := by omega
    clear h2
    go_enter Tryd.func22, Tryd.ntmps22
    go_wp2_with fail
    go_ret3
    exact ⟨rfl, rfl⟩
  · have g1 : ¬ (n : Int) < 2 := by omega
    have hcc : (2 : Int) ≤ (c : Int) := by have := HR.out.2; omega
    have KN := Lib.hid (num_any w A 2 2 (l.take 2) (BytesAt.take HR.out.1 2) (by rw [List.length_take, HN.out]; omega) (by omega))
    rw [numB_two l (by rw [HN.out]; exact h2)] at KN
    obtain ⟨N, hN⟩ : ∃ N, frN l 0 = N := ⟨_, rfl⟩
    rw [hN] at h3 h4 h5 KN
    have g2 : ((N : Int) == 0) = false := by simp; omega
    have g3 : ¬ (4096 : Int) < (N : Int) := by omega
    have g4 : (n : Int) < 6 + (N : Int) := by omega
    have g5 : IntKind.i64.wrap (N : Int) = (N : Int) := by rw [IntKind.wrap_i64]; omega
    have g6 : IntKind.i64.wrap (6 + (N : Int)) = 6 + (N : Int) := by rw [IntKind.wrap_i64]; omega
    clear h2 h3 h4 h5
    go_enter Tryd.func22, Tryd.ntmps22
    go_upto_region 3 with (fail)
    go_wp2_with fail
    refine KN.out.mono ?_
    rintro e w1 ⟨rfl, rfl⟩
    go_wp2_with fail
    go_ret3
    exact ⟨rfl, rfl⟩
theorem decLook_len (w : World) (D : Nat) (l : List UInt8) (p : Nat) (A : Option Addr) (c : Nat) (x : Value) (blk : Option Nat) (h : Dec w D l p 0 A c x blk)
    (h2 : 2 ≤ l.length) (h3 : frN l 0 < 1 ∨ 4096 < frN l 0) (hm : l.length ≤ 1000000) :
    Calls Tryd.prog 22 #[.pointer (some ⟨D, 0, none⟩)] w fun e w' => e = .returned (.tuple #[.slice none 0 0, .bool false, .iface 54 (.pointer (some ⟨w.heap.size, 0, none⟩))]) ∧ Nw w w' ∧ Blk w' w.heap.size 59 #[.int .i64 (p : Int), .int .i64 10] := by
  have c0 : w.cell? ⟨D, 0, none⟩ = some (.slice A l.length c) := (h.b.cell 0).trans rfl
  have c1 : w.cell? ⟨D, 1, none⟩ = some (.int .i64 (p : Int)) := (h.b.cell 1).trans rfl
  have HR := Lib.hid (own_rdA h.o)
  obtain ⟨n, hn⟩ : ∃ n, l.length = n := ⟨_, rfl⟩
  rw [hn] at c0 h2 hm HR
  have HN := Lib.hid hn
  clear h hn
  have g1 : ¬ (n : Int) < 2 := by omega
  have hcc : (2 : Int) ≤ (c : Int) := by have := HR.out.2; omega
  have KN := Lib.hid (num_any w A 2 2 (l.take 2) (BytesAt.take HR.out.1 2) (by rw [List.length_take, HN.out]; omega) (by omega))
  rw [numB_two l (by rw [HN.out]; exact h2)] at KN
  have hN65 : frN l 0 < 65536 := by
    have a := (l.getD 0 0).toNat_lt; have b := (l.getD (0 + 1) 0).toNat_lt; unfold frN; omega
  obtain ⟨N, hN⟩ : ∃ N, frN l 0 = N := ⟨_, rfl⟩
  rw [hN] at h3 KN hN65
  have g5 : IntKind.i64.wrap (N : Int) = (N : Int) := by rw [IntKind.wrap_i64]; omega
  clear h2
  rcases h3 with h3 | h3
  · obtain rfl : N = 0 := by omega
    clear h3
    go_enter Tryd.func22, Tryd.ntmps22
    go_upto_region 3 with (fail)
    go_wp2_with fail
    refine KN.out.mono ?_
    rintro e w1 ⟨rfl, rfl⟩
    go_upto_region 5 with (fail)
    go_region
    go_wp2_with fail
    go_ret3
    exact ⟨rfl, ((Nw.refl w1).alloc _).drew, Blk.last w1 _ _ rfl⟩
  · have g2 : ((N : Int) == 0) = false := by simp; omega
    have g3 : (4096 : Int) < (N : Int) := by omega
    clear h3
    go_enter Tryd.func22, Tryd.ntmps22
    go_upto_region 3 with (fail)
    go_wp2_with fail
    refine KN.out.mono ?_
    rintro e w1 ⟨rfl, rfl⟩
    go_upto_region 5 with (fail)
    go_region
    go_wp2_with fail
    go_ret3
    exact ⟨rfl, ((Nw.refl w1).alloc _).drew, Blk.last w1 _ _ rfl⟩
theorem decLook_all (w : World) (D : Nat) (l : List UInt8) (p : Nat) (A : Option Addr) (c : Nat) (x : Value) (blk : Option Nat) (h : Dec w D l p 0 A c x blk)
    (h3 : 1 ≤ frN l 0 ∧ frN l 0 ≤ 4096) (h4 : 6 + frN l 0 ≤ l.length) (hm : l.length ≤ 1000000) :
    Calls Tryd.prog 22 #[.pointer (some ⟨D, 0, none⟩)] w fun e w' => Nw w w' ∧
      ((frameB (frP l 0) = l.take (6 + frN l 0) ∧ ∃ g o, blk = some g ∧ A = some ⟨g, o, none⟩ ∧ e = .returned (.tuple #[.slice (some ⟨g, o + 6, none⟩) (frN l 0) (frN l 0), .bool true, .nilIface])) ∨
       (frameB (frP l 0) ≠ l.take (6 + frN l 0) ∧ ∃ B, w.heap.size ≤ B ∧ e = .returned (.tuple #[.slice none 0 0, .bool false, .iface 54 (.pointer (some ⟨B, 0, none⟩))]) ∧ Blk w' B 59 #[.int .i64 (p : Int), .int .i64 11])) := by
  have c0 : w.cell? ⟨D, 0, none⟩ = some (.slice A l.length c) := (h.b.cell 0).trans rfl
  have c1 : w.cell? ⟨D, 1, none⟩ = some (.int .i64 (p : Int)) := (h.b.cell 1).trans rfl
  have HR := Lib.hid (own_rdA h.o)
  have HIF := Lib.hid (frame_iff l h3 h4)
  obtain ⟨n, hn⟩ : ∃ n, l.length = n := ⟨_, rfl⟩
  obtain ⟨g, o, rfl, rfl⟩ : ∃ g o, A = some ⟨g, o, none⟩ ∧ blk = some g := by
    rcases own_place h.o with h0 | h0
    · have := congrArg List.length h0; rw [bcells_length] at this; simp at this; rw [this] at h4; simp at h4
    · exact h0
  rw [hn] at c0 h4 hm HR
  have HN := Lib.hid hn
  clear h hn
  have g1 : ¬ (n : Int) < 2 := by omega
  have hcc : (2 : Int) ≤ (c : Int) := by have := HR.out.2; omega
  have KN := Lib.hid (num_any w (some ⟨g, o, none⟩) 2 2 (l.take 2) (BytesAt.take HR.out.1 2) (by rw [List.length_take, HN.out]; omega) (by omega))
  rw [numB_two l (by rw [HN.out]; omega)] at KN
  have KM := Lib.hid (fun (W : World) (hW : Nw w W) => num_any W (some ⟨g, o + 2, none⟩) 4 4 ((l.drop 2).take 4) (Rd.below (bytes_sub HR.out.1 2 4 (by rw [HN.out]; omega)) hW (Nat.le_refl _)) (by rw [List.length_take, List.length_drop, HN.out]; omega) (by omega))
  have KS := Lib.hid (fun (W : World) (hW : Nw w W) => by
    have hlen : (frP l 0).length = frN l 0 := by unfold frP; rw [List.length_take, List.length_drop, HN.out]; omega
    have hb : BytesAt W (some ⟨g, o + 6, none⟩) (frP l 0) := Rd.below (bytes_sub HR.out.1 6 (frN l 0) (by rw [HN.out]; omega)) hW (Nat.le_refl _)
    have h := Sum_any (some ⟨g, o + 6, none⟩) (frP l 0) (frN l 0) W hb (by omega)
    rw [hlen] at h
    exact h)
  obtain ⟨N, hN⟩ : ∃ N, frN l 0 = N := ⟨_, rfl⟩
  obtain ⟨S1, hS1⟩ : ∃ S, (crcMore 0#32 (frP l 0)).toNat = S := ⟨_, rfl⟩
  obtain ⟨S2, hS2⟩ : ∃ S, numB ((l.drop 2).take 4) = S := ⟨_, rfl⟩
  rw [hN] at h3 h4 KN KS HIF ⊢
  rw [hS1] at KS HIF
  rw [hS2] at KM HIF
  have g2 : ((N : Int) == 0) = false := by simp; omega
  have g3 : ¬ (4096 : Int) < (N : Int) := by omega
  have g4 : ¬ (n : Int) < 6 + (N : Int) := by omega
  have g5 : IntKind.i64.wrap (N : Int) = (N : Int) := by rw [IntKind.wrap_i64]; omega
  have g6 : IntKind.i64.wrap (6 + (N : Int)) = 6 + (N : Int) := by rw [IntKind.wrap_i64]; omega
  have g7 : 6 + (N : Int) ≤ (c : Int) := by have := HR.out.2; omega
  have g8 : (6 : Int) ≤ (c : Int) := by have := HR.out.2; omega
  have g9 : ¬ (6 + (N : Int)) = 6 := by omega
  have k1 : ¬ 6 + N = 6 := by omega
  have k2 : (6 : Int) ≤ 6 + (N : Int) := by omega
  have k3 : max (6 + (N : Int)) 0 = 6 + (N : Int) := by omega
  have k4 : (6 + (N : Int)).toNat = 6 + N := by omega
  have HNB := Lib.hid (And.intro h3 h4)
  obtain ⟨T, hT⟩ : ∃ T, l.take (6 + N) = T := ⟨_, rfl⟩
  obtain ⟨F, hF⟩ : ∃ F, frameB (frP l 0) = F := ⟨_, rfl⟩
  rw [hF, hT] at HIF ⊢
  clear h3 h4 hN hS1 hS2 hT hF
  go_enter Tryd.func22, Tryd.ntmps22
  go_upto_region 3 with (fail)
  go_wp2_with fail
  refine KN.out.mono ?_
  rintro e w1 ⟨rfl, rfl⟩
  go_upto_region 9 with (fail)
  have i0 := Nw.refl w1
  have i00 := i0.drew
  by_cases hS : S1 = S2
  · have q1 : ((S1 : Int) != (S2 : Int)) = false := by simp [hS]
    have q2 : ¬ ¬ ((S1 : Int) = (S2 : Int)) := by simp [hS]
    have HST := Lib.hid (HIF.out.1 hS)
    subst hS
    clear HIF
    go_region_held3 (fun W => Nw w1 W ∧ W.cell? ⟨D, 0, none⟩ = some (.slice (some ⟨g, o, none⟩) n c)) (first | exact ⟨i0, c0⟩ | exact ⟨i0.drew, c0⟩ | exact ⟨by assumption, Nw.cell (by assumption) c0⟩ | exact ⟨Nw.drew (by assumption), Nw.cell (by assumption) c0⟩) (first
      | (go_at_call 17; refine (KS.out _ (by assumption)).mono ?_; rintro e wS ⟨rfl, b'⟩; have iS : Nw w1 wS := Nw.step (by assumption) b')
      | (go_at_call 32; refine (KM.out _ (by assumption)).mono ?_; rintro e wS ⟨rfl, rfl⟩))
    go_wp2_with fail
    go_ret3
    exact ⟨by first | assumption | exact Nw.drew (by assumption), .inl ⟨HST.out, g, o, rfl, rfl, rfl⟩⟩
  · have q1 : ((S1 : Int) != (S2 : Int)) = true := by simp; omega
    have q2 : ¬ ((S1 : Int) = (S2 : Int)) := by omega
    have HST := Lib.hid (fun h => hS (HIF.out.2 h))
    clear hS
    clear HIF
    go_region_held3 (fun W => Nw w1 W ∧ W.cell? ⟨D, 0, none⟩ = some (.slice (some ⟨g, o, none⟩) n c)) (first | exact ⟨i0, c0⟩ | exact ⟨i0.drew, c0⟩ | exact ⟨by assumption, Nw.cell (by assumption) c0⟩ | exact ⟨Nw.drew (by assumption), Nw.cell (by assumption) c0⟩) (first
      | (go_at_call 17; refine (KS.out _ (by assumption)).mono ?_; rintro e wS ⟨rfl, b'⟩; have iS : Nw w1 wS := Nw.step (by assumption) b')
      | (go_at_call 32; refine (KM.out _ (by assumption)).mono ?_; rintro e wS ⟨rfl, rfl⟩))
    have NW := Lib.hid iS
    have c1' := iS.cell c1
    have c1'' : wS.drew.cell? ⟨D, 1, none⟩ = some (.int .i64 (p : Int)) := c1'
    clear iS
    go_upto_region 10 with (fail)
    go_region
    go_wp2_with fail
    go_ret3
    exact ⟨(NW.out.alloc _).drew, .inr ⟨HST.out, _, NW.out.size, rfl, Blk.last _ _ _ rfl⟩⟩
end Go.Proofs.YtalcafaibmbgjaaDoor
