/- Messages: a number written. Helper. -/
import Derived.Test.YtnbcjjgilndlaaaMsgA
import Derived.StillTailTactics
namespace Go.Proofs.Ytnbcjjgilndlaaa
open Go.RowKit
set_option linter.unusedVariables false
set_option linter.unusedSimpArgs false
set_option maxRecDepth 100000
/-- The byte of a number at a place. -/
def byteOf (v : Int) (i : Nat) : UInt8 := UInt8.ofNat ((v / 2 ^ (8 * i)) % 256).toNat
/-- A number's bytes, the highest first. -/
def beW (v : Int) : Nat → List UInt8
  | 0 => []
  | i + 1 => byteOf v i :: beW v i
theorem infoU8 : (Try.prog.info? 5).map (fun i => (i.zero, i.size, i.bytes)) = some (some (.int .u8 0), 1, 1) := by kernel_rfl
/-- A pen that writes. -/
def PenW (w : World) (P : Nat) (out : List UInt8) (blk : Option Nat) : Prop :=
  ∃ A c, Blk w P 76 #[.slice A out.length c, .bool false] ∧ Own w 5 1 (.slice A out.length c) out.length (bcells out) blk
/-- What a pen's writing leaves. -/
structure Wrote (w w' : World) (P : Nat) (blk : Option Nat) (out' : List UInt8) (blk' : Option Nat) : Prop where
  pen : PenW w' P out' blk'
  chg : Chg (fun i => i = P ∨ some i = blk) w w'
  new : blk' = blk ∨ ∃ g, blk' = some g ∧ w.heap.size ≤ g
theorem Wrote.self {w : World} {P : Nat} {out : List UInt8} {blk : Option Nat} (h : PenW w P out blk) : Wrote w w P blk out blk := ⟨h, Chg.refl _ _, .inl rfl⟩
theorem PenW.ne {w : World} {P : Nat} {out : List UInt8} {blk : Option Nat} (h : PenW w P out blk) : blk ≠ some P := by
  obtain ⟨A, c, h1, h2⟩ := h
  intro e
  obtain ⟨_, A', c', _, _, _, h | ⟨g, off, cur, _, hb, hg, _⟩⟩ := h2
  · rw [h.2] at e; cases e
  · rw [hb] at e; injection e with e
    rw [e] at hg
    exact absurd rfl (h1.ne_ hg (by decide))
theorem rd_last_row (w : World) (t : TypeId) (l : List Value) : Rd (w.alloc (.cells l.toArray t)) (some ⟨w.heap.size, 0, none⟩) l :=
  .inr ⟨w.heap.size, 0, rfl, fun j u hu => by rw [cell_of_row _ _ _ _ t (0, 0) (heap_alloc_last w _)]; simpa using hu⟩
theorem rd_last_row_at (w : World) (t : TypeId) (l : List Value) (n : Nat) (hn : w.heap.size = n) : Rd (w.alloc (.cells l.toArray t)).drew (some ⟨n, 0, none⟩) l := by subst hn; exact rd_last_row w t l
theorem byteOf_cell (v : Int) (j : Nat) : ((byteOf v j).toNat : Int) = IntKind.u8.wrap (v / 2 ^ (8 * j)) := by
  rw [IntKind.wrap_u8]
  unfold byteOf
  rw [UInt8.toNat_ofNat']
  omega
theorem Wrote.more {w wr w6 : World} {P n c c2 k j : Nat} {A A2 : Option Addr} {out pre : List UInt8} {blk blk' SB2 : Option Nat} {v Z : Int} (h : Wrote w wr P blk (out ++ pre) blk') (h1 : pre ++ beW v (j + 1) = beW v k) (h2 : pre.length + (j + 1) = k) (hn : (out ++ pre).length = n) (hZ : v / 2 ^ (8 * j) = Z)
    (ho : Own w6 5 1 (.slice A2 (n + 1) c2) (n + 1) (bcells (out ++ pre) ++ [.int .u8 (IntKind.u8.wrap Z)]) SB2) (hb : Blk w6 P 76 #[.slice A n c, .bool false])
    (hc : Chg (fun k => some k = blk') (wr.alloc (.cells #[.int .u8 (IntKind.u8.wrap Z)] 5)).drew w6) (ha : SB2 = blk' ∨ SB2 = some (wr.alloc (.cells #[.int .u8 (IntKind.u8.wrap Z)] 5)).drew.heap.size) :
    (pre ++ [byteOf v j]) ++ beW v j = beW v k ∧ (pre ++ [byteOf v j]).length + j = k ∧ Wrote w (w6.setCell ⟨P, 0, none⟩ (.slice A2 (n + 1) c2)) P blk (out ++ (pre ++ [byteOf v j])) SB2 := by
  have hlen : (out ++ (pre ++ [byteOf v j])).length = n + 1 := by rw [← hn]; simp; omega
  have hcell : bcells (out ++ (pre ++ [byteOf v j])) = bcells (out ++ pre) ++ [.int .u8 (IntKind.u8.wrap Z)] := by
    rw [← List.append_assoc]
    simp only [bcells, List.map_append, List.map_cons, List.map_nil]
    rw [byteOf_cell, hZ]
  have hw6 : wr.heap.size < w6.heap.size := by have := hc.size; simp at this; omega
  have hchg : Chg (fun i => i = P ∨ some i = blk) w w6 := by
    have hx : Chg (fun i => i = P ∨ some i = blk) w (wr.alloc (.cells #[.int .u8 (IntKind.u8.wrap Z)] 5)).drew := (h.chg.alloc _).drew
    refine hx.trans hc fun i hi he => ?_
    rcases h.new with e | ⟨g, e, hg⟩
    · rw [e] at he; exact .inr he
    · rw [e] at he; injection he with he; omega
  have hP : P < wr.heap.size := by obtain ⟨_, _, h, _⟩ := h.pen; exact h.lt
  have hne : SB2 ≠ some P := by
    rcases ha with e | e
    · rw [e]; exact h.pen.ne
    · rw [e]; intro q; injection q with q; simp at q; omega
  refine ⟨by rw [← h1]; simp [beW], by simp; omega, ⟨⟨A2, c2, ?_, ?_⟩, hchg.setCell (.inl (.inl rfl)) _, ?_⟩⟩
  · rw [hlen]; exact hb.set_ 0 _
  · rw [hlen, hcell]; exact ho.kept fun g hg => Below.heap_setCell _ _ _ _ (fun e => hne (by rw [hg, e]))
  · rcases ha with e | e
    · rw [e]; exact h.new
    · exact .inr ⟨_, e, by have := h.chg.size; simp; omega⟩
set_option maxHeartbeats 3200000 in
theorem number_write (w : World) (P Nb no : Nat) (v : Int) (out : List UInt8) (blk : Option Nat) (k : Nat) (lo hi : Int) (hP : PenW w P out blk) (hnc : w.cell? ⟨Nb, no, none⟩ = some (.int .i64 v)) (hne : Nb ≠ P) (hnb : some Nb ≠ blk) (hk : k = 1 ∨ k = 4 ∨ k = 8) (hlo : lo ≤ v) (hhi : v ≤ hi) (hv : -9223372036854775808 ≤ v ∧ v ≤ 9223372036854775807) (hl : out.length ≤ 1000000) :
    Calls Try.prog 79 #[.pointer (some ⟨P, 0, none⟩), .pointer (some ⟨Nb, no, none⟩), .int .i64 (k : Int), .int .i64 lo, .int .i64 hi] w fun e w' => e = .returned (.tuple #[]) ∧ ∃ blk', Wrote w w' P blk (out ++ beW v k) blk' := by
  have KY := Lib.hid (fun w => check_yes w)
  have HP := Lib.hid hP
  have hk8 : k ≤ 8 := by omega
  have hk1 : 1 ≤ k := by omega
  have HK := Lib.hid (And.intro hk1 hk8)
  have HN := Lib.hid (And.intro hnc (And.intro hne hnb))
  have HV := Lib.hid hv
  have HL := Lib.hid hl
  have c1 : w.cell? ⟨P, 1, none⟩ = some (.bool false) := by obtain ⟨A, c, h, _⟩ := hP; exact (h.cell 1).trans rfl
  clear hP hk hne hnb hv hl
  go_enter Try.func79, Try.ntmps79
  go_wp2_with fail
  refine (KY.out _).mono ?_
  rintro e w1 ⟨rfl, rfl⟩
  go_wp2_with fail
  go_loopw [12] (fun y wr => ∃ (j : Nat) (pre : List UInt8) (blk' : Option Nat), j ≤ k ∧ y = .int .i64 ((j : Int) - 1) ∧ Hid (pre ++ beW v j = beW v k ∧ pre.length + j = k ∧ Wrote w1 wr P blk (out ++ pre) blk')) (fun y _ => ((intOf y) + 1).toNat)
  case atStart => exact ⟨k, [], blk, Nat.le_refl _, by go_num, Lib.hid ⟨rfl, by simp, by rw [List.append_nil]; exact Wrote.self HP.out⟩⟩
  case round =>
    obtain ⟨j, pre, blk', hj, rfl, H⟩ := hrel
    cases j with
    | zero =>
      have j0 : ¬ (0 : Int) ≤ ((0 : Nat) : Int) - 1 := by omega
      go_wp2_with fail
      go_end0
      obtain ⟨h1, h2, h3⟩ := H.out
      have e : pre = beW v k := by simpa [beW] using h1
      rw [← e]
      exact ⟨rfl, blk', h3⟩
    | succ j =>
      have j0 : (0 : Int) ≤ ((j + 1 : Nat) : Int) - 1 := by omega
      obtain ⟨A, c, hb, ho⟩ := H.out.2.2.pen
      have hNb : wr.cell? ⟨Nb, no, none⟩ = some (.int .i64 v) := by
        obtain ⟨h1, h2, h3⟩ := HN.out
        have hlt := World.block_lt_of_cell? w1 _ h1
        have hb := H.out.2.2.chg.block Nb hlt (fun q => q.elim h2 h3)
        unfold World.cell? at h1 ⊢
        rw [hb]; exact h1
      obtain ⟨n, hn⟩ : ∃ n, (out ++ pre).length = n := ⟨_, rfl⟩
      rw [hn] at hb ho
      have c1' : wr.cell? ⟨P, 1, none⟩ = some (.bool false) := (hb.cell 1).trans rfl
      have c0' : wr.cell? ⟨P, 0, none⟩ = some (.slice A n c) := (hb.cell 0).trans rfl
      have y0 := hb.frozen 0
      have hlt := hb.lt
      have HB := Lib.hid hb
      have HO := Lib.hid ho
      obtain ⟨i0, hi0, hz0, hz1, hz2⟩ := info_parts infoU8
      have HL1 := Lib.hid hi0
      have HL2 := Lib.hid hz0
      have HL3 := Lib.hid hz1
      have HL4 := Lib.hid hz2
      have HNN := Lib.hid (show n ≤ 1000008 by have := HL.out; have := H.out.2.1; rw [← hn, List.length_append]; omega)
      have j1 : (0 : Int) ≤ (j : Int) := by omega
      have j2 : (j : Int) ≤ 7 := by omega
      obtain ⟨Z, hZ⟩ : ∃ Z : Int, v / 2 ^ (8 * j) = Z := ⟨_, rfl⟩
      have hsh : ∀ W, (Op.shift .shr .i64 v .i64 (IntKind.i64.wrap (8 * (j : Int)))).run Try.prog W = .ok (.int .i64 Z) W := fun W => by
        rw [show IntKind.i64.wrap (8 * (j : Int)) = ((8 * j : Nat) : Int) by rw [IntKind.wrap_i64]; omega, shift_shr_any _ _ _ _ (by omega)]
        rw [show min ((8 * j : Nat) : Int).toNat IntKind.i64.bits = 8 * j by simp [IntKind.bits]; omega, hZ]
        rfl
      have HZ := Lib.hid hZ
      have HNL := Lib.hid hn
      have HNE := Lib.hid H.out.2.2.pen.ne
      clear hi0 hz0 hz1 hz2 hb ho hn c1 hnc hZ
      rw [show ((j + 1 : Nat) : Int) - 1 = (j : Int) by omega]
      go_wp2_with fail
      go_region_law (refine step_append_at _ (by rfl) _ _ _ (by rfl) 5 i0 _ 1 1 Try.underlying22 HL1.out HL2.out HL3.out HL4.out rfl (by omega) _ n (bcells (out ++ pre)) blk' (by rfl) (HO.out.kept (fun g hg => (Below.heap_alloc _ _ _ (HO.out.lt g hg)))) _ 1 1 [.int .u8 (IntKind.u8.wrap Z)] (by rfl) (by rfl) (rd_last_row_at _ _ [.int .u8 (IntKind.u8.wrap Z)] _ (by simp)) (by intro u hu; simp at hu; subst hu; rfl) (by have := HNN.out; simp only [maxLen]; omega) (by have := HNN.out; omega) ?_; intro A2 c2 w6 SB2 hown2 hchg hat2; have hb6 : Blk w6 P 76 _ := ((HB.out.alloc _).drew).chg hchg (fun h => HNE.out h.symm); have hc6 : w6.cell? ⟨P, 0, none⟩ = some (.slice A n c) := (hb6.cell 0).trans rfl; have hg6 := hb6.frozen 0)
      all_goals
        have HC6 := Lib.hid hchg
        have HO6 := Lib.hid hown2
        have HB6 := Lib.hid hb6
        have HA6 := Lib.hid hat2
        clear hchg hown2 hb6 hat2
        go_wp2_with fail
        go_roundw
        case rel =>
          exact ⟨j, pre ++ [byteOf v j], SB2, by omega, by go_num, Lib.hid (H.out.2.2.more H.out.1 H.out.2.1 HNL.out HZ.out HO6.out HB6.out HC6.out HA6.out)⟩
        case measure => simp [intOf]
end Go.Proofs.Ytnbcjjgilndlaaa
