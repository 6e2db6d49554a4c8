/- Messages: maps with numbers as keys, written out. Helper. -/
import Derived.Test.YtnbcjjgilndlaaaRdLib
import Derived.Recover
import Derived.Test.YtnbcjjgilndlaaaProg
import Derived.Deep.RegionHeld3
import Derived.Deep.RegionWith
import Derived.Deep.RegionLaw
import Derived.WalkLawsBesides
import Derived.Sort.Walk7a
import Derived.StillTailTactics
import Derived.Defers
import Derived.Tactics2
import Derived.Laws.Pointers
import Derived.Shelf.Abstract
import Derived.MapKept
import Derived.RangeFuncRecord
namespace Go.Proofs.Ytnbcjjgilndlaaa
open Go.RowKit
set_option linter.unusedVariables false
set_option linter.unusedSimpArgs false
set_option maxRecDepth 100000
/-- What ends reading, or writing. -/
def boom : List PanicEntry := [{ v := .iface 128 (.agg #[]), recovered := false }]
theorem check_yes (w : World) : Calls Try.prog 64 #[.bool true] w fun e w' => e = .returned (.tuple #[]) ∧ w' = w := by
  go_enter Try.func64, Try.ntmps64
  go_wp2_with fail
  go_end0
  exact ⟨rfl, rfl⟩
theorem check_no (w : World) : Calls Try.prog 64 #[.bool false] w fun e w' => e = .panicked boom ∧ w' = w := by
  go_enter Try.func64, Try.ntmps64
  go_wp2_with fail
  exact ⟨rfl, rfl, rfl⟩
/-- The number of bytes, the highest first. -/
def beN (l : List UInt8) : Nat := l.foldl (fun a x => a * 256 + x.toNat) 0
def s64 (n : Nat) : Int := if n < 9223372036854775808 then (n : Int) else (n : Int) - 18446744073709551616
theorem beN_snoc (l : List UInt8) (x : UInt8) : beN (l ++ [x]) = beN l * 256 + x.toNat := by simp [beN]
theorem beN_lt (l : List UInt8) : beN l < 256 ^ l.length := by
  suffices h : ∀ m : List UInt8, beN m.reverse < 256 ^ m.length by have := h l.reverse; simpa using this
  intro m
  induction m with
  | nil => simp [beN]
  | cons x m ih =>
    rw [List.reverse_cons, beN_snoc, List.length_cons, Nat.pow_succ]
    have := x.toNat_lt
    omega
theorem BytesAt.far {w : World} {a : Option Addr} {l : List UInt8} (h : BytesAt w a l) {p : Addr} (u : Value) (hA : ∀ b o, a = some ⟨b, o, none⟩ → b ≠ p.block) : BytesAt (w.setCell p u) a l := by
  rcases h with h | ⟨b, o, e, h⟩
  · exact .inl h
  · refine .inr ⟨b, o, e, fun j v hv => ?_⟩
    rw [World.cell?_setCell_other _ _ _ _ (fun q => hA b o e (by rw [q]))]
    exact h j v hv
theorem s64_small {n : Nat} (h : n < 9223372036854775808) : s64 n = (n : Int) := if_pos h
theorem add_block (a : Addr) (i : Nat) : (a.add i).block = a.block := by unfold Addr.add; split <;> rfl
/-- A slice's text from k on. -/
def cutA (A : Option Addr) (c k : Nat) : Option Addr := if c = k then A else A.map fun x => x.add k
theorem cutA_block {A : Option Addr} {c k : Nat} {a : Addr} (h : cutA A c k = some a) : ∃ a0, A = some a0 ∧ a.block = a0.block := by
  unfold cutA at h
  split at h
  · exact ⟨a, h, rfl⟩
  · cases A with
    | none => cases h
    | some x => injection h with h; exact ⟨x, rfl, by rw [← h]; exact add_block x k⟩
theorem ofInt_wrap (n : Nat) (h : n < 18446744073709551616) : (BitVec.ofInt 64 (wrap64 (n : Int))).toNat = n := by
  rw [BitVec.toNat_ofInt]
  unfold wrap64
  have : ((2 ^ 64 : Nat) : Int) = 18446744073709551616 := by simp
  rw [this]
  omega
theorem or_step (U x : Nat) (hU : U < 72057594037927936) (hx : x < 256) : bits .or .i64 (wrap64 ((U : Int) * 256)) (wrap64 (x : Int)) = s64 (U * 256 + x) := by
  have h0 : ((U : Int) * 256) = ((U * 256 : Nat) : Int) := by push_cast; rfl
  have h1 : U * 256 ||| x = U * 256 + x := by
    have := Nat.two_pow_add_eq_or_of_lt (i := 8) (b := x) (by omega) U
    rw [show U * 256 = 2 ^ 8 * U by omega]
    exact this.symm
  rw [h0]
  show IntKind.i64.wrap ((BitVec.ofInt 64 (wrap64 ((U * 256 : Nat) : Int)) ||| BitVec.ofInt 64 (wrap64 (x : Int))).toNat : Int) = _
  rw [BitVec.toNat_or, ofInt_wrap _ (by omega), ofInt_wrap _ (by omega), h1]
  rw [IntKind.wrap_i64]
  unfold s64
  split <;> omega
set_option maxHeartbeats 3200000 in
theorem number_read (w : World) (P Nb no : Nat) (v : Int) (A : Option Addr) (n c : Nat) (bs : List UInt8) (k : Nat) (lo hi : Int) (hP : Blk w P 76 #[.slice A n c, .bool true]) (hb : BytesAt w A bs) (hn : bs.length = n) (hc : n ≤ c) (hnc : w.cell? ⟨Nb, no, none⟩ = some (.int .i64 v)) (hnf : w.frozen? ⟨Nb, no, none⟩ = false) (hne : Nb ≠ P) (hA : ∀ a, A = some a → a.block ≠ P ∧ a.block ≠ Nb) (hk : k = 1 ∨ k = 4 ∨ k = 8) (hkn : k ≤ n) (hlo : lo ≤ s64 (beN (bs.take k))) (hhi : s64 (beN (bs.take k)) ≤ hi) :
    Calls Try.prog 79 #[.pointer (some ⟨P, 0, none⟩), .pointer (some ⟨Nb, no, none⟩), .int .i64 (k : Int), .int .i64 lo, .int .i64 hi] w fun e w' => e = .returned (.tuple #[]) ∧ w' = (w.setCell ⟨Nb, no, none⟩ (.int .i64 (s64 (beN (bs.take k))))).setCell ⟨P, 0, none⟩ (.slice (cutA A c k) (n - k) (c - k)) ∧ BytesAt w' (cutA A c k) (bs.drop k) := by
  have c0 : w.cell? ⟨P, 0, none⟩ = some (.slice A n c) := (hP.cell 0).trans rfl
  have c1 : w.cell? ⟨P, 1, none⟩ = some (.bool true) := (hP.cell 1).trans rfl
  have g1 : (k : Int) ≤ (n : Int) := by omega
  have KY := Lib.hid (fun w => check_yes w)
  go_enter Try.func79, Try.ntmps79
  go_wp2_with fail
  refine (KY.out _).mono ?_
  rintro e w1 ⟨rfl, rfl⟩
  have g2 : (k : Int) ≤ (c : Int) := by omega
  have c00 : (w1.setCell ⟨Nb, no, none⟩ (.int .i64 0)).cell? ⟨P, 0, none⟩ = some (.slice A n c) := ((hP.far (p := ⟨Nb, no, none⟩) hne.symm _).cell 0).trans rfl
  have HP := Lib.hid hP
  have HBS := Lib.hid hb
  have HA := Lib.hid hA
  have HN := Lib.hid (And.intro hnc hnf)
  have HK := Lib.hid (And.intro hk (And.intro hkn hn))
  have HI := Lib.hid (And.intro hlo hhi)
  clear hP hb hA hk hlo hhi hn
  go_wp2_with fail
  go_loopw [34] (fun y wr => ∃ i : Nat, i ≤ k ∧ y = .int .i64 (i : Int) ∧ wr = w1.setCell ⟨Nb, no, none⟩ (.int .i64 (s64 (beN (bs.take i))))) (fun y _ => k - (intOf y).toNat)
  case atStart => exact ⟨0, Nat.zero_le _, rfl, by simp [beN, s64]⟩
  case round =>
    obtain ⟨i, hi, rfl, rfl⟩ := hrel
    have d1 : ∀ u, (w1.setCell ⟨Nb, no, none⟩ u).cell? ⟨Nb, no, none⟩ = some u := fun u => World.cell?_setCell_same' _ _ _ (by rw [HN.out.1]; rfl)
    have d2 : ∀ u, (w1.setCell ⟨Nb, no, none⟩ u).frozen? ⟨Nb, no, none⟩ = false := fun u => by rw [World.frozen?_setCell]; exact HN.out.2
    have d3 : ∀ u, (w1.setCell ⟨Nb, no, none⟩ u).cell? ⟨P, 0, none⟩ = some (.slice A n c) := fun u => ((HP.out.far (p := ⟨Nb, no, none⟩) hne.symm _).cell 0).trans rfl
    by_cases hlt : i < k
    · have i1 : (i : Int) < (k : Int) := by omega
      have hk8 : k ≤ 8 := by have := HK.out; omega
      obtain ⟨b, off, rfl, hblt, hcell⟩ := HBS.out.get (k := i) (by have := HK.out; omega)
      have d0 : ∀ u, (w1.setCell ⟨Nb, no, none⟩ u).cell? ⟨b, off + i, none⟩ = some (.int .u8 ((bs[i]'(by have := HK.out; omega)).toNat : Int)) := fun u => by
        rw [World.cell?_setCell_other _ _ _ _ (fun q => (HA.out _ rfl).2 (by injection q with q; exact q.symm))]; exact hcell
      have hU : beN (bs.take i) < 72057594037927936 := by
        have h1 := beN_lt (bs.take i)
        have h2 : (bs.take i).length ≤ 7 := by rw [List.length_take]; have := HK.out; omega
        exact Nat.lt_of_lt_of_le h1 (Nat.pow_le_pow_right (by omega) h2)
      have hV : beN (bs.take (i + 1)) = beN (bs.take i) * 256 + (bs[i]'(by have := HK.out; omega)).toNat := by
        rw [List.take_succ_eq_append_getElem (by have := HK.out; omega), beN_snoc]
      have hx := (bs[i]'(by have := HK.out; omega)).toNat_lt
      have HV := Lib.hid hV
      obtain ⟨U, hUe⟩ : ∃ U, beN (bs.take i) = U := ⟨_, rfl⟩
      obtain ⟨x, hxe⟩ : ∃ x : Nat, (bs[i]'(by have := HK.out; omega)).toNat = x := ⟨_, rfl⟩
      have HUX := Lib.hid (And.intro hUe hxe)
      rw [hUe] at hU ⊢
      rw [hxe] at d0 hx
      rw [s64_small (by omega)]
      have HB := Lib.hid (And.intro hU hx)
      have e1 := d1 (.int .i64 (U : Int))
      have e2 := d2 (.int .i64 (U : Int))
      have e0 := d0 (.int .i64 (U : Int))
      clear hUe hxe hV hcell d0 d1 d2 d3 hU hx
      go_wp2_with fail
      refine ⟨⟨i + 1, hlt, by go_num, ?_⟩, by simp [intOf]; omega⟩
      rw [or_step U x HB.out.1 HB.out.2, Go.Proofs.setCell_setCell, HV.out, HUX.out.1, HUX.out.2]
    · obtain rfl : i = k := by omega
      have i1 : ¬ (i : Int) < (i : Int) := by omega
      have hgo : i ≤ c := by omega
      have hi8 : i ≤ 8 := by have := HK.out; omega
      obtain ⟨V, hVe⟩ : ∃ V, s64 (beN (bs.take i)) = V := ⟨_, rfl⟩
      rw [hVe] at HI ⊢
      obtain ⟨h1, h2⟩ := HI.out
      have e1 := d1 (.int .i64 V)
      have e2 := d2 (.int .i64 V)
      have e3 := d3 (.int .i64 V)
      have e4 : (w1.setCell ⟨Nb, no, none⟩ (.int .i64 V)).frozen? ⟨P, 0, none⟩ = false := (HP.out.far (p := ⟨Nb, no, none⟩) hne.symm _).frozen 0
      have hcut := (HBS.out.far (p := ⟨Nb, no, none⟩) (.int .i64 V) (fun b o e => (HA.out _ e).2)).cut c (k := i) (by have := HK.out; omega) (by have := HK.out; omega)
      have HC := Lib.hid hcut
      have f1 : ∀ u, ((w1.setCell ⟨Nb, no, none⟩ (.int .i64 V)).setCell ⟨P, 0, none⟩ u).cell? ⟨Nb, no, none⟩ = some (.int .i64 V) := fun u => by
        rw [World.cell?_setCell_other _ _ _ _ (fun q => hne (by injection q with q; exact q.symm))]; exact e1
      have f2 : ∀ u, ((w1.setCell ⟨Nb, no, none⟩ (.int .i64 V)).setCell ⟨P, 0, none⟩ u).cell? ⟨P, 1, none⟩ = some (.bool true) := fun u => (((HP.out.far (p := ⟨Nb, no, none⟩) hne.symm _).set_ 0 u).cell 1).trans rfl
      clear d1 d2 d3 hcut
      by_cases hci : c = i
      · have hci' : (c : Int) = (i : Int) := by omega
        rw [if_pos hci] at HC
        go_wp2_with fail
        refine (KY.out _).mono ?_
        rintro e w9 ⟨rfl, rfl⟩
        go_wp2_with fail
        go_loopw [12] (fun y wr => y = .int .i64 ((i : Int) - 1) ∧ wr = (w1.setCell ⟨Nb, no, none⟩ (.int .i64 V)).setCell ⟨P, 0, none⟩ (.slice (A) (n - i) (c - i))) (fun _ _ => 0)
        case atStart => exact ⟨by go_num, by first | rfl | rw [hci, Nat.sub_self]⟩
        case round =>
          obtain ⟨rfl, rfl⟩ := hrel
          have j0 : (0 : Int) ≤ (i : Int) - 1 := by have := HK.out; omega
          go_wp2_with fail
          go_end0
          rw [show cutA A c i = A from if_pos hci]
          exact ⟨rfl, by rw [hVe, hci, Nat.sub_self], (HC.out.far (p := ⟨P, 0, none⟩) _ (fun b o e => (HA.out _ e).1))⟩
      · have hci' : ¬ (c : Int) = (i : Int) := by omega
        rw [if_neg hci] at HC
        go_wp2_with fail
        refine (KY.out _).mono ?_
        rintro e w9 ⟨rfl, rfl⟩
        go_wp2_with fail
        go_loopw [12] (fun y wr => y = .int .i64 ((i : Int) - 1) ∧ wr = (w1.setCell ⟨Nb, no, none⟩ (.int .i64 V)).setCell ⟨P, 0, none⟩ (.slice (Option.map (fun x => x.add i) A) (n - i) (c - i))) (fun _ _ => 0)
        case atStart => exact ⟨by go_num, rfl⟩
        case round =>
          obtain ⟨rfl, rfl⟩ := hrel
          have j0 : (0 : Int) ≤ (i : Int) - 1 := by have := HK.out; omega
          go_wp2_with fail
          go_end0
          rw [show cutA A c i = Option.map (fun x => x.add i) A from if_neg hci]
          exact ⟨rfl, by rw [hVe], (HC.out.far (p := ⟨P, 0, none⟩) _ (fun b o e => by
            cases hAA : A with
            | none => rw [hAA] at e; cases e
            | some a =>
              rw [hAA] at e
              injection e with e
              have e : a.add i = _ := e
              have h3 := (HA.out a hAA).1
              rw [← add_block a i, e] at h3
              exact h3))⟩
end Go.Proofs.Ytnbcjjgilndlaaa
/- Messages: a number written. Helper. -/
namespace Go.Proofs.Ytnbcjjgilndlaaa
open Go.RowKit
set_option linter.unusedVariables false
set_option linter.unusedSimpArgs false
set_option maxRecDepth 100000
/-- The byte of a number at a place. -/
def byteOf (v : Int) (i : Nat) : UInt8 := UInt8.ofNat ((v / 2 ^ (8 * i)) % 256).toNat
/-- A number's bytes, the highest first. -/
def beW (v : Int) : Nat → List UInt8
  | 0 => []
  | i + 1 => byteOf v i :: beW v i
theorem infoU8 : (Try.prog.info? 5).map (fun i => (i.zero, i.size, i.bytes)) = some (some (.int .u8 0), 1, 1) := by kernel_rfl
/-- A pen that writes. -/
def PenW (w : World) (P : Nat) (out : List UInt8) (blk : Option Nat) : Prop :=
  ∃ A c, Blk w P 76 #[.slice A out.length c, .bool false] ∧ Own w 5 1 (.slice A out.length c) out.length (bcells out) blk
/-- What a pen's writing leaves. -/
structure Wrote (w w' : World) (P : Nat) (blk : Option Nat) (out' : List UInt8) (blk' : Option Nat) : Prop where
  pen : PenW w' P out' blk'
  chg : Chg (fun i => i = P ∨ some i = blk) w w'
  new : blk' = blk ∨ ∃ g, blk' = some g ∧ w.heap.size ≤ g
theorem Wrote.self {w : World} {P : Nat} {out : List UInt8} {blk : Option Nat} (h : PenW w P out blk) : Wrote w w P blk out blk := ⟨h, Chg.refl _ _, .inl rfl⟩
theorem PenW.ne {w : World} {P : Nat} {out : List UInt8} {blk : Option Nat} (h : PenW w P out blk) : blk ≠ some P := by
  obtain ⟨A, c, h1, h2⟩ := h
  intro e
  obtain ⟨_, A', c', _, _, _, h | ⟨g, off, cur, _, hb, hg, _⟩⟩ := h2
  · rw [h.2] at e; cases e
  · rw [hb] at e; injection e with e
    rw [e] at hg
    exact absurd rfl (h1.ne_ hg (by decide))
theorem rd_last_row (w : World) (t : TypeId) (l : List Value) : Rd (w.alloc (.cells l.toArray t)) (some ⟨w.heap.size, 0, none⟩) l :=
  .inr ⟨w.heap.size, 0, rfl, fun j u hu => by rw [cell_of_row _ _ _ _ t (0, 0) (heap_alloc_last w _)]; simpa using hu⟩
theorem rd_last_row_at (w : World) (t : TypeId) (l : List Value) (n : Nat) (hn : w.heap.size = n) : Rd (w.alloc (.cells l.toArray t)).drew (some ⟨n, 0, none⟩) l := by subst hn; exact rd_last_row w t l
theorem byteOf_cell (v : Int) (j : Nat) : ((byteOf v j).toNat : Int) = IntKind.u8.wrap (v / 2 ^ (8 * j)) := by
  rw [IntKind.wrap_u8]
  unfold byteOf
  rw [UInt8.toNat_ofNat']
  omega
theorem Wrote.more {w wr w6 : World} {P n c c2 k j : Nat} {A A2 : Option Addr} {out pre : List UInt8} {blk blk' SB2 : Option Nat} {v Z : Int} (h : Wrote w wr P blk (out ++ pre) blk') (h1 : pre ++ beW v (j + 1) = beW v k) (h2 : pre.length + (j + 1) = k) (hn : (out ++ pre).length = n) (hZ : v / 2 ^ (8 * j) = Z)
    (ho : Own w6 5 1 (.slice A2 (n + 1) c2) (n + 1) (bcells (out ++ pre) ++ [.int .u8 (IntKind.u8.wrap Z)]) SB2) (hb : Blk w6 P 76 #[.slice A n c, .bool false])
    (hc : Chg (fun k => some k = blk') (wr.alloc (.cells #[.int .u8 (IntKind.u8.wrap Z)] 5)).drew w6) (ha : SB2 = blk' ∨ SB2 = some (wr.alloc (.cells #[.int .u8 (IntKind.u8.wrap Z)] 5)).drew.heap.size) :
    (pre ++ [byteOf v j]) ++ beW v j = beW v k ∧ (pre ++ [byteOf v j]).length + j = k ∧ Wrote w (w6.setCell ⟨P, 0, none⟩ (.slice A2 (n + 1) c2)) P blk (out ++ (pre ++ [byteOf v j])) SB2 := by
  have hlen : (out ++ (pre ++ [byteOf v j])).length = n + 1 := by rw [← hn]; simp; omega
  have hcell : bcells (out ++ (pre ++ [byteOf v j])) = bcells (out ++ pre) ++ [.int .u8 (IntKind.u8.wrap Z)] := by
    rw [← List.append_assoc]
    simp only [bcells, List.map_append, List.map_cons, List.map_nil]
    rw [byteOf_cell, hZ]
  have hw6 : wr.heap.size < w6.heap.size := by have := hc.size; simp at this; omega
  have hchg : Chg (fun i => i = P ∨ some i = blk) w w6 := by
    have hx : Chg (fun i => i = P ∨ some i = blk) w (wr.alloc (.cells #[.int .u8 (IntKind.u8.wrap Z)] 5)).drew := (h.chg.alloc _).drew
    refine hx.trans hc fun i hi he => ?_
    rcases h.new with e | ⟨g, e, hg⟩
    · rw [e] at he; exact .inr he
    · rw [e] at he; injection he with he; omega
  have hP : P < wr.heap.size := by obtain ⟨_, _, h, _⟩ := h.pen; exact h.lt
  have hne : SB2 ≠ some P := by
    rcases ha with e | e
    · rw [e]; exact h.pen.ne
    · rw [e]; intro q; injection q with q; simp at q; omega
  refine ⟨by rw [← h1]; simp [beW], by simp; omega, ⟨⟨A2, c2, ?_, ?_⟩, hchg.setCell (.inl (.inl rfl)) _, ?_⟩⟩
  · rw [hlen]; exact hb.set_ 0 _
  · rw [hlen, hcell]; exact ho.kept fun g hg => Below.heap_setCell _ _ _ _ (fun e => hne (by rw [hg, e]))
  · rcases ha with e | e
    · rw [e]; exact h.new
    · exact .inr ⟨_, e, by have := h.chg.size; simp; omega⟩
set_option maxHeartbeats 3200000 in
theorem number_write (w : World) (P Nb no : Nat) (v : Int) (out : List UInt8) (blk : Option Nat) (k : Nat) (lo hi : Int) (hP : PenW w P out blk) (hnc : w.cell? ⟨Nb, no, none⟩ = some (.int .i64 v)) (hne : Nb ≠ P) (hnb : some Nb ≠ blk) (hk : k = 1 ∨ k = 4 ∨ k = 8) (hlo : lo ≤ v) (hhi : v ≤ hi) (hv : -9223372036854775808 ≤ v ∧ v ≤ 9223372036854775807) (hl : out.length ≤ 1000000) :
    Calls Try.prog 79 #[.pointer (some ⟨P, 0, none⟩), .pointer (some ⟨Nb, no, none⟩), .int .i64 (k : Int), .int .i64 lo, .int .i64 hi] w fun e w' => e = .returned (.tuple #[]) ∧ ∃ blk', Wrote w w' P blk (out ++ beW v k) blk' := by
  have KY := Lib.hid (fun w => check_yes w)
  have HP := Lib.hid hP
  have hk8 : k ≤ 8 := by omega
  have hk1 : 1 ≤ k := by omega
  have HK := Lib.hid (And.intro hk1 hk8)
  have HN := Lib.hid (And.intro hnc (And.intro hne hnb))
  have HV := Lib.hid hv
  have HL := Lib.hid hl
  have c1 : w.cell? ⟨P, 1, none⟩ = some (.bool false) := by obtain ⟨A, c, h, _⟩ := hP; exact (h.cell 1).trans rfl
  clear hP hk hne hnb hv hl
  go_enter Try.func79, Try.ntmps79
  go_wp2_with fail
  refine (KY.out _).mono ?_
  rintro e w1 ⟨rfl, rfl⟩
  go_wp2_with fail
  go_loopw [12] (fun y wr => ∃ (j : Nat) (pre : List UInt8) (blk' : Option Nat), j ≤ k ∧ y = .int .i64 ((j : Int) - 1) ∧ Hid (pre ++ beW v j = beW v k ∧ pre.length + j = k ∧ Wrote w1 wr P blk (out ++ pre) blk')) (fun y _ => ((intOf y) + 1).toNat)
  case atStart => exact ⟨k, [], blk, Nat.le_refl _, by go_num, Lib.hid ⟨rfl, by simp, by rw [List.append_nil]; exact Wrote.self HP.out⟩⟩
  case round =>
    obtain ⟨j, pre, blk', hj, rfl, H⟩ := hrel
    cases j with
    | zero =>
      have j0 : ¬ (0 : Int) ≤ ((0 : Nat) : Int) - 1 := by omega
      go_wp2_with fail
      go_end0
      obtain ⟨h1, h2, h3⟩ := H.out
      have e : pre = beW v k := by simpa [beW] using h1
      rw [← e]
      exact ⟨rfl, blk', h3⟩
    | succ j =>
      have j0 : (0 : Int) ≤ ((j + 1 : Nat) : Int) - 1 := by omega
      obtain ⟨A, c, hb, ho⟩ := H.out.2.2.pen
      have hNb : wr.cell? ⟨Nb, no, none⟩ = some (.int .i64 v) := by
        obtain ⟨h1, h2, h3⟩ := HN.out
        have hlt := World.block_lt_of_cell? w1 _ h1
        have hb := H.out.2.2.chg.block Nb hlt (fun q => q.elim h2 h3)
        unfold World.cell? at h1 ⊢
        rw [hb]; exact h1
      obtain ⟨n, hn⟩ : ∃ n, (out ++ pre).length = n := ⟨_, rfl⟩
      rw [hn] at hb ho
      have c1' : wr.cell? ⟨P, 1, none⟩ = some (.bool false) := (hb.cell 1).trans rfl
      have c0' : wr.cell? ⟨P, 0, none⟩ = some (.slice A n c) := (hb.cell 0).trans rfl
      have y0 := hb.frozen 0
      have hlt := hb.lt
      have HB := Lib.hid hb
      have HO := Lib.hid ho
      obtain ⟨i0, hi0, hz0, hz1, hz2⟩ := info_parts infoU8
      have HL1 := Lib.hid hi0
      have HL2 := Lib.hid hz0
      have HL3 := Lib.hid hz1
      have HL4 := Lib.hid hz2
      have HNN := Lib.hid (show n ≤ 1000008 by have := HL.out; have := H.out.2.1; rw [← hn, List.length_append]; omega)
      have j1 : (0 : Int) ≤ (j : Int) := by omega
      have j2 : (j : Int) ≤ 7 := by omega
      obtain ⟨Z, hZ⟩ : ∃ Z : Int, v / 2 ^ (8 * j) = Z := ⟨_, rfl⟩
      have hsh : ∀ W, (Op.shift .shr .i64 v .i64 (IntKind.i64.wrap (8 * (j : Int)))).run Try.prog W = .ok (.int .i64 Z) W := fun W => by
        rw [show IntKind.i64.wrap (8 * (j : Int)) = ((8 * j : Nat) : Int) by rw [IntKind.wrap_i64]; omega, shift_shr_any _ _ _ _ (by omega)]
        rw [show min ((8 * j : Nat) : Int).toNat IntKind.i64.bits = 8 * j by simp [IntKind.bits]; omega, hZ]
        rfl
      have HZ := Lib.hid hZ
      have HNL := Lib.hid hn
      have HNE := Lib.hid H.out.2.2.pen.ne
      clear hi0 hz0 hz1 hz2 hb ho hn c1 hnc hZ
      rw [show ((j + 1 : Nat) : Int) - 1 = (j : Int) by omega]
      go_wp2_with fail
      go_region_law (refine step_append_at _ (by rfl) _ _ _ (by rfl) 5 i0 _ 1 1 Try.underlying22 HL1.out HL2.out HL3.out HL4.out rfl (by omega) _ n (bcells (out ++ pre)) blk' (by rfl) (HO.out.kept (fun g hg => (Below.heap_alloc _ _ _ (HO.out.lt g hg)))) _ 1 1 [.int .u8 (IntKind.u8.wrap Z)] (by rfl) (by rfl) (rd_last_row_at _ _ [.int .u8 (IntKind.u8.wrap Z)] _ (by simp)) (by intro u hu; simp at hu; subst hu; rfl) (by have := HNN.out; simp only [maxLen]; omega) (by have := HNN.out; omega) ?_; intro A2 c2 w6 SB2 hown2 hchg hat2; have hb6 : Blk w6 P 76 _ := ((HB.out.alloc _).drew).chg hchg (fun h => HNE.out h.symm); have hc6 : w6.cell? ⟨P, 0, none⟩ = some (.slice A n c) := (hb6.cell 0).trans rfl; have hg6 := hb6.frozen 0)
      all_goals
        have HC6 := Lib.hid hchg
        have HO6 := Lib.hid hown2
        have HB6 := Lib.hid hb6
        have HA6 := Lib.hid hat2
        clear hchg hown2 hb6 hat2
        go_wp2_with fail
        go_roundw
        case rel =>
          exact ⟨j, pre ++ [byteOf v j], SB2, by omega, by go_num, Lib.hid (H.out.2.2.more H.out.1 H.out.2.1 HNL.out HZ.out HO6.out HB6.out HC6.out HA6.out)⟩
        case measure => simp [intOf]
end Go.Proofs.Ytnbcjjgilndlaaa
/- Messages: numbers of a message's fields, read. Helper. -/
namespace Go.Proofs.Ytnbcjjgilndlaaa
open Go.RowKit
set_option linter.unusedVariables false
set_option linter.unusedSimpArgs false
set_option maxRecDepth 100000
/-- A pen that reads, and the message it reads into. -/
structure RdSt (w0 w : World) (P M : Nat) (T : TypeId) (A : Option Addr) (c : Nat) (bs : List UInt8) (mc : Array Value) : Prop where
  pen : Blk w P 76 #[.slice A bs.length c, .bool true]
  msg : Blk w M T mc
  txt : BytesAt w A bs
  cap : bs.length ≤ c
  ap : ∀ a, A = some a → a.block ≠ P ∧ a.block ≠ M ∧ a.block < w0.heap.size
  ne : M ≠ P
  chg : Chg (fun i => i = P ∨ i = M) w0 w
section
variable {w0 w : World} {P M : Nat} {T : TypeId} {A : Option Addr} {c : Nat} {bs : List UInt8} {mc : Array Value}
theorem RdSt.lt (h : RdSt w0 w P M T A c bs mc) {a : Addr} (ha : A = some a) : a.block < w.heap.size := Nat.lt_of_lt_of_le (h.ap a ha).2.2 h.chg.size
theorem RdSt.step (h : RdSt w0 w P M T A c bs mc) (x0 V u : Value) (t : TypeId) (k o : Nat) (hk : k ≤ bs.length) :
    RdSt w0 ((((w.alloc (.cells #[x0] t)).setCell ⟨w.heap.size, 0, none⟩ V).setCell ⟨P, 0, none⟩ (.slice (cutA A c k) (bs.length - k) (c - k))).setCell ⟨M, o, none⟩ u) P M T (cutA A c k) (c - k) (bs.drop k) (mc.setIfInBounds o u) := by
  have hx1 : P ≠ w.heap.size := Nat.ne_of_lt h.pen.lt
  have hx2 : M ≠ w.heap.size := Nat.ne_of_lt h.msg.lt
  have hl : (bs.drop k).length = bs.length - k := by simp
  refine ⟨?_, ?_, ?_, by rw [hl]; have := h.cap; omega, fun a ha => ?_, h.ne, ?_⟩
  · rw [hl]
    exact (((h.pen.alloc _).far (p := ⟨w.heap.size, 0, none⟩) hx1 _).set_ 0 _).far (p := ⟨M, o, none⟩) h.ne.symm _
  · exact (((h.msg.alloc _).far (p := ⟨w.heap.size, 0, none⟩) hx2 _).far (p := ⟨P, 0, none⟩) h.ne _).set_ o _
  · have h1 : BytesAt (w.alloc (.cells #[x0] t)) A bs := h.txt.below ((Below.refl _ w).alloc (Nat.le_refl _) _) (Nat.le_refl _)
    have h2 := h1.cut c hk h.cap
    refine ((h2.far (p := ⟨w.heap.size, 0, none⟩) V fun b o e => ?_).far (p := ⟨P, 0, none⟩) _ fun b o e => ?_).far (p := ⟨M, o, none⟩) u fun b o e => ?_
    · obtain ⟨a0, e0, e1⟩ := cutA_block (c := c) (k := k) e
      have := h.lt e0; have e1 : b = a0.block := e1; show b ≠ w.heap.size; omega
    · obtain ⟨a0, e0, e1⟩ := cutA_block (c := c) (k := k) e
      have e1 : b = a0.block := e1
      rw [e1]; exact (h.ap a0 e0).1
    · obtain ⟨a0, e0, e1⟩ := cutA_block (c := c) (k := k) e
      have e1 : b = a0.block := e1
      rw [e1]; exact (h.ap a0 e0).2.1
  · obtain ⟨a0, e0, e1⟩ := cutA_block ha
    rw [e1]; exact h.ap a0 e0
  · exact (((h.chg.alloc _).setCell (.inr h.chg.size) _).setCell (.inl (.inl rfl)) _).setCell (.inl (.inr rfl)) _
/-- The box that a number is read into, and what is read. -/
theorem RdSt.number (h : RdSt w0 w P M T A c bs mc) (V : Value) (t : TypeId) (x : Int) (k : Nat) (lo hi : Int) (hk : k = 1 ∨ k = 4 ∨ k = 8) (hkn : k ≤ bs.length) (hlo : lo ≤ s64 (beN (bs.take k))) (hhi : s64 (beN (bs.take k)) ≤ hi) :
    (∀ u v : Value, (((w.alloc (.cells #[.int .i64 x] t)).setCell ⟨w.heap.size, 0, none⟩ u).setCell ⟨P, 0, none⟩ v).cell? ⟨w.heap.size, 0, none⟩ = some u) ∧
    (∀ v : Value, (((w.alloc (.cells #[.int .i64 x] t)).setCell ⟨w.heap.size, 0, none⟩ V).setCell ⟨P, 0, none⟩ v).frozen? ⟨w.heap.size, 0, none⟩ = false) ∧
    Blk (((w.alloc (.cells #[.int .i64 x] t)).setCell ⟨w.heap.size, 0, none⟩ V).setCell ⟨P, 0, none⟩ (.slice (cutA A c k) (bs.length - k) (c - k))) M T mc ∧
    Calls Try.prog 79 #[.pointer (some ⟨P, 0, none⟩), .pointer (some ⟨w.heap.size, 0, none⟩), .int .i64 (k : Int), .int .i64 lo, .int .i64 hi] (w.alloc (.cells #[.int .i64 x] t)) fun e w' => e = .returned (.tuple #[]) ∧ w' = (((w.alloc (.cells #[.int .i64 x] t)).setCell ⟨w.heap.size, 0, none⟩ (.int .i64 (s64 (beN (bs.take k))))).setCell ⟨P, 0, none⟩ (.slice (cutA A c k) (bs.length - k) (c - k))) := by
  have hx1 : P ≠ w.heap.size := Nat.ne_of_lt h.pen.lt
  have hx2 : M ≠ w.heap.size := Nat.ne_of_lt h.msg.lt
  have hX : Blk (w.alloc (.cells #[.int .i64 x] t)) w.heap.size t #[.int .i64 x] := Blk.last w _ _ rfl
  refine ⟨fun u v => ((((hX.set_ 0 u).far (p := ⟨P, 0, none⟩) hx1.symm v).cell 0).trans rfl), fun v => ((hX.set_ 0 V).far (p := ⟨P, 0, none⟩) hx1.symm v).frozen 0, ((h.msg.alloc _).far (p := ⟨w.heap.size, 0, none⟩) hx2 _).far (p := ⟨P, 0, none⟩) h.ne _, ?_⟩
  refine (number_read (w.alloc (.cells #[.int .i64 x] t)) P w.heap.size 0 x A bs.length c bs k lo hi (h.pen.alloc _) (h.txt.below ((Below.refl _ w).alloc (Nat.le_refl _) _) (Nat.le_refl _)) rfl h.cap ((hX.cell 0).trans rfl) (hX.frozen 0) hx1.symm (fun a ha => ⟨(h.ap a ha).1, Nat.ne_of_lt (h.lt ha)⟩) hk hkn hlo hhi).mono fun e w' ⟨h1, h2, _⟩ => ⟨h1, h2⟩
end
theorem beN_take_lt (bs : List UInt8) (k : Nat) : beN (bs.take k) < 256 ^ k := by
  have h1 := beN_lt (bs.take k)
  exact Nat.lt_of_lt_of_le h1 (Nat.pow_le_pow_right (by omega) (by rw [List.length_take]; omega))
set_option maxHeartbeats 3200000 in
theorem word_rd (w0 w : World) (P M : Nat) (T : TypeId) (A : Option Addr) (c : Nat) (bs : List UInt8) (mc : Array Value) (o : Nat) (v : Int) (h : RdSt w0 w P M T A c bs mc) (ho : mc[o]? = some (.int .u32 v)) (hk : 4 ≤ bs.length) :
    Calls Try.prog 49 #[.pointer (some ⟨P, 0, none⟩), .pointer (some ⟨M, o, none⟩)] w fun e w' => e = .returned (.tuple #[]) ∧ RdSt w0 w' P M T (cutA A c 4) (c - 4) (bs.drop 4) (mc.setIfInBounds o (.int .u32 (beN (bs.take 4) : Int))) := by
  have hV := beN_take_lt bs 4
  obtain ⟨V, hVe⟩ : ∃ V, beN (bs.take 4) = V := ⟨_, rfl⟩
  rw [hVe] at hV ⊢
  have c0 : w.cell? ⟨M, o, none⟩ = some (.int .u32 v) := (h.msg.cell o).trans ho
  have z0 : w.frozen? ⟨M, o, none⟩ = false := h.msg.frozen o
  have HO := Lib.hid ho
  have H := Lib.hid h
  have HV := Lib.hid (And.intro hVe hV)
  clear h ho hV hVe
  go_enter Try.func49, Try.ntmps49
  go_wp2_with fail
  obtain ⟨hx1, _, hM2, hrd⟩ := H.out.number (.int .i64 (s64 (beN (bs.take 4)))) 2 (wrap64 v) 4 0 4294967295 (.inr (.inl rfl)) hk (by rw [HV.out.1, s64_small (by have := HV.out.2; omega)]; omega) (by rw [HV.out.1, s64_small (by have := HV.out.2; omega)]; have := HV.out.2; omega)
  refine hrd.mono ?_
  rintro e w2 ⟨rfl, hw2⟩
  have hx := hx1 (.int .i64 (s64 (beN (bs.take 4)))) (.slice (cutA A c 4) (bs.length - 4) (c - 4))
  rw [← hw2] at hx hM2
  have hstep := H.out.step (.int .i64 (wrap64 v)) (.int .i64 (s64 (beN (bs.take 4)))) (.int .u32 (V : Int)) 2 4 o hk
  rw [← hw2] at hstep
  rw [HV.out.1, s64_small (by have := HV.out.2; omega)] at hx
  have c1 := (hM2.cell o).trans HO.out
  have z1 := hM2.frozen o
  have hVb : IntKind.u32.wrap (V : Int) = (V : Int) := by rw [IntKind.wrap_u32]; have := HV.out.2; omega
  have HS := Lib.hid hstep
  clear hstep hM2 hrd hx1 hw2
  go_wp2_with fail
  go_end0
  exact ⟨rfl, HS.out⟩
set_option maxHeartbeats 3200000 in
theorem errno_rd (w0 w : World) (P M : Nat) (T : TypeId) (A : Option Addr) (c : Nat) (bs : List UInt8) (mc : Array Value) (o : Nat) (v : Int) (h : RdSt w0 w P M T A c bs mc) (ho : mc[o]? = some (.int .i64 v)) (hk : 1 ≤ bs.length) (hb : beN (bs.take 1) ≤ 16) :
    Calls Try.prog 67 #[.pointer (some ⟨P, 0, none⟩), .pointer (some ⟨M, o, none⟩)] w fun e w' => e = .returned (.tuple #[]) ∧ RdSt w0 w' P M T (cutA A c 1) (c - 1) (bs.drop 1) (mc.setIfInBounds o (.int .i64 (beN (bs.take 1) : Int))) := by
  obtain ⟨V, hVe⟩ : ∃ V, beN (bs.take 1) = V := ⟨_, rfl⟩
  rw [hVe] at hb ⊢
  have c0 : w.cell? ⟨M, o, none⟩ = some (.int .i64 v) := (h.msg.cell o).trans ho
  have HO := Lib.hid ho
  have H := Lib.hid h
  have HV := Lib.hid (And.intro hVe hb)
  clear h ho hb hVe
  go_enter Try.func67, Try.ntmps67
  go_wp2_with fail
  obtain ⟨hx1, _, hM2, hrd⟩ := H.out.number (.int .i64 (s64 (beN (bs.take 1)))) 2 v 1 0 16 (.inl rfl) hk (by rw [HV.out.1, s64_small (by have := HV.out.2; omega)]; omega) (by rw [HV.out.1, s64_small (by have := HV.out.2; omega)]; have := HV.out.2; omega)
  refine hrd.mono ?_
  rintro e w2 ⟨rfl, hw2⟩
  have hx := hx1 (.int .i64 (s64 (beN (bs.take 1)))) (.slice (cutA A c 1) (bs.length - 1) (c - 1))
  rw [← hw2] at hx hM2
  have hstep := H.out.step (.int .i64 v) (.int .i64 (s64 (beN (bs.take 1)))) (.int .i64 (V : Int)) 2 1 o hk
  rw [← hw2] at hstep
  rw [HV.out.1, s64_small (by have := HV.out.2; omega)] at hx
  have c1 := (hM2.cell o).trans HO.out
  have z1 := hM2.frozen o
  have HS := Lib.hid hstep
  clear hstep hM2 hrd hx1 hw2
  go_wp2_with fail
  go_end0
  exact ⟨rfl, HS.out⟩
/-- A pen that writes, and the message that it writes. -/
structure WrSt (w0 w : World) (P M : Nat) (T : TypeId) (out : List UInt8) (blk blk0 : Option Nat) (mc : Array Value) : Prop where
  pen : PenW w P out blk
  new : blk = blk0 ∨ ∃ g, blk = some g ∧ w0.heap.size ≤ g
  msg : Blk w M T mc
  ne : M ≠ P
  ty : T ≠ 5
  chg : Chg (fun i => i = P ∨ i = M ∨ some i = blk0) w0 w
theorem PenW.lt {w : World} {P : Nat} {out : List UInt8} {blk : Option Nat} (h : PenW w P out blk) : P < w.heap.size := by obtain ⟨_, _, h, _⟩ := h; exact h.lt
theorem PenW.blt {w : World} {P : Nat} {out : List UInt8} {blk : Option Nat} (h : PenW w P out blk) : ∀ g, blk = some g → g < w.heap.size := by obtain ⟨_, _, _, h⟩ := h; exact h.lt
theorem PenW.neT {w : World} {P M : Nat} {T : TypeId} {mc : Array Value} {out : List UInt8} {blk : Option Nat} (h : PenW w P out blk) (hM : Blk w M T mc) (hT : T ≠ 5) : blk ≠ some M := by
  obtain ⟨A, c, h1, h2⟩ := h
  intro e
  obtain ⟨_, A', c', _, _, _, h | ⟨g, off, cur, _, hb, hg, _⟩⟩ := h2
  · rw [h.2] at e; cases e
  · rw [hb] at e; injection e with e
    rw [e] at hg
    exact absurd rfl (hM.ne_ hg hT)
theorem PenW.alloc {w : World} {P : Nat} {out : List UInt8} {blk : Option Nat} (h : PenW w P out blk) (o : Obj) : PenW (w.alloc o) P out blk := by
  obtain ⟨A, c, h1, h2⟩ := h
  exact ⟨A, c, h1.alloc o, h2.kept fun g hg => Below.heap_alloc _ _ _ (h2.lt g hg)⟩
theorem PenW.far {w : World} {P : Nat} {out : List UInt8} {blk : Option Nat} (h : PenW w P out blk) {p : Addr} (h1 : P ≠ p.block) (h2 : blk ≠ some p.block) (u : Value) : PenW (w.setCell p u) P out blk := by
  obtain ⟨A, c, g1, g2⟩ := h
  exact ⟨A, c, g1.far h1 u, g2.kept fun g hg => Below.heap_setCell _ _ _ _ (fun e => h2 (by rw [hg, e]))⟩
/-- The box that a number is written out of. -/
theorem WrSt.number {w0 w : World} {P M : Nat} {T : TypeId} {out : List UInt8} {blk blk0 : Option Nat} {mc : Array Value} (h : WrSt w0 w P M T out blk blk0 mc) (x : Int) (t : TypeId) (k : Nat) (lo hi : Int) (hk : k = 1 ∨ k = 4 ∨ k = 8) (hlo : lo ≤ x) (hhi : x ≤ hi) (hv : -9223372036854775808 ≤ x ∧ x ≤ 9223372036854775807) (hl : out.length ≤ 1000000) :
    Calls Try.prog 79 #[.pointer (some ⟨P, 0, none⟩), .pointer (some ⟨w.heap.size, 0, none⟩), .int .i64 (k : Int), .int .i64 lo, .int .i64 hi] (w.alloc (.cells #[.int .i64 x] t)) fun e w' => e = .returned (.tuple #[]) ∧ w'.cell? ⟨w.heap.size, 0, none⟩ = some (.int .i64 x) ∧ Blk w' M T mc ∧ ∀ o u, mc[o]? = some u → ∃ blk', WrSt w0 (w'.setCell ⟨M, o, none⟩ u) P M T (out ++ beW x k) blk' blk0 mc := by
  have hX : Blk (w.alloc (.cells #[.int .i64 x] t)) w.heap.size t #[.int .i64 x] := Blk.last w _ _ rfl
  have hx1 : w.heap.size ≠ P := Nat.ne_of_gt h.pen.lt
  have hx2 : some w.heap.size ≠ blk := fun e => by have := h.pen.blt _ e.symm; omega
  refine (number_write (w.alloc (.cells #[.int .i64 x] t)) P w.heap.size 0 x out blk k lo hi (h.pen.alloc _) ((hX.cell 0).trans rfl) hx1 hx2 hk hlo hhi hv hl).mono fun e w' ⟨h1, blk', h2⟩ => ⟨h1, ?_, ?_, fun o u hu => ⟨blk', ?_⟩⟩
  · exact ((hX.chg h2.chg (fun q => q.elim hx1 hx2)).cell 0).trans rfl
  · exact (h.msg.alloc _).chg h2.chg fun q => q.elim h.ne (fun e => h.pen.neT h.msg h.ty e.symm)
  · have hM : Blk w' M T mc := (h.msg.alloc _).chg h2.chg fun q => q.elim h.ne (fun e => h.pen.neT h.msg h.ty e.symm)
    have hset : mc.setIfInBounds o u = mc := by
      obtain ⟨ho, he⟩ := Array.getElem?_eq_some_iff.1 hu
      rw [← he]
      simp [Array.setIfInBounds, ho]
    have hne := h2.pen.neT hM h.ty
    refine ⟨h2.pen.far (p := ⟨M, o, none⟩) h.ne.symm hne _, ?_, ?_, h.ne, h.ty, ?_⟩
    · rcases h2.new with e | ⟨g, e, hg⟩
      · rw [e]; exact h.new
      · exact .inr ⟨g, e, by have := h.chg.size; simp at hg; omega⟩
    · have := hM.set_ o u
      rw [hset] at this; exact this
    · refine Chg.setCell ?_ (.inl (.inr (.inl rfl))) _
      refine (h.chg.alloc _).trans h2.chg fun i hi he => ?_
      rcases he with e | e
      · exact .inl e
      · rcases h.new with q | ⟨g, q, hg⟩
        · rw [← q]; exact .inr (.inr e)
        · rw [q] at e; injection e with e; omega
set_option maxHeartbeats 3200000 in
theorem word_wr (w0 w : World) (P M : Nat) (T : TypeId) (out : List UInt8) (blk blk0 : Option Nat) (mc : Array Value) (o : Nat) (v : Int) (h : WrSt w0 w P M T out blk blk0 mc) (ho : mc[o]? = some (.int .u32 v)) (hv : 0 ≤ v ∧ v < 4294967296) (hl : out.length ≤ 1000000) :
    Calls Try.prog 49 #[.pointer (some ⟨P, 0, none⟩), .pointer (some ⟨M, o, none⟩)] w fun e w' => e = .returned (.tuple #[]) ∧ ∃ blk', WrSt w0 w' P M T (out ++ beW v 4) blk' blk0 mc := by
  have c0 : w.cell? ⟨M, o, none⟩ = some (.int .u32 v) := (h.msg.cell o).trans ho
  have HO := Lib.hid ho
  have KN := Lib.hid (h.number v 2 4 0 4294967295 (.inr (.inl rfl)) (by omega) (by omega) (by omega) hl)
  have hw1 : wrap64 v = v := by unfold wrap64; omega
  have hw2 : IntKind.u32.wrap v = v := by rw [IntKind.wrap_u32]; omega
  clear h ho hv hl
  go_enter Try.func49, Try.ntmps49
  go_wp2_with fail
  refine KN.out.mono ?_
  rintro e w2 ⟨rfl, hx, hM, hfin⟩
  have c1 := (hM.cell o).trans HO.out
  have z1 := hM.frozen o
  have HF := Lib.hid (hfin o _ HO.out)
  clear hM hfin
  go_wp2_with fail
  go_end0
  exact ⟨rfl, HF.out⟩
set_option maxHeartbeats 3200000 in
theorem errno_wr (w0 w : World) (P M : Nat) (T : TypeId) (out : List UInt8) (blk blk0 : Option Nat) (mc : Array Value) (o : Nat) (v : Int) (h : WrSt w0 w P M T out blk blk0 mc) (ho : mc[o]? = some (.int .i64 v)) (hv : 0 ≤ v ∧ v ≤ 16) (hl : out.length ≤ 1000000) :
    Calls Try.prog 67 #[.pointer (some ⟨P, 0, none⟩), .pointer (some ⟨M, o, none⟩)] w fun e w' => e = .returned (.tuple #[]) ∧ ∃ blk', WrSt w0 w' P M T (out ++ beW v 1) blk' blk0 mc := by
  have c0 : w.cell? ⟨M, o, none⟩ = some (.int .i64 v) := (h.msg.cell o).trans ho
  have HO := Lib.hid ho
  have KN := Lib.hid (h.number v 2 1 0 16 (.inl rfl) (by omega) (by omega) (by omega) hl)
  clear h ho hv hl
  go_enter Try.func67, Try.ntmps67
  go_wp2_with fail
  refine KN.out.mono ?_
  rintro e w2 ⟨rfl, hx, hM, hfin⟩
  have c1 := (hM.cell o).trans HO.out
  have z1 := hM.frozen o
  have HF := Lib.hid (hfin o _ HO.out)
  clear hM hfin
  go_wp2_with fail
  go_end0
  exact ⟨rfl, HF.out⟩
end Go.Proofs.Ytnbcjjgilndlaaa
/- Messages: guard, deferred. Helper. -/
namespace Go.Proofs.Ytnbcjjgilndlaaa
open Go.RowKit
set_option linter.unusedVariables false
set_option linter.unusedSimpArgs false
set_option maxRecDepth 100000
theorem guard_idle (p : Addr) (w : World) :
    CallsD Try.prog 63 #[.pointer (some p)] .returning w fun e u' w' => e = .returned (.tuple #[]) ∧ u' = .returning ∧ w' = w := by
  refine callsD_of_wpS Try.func63 rfl fun c₀ cs hu => ?_
  apply wpS_seq
  apply wpS_region
  simp [wpOpsS, go_sem, recoverD, hu, Try.ntmps63, Exit.thenS]
  refine wpS_of_wp ?_
  simp only [List.size_toArray, List.length_nil, List.length_cons, Nat.reduceAdd, Nat.reduceSub, Array.replicate_succ, Array.replicate_zero, List.push_toArray, List.append_toArray, List.nil_append, List.cons_append, List.setIfInBounds_toArray, List.set_cons_succ, List.set_cons_zero]
  go_wp2_with fail
  cases c₀
  simp_all [bodyPostS, results, Try.results63]
/-- What ended it, caught. -/
def caught : List PanicEntry := [{ v := .iface 128 (.agg #[]), recovered := true }]
theorem guard_caught (p : Addr) (x : Bool) (w : World) (hc : w.cell? p = some (.bool x)) (hz : w.frozen? p = false) :
    CallsD Try.prog 63 #[.pointer (some p)] (.panicking boom) w fun e u' w' => e = .returned (.tuple #[]) ∧ u' = .panicking caught ∧ w' = (w.alloc (.cells #[] 128)).setCell p (.bool true) := by
  refine callsD_of_wpS Try.func63 rfl fun c₀ cs hu => ?_
  have hlt := World.block_lt_of_cell? w _ hc
  have hz2 : (w.alloc (.cells #[] 128)).frozen? p = false := ((Nw.refl w).alloc _).frozen hc hz
  have hta : ∀ w, (Instr.typeAssert (.iface 128 (.agg #[])) 20 128 true).run Try.prog w = .ok (.tuple #[.agg #[], .bool true]) w := fun w => by kernel_rfl
  apply wpS_seq
  apply wpS_region
  simp [wpOpsS, go_sem, recoverD, hu, Try.ntmps63, Exit.thenS, boom]
  refine wpS_of_wp ?_
  simp only [List.size_toArray, List.length_nil, List.length_cons, Nat.reduceAdd, Nat.reduceSub, Array.replicate_succ, Array.replicate_zero, List.push_toArray, List.append_toArray, List.nil_append, List.cons_append, List.setIfInBounds_toArray, List.set_cons_succ, List.set_cons_zero]
  go_wp2_with fail
  cases c₀
  simp_all [bodyPostS, results, Try.results63, caught]
end Go.Proofs.Ytnbcjjgilndlaaa
/- Messages: maps with numbers as keys, written out. Helper. -/
namespace Go.Proofs.Ytnbcjjgilndlaaa
open Go.RowKit Go.Shelf
set_option linter.unusedVariables false
set_option linter.unusedSimpArgs false
set_option maxRecDepth 100000
theorem upd_run {t kt et : TypeId} (ht : Try.prog.underlying t = some (.map kt et)) (hk : Try.prog.underlying kt = some (.int .i64)) {W : World} {S c : Nat} {es : Array MapEntry} (h : W.heap[S]? = some (.map es c)) (k : Int) (v : Value)
    (hf : Instr.findNow (.int .i64) (.int .i64 k) es.toList 0 = some none) :
    (Instr.mapUpdate t (.map (some S)) (.int .i64 k) v).run Try.prog W = .ok () (W.putObj S (.map (es.push { key := .int .i64 k, val := v, born := c }) (c + 1))) := by
  simp only [Instr.mapUpdate, run_underlying ht, Sem.run_bind, Result.andThen, MapKept.run_getObj_map h, MapKept.run_checkKey (n := 9999) hk (show MapKept.IsKey (.int .i64) (.int .i64 k) from rfl) false, MapKept.run_findKey hk hf, MapKept.run_setObj_map _ h]
  rfl
theorem look_run {t kt et : TypeId} (ht : Try.prog.underlying t = some (.map kt et)) (hk : Try.prog.underlying kt = some (.int .i64)) {W : World} {S c : Nat} {es : Array MapEntry} (h : W.heap[S]? = some (.map es c)) (k : Int) (i : Nat) (v : Value)
    (hf : Instr.findNow (.int .i64) (.int .i64 k) es.toList 0 = some (some (i, v))) :
    (Instr.lookup t (.map (some S)) (.int .i64 k) true).run Try.prog W = .ok (.tuple #[v, .bool true]) W := by
  simp [Instr.lookup, run_underlying ht, Sem.run_bind, Result.andThen, MapKept.run_getObj_map h, MapKept.run_checkKey (n := 9999) hk (show MapKept.IsKey (.int .i64) (.int .i64 k) from rfl), MapKept.run_findKey hk hf]
end Go.Proofs.Ytnbcjjgilndlaaa
