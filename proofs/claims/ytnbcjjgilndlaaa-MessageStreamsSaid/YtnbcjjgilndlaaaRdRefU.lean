/- Messages: the document's numbers read; what is a number of 8 bits. Helper. -/
import Derived.Test.YtnbcjjgilndlaaaRdSm
import Derived.Test.YtnbcjjgilndlaaaRdPen
import Derived.Laws.MakeOwn
import Derived.Test.YtnbcjjgilndlaaaRdTx
import Derived.Deep.RegionHeld3
namespace Go.Proofs.Ytnbcjjgilndlaaa
open Go.RowKit
set_option linter.unusedVariables false
set_option linter.unusedSimpArgs false
set_option maxRecDepth 100000
theorem make_bytes (n : Nat) (h : n ≤ 8) : ∃ A : Array Value, A.size = n ∧
    ∀ W : World, (Instr.makeSlice 22 (.int .i64 (n : Int)) (.int .i64 (n : Int))).run Try.prog W = .ok (.slice (some ⟨W.heap.size, 0, none⟩) n n) (W.alloc (.cells A 5)) := by
  obtain ⟨i0, hi0, hz0, hz1, hz2⟩ := info_parts infoU8
  refine ⟨madeCells #[.int .u8 0] n, by simp [madeCells], fun W => ?_⟩
  have := run_make (P := Try.prog) W 22 5 i0 _ Try.underlying22 hi0 hz0 .i64 .i64 (n : Int) (n : Int) (by omega) (by omega) (by rw [hz2]; omega) (by omega)
  rw [this, hz1, show ((n : Int)).toNat = n by omega, Nat.mul_one]
  rfl
theorem beW_length (v : Int) : ∀ k, (beW v k).length = k
  | 0 => rfl
  | k + 1 => by rw [beW, List.length_cons, beW_length v k]
theorem beW_get (v : Int) : ∀ (k j : Nat), j < k → (beW v k)[j]? = some (byteOf v (k - 1 - j))
  | k + 1, 0, _ => rfl
  | k + 1, j + 1, h => by
    rw [beW, List.getElem?_cons_succ, beW_get v k j (by omega)]
    congr 2
    omega
set_option maxHeartbeats 3200000 in
theorem high_any (w : World) (v : Int) (k : Nat) (hk : k ≤ 8) (hv : 0 ≤ v ∧ v < 18446744073709551616) :
    Calls Try.prog 76 #[.int .u64 v, .int .i64 (k : Int)] w fun e w' => ∃ A c, e = .returned (.slice A k c) ∧ BytesAt w' A (beW v k) ∧ k ≤ c ∧ Nw w w' := by
  obtain ⟨V, hVs, hmk⟩ := make_bytes k hk
  have hw1 : IntKind.i64.wrap ((k : Int) - 1) = (k : Int) - 1 := IntWalk.i64_in (n := (k : Int) - 1) (by constructor <;> omega)
  have HV := Lib.hid hVs
  have HVV := Lib.hid hv
  have HK := Lib.hid hk
  clear hVs hv
  go_enter Try.func76, Try.ntmps76
  go_wp2_with fail
  go_loopw [0, 6] (fun x y wr => ∃ (i : Nat) (mc : Array Value), i ≤ k ∧ y = .int .i64 ((i : Int) - 1) ∧ x = .int .u64 (v / 2 ^ (8 * (k - i))) ∧ Blk wr w.heap.size 5 mc ∧ Nw w wr ∧ mc.size = k ∧ ∀ j, i ≤ j → j < k → mc[j]? = some (.int .u8 ((byteOf v (k - 1 - j)).toNat : Int))) (fun _ y _ => ((intOf y) + 1).toNat)
  case atStart => exact ⟨k, V, Nat.le_refl _, rfl, by simp, Blk.last _ _ _ rfl, (Nw.refl w).alloc _, HV.out, fun j h1 h2 => absurd h1 (by omega)⟩
  case round =>
    obtain ⟨i, mc, hi, rfl, rfl, hb, hn, hms, hm⟩ := hrel
    by_cases h0 : i = 0
    · subst h0
      have i1 : ¬ (0 : Int) ≤ ((0 : Nat) : Int) - 1 := by omega
      have HB := Lib.hid hb
      have HM := Lib.hid (And.intro hms hm)
      have HN := Lib.hid hn
      clear hb hm hms hn
      go_wp2_with fail
      go_ret
      refine ⟨some ⟨w.heap.size, 0, none⟩, k, rfl, .inr ⟨w.heap.size, 0, rfl, fun j u hu => ?_⟩, Nat.le_refl _, HN.out⟩
      have hl : j < k := by
        have := (List.getElem?_eq_some_iff.1 hu).1
        simpa [bcells, beW_length] using this
      show wr.cell? ⟨w.heap.size, 0 + j, none⟩ = some u
      rw [Nat.zero_add, HB.out.cell j, HM.out.2 j (Nat.zero_le _) hl, ← hu]
      simp [bcells, beW_get v k j hl]
    · obtain ⟨j, rfl⟩ : ∃ j, i = j + 1 := ⟨i - 1, by omega⟩
      rw [show (((j + 1 : Nat)) : Int) - 1 = (j : Int) by omega]
      have i1 : (0 : Int) ≤ (j : Int) := by omega
      have i2 : (j : Int) < (k : Int) := by omega
      have i3 : (j : Int) < 8 := by have := HK.out; omega
      have hq := HVV.out
      obtain ⟨X, hX⟩ : ∃ X, v / 2 ^ (8 * (k - (j + 1))) = X := ⟨_, rfl⟩
      have hX0 : 0 ≤ X ∧ X < 18446744073709551616 := by
        have hp : (0 : Int) < 2 ^ (8 * (k - (j + 1))) := Int.pow_pos (by omega)
        refine ⟨by rw [← hX]; exact Int.ediv_nonneg hq.1 (Int.le_of_lt hp), ?_⟩
        have : X ≤ v := by rw [← hX]; exact Int.ediv_le_self _ hq.1
        omega
      rw [hX]
      have HX := Lib.hid (And.intro hX hX0)
      obtain ⟨u0, hu0⟩ : ∃ u0, mc[j]? = some u0 := ⟨mc[j]'(by omega), Array.getElem?_eq_getElem (by omega)⟩
      have c0 : wr.cell? ⟨w.heap.size, j, none⟩ = some u0 := (hb.cell j).trans hu0
      have z0 : wr.frozen? ⟨w.heap.size, j, none⟩ = false := hb.frozen j
      have HB := Lib.hid hb
      have HM := Lib.hid (And.intro hms hm)
      have HN := Lib.hid hn
      have HH := Lib.hid (And.intro hi hu0)
      have x1 : (0 : Int) ≤ X := hX0.1
      have x2 : X < 18446744073709551616 := hX0.2
      clear hb hm hms hn hu0 hX hX0 hi hq h0
      go_wp2_with fail
      refine ⟨⟨j, mc.setIfInBounds j (.int .u8 (X % 256)), by have := HH.out.1; omega, rfl, ?_, HB.out.set_ j _, Nw.set HN.out (Nat.le_refl _) _, by simp [HM.out.1], fun j' h1 h2 => ?_⟩, by simp [intOf]⟩
      · rw [show 8 * (k - j) = 8 * (k - (j + 1)) + 8 by have := HH.out.1; omega, Int.pow_add, ← Int.ediv_ediv_of_nonneg (Int.le_of_lt (Int.pow_pos (by omega))), HX.out.1]
        rfl
      · rw [Array.getElem?_setIfInBounds]
        by_cases hjj : j = j'
        · subst hjj
          rw [if_pos rfl, if_pos (by rw [HM.out.1]; exact h2)]
          rw [byteOf_cell, show k - 1 - j = k - (j + 1) by omega, HX.out.1, IntKind.wrap_u8]
        · rw [if_neg hjj]
          exact HM.out.2 j' (by omega) h2
theorem beW_wrap (n : Int) (k : Nat) (hk : k ≤ 8) (m : Int) (hm : m = n % 18446744073709551616) : beW m k = beW n k := by
  induction k with
  | zero => rfl
  | succ i ih =>
    rw [beW, beW, ih (by omega)]
    congr 1
    unfold byteOf
    congr 1
    congr 1
    rw [hm]
    have : ∀ i : Nat, i < 8 → (n % 18446744073709551616 / 2 ^ (8 * i)) % 256 = (n / 2 ^ (8 * i)) % 256 := by
      intro i hi
      have h8 : i = 0 ∨ i = 1 ∨ i = 2 ∨ i = 3 ∨ i = 4 ∨ i = 5 ∨ i = 6 ∨ i = 7 := by omega
      rcases h8 with rfl | rfl | rfl | rfl | rfl | rfl | rfl | rfl <;> simp <;> omega
    exact this i (by omega)
set_option maxHeartbeats 3200000 in
theorem long7_any (w : World) (n : Int) :
    Calls Try.prog 43 #[.int .i64 n] w fun e w' => ∃ A c, e = .returned (.slice A 8 c) ∧ BytesAt w' A (beW n 8) ∧ 8 ≤ c ∧ Nw w w' := by
  have K := high_any w (IntKind.u64.wrap n) 8 (by omega) (by rw [IntKind.wrap_u64]; omega)
  rw [beW_wrap n 8 (by omega) _ (IntKind.wrap_u64 n)] at K
  have K := Lib.hid K
  go_enter Try.func43, Try.ntmps43
  go_wp2_with fail
  refine K.out.mono ?_
  rintro e w1 ⟨A, c, rfl, h1, h2, h3⟩
  have H := Lib.hid (And.intro h1 h3)
  clear h1 h3
  go_wp2_with fail
  go_ret
  exact ⟨A, c, rfl, H.out.1, h2, H.out.2⟩
set_option maxHeartbeats 3200000 in
theorem word7_any (w : World) (n : Int) (hn : 0 ≤ n ∧ n < 4294967296) :
    Calls Try.prog 41 #[.int .u32 n] w fun e w' => ∃ A c, e = .returned (.slice A 4 c) ∧ BytesAt w' A (beW n 4) ∧ 4 ≤ c ∧ Nw w w' := by
  have K := high_any w (IntKind.u64.wrap n) 4 (by omega) (by rw [IntKind.wrap_u64]; omega)
  rw [beW_wrap n 4 (by omega) _ (IntKind.wrap_u64 n)] at K
  have K := Lib.hid K
  clear hn
  go_enter Try.func41, Try.ntmps41
  go_wp2_with fail
  refine K.out.mono ?_
  rintro e w1 ⟨A, c, rfl, h1, h2, h3⟩
  have H := Lib.hid (And.intro h1 h3)
  clear h1 h3
  go_wp2_with fail
  go_ret
  exact ⟨A, c, rfl, H.out.1, h2, H.out.2⟩
theorem beW_one (n : Int) : bcells (beW n 1) = [.int .u8 (IntKind.u8.wrap n)] := by
  show [Value.int .u8 ((byteOf n 0).toNat : Int)] = _
  rw [byteOf_cell]
  simp
set_option maxHeartbeats 3200000 in
theorem small7_any (w : World) (n : Int) :
    Calls Try.prog 42 #[.int .i64 n] w fun e w' => ∃ A c, e = .returned (.slice A 1 c) ∧ BytesAt w' A (beW n 1) ∧ 1 ≤ c ∧ Nw w w' := by
  go_enter Try.func42, Try.ntmps42
  go_wp2_with fail
  go_ret
  refine ⟨_, _, rfl, ?_, Nat.le_refl _, (Nw.refl w).alloc _⟩
  unfold BytesAt
  rw [beW_one]
  first | exact rd_last_row w _ _ | (have := IntKind.wrap_u8 n; simpa [this] using rd_last_row w 5 [.int .u8 (n % 256)])
end Go.Proofs.Ytnbcjjgilndlaaa
/- Messages: the document's texts, one behind the other. Helper. -/
namespace Go.Proofs.Ytnbcjjgilndlaaa
open Go.RowKit
set_option linter.unusedVariables false
set_option linter.unusedSimpArgs false
set_option maxRecDepth 100000
/-- A text in memory: where, its room, its bytes. -/
abbrev Tx := Option Addr × Nat × List UInt8
def Tx.v (p : Tx) : Value := .slice p.1 p.2.2.length p.2.1
def Tx.all (l : List Tx) : List UInt8 := l.flatMap fun p => p.2.2
theorem Tx.all_snoc (l : List Tx) (p : Tx) : Tx.all (l ++ [p]) = Tx.all l ++ p.2.2 := by simp [Tx.all]
theorem Tx.all_take (l : List Tx) (i : Nat) (h : i < l.length) : Tx.all (l.take (i + 1)) = Tx.all (l.take i) ++ l[i].2.2 := by
  rw [List.take_succ_eq_append_getElem h, Tx.all_snoc]
theorem Tx.len_take (l : List Tx) (i : Nat) : (Tx.all (l.take i)).length ≤ (Tx.all l).length := by
  have : Tx.all l = Tx.all (l.take i) ++ Tx.all (l.drop i) := by
    unfold Tx.all
    rw [← List.flatMap_append, List.take_append_drop]
  rw [this]; simp
theorem bcells_append (l m : List UInt8) : bcells (l ++ m) = bcells l ++ bcells m := by simp [bcells]
theorem Nw.trans {a b c : World} (h : Nw a b) (k : Nw b c) : Nw a c := Nw.step h k
set_option maxHeartbeats 3200000 in
theorem join7_any (w : World) (A : Option Addr) (c : Nat) (ps : List Tx) (h : Rd w A (ps.map Tx.v)) (hp : ∀ p ∈ ps, BytesAt w p.1 p.2.2) (hl : ps.length ≤ 1000) (hb : (Tx.all ps).length ≤ 1000000) :
    Calls Try.prog 40 #[.slice A ps.length c] w fun e w' => ∃ A' c' blk, e = .returned (.slice A' (Tx.all ps).length c') ∧ Own w' 5 1 (.slice A' (Tx.all ps).length c') (Tx.all ps).length (bcells (Tx.all ps)) blk ∧ (∀ g, blk = some g → w.heap.size ≤ g) ∧ Nw w w' := by
  obtain ⟨i0, hi0, hz0, hz1, hz2⟩ := info_parts infoU8
  have HL1 := Lib.hid hi0
  have HL2 := Lib.hid hz0
  have HL3 := Lib.hid hz1
  have HL4 := Lib.hid hz2
  have H := Lib.hid (And.intro h (And.intro hp (And.intro hl hb)))
  clear h hp hl hb hi0 hz0 hz1 hz2
  go_enter Try.func40, Try.ntmps40
  go_wp2_with fail
  go_loopw [3, 4] (fun x y wr => ∃ (i : Nat) (blk : Option Nat) (A' : Option Addr) (c' : Nat), i ≤ ps.length ∧ y = .int .i64 (i : Int) ∧ x = .slice A' (Tx.all (ps.take i)).length c' ∧ Own wr 5 1 (.slice A' (Tx.all (ps.take i)).length c') (Tx.all (ps.take i)).length (bcells (Tx.all (ps.take i))) blk ∧ (∀ g, blk = some g → w.heap.size ≤ g) ∧ Nw w wr) (fun _ y _ => ps.length - (intOf y).toNat)
  case atStart => exact ⟨0, none, none, 0, Nat.zero_le _, rfl, rfl, Own.nil _ _ _, (fun g hg => by cases hg), Nw.refl w⟩
  case round =>
    obtain ⟨i, blk, A', c', hi, rfl, rfl, hown, hblk, hn⟩ := hrel
    by_cases hlt : i < ps.length
    · have i1 : (i : Int) < (ps.length : Int) := by omega
      have i2 : (i : Int) ≤ 1000 := by have := H.out.2.2.1; omega
      obtain ⟨b, off, rfl, hblt, hcell⟩ := Rd.get (Rd.nw H.out.1 hn) (k := i) (by simpa using hlt)
      have c0 : wr.cell? ⟨b, off + i, none⟩ = some (.slice ps[i].1 ps[i].2.2.length ps[i].2.1) := hcell i _ (by simp [hlt, Tx.v])
      have HO := Lib.hid hown
      have HB := Lib.hid hblk
      have HN := Lib.hid hn
      have HX := Lib.hid (show BytesAt wr ps[i].1 ps[i].2.2 from Rd.nw (H.out.2.1 ps[i] (List.getElem_mem hlt)) hn)
      have hsum : (Tx.all (ps.take i)).length + ps[i].2.2.length ≤ 1000000 := by
        have h1 := Tx.len_take ps (i + 1)
        rw [Tx.all_take ps i hlt, List.length_append] at h1
        have := H.out.2.2.2
        omega
      have HE := Lib.hid (Tx.all_take ps i hlt)
      clear hown hblk hn hcell
      obtain ⟨X, hX⟩ : ∃ X : Tx, ps[i] = X := ⟨_, rfl⟩
      rw [hX] at c0 HX hsum HE
      obtain ⟨XA, XC, XL⟩ := X
      dsimp only at c0 HX hsum HE
      have HS := Lib.hid hsum
      clear hsum hX
      go_wp2_with (at_builtin; refine wpList_append_at _ rfl _ _ _ rfl 5 i0 _ 1 1 Try.underlying22 HL1.out HL2.out HL3.out HL4.out rfl (by omega) _ _ _ blk rfl HO.out _ XL.length XC (bcells XL) rfl (by rw [bcells_length]; omega) HX.out (bcells_one XL) (by have := HS.out; simp only [maxLen]; omega) (by have := HS.out; omega) ?_; intro A2 c2 w2 blk2 hown hchg hat; have HO2 := Lib.hid hown; have HC := Lib.hid hchg; have HA := Lib.hid hat; clear hown hchg hat)
      refine ⟨⟨i + 1, blk2, A2, c2, hlt, by go_num, ?_, ?_, ?_, ?_⟩, by simp [intOf]; omega⟩
      · rw [HE.out, List.length_append]
      · have := HO2.out
        rw [HE.out, List.length_append, bcells_append]
        exact this
      · intro g hg
        rcases HA.out with q | q
        · exact HB.out g (by rw [← q]; exact hg)
        · rw [q] at hg; injection hg with hg; rw [← hg]; exact HN.out.size
      · exact Below.trans HN.out (HC.out.below (fun k hk hq => HB.out k hq.symm) HN.out.size)
    · obtain rfl : i = ps.length := by omega
      have i1 : ¬ ((ps.length : Nat) : Int) < (ps.length : Int) := by omega
      rw [List.take_length] at hown ⊢
      have HO := Lib.hid hown
      have HB := Lib.hid hblk
      have HN := Lib.hid hn
      clear hown hblk hn
      go_wp2_with fail
      go_ret
      first | exact ⟨_, _, rfl, blk, HO.out, HB.out, HN.out⟩ | exact ⟨_, _, rfl, ⟨blk, HO.out, HB.out⟩, HN.out⟩
end Go.Proofs.Ytnbcjjgilndlaaa
/- Messages: the document's bytes of a request. Helper. -/
namespace Go.Proofs.Ytnbcjjgilndlaaa
open Go.RowKit
set_option linter.unusedVariables false
set_option linter.unusedSimpArgs false
set_option maxRecDepth 100000
/-- The bytes of what a request's kind names. -/
def askB (q : Rq) : List UInt8 :=
  if q.k = 1 then beW q.id 4 ++ beW q.ver 1
  else if q.k = 2 then beW q.id 4 ++ q.md
  else if q.k = 3 then beW q.id 4 ++ beW q.T 8 ++ beW q.tt 1 ++ beW q.kd 1 ++ beW q.da 8
  else if q.k = 4 then beW q.id 4 ++ beW q.nu 4 ++ beW q.bp 1 ++ beW q.bk 1 ++ beW q.bt 8
  else if q.k = 5 then beW q.id 4 ++ beW q.nu 4
  else if q.k = 6 then beW q.id 4 ++ beW q.pr 1
  else if q.k = 10 then beW q.id 4 ++ beW q.nm 8 ++ beW q.dn 8
  else beW q.id 4
/-- What the document's texts are made as. -/
def Txt7 (w : World) (l : List UInt8) (e : Ending) (w' : World) : Prop := ∃ A c, e = .returned (.slice A l.length c) ∧ BytesAt w' A l ∧ l.length ≤ c ∧ Nw w w'
theorem join_two (w : World) (A A1 A2 : Option Addr) (n1 n2 c c1 c2 : Nat) (l1 l2 : List UInt8) (h : Rd w A [.slice A1 n1 c1, .slice A2 n2 c2]) (b1 : BytesAt w A1 l1) (b2 : BytesAt w A2 l2) (h1 : l1.length = n1) (h2 : l2.length = n2) (hl : n1 + n2 ≤ 1000000) :
    Calls Try.prog 40 #[.slice A 2 c] w (Txt7 w (l1 ++ l2)) := by
  subst h1 h2
  refine (join7_any w A c [(A1, c1, l1), (A2, c2, l2)] h (by simp; exact ⟨b1, b2⟩) (by simp) (by simp [Tx.all]; omega)).mono ?_
  rintro e w' ⟨A', c', blk, rfl, ho, _, hn⟩
  obtain ⟨_, _, e2, hrd, hnc, _⟩ := ho.rd
  injection e2 with e3 _ e4
  subst e3 e4
  simp only [Tx.all, List.flatMap_cons, List.flatMap_nil, List.append_nil] at hrd hnc ⊢
  exact ⟨_, _, rfl, hrd, hnc, hn⟩
theorem join_three (w : World) (A A1 A2 A3 : Option Addr) (n1 n2 n3 c c1 c2 c3 : Nat) (l1 l2 l3 : List UInt8) (h : Rd w A [.slice A1 n1 c1, .slice A2 n2 c2, .slice A3 n3 c3]) (b1 : BytesAt w A1 l1) (b2 : BytesAt w A2 l2) (b3 : BytesAt w A3 l3) (h1 : l1.length = n1) (h2 : l2.length = n2) (h3 : l3.length = n3) (hl : n1 + n2 + n3 ≤ 1000000) :
    Calls Try.prog 40 #[.slice A 3 c] w (Txt7 w (l1 ++ l2 ++ l3)) := by
  subst h1 h2 h3
  refine (join7_any w A c [(A1, c1, l1), (A2, c2, l2), (A3, c3, l3)] h (by simp; exact ⟨b1, b2, b3⟩) (by simp) (by simp [Tx.all]; omega)).mono ?_
  rintro e w' ⟨A', c', blk, rfl, ho, _, hn⟩
  obtain ⟨_, _, e2, hrd, hnc, _⟩ := ho.rd
  injection e2 with e3 _ e4
  subst e3 e4
  simp only [Tx.all, List.flatMap_cons, List.flatMap_nil, List.append_nil, ← List.append_assoc] at hrd hnc ⊢
  exact ⟨_, _, rfl, hrd, hnc, hn⟩
theorem join_five (w : World) (A A1 A2 A3 A4 A5 : Option Addr) (n1 n2 n3 n4 n5 c c1 c2 c3 c4 c5 : Nat) (l1 l2 l3 l4 l5 : List UInt8) (h : Rd w A [.slice A1 n1 c1, .slice A2 n2 c2, .slice A3 n3 c3, .slice A4 n4 c4, .slice A5 n5 c5]) (b1 : BytesAt w A1 l1) (b2 : BytesAt w A2 l2) (b3 : BytesAt w A3 l3) (b4 : BytesAt w A4 l4) (b5 : BytesAt w A5 l5) (h1 : l1.length = n1) (h2 : l2.length = n2) (h3 : l3.length = n3) (h4 : l4.length = n4) (h5 : l5.length = n5) (hl : n1 + n2 + n3 + n4 + n5 ≤ 1000000) :
    Calls Try.prog 40 #[.slice A 5 c] w (Txt7 w (l1 ++ l2 ++ l3 ++ l4 ++ l5)) := by
  subst h1 h2 h3 h4 h5
  refine (join7_any w A c [(A1, c1, l1), (A2, c2, l2), (A3, c3, l3), (A4, c4, l4), (A5, c5, l5)] h (by simp; exact ⟨b1, b2, b3, b4, b5⟩) (by simp) (by simp [Tx.all]; omega)).mono ?_
  rintro e w' ⟨A', c', blk, rfl, ho, _, hn⟩
  obtain ⟨_, _, e2, hrd, hnc, _⟩ := ho.rd
  injection e2 with e3 _ e4
  subst e3 e4
  simp only [Tx.all, List.flatMap_cons, List.flatMap_nil, List.append_nil, ← List.append_assoc] at hrd hnc ⊢
  exact ⟨_, _, rfl, hrd, hnc, hn⟩
/-- New blocks alone, as a condition that is kept. -/
structure NwI (w W : World) : Prop where
  h : Nw w W
theorem NwI.drew {w W : World} (h : NwI w W) : NwI w W.drew := ⟨h.h.drew⟩
theorem NwI.alloc {w W : World} (h : NwI w W) (o : Obj) : NwI w (W.alloc o) := ⟨h.h.alloc o⟩
theorem NwI.step {w W W' : World} (h : NwI w W) (k : Nw W W') : NwI w W' := ⟨h.h.trans k⟩
/-- A request that is within bounds. -/
structure Rq.In (q : Rq) : Prop where
  id : 0 ≤ q.id ∧ q.id < 4294967296
  nu : 0 ≤ q.nu ∧ q.nu < 4294967296
  md : q.md.length ≤ 100000
end Go.Proofs.Ytnbcjjgilndlaaa
/- Messages: the document's numbers read; what is a number of 8 bits. Helper. -/
namespace Go.Proofs.Ytnbcjjgilndlaaa
open Go.RowKit
set_option linter.unusedVariables false
set_option linter.unusedSimpArgs false
set_option maxRecDepth 100000
theorem eight_any (w : World) (n : Int) :
    Calls Try.prog 37 #[.int .i64 n] w fun e w' => e = .returned (.bool (decide (0 ≤ n ∧ n ≤ 255))) ∧ w' = w := by
  go_enter Try.func37, Try.ntmps37
  by_cases h1 : 0 ≤ n
  · by_cases h2 : n ≤ 255
    · go_wp2_with fail
      go_ret
      exact ⟨by simp [h1, h2], rfl⟩
    · go_wp2_with fail
      go_ret
      exact ⟨by simp [h1, h2], rfl⟩
  · go_wp2_with fail
    go_ret
    exact ⟨by simp; omega, rfl⟩
set_option maxHeartbeats 3200000 in
theorem num_any (w : World) (A : Option Addr) (c : Nat) (bs : List UInt8) (hb : BytesAt w A bs) (hl : bs.length ≤ 8) :
    Calls Try.prog 33 #[.slice A bs.length c] w fun e w' => e = .returned (.int .u64 (beN bs : Int)) ∧ w' = w := by
  have H := Lib.hid (And.intro hb hl)
  clear hb hl
  go_enter Try.func33, Try.ntmps33
  go_wp2_with fail
  go_loopw [3, 4] (fun x y wr => ∃ i : Nat, i ≤ bs.length ∧ y = .int .i64 (i : Int) ∧ x = .int .u64 (beN (bs.take i) : Int) ∧ wr = w) (fun _ y _ => bs.length - (intOf y).toNat)
  case atStart => exact ⟨0, Nat.zero_le _, rfl, by simp [beN], rfl⟩
  case round =>
    obtain ⟨i, hi, rfl, rfl, rfl⟩ := hrel
    by_cases hlt : i < bs.length
    · have i1 : (i : Int) < (bs.length : Int) := by omega
      have i2 : (i : Int) < 8 := by have := H.out.2; omega
      obtain ⟨b, off, rfl, hblt, hcell⟩ := H.out.1.get (k := i) hlt
      have hU : beN (bs.take i) < 72057594037927936 := by
        have h1 := beN_lt (bs.take i)
        have h2 : (bs.take i).length ≤ 7 := by rw [List.length_take]; have := H.out.2; omega
        exact Nat.lt_of_lt_of_le h1 (Nat.pow_le_pow_right (by omega) h2)
      have hV : beN (bs.take (i + 1)) = beN (bs.take i) * 256 + bs[i].toNat := by
        rw [List.take_succ_eq_append_getElem hlt, beN_snoc]
      have hx := bs[i].toNat_lt
      have HV := Lib.hid hV
      obtain ⟨U, hUe⟩ : ∃ U, beN (bs.take i) = U := ⟨_, rfl⟩
      obtain ⟨x, hxe⟩ : ∃ x : Nat, bs[i].toNat = x := ⟨_, rfl⟩
      have HUX := Lib.hid (And.intro hUe hxe)
      rw [hUe] at hU ⊢
      rw [hxe] at hcell hx
      have hw1 : IntKind.u64.wrap (256 * (U : Int)) = 256 * (U : Int) := by rw [IntKind.wrap_u64]; omega
      have hw2 : IntKind.u64.wrap (256 * (U : Int) + (x : Int)) = 256 * (U : Int) + (x : Int) := by rw [IntKind.wrap_u64]; omega
      have hw3 : IntKind.u64.wrap (x : Int) = (x : Int) := by rw [IntKind.wrap_u64]; omega
      have HB := Lib.hid (And.intro hU hx)
      clear hUe hxe hV hU hx hblt
      go_wp2_with fail
      refine ⟨⟨i + 1, hlt, by go_num, ?_, by trivial⟩, by simp [intOf]; omega⟩
      have hq := HB.out
      rw [HV.out, HUX.out.1, HUX.out.2]
      first
        | (congr 1; push_cast; omega)
        | (simp; omega)
    · obtain rfl : i = bs.length := by omega
      have i1 : ¬ ((bs.length : Nat) : Int) < (bs.length : Int) := by omega
      rw [List.take_length]
      go_wp2_with fail
      go_ret
      first | exact ⟨rfl, rfl⟩ | rfl
end Go.Proofs.Ytnbcjjgilndlaaa
