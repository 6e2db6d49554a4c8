/- Messages: check; a number read. Helper. -/
import Derived.Test.YtnbcjjgilndlaaaMem
import Derived.Test.YtnbcjjgilndlaaaMore
import Derived.Test.YtnbcjjgilndlaaaSlices
import Derived.Test.YtnbcjjgilndlaaaHeld
import Derived.Recover
import Derived.Test.YtnbcjjgilndlaaaProg
import Derived.Deep.RegionHeld3
import Derived.Deep.RegionWith
import Derived.Deep.RegionLaw
import Derived.WalkLawsBesides
import Derived.Sort.Walk7a
namespace Go.Proofs.Ytnbcjjgilndlaaa
open Go.RowKit
set_option linter.unusedVariables false
set_option linter.unusedSimpArgs false
set_option maxRecDepth 100000
/-- What ends reading, or writing. -/
def boom : List PanicEntry := [{ v := .iface 128 (.agg #[]), recovered := false }]
theorem check_yes (w : World) : Calls Try.prog 64 #[.bool true] w fun e w' => e = .returned (.tuple #[]) ∧ w' = w := by
  go_enter Try.func64, Try.ntmps64
  go_wp2_with fail
  go_end0
  exact ⟨rfl, rfl⟩
theorem check_no (w : World) : Calls Try.prog 64 #[.bool false] w fun e w' => e = .panicked boom ∧ w' = w := by
  go_enter Try.func64, Try.ntmps64
  go_wp2_with fail
  exact ⟨rfl, rfl, rfl⟩
/-- The number of bytes, the highest first. -/
def beN (l : List UInt8) : Nat := l.foldl (fun a x => a * 256 + x.toNat) 0
def s64 (n : Nat) : Int := if n < 9223372036854775808 then (n : Int) else (n : Int) - 18446744073709551616
theorem beN_snoc (l : List UInt8) (x : UInt8) : beN (l ++ [x]) = beN l * 256 + x.toNat := by simp [beN]
theorem beN_lt (l : List UInt8) : beN l < 256 ^ l.length := by
  suffices h : ∀ m : List UInt8, beN m.reverse < 256 ^ m.length by have := h l.reverse; simpa using this
  intro m
  induction m with
  | nil => simp [beN]
  | cons x m ih =>
    rw [List.reverse_cons, beN_snoc, List.length_cons, Nat.pow_succ]
    have := x.toNat_lt
    omega
theorem BytesAt.far {w : World} {a : Option Addr} {l : List UInt8} (h : BytesAt w a l) {p : Addr} (u : Value) (hA : ∀ b o, a = some ⟨b, o, none⟩ → b ≠ p.block) : BytesAt (w.setCell p u) a l := by
  rcases h with h | ⟨b, o, e, h⟩
  · exact .inl h
  · refine .inr ⟨b, o, e, fun j v hv => ?_⟩
    rw [World.cell?_setCell_other _ _ _ _ (fun q => hA b o e (by rw [q]))]
    exact h j v hv
theorem s64_small {n : Nat} (h : n < 9223372036854775808) : s64 n = (n : Int) := if_pos h
theorem add_block (a : Addr) (i : Nat) : (a.add i).block = a.block := by unfold Addr.add; split <;> rfl
/-- A slice's text from k on. -/
def cutA (A : Option Addr) (c k : Nat) : Option Addr := if c = k then A else A.map fun x => x.add k
theorem cutA_block {A : Option Addr} {c k : Nat} {a : Addr} (h : cutA A c k = some a) : ∃ a0, A = some a0 ∧ a.block = a0.block := by
  unfold cutA at h
  split at h
  · exact ⟨a, h, rfl⟩
  · cases A with
    | none => cases h
    | some x => injection h with h; exact ⟨x, rfl, by rw [← h]; exact add_block x k⟩
theorem ofInt_wrap (n : Nat) (h : n < 18446744073709551616) : (BitVec.ofInt 64 (wrap64 (n : Int))).toNat = n := by
  rw [BitVec.toNat_ofInt]
  unfold wrap64
  have : ((2 ^ 64 : Nat) : Int) = 18446744073709551616 := by simp
  rw [this]
  omega
theorem or_step (U x : Nat) (hU : U < 72057594037927936) (hx : x < 256) : bits .or .i64 (wrap64 ((U : Int) * 256)) (wrap64 (x : Int)) = s64 (U * 256 + x) := by
  have h0 : ((U : Int) * 256) = ((U * 256 : Nat) : Int) := by push_cast; rfl
  have h1 : U * 256 ||| x = U * 256 + x := by
    have := Nat.two_pow_add_eq_or_of_lt (i := 8) (b := x) (by omega) U
    rw [show U * 256 = 2 ^ 8 * U by omega]
    exact this.symm
  rw [h0]
  show IntKind.i64.wrap ((BitVec.ofInt 64 (wrap64 ((U * 256 : Nat) : Int)) ||| BitVec.ofInt 64 (wrap64 (x : Int))).toNat : Int) = _
  rw [BitVec.toNat_or, ofInt_wrap _ (by omega), ofInt_wrap _ (by omega), h1]
  rw [IntKind.wrap_i64]
  unfold s64
  split <;> omega
set_option maxHeartbeats 3200000 in
theorem number_read (w : World) (P Nb no : Nat) (v : Int) (A : Option Addr) (n c : Nat) (bs : List UInt8) (k : Nat) (lo hi : Int) (hP : Blk w P 76 #[.slice A n c, .bool true]) (hb : BytesAt w A bs) (hn : bs.length = n) (hc : n ≤ c) (hnc : w.cell? ⟨Nb, no, none⟩ = some (.int .i64 v)) (hnf : w.frozen? ⟨Nb, no, none⟩ = false) (hne : Nb ≠ P) (hA : ∀ a, A = some a → a.block ≠ P ∧ a.block ≠ Nb) (hk : k = 1 ∨ k = 4 ∨ k = 8) (hkn : k ≤ n) (hlo : lo ≤ s64 (beN (bs.take k))) (hhi : s64 (beN (bs.take k)) ≤ hi) :
    Calls Try.prog 79 #[.pointer (some ⟨P, 0, none⟩), .pointer (some ⟨Nb, no, none⟩), .int .i64 (k : Int), .int .i64 lo, .int .i64 hi] w fun e w' => e = .returned (.tuple #[]) ∧ w' = (w.setCell ⟨Nb, no, none⟩ (.int .i64 (s64 (beN (bs.take k))))).setCell ⟨P, 0, none⟩ (.slice (cutA A c k) (n - k) (c - k)) ∧ BytesAt w' (cutA A c k) (bs.drop k) := by
  have c0 : w.cell? ⟨P, 0, none⟩ = some (.slice A n c) := (hP.cell 0).trans rfl
  have c1 : w.cell? ⟨P, 1, none⟩ = some (.bool true) := (hP.cell 1).trans rfl
  have g1 : (k : Int) ≤ (n : Int) := by omega
  have KY := Lib.hid (fun w => check_yes w)
  go_enter Try.func79, Try.ntmps79
  go_wp2_with fail
  refine (KY.out _).mono ?_
  rintro e w1 ⟨rfl, rfl⟩
  have g2 : (k : Int) ≤ (c : Int) := by omega
  have c00 : (w1.setCell ⟨Nb, no, none⟩ (.int .i64 0)).cell? ⟨P, 0, none⟩ = some (.slice A n c) := ((hP.far (p := ⟨Nb, no, none⟩) hne.symm _).cell 0).trans rfl
  have HP := Lib.hid hP
  have HBS := Lib.hid hb
  have HA := Lib.hid hA
  have HN := Lib.hid (And.intro hnc hnf)
  have HK := Lib.hid (And.intro hk (And.intro hkn hn))
  have HI := Lib.hid (And.intro hlo hhi)
  clear hP hb hA hk hlo hhi hn
  go_wp2_with fail
  go_loopw [34] (fun y wr => ∃ i : Nat, i ≤ k ∧ y = .int .i64 (i : Int) ∧ wr = w1.setCell ⟨Nb, no, none⟩ (.int .i64 (s64 (beN (bs.take i))))) (fun y _ => k - (intOf y).toNat)
  case atStart => exact ⟨0, Nat.zero_le _, rfl, by simp [beN, s64]⟩
  case round =>
    obtain ⟨i, hi, rfl, rfl⟩ := hrel
    have d1 : ∀ u, (w1.setCell ⟨Nb, no, none⟩ u).cell? ⟨Nb, no, none⟩ = some u := fun u => World.cell?_setCell_same' _ _ _ (by rw [HN.out.1]; rfl)
    have d2 : ∀ u, (w1.setCell ⟨Nb, no, none⟩ u).frozen? ⟨Nb, no, none⟩ = false := fun u => by rw [World.frozen?_setCell]; exact HN.out.2
    have d3 : ∀ u, (w1.setCell ⟨Nb, no, none⟩ u).cell? ⟨P, 0, none⟩ = some (.slice A n c) := fun u => ((HP.out.far (p := ⟨Nb, no, none⟩) hne.symm _).cell 0).trans rfl
    by_cases hlt : i < k
    · have i1 : (i : Int) < (k : Int) := by omega
      have hk8 : k ≤ 8 := by have := HK.out; omega
      obtain ⟨b, off, rfl, hblt, hcell⟩ := HBS.out.get (k := i) (by have := HK.out; omega)
      have d0 : ∀ u, (w1.setCell ⟨Nb, no, none⟩ u).cell? ⟨b, off + i, none⟩ = some (.int .u8 ((bs[i]'(by have := HK.out; omega)).toNat : Int)) := fun u => by
        rw [World.cell?_setCell_other _ _ _ _ (fun q => (HA.out _ rfl).2 (by injection q with q; exact q.symm))]; exact hcell
      have hU : beN (bs.take i) < 72057594037927936 := by
        have h1 := beN_lt (bs.take i)
        have h2 : (bs.take i).length ≤ 7 := by rw [List.length_take]; have := HK.out; omega
        exact Nat.lt_of_lt_of_le h1 (Nat.pow_le_pow_right (by omega) h2)
      have hV : beN (bs.take (i + 1)) = beN (bs.take i) * 256 + (bs[i]'(by have := HK.out; omega)).toNat := by
        rw [List.take_succ_eq_append_getElem (by have := HK.out; omega), beN_snoc]
      have hx := (bs[i]'(by have := HK.out; omega)).toNat_lt
      have HV := Lib.hid hV
      obtain ⟨U, hUe⟩ : ∃ U, beN (bs.take i) = U := ⟨_, rfl⟩
      obtain ⟨x, hxe⟩ : ∃ x : Nat, (bs[i]'(by have := HK.out; omega)).toNat = x := ⟨_, rfl⟩
      have HUX := Lib.hid (And.intro hUe hxe)
      rw [hUe] at hU ⊢
      rw [hxe] at d0 hx
      rw [s64_small (by omega)]
      have HB := Lib.hid (And.intro hU hx)
      have e1 := d1 (.int .i64 (U : Int))
      have e2 := d2 (.int .i64 (U : Int))
      have e0 := d0 (.int .i64 (U : Int))
      clear hUe hxe hV hcell d0 d1 d2 d3 hU hx
      go_wp2_with fail
      refine ⟨⟨i + 1, hlt, by go_num, ?_⟩, by simp [intOf]; omega⟩
      rw [or_step U x HB.out.1 HB.out.2, Go.Proofs.setCell_setCell, HV.out, HUX.out.1, HUX.out.2]
    · obtain rfl : i = k := by omega
      have i1 : ¬ (i : Int) < (i : Int) := by omega
      have hgo : i ≤ c := by omega
      have hi8 : i ≤ 8 := by have := HK.out; omega
      obtain ⟨V, hVe⟩ : ∃ V, s64 (beN (bs.take i)) = V := ⟨_, rfl⟩
      rw [hVe] at HI ⊢
      obtain ⟨h1, h2⟩ := HI.out
      have e1 := d1 (.int .i64 V)
      have e2 := d2 (.int .i64 V)
      have e3 := d3 (.int .i64 V)
      have e4 : (w1.setCell ⟨Nb, no, none⟩ (.int .i64 V)).frozen? ⟨P, 0, none⟩ = false := (HP.out.far (p := ⟨Nb, no, none⟩) hne.symm _).frozen 0
      have hcut := (HBS.out.far (p := ⟨Nb, no, none⟩) (.int .i64 V) (fun b o e => (HA.out _ e).2)).cut c (k := i) (by have := HK.out; omega) (by have := HK.out; omega)
      have HC := Lib.hid hcut
      have f1 : ∀ u, ((w1.setCell ⟨Nb, no, none⟩ (.int .i64 V)).setCell ⟨P, 0, none⟩ u).cell? ⟨Nb, no, none⟩ = some (.int .i64 V) := fun u => by
        rw [World.cell?_setCell_other _ _ _ _ (fun q => hne (by injection q with q; exact q.symm))]; exact e1
      have f2 : ∀ u, ((w1.setCell ⟨Nb, no, none⟩ (.int .i64 V)).setCell ⟨P, 0, none⟩ u).cell? ⟨P, 1, none⟩ = some (.bool true) := fun u => (((HP.out.far (p := ⟨Nb, no, none⟩) hne.symm _).set_ 0 u).cell 1).trans rfl
      clear d1 d2 d3 hcut
      by_cases hci : c = i
      · have hci' : (c : Int) = (i : Int) := by omega
        rw [if_pos hci] at HC
        go_wp2_with fail
        refine (KY.out _).mono ?_
        rintro e w9 ⟨rfl, rfl⟩
        go_wp2_with fail
        go_loopw [12] (fun y wr => y = .int .i64 ((i : Int) - 1) ∧ wr = (w1.setCell ⟨Nb, no, none⟩ (.int .i64 V)).setCell ⟨P, 0, none⟩ (.slice (A) (n - i) (c - i))) (fun _ _ => 0)
        case atStart => exact ⟨by go_num, by first | rfl | rw [hci, Nat.sub_self]⟩
        case round =>
          obtain ⟨rfl, rfl⟩ := hrel
          have j0 : (0 : Int) ≤ (i : Int) - 1 := by have := HK.out; omega
          go_wp2_with fail
          go_end0
          rw [show cutA A c i = A from if_pos hci]
          exact ⟨rfl, by rw [hVe, hci, Nat.sub_self], (HC.out.far (p := ⟨P, 0, none⟩) _ (fun b o e => (HA.out _ e).1))⟩
      · have hci' : ¬ (c : Int) = (i : Int) := by omega
        rw [if_neg hci] at HC
        go_wp2_with fail
        refine (KY.out _).mono ?_
        rintro e w9 ⟨rfl, rfl⟩
        go_wp2_with fail
        go_loopw [12] (fun y wr => y = .int .i64 ((i : Int) - 1) ∧ wr = (w1.setCell ⟨Nb, no, none⟩ (.int .i64 V)).setCell ⟨P, 0, none⟩ (.slice (Option.map (fun x => x.add i) A) (n - i) (c - i))) (fun _ _ => 0)
        case atStart => exact ⟨by go_num, rfl⟩
        case round =>
          obtain ⟨rfl, rfl⟩ := hrel
          have j0 : (0 : Int) ≤ (i : Int) - 1 := by have := HK.out; omega
          go_wp2_with fail
          go_end0
          rw [show cutA A c i = Option.map (fun x => x.add i) A from if_neg hci]
          exact ⟨rfl, by rw [hVe], (HC.out.far (p := ⟨P, 0, none⟩) _ (fun b o e => by
            cases hAA : A with
            | none => rw [hAA] at e; cases e
            | some a =>
              rw [hAA] at e
              injection e with e
              have e : a.add i = _ := e
              have h3 := (HA.out a hAA).1
              rw [← add_block a i, e] at h3
              exact h3))⟩
end Go.Proofs.Ytnbcjjgilndlaaa
