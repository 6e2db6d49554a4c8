/- Messages: ours decodes as the document does: responses. Helper. -/
import Derived.Test.YtnbcjjgilndlaaaRdRefT
import Derived.Test.YtnbcjjgilndlaaaRdPlQ
import Derived.Test.YtnbcjjgilndlaaaRdDec0
import Derived.Test.YtnbcjjgilndlaaaRdDecI
import Derived.Test.YtnbcjjgilndlaaaRdDecH2
namespace Go.Proofs.Ytnbcjjgilndlaaa
open Go.RowKit
set_option linter.unusedVariables false
set_option linter.unusedSimpArgs false
set_option maxRecDepth 100000
theorem nums_succ (bs : List UInt8) (N : Nat) : nums bs (N + 1) = s64 (beN (bs.take 8)) :: nums (bs.drop 8) N := by
  unfold nums
  rw [List.range_succ_eq_map, List.map_cons, List.map_map]
  congr 1
  apply List.map_congr_left
  intro j _
  simp only [Function.comp, List.drop_drop]
  rw [show 8 * (j + 1) = 8 + 8 * j by omega]
theorem nums_len (bs : List UInt8) (N : Nat) : (nums bs N).length = N := by simp [nums]
theorem flat_nums : ∀ (N : Nat) (bs : List UInt8), bs.length = 8 * N → ((nums bs N).flatMap fun v => beW v 8) = bs
  | 0, bs, h => by
    have : bs = [] := List.eq_nil_of_length_eq_zero (by omega)
    subst this; rfl
  | N + 1, bs, h => by
    rw [nums_succ, List.flatMap_cons, beW_s (by simp; omega), flat_nums N (bs.drop 8) (by simp; omega), List.take_append_drop]
theorem rightS_1 (bs : List UInt8) (hl : bs.length = 13 ∧ beN ((bs.drop 4).take 1) ≤ 16) : dec7S (1 :: bs) = (⟨1, (beN (bs.take 4) : Int), (beN ((bs.drop 4).take 1) : Int), (s64 (beN ((bs.drop 5).take 8))), [], 0, 0, 0, 0, 0, 0, 0, 0, 0, 0, 0, 0, 0⟩, 0) := by
  rw [dec7S_cons 1 bs (by decide), show rawS (UInt8.toNat 1) bs = ⟨1, (beN (bs.take 4) : Int), (beN ((bs.drop 4).take 1) : Int), (s64 (beN ((bs.drop 5).take 8))), [], 0, 0, 0, 0, 0, 0, 0, 0, 0, 0, 0, 0, 0⟩ from by have h := hl.1; simp [rawS, Rs.zero, h]]
  have hok : inS ⟨1, (beN (bs.take 4) : Int), (beN ((bs.drop 4).take 1) : Int), (s64 (beN ((bs.drop 5).take 8))), [], 0, 0, 0, 0, 0, 0, 0, 0, 0, 0, 0, 0, 0⟩ := by
    have := (wrap_byte ((bs.drop 4).take 1) (by simp; omega)).2.2; refine ⟨?_, ?_, ?_, ?_, ?_, ⟨?_, ?_⟩, ⟨?_, ?_⟩, ⟨?_, ?_⟩, ⟨?_, ?_⟩, ⟨?_, ?_⟩, ⟨?_, ?_⟩⟩ <;> dsimp only <;> first | omega | (simp; done) | (simp; omega)
  refine if_pos ⟨by rw [mayS_yes hok]; simp [onlyS, Rs.zero], ?_⟩
  simp only [encB, keyB]
  rw [show beW 1 1 = [1] from rfl]
  simp only [Int.reduceEq, if_false, if_true, reduceIte]
  rw [beW_n (l := bs.take 4) (n := 4) (by simp; omega), beW_n (l := (bs.drop 4).take 1) (n := 1) (by simp; omega), beW_s (l := (bs.drop 5).take 8) (by simp; omega)]
  simp only [List.append_assoc, List.cons_append, List.nil_append]
  congr 1
  rw [List.take_of_length_le (l := bs.drop 5) (i := 8) (by simp; omega)]; rw [cutl bs 4 1 5 rfl]; rw [List.take_append_drop]
theorem wrongS_1 (bs : List UInt8) (hl : ¬ (bs.length = 13 ∧ beN ((bs.drop 4).take 1) ≤ 16)) : dec7S (1 :: bs) = (Rs.zero, 14) := by
  rw [dec7S_cons 1 bs (by decide)]
  by_cases hs : bs.length = 13
  · rw [show rawS (UInt8.toNat 1) bs = ⟨1, (beN (bs.take 4) : Int), (beN ((bs.drop 4).take 1) : Int), (s64 (beN ((bs.drop 5).take 8))), [], 0, 0, 0, 0, 0, 0, 0, 0, 0, 0, 0, 0, 0⟩ from by simp [rawS, Rs.zero, hs]]
    refine if_neg ?_
    rintro ⟨h, _⟩
    rw [mayS_no (fun h => hl ⟨hs, by have := h.2.2.2.1; dsimp only at this; omega⟩)] at h
    cases h
  · rw [show rawS (UInt8.toNat 1) bs = { Rs.zero with k := 1 } from by simp [rawS, hs]]
    refine if_neg ?_
    rintro ⟨_, h⟩
    have := congrArg List.length h
    simp [encB, keyB, beW_length] at this
    omega
theorem rightS_2 (bs : List UInt8) (hl : 13 ≤ bs.length ∧ beN ((bs.drop 12).take 1) ≤ 8 ∧ bs.length = 13 + 8 * beN ((bs.drop 12).take 1)) : dec7S (2 :: bs) = (⟨2, (beN (bs.take 4) : Int), 0, (s64 (beN ((bs.drop 4).take 8))), nums (bs.drop 13) (beN ((bs.drop 12).take 1)), 0, 0, 0, 0, 0, 0, 0, 0, 0, 0, 0, 0, 0⟩, 0) := by
  rw [dec7S_cons 2 bs (by decide), show rawS (UInt8.toNat 2) bs = ⟨2, (beN (bs.take 4) : Int), 0, (s64 (beN ((bs.drop 4).take 8))), nums (bs.drop 13) (beN ((bs.drop 12).take 1)), 0, 0, 0, 0, 0, 0, 0, 0, 0, 0, 0, 0, 0⟩ from by rw [rawS, if_neg (by simp), if_neg (by simp), if_neg (by simp), if_neg (by simp), if_pos ⟨rfl, hl⟩]; simp [Rs.zero]]
  have hok : inS ⟨2, (beN (bs.take 4) : Int), 0, (s64 (beN ((bs.drop 4).take 8))), nums (bs.drop 13) (beN ((bs.drop 12).take 1)), 0, 0, 0, 0, 0, 0, 0, 0, 0, 0, 0, 0, 0⟩ := by
    have := nums_len (bs.drop 13) (beN ((bs.drop 12).take 1)); refine ⟨?_, ?_, ?_, ?_, ?_, ⟨?_, ?_⟩, ⟨?_, ?_⟩, ⟨?_, ?_⟩, ⟨?_, ?_⟩, ⟨?_, ?_⟩, ⟨?_, ?_⟩⟩ <;> dsimp only <;> first | omega | (simp; done) | (simp; omega)
  refine if_pos ⟨by rw [mayS_yes hok]; simp [onlyS, Rs.zero], ?_⟩
  simp only [encB, keyB]
  rw [show beW 2 1 = [2] from rfl]
  simp only [Int.reduceEq, if_false, if_true, reduceIte]
  rw [beW_n (l := bs.take 4) (n := 4) (by simp; omega), beW_s (l := (bs.drop 4).take 8) (by simp; omega), nums_len, beW_n (l := (bs.drop 12).take 1) (n := 1) (by simp; omega), flat_nums _ (bs.drop 13) (by simp; omega)]
  simp only [List.append_assoc, List.cons_append, List.nil_append]
  congr 1
  rw [cutl bs 12 1 13 rfl]; rw [cutl bs 4 8 12 rfl]; rw [List.take_append_drop]
theorem wrongS_2 (bs : List UInt8) (hl : ¬ (13 ≤ bs.length ∧ beN ((bs.drop 12).take 1) ≤ 8 ∧ bs.length = 13 + 8 * beN ((bs.drop 12).take 1))) : dec7S (2 :: bs) = (Rs.zero, 14) := by
  rw [dec7S_cons 2 bs (by decide), show rawS (UInt8.toNat 2) bs = { Rs.zero with k := 2 } from by rw [rawS, if_neg (by simp), if_neg (by simp), if_neg (by simp), if_neg (by simp), if_neg (fun h => hl h.2)]; rfl]
  refine if_neg ?_
  rintro ⟨_, h⟩
  have h1 := congrArg List.length h
  have h2 : encB { Rs.zero with k := 2 } = [2, 0, 0, 0, 0, 0, 0, 0, 0, 0, 0, 0, 0, 0] := rfl
  rw [h2] at h h1
  injection h with _ h
  subst h
  exact hl (by decide)
theorem rightS_3 (bs : List UInt8) (hl : bs.length = 27) : dec7S (3 :: bs) = (⟨3, 0, 0, 0, [], (s64 (beN (bs.take 8))), (beN ((bs.drop 8).take 1) : Int), (s64 (beN ((bs.drop 9).take 8))), (beN ((bs.drop 17).take 1) : Int), (beN ((bs.drop 18).take 1) : Int), (s64 (beN ((bs.drop 19).take 8))), 0, 0, 0, 0, 0, 0, 0⟩, 0) := by
  rw [dec7S_cons 3 bs (by decide), show rawS (UInt8.toNat 3) bs = ⟨3, 0, 0, 0, [], (s64 (beN (bs.take 8))), (beN ((bs.drop 8).take 1) : Int), (s64 (beN ((bs.drop 9).take 8))), (beN ((bs.drop 17).take 1) : Int), (beN ((bs.drop 18).take 1) : Int), (s64 (beN ((bs.drop 19).take 8))), 0, 0, 0, 0, 0, 0, 0⟩ from by have h := hl; simp [rawS, Rs.zero, h]]
  have hok : inS ⟨3, 0, 0, 0, [], (s64 (beN (bs.take 8))), (beN ((bs.drop 8).take 1) : Int), (s64 (beN ((bs.drop 9).take 8))), (beN ((bs.drop 17).take 1) : Int), (beN ((bs.drop 18).take 1) : Int), (s64 (beN ((bs.drop 19).take 8))), 0, 0, 0, 0, 0, 0, 0⟩ := by
    have := (wrap_byte ((bs.drop 8).take 1) (by simp; omega)).2.2; have := (wrap_byte ((bs.drop 17).take 1) (by simp; omega)).2.2; have := (wrap_byte ((bs.drop 18).take 1) (by simp; omega)).2.2; refine ⟨?_, ?_, ?_, ?_, ?_, ⟨?_, ?_⟩, ⟨?_, ?_⟩, ⟨?_, ?_⟩, ⟨?_, ?_⟩, ⟨?_, ?_⟩, ⟨?_, ?_⟩⟩ <;> dsimp only <;> first | omega | (simp; done) | (simp; omega)
  refine if_pos ⟨by rw [mayS_yes hok]; simp [onlyS, Rs.zero], ?_⟩
  simp only [encB, keyB]
  rw [show beW 3 1 = [3] from rfl]
  simp only [Int.reduceEq, if_false, if_true, reduceIte]
  rw [beW_s (l := bs.take 8) (by simp; omega), beW_n (l := (bs.drop 8).take 1) (n := 1) (by simp; omega), beW_s (l := (bs.drop 9).take 8) (by simp; omega), beW_n (l := (bs.drop 17).take 1) (n := 1) (by simp; omega), beW_n (l := (bs.drop 18).take 1) (n := 1) (by simp; omega), beW_s (l := (bs.drop 19).take 8) (by simp; omega)]
  simp only [List.append_assoc, List.cons_append, List.nil_append]
  congr 1
  rw [List.take_of_length_le (l := bs.drop 19) (i := 8) (by simp; omega)]; rw [cutl bs 18 1 19 rfl]; rw [cutl bs 17 1 18 rfl]; rw [cutl bs 9 8 17 rfl]; rw [cutl bs 8 1 9 rfl]; rw [List.take_append_drop]
theorem wrongS_3 (bs : List UInt8) (hl : ¬ (bs.length = 27)) : dec7S (3 :: bs) = (Rs.zero, 14) := by
  rw [dec7S_cons 3 bs (by decide), show rawS (UInt8.toNat 3) bs = { Rs.zero with k := 3 } from by simp [rawS, hl]]
  refine if_neg ?_
  rintro ⟨_, h⟩
  have := congrArg List.length h
  simp [encB, keyB, beW_length] at this
  omega
theorem rightS_4 (bs : List UInt8) (hl : bs.length = 31) : dec7S (4 :: bs) = (⟨4, 0, 0, 0, [], 0, 0, 0, 0, 0, 0, (beN (bs.take 4) : Int), (s64 (beN ((bs.drop 4).take 8))), (beN ((bs.drop 12).take 1) : Int), (s64 (beN ((bs.drop 13).take 8))), (beN ((bs.drop 21).take 1) : Int), (beN ((bs.drop 22).take 1) : Int), (s64 (beN ((bs.drop 23).take 8)))⟩, 0) := by
  rw [dec7S_cons 4 bs (by decide), show rawS (UInt8.toNat 4) bs = ⟨4, 0, 0, 0, [], 0, 0, 0, 0, 0, 0, (beN (bs.take 4) : Int), (s64 (beN ((bs.drop 4).take 8))), (beN ((bs.drop 12).take 1) : Int), (s64 (beN ((bs.drop 13).take 8))), (beN ((bs.drop 21).take 1) : Int), (beN ((bs.drop 22).take 1) : Int), (s64 (beN ((bs.drop 23).take 8)))⟩ from by have h := hl; simp [rawS, Rs.zero, h]]
  have hok : inS ⟨4, 0, 0, 0, [], 0, 0, 0, 0, 0, 0, (beN (bs.take 4) : Int), (s64 (beN ((bs.drop 4).take 8))), (beN ((bs.drop 12).take 1) : Int), (s64 (beN ((bs.drop 13).take 8))), (beN ((bs.drop 21).take 1) : Int), (beN ((bs.drop 22).take 1) : Int), (s64 (beN ((bs.drop 23).take 8)))⟩ := by
    have := (wrap_byte ((bs.drop 12).take 1) (by simp; omega)).2.2; have := (wrap_byte ((bs.drop 21).take 1) (by simp; omega)).2.2; have := (wrap_byte ((bs.drop 22).take 1) (by simp; omega)).2.2; refine ⟨?_, ?_, ?_, ?_, ?_, ⟨?_, ?_⟩, ⟨?_, ?_⟩, ⟨?_, ?_⟩, ⟨?_, ?_⟩, ⟨?_, ?_⟩, ⟨?_, ?_⟩⟩ <;> dsimp only <;> first | omega | (simp; done) | (simp; omega)
  refine if_pos ⟨by rw [mayS_yes hok]; simp [onlyS, Rs.zero], ?_⟩
  simp only [encB, keyB]
  rw [show beW 4 1 = [4] from rfl]
  simp only [Int.reduceEq, if_false, if_true, reduceIte]
  rw [beW_n (l := bs.take 4) (n := 4) (by simp; omega), beW_s (l := (bs.drop 4).take 8) (by simp; omega), beW_n (l := (bs.drop 12).take 1) (n := 1) (by simp; omega), beW_s (l := (bs.drop 13).take 8) (by simp; omega), beW_n (l := (bs.drop 21).take 1) (n := 1) (by simp; omega), beW_n (l := (bs.drop 22).take 1) (n := 1) (by simp; omega), beW_s (l := (bs.drop 23).take 8) (by simp; omega)]
  simp only [List.append_assoc, List.cons_append, List.nil_append]
  congr 1
  rw [List.take_of_length_le (l := bs.drop 23) (i := 8) (by simp; omega)]; rw [cutl bs 22 1 23 rfl]; rw [cutl bs 21 1 22 rfl]; rw [cutl bs 13 8 21 rfl]; rw [cutl bs 12 1 13 rfl]; rw [cutl bs 4 8 12 rfl]; rw [List.take_append_drop]
theorem wrongS_4 (bs : List UInt8) (hl : ¬ (bs.length = 31)) : dec7S (4 :: bs) = (Rs.zero, 14) := by
  rw [dec7S_cons 4 bs (by decide), show rawS (UInt8.toNat 4) bs = { Rs.zero with k := 4 } from by simp [rawS, hl]]
  refine if_neg ?_
  rintro ⟨_, h⟩
  have := congrArg List.length h
  simp [encB, keyB, beW_length] at this
  omega
theorem rightS_5 (bs : List UInt8) (hl : bs.length = 1 ∧ beN (bs.take 1) ≤ 16) : dec7S (5 :: bs) = (⟨5, 0, (beN (bs.take 1) : Int), 0, [], 0, 0, 0, 0, 0, 0, 0, 0, 0, 0, 0, 0, 0⟩, 0) := by
  rw [dec7S_cons 5 bs (by decide), show rawS (UInt8.toNat 5) bs = ⟨5, 0, (beN (bs.take 1) : Int), 0, [], 0, 0, 0, 0, 0, 0, 0, 0, 0, 0, 0, 0, 0⟩ from by have h := hl.1; simp [rawS, Rs.zero, h]]
  have hok : inS ⟨5, 0, (beN (bs.take 1) : Int), 0, [], 0, 0, 0, 0, 0, 0, 0, 0, 0, 0, 0, 0, 0⟩ := by
    have := (wrap_byte (bs.take 1) (by simp; omega)).2.2; refine ⟨?_, ?_, ?_, ?_, ?_, ⟨?_, ?_⟩, ⟨?_, ?_⟩, ⟨?_, ?_⟩, ⟨?_, ?_⟩, ⟨?_, ?_⟩, ⟨?_, ?_⟩⟩ <;> dsimp only <;> first | omega | (simp; done) | (simp; omega)
  refine if_pos ⟨by rw [mayS_yes hok]; simp [onlyS, Rs.zero], ?_⟩
  simp only [encB, keyB]
  rw [show beW 5 1 = [5] from rfl]
  simp only [Int.reduceEq, if_false, if_true, reduceIte]
  rw [beW_n (l := bs.take 1) (n := 1) (by simp; omega)]
  simp only [List.append_assoc, List.cons_append, List.nil_append]
  congr 1
  rw [List.take_of_length_le (by omega)]
theorem wrongS_5 (bs : List UInt8) (hl : ¬ (bs.length = 1 ∧ beN (bs.take 1) ≤ 16)) : dec7S (5 :: bs) = (Rs.zero, 14) := by
  rw [dec7S_cons 5 bs (by decide)]
  by_cases hs : bs.length = 1
  · rw [show rawS (UInt8.toNat 5) bs = ⟨5, 0, (beN (bs.take 1) : Int), 0, [], 0, 0, 0, 0, 0, 0, 0, 0, 0, 0, 0, 0, 0⟩ from by simp [rawS, Rs.zero, hs]]
    refine if_neg ?_
    rintro ⟨h, _⟩
    rw [mayS_no (fun h => hl ⟨hs, by have := h.2.2.2.1; dsimp only at this; omega⟩)] at h
    cases h
  · rw [show rawS (UInt8.toNat 5) bs = { Rs.zero with k := 5 } from by simp [rawS, hs]]
    refine if_neg ?_
    rintro ⟨_, h⟩
    have := congrArg List.length h
    simp [encB, keyB, beW_length] at this
    omega
end Go.Proofs.Ytnbcjjgilndlaaa
/- Messages: ours decodes as the document does: responses. Helper. -/
namespace Go.Proofs.Ytnbcjjgilndlaaa
open Go.RowKit
set_option linter.unusedVariables false
set_option linter.unusedSimpArgs false
set_option maxRecDepth 100000
def DecS7F (w : World) (p : Rs × Int) (e : Ending) (w' : World) : Prop := ∃ A c, e = .returned (.tuple #[.agg (p.1.c A c).toArray, .int .i64 p.2]) ∧ IntsAt w' A p.1.vs ∧ Nw w w' ∧ ∀ a, A = some a → w.heap.size ≤ a.block
theorem decs7f_zero {w w' : World} {e : Ending} {n : Int} (h : Nw w w') (he : e = .returned (.tuple #[.agg #[.int .i64 0, .int .u32 0, .int .i64 0, .int .i64 0, .slice none 0 0, .int .i64 0, .int .i64 0, .int .i64 0, .int .i64 0, .int .i64 0, .int .i64 0, .int .u32 0, .int .i64 0, .int .i64 0, .int .i64 0, .int .i64 0, .int .i64 0, .int .i64 0], .int .i64 n])) : DecS7F w (Rs.zero, n) e w' :=
  ⟨none, 0, by rw [he]; rfl, .inl rfl, h, fun a ha => by cases ha⟩
theorem ourS_any (w : World) (A : Option Addr) (n c : Nat) (bs : List UInt8) (hb : BytesAt w A bs) (hn : bs.length = n) (hc : n ≤ c) (hm : n ≤ 90000) :
    Calls Try.prog 10 #[.slice A n c] w (DecS7F w (dec7S bs)) := by
  cases bs with
  | nil =>
    obtain rfl : n = 0 := by simpa using hn.symm
    refine (decS_none w A c).mono ?_
    rintro e w' ⟨h, he⟩
    exact decs7f_zero h he
  | cons x bs =>
    have hn : bs.length + 1 = n := by simpa using hn
    by_cases hx : x.toNat < 1 ∨ 5 < x.toNat
    · refine (decS_other w A n c x bs hb hn hx).mono ?_
      rintro e w' ⟨h, he⟩
      rw [show dec7S (x :: bs) = (Rs.zero, 12) by simp only [dec7S]; rw [if_pos hx]]
      exact decs7f_zero h he
    by_cases h1 : x.toNat = 1
    · obtain rfl : x = 1 := UInt8.toNat_inj.1 h1
      refine (decS1 w A n c bs hb hn hc).mono ?_
      rintro e w' ⟨h, ⟨hl, he⟩ | ⟨hl, he⟩⟩
      · rw [rightS_1 bs hl]
        exact ⟨none, 0, by rw [he]; rfl, .inl rfl, h, fun a ha => by cases ha⟩
      · rw [wrongS_1 bs hl]
        exact decs7f_zero h he
    by_cases h2 : x.toNat = 2
    · obtain rfl : x = 2 := UInt8.toNat_inj.1 h2
      refine (decS2 w A n c bs hb hn hc).mono ?_
      rintro e w' ⟨h, ⟨hl, G, he, hi, hg⟩ | ⟨hl, he⟩⟩
      · rw [rightS_2 bs hl]
        exact ⟨some ⟨G, 0, none⟩, beN ((bs.drop 12).take 1), by rw [he]; simp only [Rs.c]; rw [nums_len], hi, h, fun a ha => by injection ha with ha; rw [← ha]; exact hg⟩
      · rw [wrongS_2 bs hl]
        exact decs7f_zero h he
    by_cases h3 : x.toNat = 3
    · obtain rfl : x = 3 := UInt8.toNat_inj.1 h3
      refine (decS3 w A n c bs hb hn hc).mono ?_
      rintro e w' ⟨h, ⟨hl, he⟩ | ⟨hl, he⟩⟩
      · rw [rightS_3 bs hl]
        exact ⟨none, 0, by rw [he]; rfl, .inl rfl, h, fun a ha => by cases ha⟩
      · rw [wrongS_3 bs hl]
        exact decs7f_zero h he
    by_cases h4 : x.toNat = 4
    · obtain rfl : x = 4 := UInt8.toNat_inj.1 h4
      refine (decS4 w A n c bs hb hn hc).mono ?_
      rintro e w' ⟨h, ⟨hl, he⟩ | ⟨hl, he⟩⟩
      · rw [rightS_4 bs hl]
        exact ⟨none, 0, by rw [he]; rfl, .inl rfl, h, fun a ha => by cases ha⟩
      · rw [wrongS_4 bs hl]
        exact decs7f_zero h he
    by_cases h5 : x.toNat = 5
    · obtain rfl : x = 5 := UInt8.toNat_inj.1 h5
      refine (decS5 w A n c bs hb hn hc).mono ?_
      rintro e w' ⟨h, ⟨hl, he⟩ | ⟨hl, he⟩⟩
      · rw [rightS_5 bs hl]
        exact ⟨none, 0, by rw [he]; rfl, .inl rfl, h, fun a ha => by cases ha⟩
      · rw [wrongS_5 bs hl]
        exact decs7f_zero h he
    omega
end Go.Proofs.Ytnbcjjgilndlaaa
