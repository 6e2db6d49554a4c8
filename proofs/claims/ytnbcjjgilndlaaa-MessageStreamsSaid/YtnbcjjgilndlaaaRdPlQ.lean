/- Messages: ours decodes as the document does: requests. Helper. -/
import Derived.Test.YtnbcjjgilndlaaaRdDocP
import Derived.Test.YtnbcjjgilndlaaaRdDec0
import Derived.Test.YtnbcjjgilndlaaaRdDecF
import Derived.Test.YtnbcjjgilndlaaaRdDecG2
namespace Go.Proofs.Ytnbcjjgilndlaaa
open Go.RowKit
set_option linter.unusedVariables false
set_option linter.unusedSimpArgs false
set_option maxRecDepth 100000
theorem byteOf_add (v k : Int) (n i : Nat) (h : i < n) : byteOf (v + k * 2 ^ (8 * n)) i = byteOf v i := by
  unfold byteOf
  have e : (2 : Int) ^ (8 * n) = 2 ^ (8 * (n - i - 1)) * 256 * 2 ^ (8 * i) := by
    rw [show (256 : Int) = 2 ^ 8 from rfl, ← Int.pow_add, ← Int.pow_add]
    congr 1; omega
  have hp : (0 : Int) < 2 ^ (8 * i) := Int.pow_pos (by decide)
  rw [e, ← Int.mul_assoc, ← Int.mul_assoc, Int.add_mul_ediv_right _ _ (by omega)]
  congr 2
  rw [Int.add_mul_emod_self_right]
theorem beW_add (v k : Int) (n : Nat) : ∀ m, m ≤ n → beW (v + k * 2 ^ (8 * n)) m = beW v m
  | 0, _ => rfl
  | m + 1, h => by rw [beW, beW, byteOf_add v k n m (by omega), beW_add v k n m (by omega)]
theorem beN_cons (x : UInt8) (l : List UInt8) : beN (x :: l) = x.toNat * 256 ^ l.length + beN l := by
  suffices h : ∀ (l : List UInt8) (a : Nat), l.foldl (fun a x => a * 256 + x.toNat) a = a * 256 ^ l.length + beN l by
    have := h l (0 * 256 + x.toNat)
    simpa [beN] using this
  intro l
  induction l with
  | nil => intro a; simp [beN]
  | cons y l ih =>
    intro a
    have h1 := ih (a * 256 + y.toNat)
    have h2 := ih (0 * 256 + y.toNat)
    simp only [List.foldl_cons, beN] at h1 h2 ⊢
    rw [h1, h2, List.length_cons, Nat.pow_succ]
    simp only [Nat.zero_mul, Nat.zero_add, Nat.add_mul, Nat.mul_assoc, Nat.add_assoc]
    rw [Nat.mul_comm 256 (256 ^ l.length)]
theorem beW_beN : ∀ l : List UInt8, beW (beN l : Int) l.length = l
  | [] => rfl
  | x :: l => by
    have hl := beN_lt l
    have hp : (256 : Nat) ^ l.length = 2 ^ (8 * l.length) := by rw [show (256 : Nat) = 2 ^ 8 from rfl, ← Nat.pow_mul]
    have e : ((beN (x :: l) : Nat) : Int) = (beN l : Int) + (x.toNat : Int) * 2 ^ (8 * l.length) := by
      rw [beN_cons, hp]; push_cast; rw [Int.add_comm]
    rw [List.length_cons, beW, e, beW_add _ _ _ _ (Nat.le_refl _), beW_beN l]
    congr 1
    unfold byteOf
    have hq : (0 : Int) < 2 ^ (8 * l.length) := Int.pow_pos (by decide)
    have hl2 : (beN l : Int) < 2 ^ (8 * l.length) := by
      have : (beN l : Int) < ((256 ^ l.length : Nat) : Int) := by omega
      rw [hp] at this; push_cast at this; exact this
    rw [Int.add_mul_ediv_right _ _ (by omega), Int.ediv_eq_zero_of_lt (by omega) hl2]
    have hx := x.toNat_lt
    have : ((0 + (x.toNat : Int)) % 256).toNat = x.toNat := by omega
    rw [this]
    exact UInt8.toNat_inj.1 (by simp)
theorem beW_n {l : List UInt8} {n : Nat} (h : l.length = n) : beW (beN l : Int) n = l := by subst h; exact beW_beN l
theorem beW_s {l : List UInt8} (h : l.length = 8) : beW (s64 (beN l)) 8 = l := by
  have h1 := beN_lt l
  rw [h] at h1
  have := beW_wrap (s64 (beN l)) 8 (Nat.le_refl _) (beN l : Int) (by unfold s64; split <;> omega)
  rw [← this]; exact beW_n h
theorem beW_k {l : List UInt8} (h : l.length = 1) : beW (kindOf (beN l)) 1 = l := by
  obtain ⟨y, rfl⟩ : ∃ y, l = [y] := by
    match l, h with
    | [y], _ => exact ⟨y, rfl⟩
  unfold kindOf
  split
  · rename_i h2
    have : y = 255 := UInt8.toNat_inj.1 (by simpa [beN] using h2)
    subst this; rfl
  · exact beW_n (l := [y]) rfl
theorem cutl (bs : List UInt8) (a n b : Nat) (h : a + n = b) : (bs.drop a).take n ++ bs.drop b = bs.drop a := by
  subst h; rw [← List.drop_drop]; exact List.take_append_drop _ _
theorem kindOf_in (l : List UInt8) (h : l.length ≤ 1) : -1 ≤ kindOf (beN l) ∧ kindOf (beN l) ≤ 254 := by
  have := (wrap_byte l h).2.2
  unfold kindOf; split <;> omega
theorem right_1 (bs : List UInt8) (hl : bs.length = 5) : dec7Q (1 :: bs) = (⟨1, (beN (bs.take 4) : Int), (beN ((bs.drop 4).take 1) : Int), [], 0, 0, 0, 0, 0, 0, 0, 0, 0, 0, 0, 0, 0⟩, 0) := by
  rw [dec7Q_cons 1 bs (by decide) (by omega), show rawQ (UInt8.toNat 1) bs = ⟨1, (beN (bs.take 4) : Int), (beN ((bs.drop 4).take 1) : Int), [], 0, 0, 0, 0, 0, 0, 0, 0, 0, 0, 0, 0, 0⟩ from by simp [rawQ, Rq.zero, hl]]
  have hok : okQ ⟨1, (beN (bs.take 4) : Int), (beN ((bs.drop 4).take 1) : Int), [], 0, 0, 0, 0, 0, 0, 0, 0, 0, 0, 0, 0, 0⟩ := by
    have := (wrap_byte ((bs.drop 4).take 1) (by simp; omega)).2.2; refine ⟨⟨?_, ?_, ⟨?_, ?_⟩, ⟨?_, ?_⟩, ⟨?_, ?_⟩, ⟨?_, ?_⟩, ?_, ?_, ⟨?_, ?_⟩, ?_, ?_⟩, ?_⟩ <;> dsimp only <;> omega
  refine if_pos ⟨by rw [mayQ_yes hok]; simp [onlyQ, Rq.zero], ?_⟩
  show beW 1 1 ++ askB _ = _
  simp only [askB]
  rw [show beW 1 1 = [1] from rfl]
  simp only [Int.reduceEq, if_false, if_true, reduceIte]
  rw [beW_n (l := bs.take 4) (n := 4) (by simp; omega), beW_n (l := (bs.drop 4).take 1) (n := 1) (by simp; omega)]
  show 1 :: _ = _
  congr 1
  rw [List.take_of_length_le (l := bs.drop 4) (i := 1) (by simp; omega)]; rw [List.take_append_drop]
  rfl
theorem wrong_1 (bs : List UInt8) (hl : ¬ bs.length = 5) : dec7Q (1 :: bs) = (Rq.zero, 14) := by
  by_cases hs : bs.length < 4
  · simp only [dec7Q]; rw [if_neg (by decide), if_pos hs]
  rw [dec7Q_cons 1 bs (by decide) hs, show rawQ (UInt8.toNat 1) bs = { Rq.zero with k := 1, id := (beN (bs.take 4) : Int) } from by simp [rawQ, hl]]
  rw [if_neg]
  rintro ⟨_, h⟩
  have := congrArg List.length h
  simp [askB, beW_length] at this
  omega
theorem right_3 (bs : List UInt8) (hl : bs.length = 22) : dec7Q (3 :: bs) = (⟨3, (beN (bs.take 4) : Int), 0, [], (s64 (beN ((bs.drop 4).take 8))), 0, 0, (beN ((bs.drop 12).take 1) : Int), (beN ((bs.drop 13).take 1) : Int), (s64 (beN ((bs.drop 14).take 8))), 0, 0, 0, 0, 0, 0, 0⟩, 0) := by
  rw [dec7Q_cons 3 bs (by decide) (by omega), show rawQ (UInt8.toNat 3) bs = ⟨3, (beN (bs.take 4) : Int), 0, [], (s64 (beN ((bs.drop 4).take 8))), 0, 0, (beN ((bs.drop 12).take 1) : Int), (beN ((bs.drop 13).take 1) : Int), (s64 (beN ((bs.drop 14).take 8))), 0, 0, 0, 0, 0, 0, 0⟩ from by simp [rawQ, Rq.zero, hl]]
  have hok : okQ ⟨3, (beN (bs.take 4) : Int), 0, [], (s64 (beN ((bs.drop 4).take 8))), 0, 0, (beN ((bs.drop 12).take 1) : Int), (beN ((bs.drop 13).take 1) : Int), (s64 (beN ((bs.drop 14).take 8))), 0, 0, 0, 0, 0, 0, 0⟩ := by
    have := (wrap_byte ((bs.drop 12).take 1) (by simp; omega)).2.2; have := (wrap_byte ((bs.drop 13).take 1) (by simp; omega)).2.2; refine ⟨⟨?_, ?_, ⟨?_, ?_⟩, ⟨?_, ?_⟩, ⟨?_, ?_⟩, ⟨?_, ?_⟩, ?_, ?_, ⟨?_, ?_⟩, ?_, ?_⟩, ?_⟩ <;> dsimp only <;> omega
  refine if_pos ⟨by rw [mayQ_yes hok]; simp [onlyQ, Rq.zero], ?_⟩
  show beW 3 1 ++ askB _ = _
  simp only [askB]
  rw [show beW 3 1 = [3] from rfl]
  simp only [Int.reduceEq, if_false, if_true, reduceIte]
  rw [beW_n (l := bs.take 4) (n := 4) (by simp; omega), beW_s (l := (bs.drop 4).take 8) (by simp; omega), beW_n (l := (bs.drop 12).take 1) (n := 1) (by simp; omega), beW_n (l := (bs.drop 13).take 1) (n := 1) (by simp; omega), beW_s (l := (bs.drop 14).take 8) (by simp; omega)]
  show 3 :: _ = _
  congr 1
  simp only [List.append_assoc]; rw [List.take_of_length_le (l := bs.drop 14) (i := 8) (by simp; omega)]; rw [cutl bs 13 1 14 rfl]; rw [cutl bs 12 1 13 rfl]; rw [cutl bs 4 8 12 rfl]; rw [List.take_append_drop]
  rfl
theorem wrong_3 (bs : List UInt8) (hl : ¬ bs.length = 22) : dec7Q (3 :: bs) = (Rq.zero, 14) := by
  by_cases hs : bs.length < 4
  · simp only [dec7Q]; rw [if_neg (by decide), if_pos hs]
  rw [dec7Q_cons 3 bs (by decide) hs, show rawQ (UInt8.toNat 3) bs = { Rq.zero with k := 3, id := (beN (bs.take 4) : Int) } from by simp [rawQ, hl]]
  rw [if_neg]
  rintro ⟨_, h⟩
  have := congrArg List.length h
  simp [askB, beW_length] at this
  omega
theorem right_4 (bs : List UInt8) (hl : bs.length = 18) : dec7Q (4 :: bs) = (⟨4, (beN (bs.take 4) : Int), 0, [], 0, 0, 0, 0, 0, 0, (beN ((bs.drop 4).take 4) : Int), (beN ((bs.drop 8).take 1) : Int), (kindOf (beN ((bs.drop 9).take 1))), (s64 (beN ((bs.drop 10).take 8))), 0, 0, 0⟩, 0) := by
  rw [dec7Q_cons 4 bs (by decide) (by omega), show rawQ (UInt8.toNat 4) bs = ⟨4, (beN (bs.take 4) : Int), 0, [], 0, 0, 0, 0, 0, 0, (beN ((bs.drop 4).take 4) : Int), (beN ((bs.drop 8).take 1) : Int), (kindOf (beN ((bs.drop 9).take 1))), (s64 (beN ((bs.drop 10).take 8))), 0, 0, 0⟩ from by simp [rawQ, Rq.zero, hl]]
  have hok : okQ ⟨4, (beN (bs.take 4) : Int), 0, [], 0, 0, 0, 0, 0, 0, (beN ((bs.drop 4).take 4) : Int), (beN ((bs.drop 8).take 1) : Int), (kindOf (beN ((bs.drop 9).take 1))), (s64 (beN ((bs.drop 10).take 8))), 0, 0, 0⟩ := by
    have := (wrap_byte ((bs.drop 8).take 1) (by simp; omega)).2.2; have := (wrap_byte ((bs.drop 9).take 1) (by simp; omega)).2.2; have := kindOf_in ((bs.drop 9).take 1) (by simp; omega); refine ⟨⟨?_, ?_, ⟨?_, ?_⟩, ⟨?_, ?_⟩, ⟨?_, ?_⟩, ⟨?_, ?_⟩, ?_, ?_, ⟨?_, ?_⟩, ?_, ?_⟩, ?_⟩ <;> dsimp only <;> omega
  refine if_pos ⟨by rw [mayQ_yes hok]; simp [onlyQ, Rq.zero], ?_⟩
  show beW 4 1 ++ askB _ = _
  simp only [askB]
  rw [show beW 4 1 = [4] from rfl]
  simp only [Int.reduceEq, if_false, if_true, reduceIte]
  rw [beW_n (l := bs.take 4) (n := 4) (by simp; omega), beW_n (l := (bs.drop 4).take 4) (n := 4) (by simp; omega), beW_n (l := (bs.drop 8).take 1) (n := 1) (by simp; omega), beW_k (l := (bs.drop 9).take 1) (by simp; omega), beW_s (l := (bs.drop 10).take 8) (by simp; omega)]
  show 4 :: _ = _
  congr 1
  simp only [List.append_assoc]; rw [List.take_of_length_le (l := bs.drop 10) (i := 8) (by simp; omega)]; rw [cutl bs 9 1 10 rfl]; rw [cutl bs 8 1 9 rfl]; rw [cutl bs 4 4 8 rfl]; rw [List.take_append_drop]
  rfl
theorem wrong_4 (bs : List UInt8) (hl : ¬ bs.length = 18) : dec7Q (4 :: bs) = (Rq.zero, 14) := by
  by_cases hs : bs.length < 4
  · simp only [dec7Q]; rw [if_neg (by decide), if_pos hs]
  rw [dec7Q_cons 4 bs (by decide) hs, show rawQ (UInt8.toNat 4) bs = { Rq.zero with k := 4, id := (beN (bs.take 4) : Int) } from by simp [rawQ, hl]]
  rw [if_neg]
  rintro ⟨_, h⟩
  have := congrArg List.length h
  simp [askB, beW_length] at this
  omega
theorem right_5 (bs : List UInt8) (hl : bs.length = 8) : dec7Q (5 :: bs) = (⟨5, (beN (bs.take 4) : Int), 0, [], 0, 0, 0, 0, 0, 0, (beN ((bs.drop 4).take 4) : Int), 0, 0, 0, 0, 0, 0⟩, 0) := by
  rw [dec7Q_cons 5 bs (by decide) (by omega), show rawQ (UInt8.toNat 5) bs = ⟨5, (beN (bs.take 4) : Int), 0, [], 0, 0, 0, 0, 0, 0, (beN ((bs.drop 4).take 4) : Int), 0, 0, 0, 0, 0, 0⟩ from by simp [rawQ, Rq.zero, hl]]
  have hok : okQ ⟨5, (beN (bs.take 4) : Int), 0, [], 0, 0, 0, 0, 0, 0, (beN ((bs.drop 4).take 4) : Int), 0, 0, 0, 0, 0, 0⟩ := by
    refine ⟨⟨?_, ?_, ⟨?_, ?_⟩, ⟨?_, ?_⟩, ⟨?_, ?_⟩, ⟨?_, ?_⟩, ?_, ?_, ⟨?_, ?_⟩, ?_, ?_⟩, ?_⟩ <;> dsimp only <;> omega
  refine if_pos ⟨by rw [mayQ_yes hok]; simp [onlyQ, Rq.zero], ?_⟩
  show beW 5 1 ++ askB _ = _
  simp only [askB]
  rw [show beW 5 1 = [5] from rfl]
  simp only [Int.reduceEq, if_false, if_true, reduceIte]
  rw [beW_n (l := bs.take 4) (n := 4) (by simp; omega), beW_n (l := (bs.drop 4).take 4) (n := 4) (by simp; omega)]
  show 5 :: _ = _
  congr 1
  rw [List.take_of_length_le (l := bs.drop 4) (i := 4) (by simp; omega)]; rw [List.take_append_drop]
  rfl
theorem wrong_5 (bs : List UInt8) (hl : ¬ bs.length = 8) : dec7Q (5 :: bs) = (Rq.zero, 14) := by
  by_cases hs : bs.length < 4
  · simp only [dec7Q]; rw [if_neg (by decide), if_pos hs]
  rw [dec7Q_cons 5 bs (by decide) hs, show rawQ (UInt8.toNat 5) bs = { Rq.zero with k := 5, id := (beN (bs.take 4) : Int) } from by simp [rawQ, hl]]
  rw [if_neg]
  rintro ⟨_, h⟩
  have := congrArg List.length h
  simp [askB, beW_length] at this
  omega
theorem right_6 (bs : List UInt8) (hl : bs.length = 5) : dec7Q (6 :: bs) = (⟨6, (beN (bs.take 4) : Int), 0, [], 0, 0, 0, 0, 0, 0, 0, 0, 0, 0, (beN ((bs.drop 4).take 1) : Int), 0, 0⟩, 0) := by
  rw [dec7Q_cons 6 bs (by decide) (by omega), show rawQ (UInt8.toNat 6) bs = ⟨6, (beN (bs.take 4) : Int), 0, [], 0, 0, 0, 0, 0, 0, 0, 0, 0, 0, (beN ((bs.drop 4).take 1) : Int), 0, 0⟩ from by simp [rawQ, Rq.zero, hl]]
  have hok : okQ ⟨6, (beN (bs.take 4) : Int), 0, [], 0, 0, 0, 0, 0, 0, 0, 0, 0, 0, (beN ((bs.drop 4).take 1) : Int), 0, 0⟩ := by
    have := (wrap_byte ((bs.drop 4).take 1) (by simp; omega)).2.2; refine ⟨⟨?_, ?_, ⟨?_, ?_⟩, ⟨?_, ?_⟩, ⟨?_, ?_⟩, ⟨?_, ?_⟩, ?_, ?_, ⟨?_, ?_⟩, ?_, ?_⟩, ?_⟩ <;> dsimp only <;> omega
  refine if_pos ⟨by rw [mayQ_yes hok]; simp [onlyQ, Rq.zero], ?_⟩
  show beW 6 1 ++ askB _ = _
  simp only [askB]
  rw [show beW 6 1 = [6] from rfl]
  simp only [Int.reduceEq, if_false, if_true, reduceIte]
  rw [beW_n (l := bs.take 4) (n := 4) (by simp; omega), beW_n (l := (bs.drop 4).take 1) (n := 1) (by simp; omega)]
  show 6 :: _ = _
  congr 1
  rw [List.take_of_length_le (l := bs.drop 4) (i := 1) (by simp; omega)]; rw [List.take_append_drop]
  rfl
theorem wrong_6 (bs : List UInt8) (hl : ¬ bs.length = 5) : dec7Q (6 :: bs) = (Rq.zero, 14) := by
  by_cases hs : bs.length < 4
  · simp only [dec7Q]; rw [if_neg (by decide), if_pos hs]
  rw [dec7Q_cons 6 bs (by decide) hs, show rawQ (UInt8.toNat 6) bs = { Rq.zero with k := 6, id := (beN (bs.take 4) : Int) } from by simp [rawQ, hl]]
  rw [if_neg]
  rintro ⟨_, h⟩
  have := congrArg List.length h
  simp [askB, beW_length] at this
  omega
theorem right_7 (bs : List UInt8) (hl : bs.length = 4) : dec7Q (7 :: bs) = (⟨7, (beN (bs.take 4) : Int), 0, [], 0, 0, 0, 0, 0, 0, 0, 0, 0, 0, 0, 0, 0⟩, 0) := by
  rw [dec7Q_cons 7 bs (by decide) (by omega), show rawQ (UInt8.toNat 7) bs = ⟨7, (beN (bs.take 4) : Int), 0, [], 0, 0, 0, 0, 0, 0, 0, 0, 0, 0, 0, 0, 0⟩ from by simp [rawQ, Rq.zero]]
  have hok : okQ ⟨7, (beN (bs.take 4) : Int), 0, [], 0, 0, 0, 0, 0, 0, 0, 0, 0, 0, 0, 0, 0⟩ := by
    refine ⟨⟨?_, ?_, ⟨?_, ?_⟩, ⟨?_, ?_⟩, ⟨?_, ?_⟩, ⟨?_, ?_⟩, ?_, ?_, ⟨?_, ?_⟩, ?_, ?_⟩, ?_⟩ <;> dsimp only <;> omega
  refine if_pos ⟨by rw [mayQ_yes hok]; simp [onlyQ, Rq.zero], ?_⟩
  show beW 7 1 ++ askB _ = _
  simp only [askB]
  rw [show beW 7 1 = [7] from rfl]
  simp only [Int.reduceEq, if_false, if_true, reduceIte]
  rw [beW_n (l := bs.take 4) (n := 4) (by simp; omega)]
  show 7 :: _ = _
  congr 1
  rw [List.take_of_length_le (by omega)]
  rfl
theorem wrong_7 (bs : List UInt8) (hl : ¬ bs.length = 4) : dec7Q (7 :: bs) = (Rq.zero, 14) := by
  by_cases hs : bs.length < 4
  · simp only [dec7Q]; rw [if_neg (by decide), if_pos hs]
  rw [dec7Q_cons 7 bs (by decide) hs, show rawQ (UInt8.toNat 7) bs = { Rq.zero with k := 7, id := (beN (bs.take 4) : Int) } from by simp [rawQ]]
  rw [if_neg]
  rintro ⟨_, h⟩
  have := congrArg List.length h
  simp [askB, beW_length] at this
  omega
theorem right_8 (bs : List UInt8) (hl : bs.length = 4) : dec7Q (8 :: bs) = (⟨8, (beN (bs.take 4) : Int), 0, [], 0, 0, 0, 0, 0, 0, 0, 0, 0, 0, 0, 0, 0⟩, 0) := by
  rw [dec7Q_cons 8 bs (by decide) (by omega), show rawQ (UInt8.toNat 8) bs = ⟨8, (beN (bs.take 4) : Int), 0, [], 0, 0, 0, 0, 0, 0, 0, 0, 0, 0, 0, 0, 0⟩ from by simp [rawQ, Rq.zero]]
  have hok : okQ ⟨8, (beN (bs.take 4) : Int), 0, [], 0, 0, 0, 0, 0, 0, 0, 0, 0, 0, 0, 0, 0⟩ := by
    refine ⟨⟨?_, ?_, ⟨?_, ?_⟩, ⟨?_, ?_⟩, ⟨?_, ?_⟩, ⟨?_, ?_⟩, ?_, ?_, ⟨?_, ?_⟩, ?_, ?_⟩, ?_⟩ <;> dsimp only <;> omega
  refine if_pos ⟨by rw [mayQ_yes hok]; simp [onlyQ, Rq.zero], ?_⟩
  show beW 8 1 ++ askB _ = _
  simp only [askB]
  rw [show beW 8 1 = [8] from rfl]
  simp only [Int.reduceEq, if_false, if_true, reduceIte]
  rw [beW_n (l := bs.take 4) (n := 4) (by simp; omega)]
  show 8 :: _ = _
  congr 1
  rw [List.take_of_length_le (by omega)]
  rfl
theorem wrong_8 (bs : List UInt8) (hl : ¬ bs.length = 4) : dec7Q (8 :: bs) = (Rq.zero, 14) := by
  by_cases hs : bs.length < 4
  · simp only [dec7Q]; rw [if_neg (by decide), if_pos hs]
  rw [dec7Q_cons 8 bs (by decide) hs, show rawQ (UInt8.toNat 8) bs = { Rq.zero with k := 8, id := (beN (bs.take 4) : Int) } from by simp [rawQ]]
  rw [if_neg]
  rintro ⟨_, h⟩
  have := congrArg List.length h
  simp [askB, beW_length] at this
  omega
theorem right_9 (bs : List UInt8) (hl : bs.length = 4) : dec7Q (9 :: bs) = (⟨9, (beN (bs.take 4) : Int), 0, [], 0, 0, 0, 0, 0, 0, 0, 0, 0, 0, 0, 0, 0⟩, 0) := by
  rw [dec7Q_cons 9 bs (by decide) (by omega), show rawQ (UInt8.toNat 9) bs = ⟨9, (beN (bs.take 4) : Int), 0, [], 0, 0, 0, 0, 0, 0, 0, 0, 0, 0, 0, 0, 0⟩ from by simp [rawQ, Rq.zero]]
  have hok : okQ ⟨9, (beN (bs.take 4) : Int), 0, [], 0, 0, 0, 0, 0, 0, 0, 0, 0, 0, 0, 0, 0⟩ := by
    refine ⟨⟨?_, ?_, ⟨?_, ?_⟩, ⟨?_, ?_⟩, ⟨?_, ?_⟩, ⟨?_, ?_⟩, ?_, ?_, ⟨?_, ?_⟩, ?_, ?_⟩, ?_⟩ <;> dsimp only <;> omega
  refine if_pos ⟨by rw [mayQ_yes hok]; simp [onlyQ, Rq.zero], ?_⟩
  show beW 9 1 ++ askB _ = _
  simp only [askB]
  rw [show beW 9 1 = [9] from rfl]
  simp only [Int.reduceEq, if_false, if_true, reduceIte]
  rw [beW_n (l := bs.take 4) (n := 4) (by simp; omega)]
  show 9 :: _ = _
  congr 1
  rw [List.take_of_length_le (by omega)]
  rfl
theorem wrong_9 (bs : List UInt8) (hl : ¬ bs.length = 4) : dec7Q (9 :: bs) = (Rq.zero, 14) := by
  by_cases hs : bs.length < 4
  · simp only [dec7Q]; rw [if_neg (by decide), if_pos hs]
  rw [dec7Q_cons 9 bs (by decide) hs, show rawQ (UInt8.toNat 9) bs = { Rq.zero with k := 9, id := (beN (bs.take 4) : Int) } from by simp [rawQ]]
  rw [if_neg]
  rintro ⟨_, h⟩
  have := congrArg List.length h
  simp [askB, beW_length] at this
  omega
theorem right_10 (bs : List UInt8) (hl : bs.length = 20) : dec7Q (10 :: bs) = (⟨10, (beN (bs.take 4) : Int), 0, [], 0, 0, 0, 0, 0, 0, 0, 0, 0, 0, 0, (s64 (beN ((bs.drop 4).take 8))), (s64 (beN ((bs.drop 12).take 8)))⟩, 0) := by
  rw [dec7Q_cons 10 bs (by decide) (by omega), show rawQ (UInt8.toNat 10) bs = ⟨10, (beN (bs.take 4) : Int), 0, [], 0, 0, 0, 0, 0, 0, 0, 0, 0, 0, 0, (s64 (beN ((bs.drop 4).take 8))), (s64 (beN ((bs.drop 12).take 8)))⟩ from by simp [rawQ, Rq.zero, hl]]
  have hok : okQ ⟨10, (beN (bs.take 4) : Int), 0, [], 0, 0, 0, 0, 0, 0, 0, 0, 0, 0, 0, (s64 (beN ((bs.drop 4).take 8))), (s64 (beN ((bs.drop 12).take 8)))⟩ := by
    refine ⟨⟨?_, ?_, ⟨?_, ?_⟩, ⟨?_, ?_⟩, ⟨?_, ?_⟩, ⟨?_, ?_⟩, ?_, ?_, ⟨?_, ?_⟩, ?_, ?_⟩, ?_⟩ <;> dsimp only <;> omega
  refine if_pos ⟨by rw [mayQ_yes hok]; simp [onlyQ, Rq.zero], ?_⟩
  show beW 10 1 ++ askB _ = _
  simp only [askB]
  rw [show beW 10 1 = [10] from rfl]
  simp only [Int.reduceEq, if_false, if_true, reduceIte]
  rw [beW_n (l := bs.take 4) (n := 4) (by simp; omega), beW_s (l := (bs.drop 4).take 8) (by simp; omega), beW_s (l := (bs.drop 12).take 8) (by simp; omega)]
  show 10 :: _ = _
  congr 1
  simp only [List.append_assoc]; rw [List.take_of_length_le (l := bs.drop 12) (i := 8) (by simp; omega)]; rw [cutl bs 4 8 12 rfl]; rw [List.take_append_drop]
  rfl
theorem wrong_10 (bs : List UInt8) (hl : ¬ bs.length = 20) : dec7Q (10 :: bs) = (Rq.zero, 14) := by
  by_cases hs : bs.length < 4
  · simp only [dec7Q]; rw [if_neg (by decide), if_pos hs]
  rw [dec7Q_cons 10 bs (by decide) hs, show rawQ (UInt8.toNat 10) bs = { Rq.zero with k := 10, id := (beN (bs.take 4) : Int) } from by simp [rawQ, hl]]
  rw [if_neg]
  rintro ⟨_, h⟩
  have := congrArg List.length h
  simp [askB, beW_length] at this
  omega
theorem right_11 (bs : List UInt8) (hl : bs.length = 4) : dec7Q (11 :: bs) = (⟨11, (beN (bs.take 4) : Int), 0, [], 0, 0, 0, 0, 0, 0, 0, 0, 0, 0, 0, 0, 0⟩, 0) := by
  rw [dec7Q_cons 11 bs (by decide) (by omega), show rawQ (UInt8.toNat 11) bs = ⟨11, (beN (bs.take 4) : Int), 0, [], 0, 0, 0, 0, 0, 0, 0, 0, 0, 0, 0, 0, 0⟩ from by simp [rawQ, Rq.zero]]
  have hok : okQ ⟨11, (beN (bs.take 4) : Int), 0, [], 0, 0, 0, 0, 0, 0, 0, 0, 0, 0, 0, 0, 0⟩ := by
    refine ⟨⟨?_, ?_, ⟨?_, ?_⟩, ⟨?_, ?_⟩, ⟨?_, ?_⟩, ⟨?_, ?_⟩, ?_, ?_, ⟨?_, ?_⟩, ?_, ?_⟩, ?_⟩ <;> dsimp only <;> omega
  refine if_pos ⟨by rw [mayQ_yes hok]; simp [onlyQ, Rq.zero], ?_⟩
  show beW 11 1 ++ askB _ = _
  simp only [askB]
  rw [show beW 11 1 = [11] from rfl]
  simp only [Int.reduceEq, if_false, if_true, reduceIte]
  rw [beW_n (l := bs.take 4) (n := 4) (by simp; omega)]
  show 11 :: _ = _
  congr 1
  rw [List.take_of_length_le (by omega)]
  rfl
theorem wrong_11 (bs : List UInt8) (hl : ¬ bs.length = 4) : dec7Q (11 :: bs) = (Rq.zero, 14) := by
  by_cases hs : bs.length < 4
  · simp only [dec7Q]; rw [if_neg (by decide), if_pos hs]
  rw [dec7Q_cons 11 bs (by decide) hs, show rawQ (UInt8.toNat 11) bs = { Rq.zero with k := 11, id := (beN (bs.take 4) : Int) } from by simp [rawQ]]
  rw [if_neg]
  rintro ⟨_, h⟩
  have := congrArg List.length h
  simp [askB, beW_length] at this
  omega
theorem right_12 (bs : List UInt8) (hl : bs.length = 4) : dec7Q (12 :: bs) = (⟨12, (beN (bs.take 4) : Int), 0, [], 0, 0, 0, 0, 0, 0, 0, 0, 0, 0, 0, 0, 0⟩, 0) := by
  rw [dec7Q_cons 12 bs (by decide) (by omega), show rawQ (UInt8.toNat 12) bs = ⟨12, (beN (bs.take 4) : Int), 0, [], 0, 0, 0, 0, 0, 0, 0, 0, 0, 0, 0, 0, 0⟩ from by simp [rawQ, Rq.zero]]
  have hok : okQ ⟨12, (beN (bs.take 4) : Int), 0, [], 0, 0, 0, 0, 0, 0, 0, 0, 0, 0, 0, 0, 0⟩ := by
    refine ⟨⟨?_, ?_, ⟨?_, ?_⟩, ⟨?_, ?_⟩, ⟨?_, ?_⟩, ⟨?_, ?_⟩, ?_, ?_, ⟨?_, ?_⟩, ?_, ?_⟩, ?_⟩ <;> dsimp only <;> omega
  refine if_pos ⟨by rw [mayQ_yes hok]; simp [onlyQ, Rq.zero], ?_⟩
  show beW 12 1 ++ askB _ = _
  simp only [askB]
  rw [show beW 12 1 = [12] from rfl]
  simp only [Int.reduceEq, if_false, if_true, reduceIte]
  rw [beW_n (l := bs.take 4) (n := 4) (by simp; omega)]
  show 12 :: _ = _
  congr 1
  rw [List.take_of_length_le (by omega)]
  rfl
theorem wrong_12 (bs : List UInt8) (hl : ¬ bs.length = 4) : dec7Q (12 :: bs) = (Rq.zero, 14) := by
  by_cases hs : bs.length < 4
  · simp only [dec7Q]; rw [if_neg (by decide), if_pos hs]
  rw [dec7Q_cons 12 bs (by decide) hs, show rawQ (UInt8.toNat 12) bs = { Rq.zero with k := 12, id := (beN (bs.take 4) : Int) } from by simp [rawQ]]
  rw [if_neg]
  rintro ⟨_, h⟩
  have := congrArg List.length h
  simp [askB, beW_length] at this
  omega
theorem right_2 (bs : List UInt8) (hl : 5 ≤ bs.length ∧ bs.length ≤ 4095) : dec7Q (2 :: bs) = (⟨2, (beN (bs.take 4) : Int), 0, bs.drop 4, 0, 0, 0, 0, 0, 0, 0, 0, 0, 0, 0, 0, 0⟩, 0) := by
  rw [dec7Q_cons 2 bs (by decide) (by omega), show rawQ (UInt8.toNat 2) bs = ⟨2, (beN (bs.take 4) : Int), 0, bs.drop 4, 0, 0, 0, 0, 0, 0, 0, 0, 0, 0, 0, 0, 0⟩ from by simp [rawQ, Rq.zero]]
  have hok : okQ ⟨2, (beN (bs.take 4) : Int), 0, bs.drop 4, 0, 0, 0, 0, 0, 0, 0, 0, 0, 0, 0, 0, 0⟩ := by
    refine ⟨⟨?_, ?_, ⟨?_, ?_⟩, ⟨?_, ?_⟩, ⟨?_, ?_⟩, ⟨?_, ?_⟩, ?_, ?_, ⟨?_, ?_⟩, ?_, ?_⟩, fun _ => ⟨?_, ?_⟩⟩ <;> dsimp only <;> first | omega | (simp; omega)
  refine if_pos ⟨by rw [mayQ_yes hok]; simp [onlyQ, Rq.zero], ?_⟩
  show beW 2 1 ++ askB _ = _
  simp only [askB]
  rw [show beW 2 1 = [2] from rfl]
  simp only [Int.reduceEq, if_false, if_true, reduceIte]
  rw [beW_n (l := bs.take 4) (n := 4) (by simp; omega)]
  show 2 :: _ = _
  congr 1
  rw [List.take_append_drop]
  rfl
theorem wrong_2 (bs : List UInt8) (hl : ¬ (5 ≤ bs.length ∧ bs.length ≤ 4095)) : dec7Q (2 :: bs) = (Rq.zero, 14) := by
  by_cases hs : bs.length < 4
  · simp only [dec7Q]; rw [if_neg (by decide), if_pos hs]
  rw [dec7Q_cons 2 bs (by decide) hs, show rawQ (UInt8.toNat 2) bs = ⟨2, (beN (bs.take 4) : Int), 0, bs.drop 4, 0, 0, 0, 0, 0, 0, 0, 0, 0, 0, 0, 0, 0⟩ from by simp [rawQ, Rq.zero]]
  rw [if_neg]
  rintro ⟨h, _⟩
  have hno : ¬ okQ ⟨2, (beN (bs.take 4) : Int), 0, bs.drop 4, 0, 0, 0, 0, 0, 0, 0, 0, 0, 0, 0, 0, 0⟩ := fun h => by have := h.2 rfl; simp only [List.length_drop] at this; omega
  rw [mayQ_no hno] at h
  cases h
end Go.Proofs.Ytnbcjjgilndlaaa
/- Messages: ours decodes as the document does: requests. Helper. -/
namespace Go.Proofs.Ytnbcjjgilndlaaa
open Go.RowKit
set_option linter.unusedVariables false
set_option linter.unusedSimpArgs false
set_option maxRecDepth 100000
/-- What a decoding tells, in blocks of its own. -/
def Dec7F (w : World) (p : Rq × Int) (e : Ending) (w' : World) : Prop := ∃ A c, e = .returned (.tuple #[.agg (p.1.c A c).toArray, .int .i64 p.2]) ∧ BytesAt w' A p.1.md ∧ Nw w w' ∧ ∀ a, A = some a → w.heap.size ≤ a.block
theorem dec7f_zero {w w' : World} {e : Ending} {n : Int} (h : Nw w w') (he : e = .returned (.tuple #[.agg #[.int .i64 0, .int .u32 0, .int .i64 0, .slice none 0 0, .int .i64 0, .int .i64 0, .int .i64 0, .int .i64 0, .int .i64 0, .int .i64 0, .int .u32 0, .int .i64 0, .int .i64 0, .int .i64 0, .int .i64 0, .int .i64 0, .int .i64 0], .int .i64 n])) : Dec7F w (Rq.zero, n) e w' :=
  ⟨none, 0, by rw [he]; rfl, .inl rfl, h, fun a ha => by cases ha⟩
theorem ourQ_any (w : World) (A : Option Addr) (n c : Nat) (bs : List UInt8) (hb : BytesAt w A bs) (hn : bs.length = n) (hc : n ≤ c) (hm : n ≤ 90000) :
    Calls Try.prog 9 #[.slice A n c] w (Dec7F w (dec7Q bs)) := by
  cases bs with
  | nil =>
    obtain rfl : n = 0 := by simpa using hn.symm
    refine (decQ_none w A c).mono ?_
    rintro e w' ⟨h, he⟩
    exact dec7f_zero h he
  | cons x bs =>
    have hn : bs.length + 1 = n := by simpa using hn
    by_cases hx : x.toNat < 1 ∨ 12 < x.toNat
    · refine (decQ_other w A n c x bs hb hn hx).mono ?_
      rintro e w' ⟨h, he⟩
      rw [show dec7Q (x :: bs) = (Rq.zero, 12) by simp only [dec7Q]; rw [if_pos hx]]
      exact dec7f_zero h he
    by_cases h1 : x.toNat = 1
    · obtain rfl : x = 1 := UInt8.toNat_inj.1 h1
      refine (decQ1 w A n c bs hb hn hc).mono ?_
      rintro e w' ⟨h, ⟨hl, he⟩ | ⟨hl, he⟩⟩
      · rw [right_1 bs hl]
        exact ⟨none, 0, by rw [he]; rfl, .inl rfl, h, fun a ha => by cases ha⟩
      · rw [wrong_1 bs hl]
        exact dec7f_zero h he
    by_cases h2 : x.toNat = 2
    · obtain rfl : x = 2 := UInt8.toNat_inj.1 h2
      refine (decQ2 w A n c bs hb hn hc (by omega)).mono ?_
      rintro e w' ⟨h, ⟨hl, A', c', he, hr⟩ | ⟨hl, he⟩⟩
      · rw [right_2 bs hl]
        obtain ⟨hr1, g, x, hg, hg2⟩ := hr
        exact ⟨A', c', by rw [he]; rfl, hr1, h, fun a ha => by rw [hg] at ha; injection ha with ha; rw [← ha]; exact hg2⟩
      · rw [wrong_2 bs hl]
        exact dec7f_zero h he
    by_cases h3 : x.toNat = 3
    · obtain rfl : x = 3 := UInt8.toNat_inj.1 h3
      refine (decQ3 w A n c bs hb hn hc).mono ?_
      rintro e w' ⟨h, ⟨hl, he⟩ | ⟨hl, he⟩⟩
      · rw [right_3 bs hl]
        exact ⟨none, 0, by rw [he]; rfl, .inl rfl, h, fun a ha => by cases ha⟩
      · rw [wrong_3 bs hl]
        exact dec7f_zero h he
    by_cases h4 : x.toNat = 4
    · obtain rfl : x = 4 := UInt8.toNat_inj.1 h4
      refine (decQ4 w A n c bs hb hn hc).mono ?_
      rintro e w' ⟨h, ⟨hl, he⟩ | ⟨hl, he⟩⟩
      · rw [right_4 bs hl]
        exact ⟨none, 0, by rw [he]; rfl, .inl rfl, h, fun a ha => by cases ha⟩
      · rw [wrong_4 bs hl]
        exact dec7f_zero h he
    by_cases h5 : x.toNat = 5
    · obtain rfl : x = 5 := UInt8.toNat_inj.1 h5
      refine (decQ5 w A n c bs hb hn hc).mono ?_
      rintro e w' ⟨h, ⟨hl, he⟩ | ⟨hl, he⟩⟩
      · rw [right_5 bs hl]
        exact ⟨none, 0, by rw [he]; rfl, .inl rfl, h, fun a ha => by cases ha⟩
      · rw [wrong_5 bs hl]
        exact dec7f_zero h he
    by_cases h6 : x.toNat = 6
    · obtain rfl : x = 6 := UInt8.toNat_inj.1 h6
      refine (decQ6 w A n c bs hb hn hc).mono ?_
      rintro e w' ⟨h, ⟨hl, he⟩ | ⟨hl, he⟩⟩
      · rw [right_6 bs hl]
        exact ⟨none, 0, by rw [he]; rfl, .inl rfl, h, fun a ha => by cases ha⟩
      · rw [wrong_6 bs hl]
        exact dec7f_zero h he
    by_cases h7 : x.toNat = 7
    · obtain rfl : x = 7 := UInt8.toNat_inj.1 h7
      refine (decQ7 w A n c bs hb hn hc).mono ?_
      rintro e w' ⟨h, ⟨hl, he⟩ | ⟨hl, he⟩⟩
      · rw [right_7 bs hl]
        exact ⟨none, 0, by rw [he]; rfl, .inl rfl, h, fun a ha => by cases ha⟩
      · rw [wrong_7 bs hl]
        exact dec7f_zero h he
    by_cases h8 : x.toNat = 8
    · obtain rfl : x = 8 := UInt8.toNat_inj.1 h8
      refine (decQ8 w A n c bs hb hn hc).mono ?_
      rintro e w' ⟨h, ⟨hl, he⟩ | ⟨hl, he⟩⟩
      · rw [right_8 bs hl]
        exact ⟨none, 0, by rw [he]; rfl, .inl rfl, h, fun a ha => by cases ha⟩
      · rw [wrong_8 bs hl]
        exact dec7f_zero h he
    by_cases h9 : x.toNat = 9
    · obtain rfl : x = 9 := UInt8.toNat_inj.1 h9
      refine (decQ9 w A n c bs hb hn hc).mono ?_
      rintro e w' ⟨h, ⟨hl, he⟩ | ⟨hl, he⟩⟩
      · rw [right_9 bs hl]
        exact ⟨none, 0, by rw [he]; rfl, .inl rfl, h, fun a ha => by cases ha⟩
      · rw [wrong_9 bs hl]
        exact dec7f_zero h he
    by_cases h10 : x.toNat = 10
    · obtain rfl : x = 10 := UInt8.toNat_inj.1 h10
      refine (decQ10 w A n c bs hb hn hc).mono ?_
      rintro e w' ⟨h, ⟨hl, he⟩ | ⟨hl, he⟩⟩
      · rw [right_10 bs hl]
        exact ⟨none, 0, by rw [he]; rfl, .inl rfl, h, fun a ha => by cases ha⟩
      · rw [wrong_10 bs hl]
        exact dec7f_zero h he
    by_cases h11 : x.toNat = 11
    · obtain rfl : x = 11 := UInt8.toNat_inj.1 h11
      refine (decQ11 w A n c bs hb hn hc).mono ?_
      rintro e w' ⟨h, ⟨hl, he⟩ | ⟨hl, he⟩⟩
      · rw [right_11 bs hl]
        exact ⟨none, 0, by rw [he]; rfl, .inl rfl, h, fun a ha => by cases ha⟩
      · rw [wrong_11 bs hl]
        exact dec7f_zero h he
    by_cases h12 : x.toNat = 12
    · obtain rfl : x = 12 := UInt8.toNat_inj.1 h12
      refine (decQ12 w A n c bs hb hn hc).mono ?_
      rintro e w' ⟨h, ⟨hl, he⟩ | ⟨hl, he⟩⟩
      · rw [right_12 bs hl]
        exact ⟨none, 0, by rw [he]; rfl, .inl rfl, h, fun a ha => by cases ha⟩
      · rw [wrong_12 bs hl]
        exact dec7f_zero h he
    omega
end Go.Proofs.Ytnbcjjgilndlaaa
