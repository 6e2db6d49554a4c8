/- Messages: what ours encodes, said as the document says it. Helper. -/
import Derived.Test.YtnbcjjgilndlaaaAkEnc
namespace Go.Proofs.Ytnbcjjgilndlaaa
open Go.RowKit
set_option linter.unusedVariables false
set_option linter.unusedSimpArgs false
set_option maxRecDepth 100000
set_option maxHeartbeats 3200000
theorem byteOf_nat (v : Int) (i : Nat) : ((byteOf v i).toNat : Int) = v / 2 ^ (8 * i) % 256 := by rw [byteOf_cell, IntKind.wrap_u8]
theorem back1 (v : Int) (hv : 0 ≤ v ∧ v ≤ 255) : (beN (beW v 1) : Int) = v := by
  simp only [beW, beN, List.foldl_cons, List.foldl_nil]
  have h0 := byteOf_nat v 0
  simp only [Nat.mul_zero, Int.reducePow] at h0
  omega
theorem back8 (v : Int) (hv : -9223372036854775808 ≤ v ∧ v ≤ 9223372036854775807) : s64 (beN (beW v 8)) = v := by
  simp only [beW, beN, List.foldl_cons, List.foldl_nil]
  have h0 := byteOf_nat v 0; have h1 := byteOf_nat v 1; have h2 := byteOf_nat v 2; have h3 := byteOf_nat v 3
  have h4 := byteOf_nat v 4; have h5 := byteOf_nat v 5; have h6 := byteOf_nat v 6; have h7 := byteOf_nat v 7
  simp only [Nat.mul_zero, Nat.reduceMul, Int.reducePow] at h0 h1 h2 h3 h4 h5 h6 h7
  unfold s64
  split <;> omega
theorem backK (v : Int) (hv : -1 ≤ v ∧ v ≤ 254) : kindOf (beN (beW v 1)) = v := by
  have h0 := byteOf_nat v 0
  simp only [Nat.mul_zero, Int.reducePow] at h0
  simp only [beW, beN, List.foldl_cons, List.foldl_nil]
  unfold kindOf
  split <;> omega
theorem kindB_byte (v : Int) : beW (kindB v) 1 = beW v 1 := by
  unfold kindB
  split
  · rename_i h; subst h; decide
  · rfl
theorem one_byte (k : Nat) (h : k ≤ 255) : beW (k : Int) 1 = [UInt8.ofNat k] := by
  simp only [beW, byteOf, Nat.mul_zero, Int.reducePow]
  congr 2
  omega
theorem askB_long (q : Rq) : ¬ (askB q).length < 4 := by
  unfold askB
  repeat' split
  all_goals simp [beW_len]
/-- The parts that a kind names are its bytes. -/
theorem partsQ_bytes (k : Nat) (q : Rq) (hk : q.k = k) (h : 1 ≤ k ∧ k ≤ 12) : ((partsQ k q).map (·.add)).flatten = askB q := by
  have : k = 1 ∨ k = 2 ∨ k = 3 ∨ k = 4 ∨ k = 5 ∨ k = 6 ∨ k = 7 ∨ k = 8 ∨ k = 9 ∨ k = 10 ∨ k = 11 ∨ k = 12 := by omega
  rcases this with rfl | rfl | rfl | rfl | rfl | rfl | rfl | rfl | rfl | rfl | rfl | rfl <;> simp [partsQ, askB, hk, kindB_byte]
/-- A request that may be is told back. -/
theorem rawQ_back (k : Nat) (q : Rq) (hk : q.k = k) (hq : q.Fit) (hm : mayQ q = true) : rawQ k (askB q) = q := by
  simp only [mayQ, Bool.and_eq_true, decide_eq_true_eq] at hm
  obtain ⟨⟨hi, _⟩, ho⟩ := hm
  obtain ⟨h1, h2, hver, hpr, htt, hkd, hO, hS, hbp, hb1, hb2⟩ := hi
  have : k = 1 ∨ k = 2 ∨ k = 3 ∨ k = 4 ∨ k = 5 ∨ k = 6 ∨ k = 7 ∨ k = 8 ∨ k = 9 ∨ k = 10 ∨ k = 11 ∨ k = 12 := by omega
  have hid := beN_beW4 q.id hq.id
  have hnu := beN_beW4 q.nu hq.nu
  have g1 := back1 q.ver hver
  have g2 := back1 q.pr hpr
  have g3 := back1 q.tt htt
  have g4 := back1 q.kd hkd
  have g5 := back1 q.bp hbp
  have g6 := backK q.bk ⟨hb1, hb2⟩
  have g7 := back8 q.T (hq.f _ (by simp))
  have g8 := back8 q.da (hq.f _ (by simp))
  have g9 := back8 q.bt (hq.f _ (by simp))
  have ga := back8 q.nm (hq.f _ (by simp))
  have gb := back8 q.dn (hq.f _ (by simp))
  have l1 : ∀ v : Int, (beW v 1).length = 1 := fun v => beW_len v 1
  have l4 : ∀ v : Int, (beW v 4).length = 4 := fun v => beW_len v 4
  have l8 : ∀ v : Int, (beW v 8).length = 8 := fun v => beW_len v 8
  have t1 : ∀ v : Int, ∀ n, 1 ≤ n → (beW v 1).take n = beW v 1 := fun v n h => List.take_of_length_le (by rw [l1]; exact h)
  have t4 : ∀ v : Int, ∀ n, 4 ≤ n → (beW v 4).take n = beW v 4 := fun v n h => List.take_of_length_le (by rw [l4]; exact h)
  have t8 : ∀ v : Int, ∀ n, 8 ≤ n → (beW v 8).take n = beW v 8 := fun v n h => List.take_of_length_le (by rw [l8]; exact h)
  have d1 : ∀ v : Int, ∀ n, 1 ≤ n → (beW v 1).drop n = [] := fun v n h => List.drop_of_length_le (by rw [l1]; exact h)
  have d4 : ∀ v : Int, ∀ n, 4 ≤ n → (beW v 4).drop n = [] := fun v n h => List.drop_of_length_le (by rw [l4]; exact h)
  have d8 : ∀ v : Int, ∀ n, 8 ≤ n → (beW v 8).drop n = [] := fun v n h => List.drop_of_length_le (by rw [l8]; exact h)
  rcases this with rfl | rfl | rfl | rfl | rfl | rfl | rfl | rfl | rfl | rfl | rfl | rfl <;>
    (simp [onlyQ, hk] at ho
     rw [← ho]
     simp [rawQ, askB, hk, Rq.zero, l1, l4, l8, List.take_append, List.drop_append, t1, t4, t8, d1, d4, d8, hid, hnu, g1, g2, g3, g4, g5, g6, g7, g8, g9, ga, gb]
     try exact ⟨hO.symm, hS.symm⟩)
theorem partsQ_ok (k : Nat) (q : Rq) (hk : q.k = k) (hm : mayQ q = true) : ∀ p ∈ partsQ k q, p.ok := by
  simp only [mayQ, Bool.and_eq_true, decide_eq_true_eq] at hm
  obtain ⟨⟨hi, hl⟩, _⟩ := hm
  obtain ⟨h1, h2, hver, hpr, htt, hkd, hO, hS, hbp, hb1, hb2⟩ := hi
  intro p hp
  by_cases h2k : k = 2
  · subst h2k
    simp only [partsQ] at hp
    simp at hp
    rcases hp with rfl | rfl
    · trivial
    · exact hl hk
  · have ha := hp
    unfold partsQ at hp
    repeat' split at hp
    all_goals
      simp only [List.mem_cons, List.not_mem_nil, or_false] at hp
      first
        | contradiction
        | (rcases hp with rfl | rfl | rfl <;> first | trivial | exact ⟨⟨hO, hS⟩, htt, hkd⟩ | exact ⟨hbp, hb1, hb2⟩ | exact hver | exact hpr)
        | (rcases hp with rfl | rfl <;> first | trivial | exact ⟨⟨hO, hS⟩, htt, hkd⟩ | exact ⟨hbp, hb1, hb2⟩ | exact hver | exact hpr)
        | (subst hp; trivial)
/-- What ours encodes: what the document encodes, of a request that may be. -/
theorem encP_eq (q : Rq) (hq : q.Fit) : encP q = if mayQ q = true then some (beW q.k 1 ++ askB q) else none := by
  unfold encP
  by_cases hk : 1 ≤ q.k ∧ q.k ≤ 12
  rotate_left
  · rw [if_neg hk, mayQ_out (fun h => hk ⟨h.1, h.2.1⟩)]
    simp
  rw [if_pos hk]
  obtain ⟨k, hkk⟩ : ∃ k : Nat, q.k = k := ⟨q.k.toNat, by omega⟩
  have hk2 : 1 ≤ k ∧ k ≤ 12 := by omega
  rw [hkk, Int.toNat_natCast, one_byte k (by omega)]
  unfold encR
  rw [partsQ_bytes k q hkk hk2]
  have hkb : (UInt8.ofNat k).toNat = k := by simp; omega
  rw [dec7Q_cons (UInt8.ofNat k) (askB q) (by rw [hkb]; omega) (askB_long q), hkb]
  by_cases hm : mayQ q = true
  · rw [rawQ_back k q hkk hq hm, hkk, one_byte k (by omega)]
    rw [if_pos hm, if_pos ⟨partsQ_ok k q hkk hm, by rw [if_pos ⟨hm, rfl⟩]⟩]
    rfl
  · rw [if_neg hm, if_neg]
    rintro ⟨_, h⟩
    split at h
    · rename_i h2
      have h3 := congrArg Prod.fst h
      simp only at h3
      rw [h3] at h2
      exact hm h2.1
    · have h3 := congrArg Prod.snd h
      simp at h3
theorem dec7Q_back (q : Rq) (hq : q.Fit) (hm : mayQ q = true) : dec7Q (beW q.k 1 ++ askB q) = (q, 0) := by
  have h := encP_eq q hq
  rw [if_pos hm] at h
  have hi := hm
  simp only [mayQ, Bool.and_eq_true, decide_eq_true_eq] at hi
  obtain ⟨⟨⟨h1, h2, _⟩, _⟩, _⟩ := hi
  obtain ⟨k, hkk⟩ : ∃ k : Nat, q.k = k := ⟨q.k.toNat, by omega⟩
  have hkb : (UInt8.ofNat k).toNat = k := by simp; omega
  rw [hkk, one_byte k (by omega), List.singleton_append, dec7Q_cons (UInt8.ofNat k) (askB q) (by rw [hkb]; omega) (askB_long q), hkb, rawQ_back k q hkk hq hm, if_pos ⟨hm, by rw [hkk, one_byte k (by omega)]; rfl⟩]
theorem askB_small (q : Rq) (hm : mayQ q = true) : (beW q.k 1 ++ askB q).length ≤ 4096 := by
  simp only [mayQ, Bool.and_eq_true, decide_eq_true_eq] at hm
  obtain ⟨⟨_, hl⟩, _⟩ := hm
  by_cases h2 : q.k = 2
  · have := hl h2
    simp [askB, h2, beW_len]; omega
  · unfold askB
    repeat' split
    all_goals first | contradiction | simp [beW_len]
end Go.Proofs.Ytnbcjjgilndlaaa
