/- Messages: what ours encodes of responses, said as the document says it. Helper. -/
import Derived.Test.YtnbcjjgilndlaaaAkPl
import Derived.Test.YtnbcjjgilndlaaaTlEnc
namespace Go.Proofs.Ytnbcjjgilndlaaa
open Go.RowKit
set_option linter.unusedVariables false
set_option linter.unusedSimpArgs false
set_option maxRecDepth 100000
set_option maxHeartbeats 3200000
theorem flat8_get : ∀ (l : List Int) (i : Nat) (h : i < l.length) (t : List UInt8), ((flat8 l ++ t).drop (8 * i)).take 8 = beW (l[i]'h) 8
  | [], i, h, _ => by simp at h
  | a :: l, 0, _, t => by
    simp only [flat8, List.flatMap_cons, Nat.mul_zero, List.drop_zero, List.getElem_cons_zero, List.append_assoc]
    exact List.take_left' (beW_len a 8)
  | a :: l, i + 1, h, t => by
    have ih := flat8_get l i (by simpa using h) t
    rw [show 8 * (i + 1) = 8 + 8 * i by omega, ← List.drop_drop]
    simp only [flat8, List.flatMap_cons, List.append_assoc, List.getElem_cons_succ] at ih ⊢
    rw [List.drop_left' (beW_len a 8)]
    exact ih
theorem nums_flat8 (l : List Int) (hl : ∀ v ∈ l, -9223372036854775808 ≤ v ∧ v ≤ 9223372036854775807) : nums (flat8 l) l.length = l := by
  unfold nums
  apply List.ext_getElem
  · simp
  · intro i h1 h2
    simp only [List.getElem_map, List.getElem_range]
    have h := flat8_get l i h2 []
    rw [List.append_nil] at h
    rw [h]
    exact back8 _ (hl _ (List.getElem_mem h2))
/-- The parts that a kind names are its bytes. -/
theorem partsS_bytes (k : Nat) (q : Rs) (hk : q.k = k) (h : 1 ≤ k ∧ k ≤ 5) : UInt8.ofNat k :: ((partsS k q).map (·.add)).flatten = encB q := by
  have h1 : UInt8.ofNat k :: ((partsS k q).map (·.add)).flatten = beW q.k 1 ++ ((partsS k q).map (·.add)).flatten := by rw [hk, one_byte k (by omega)]; rfl
  rw [h1]
  have : k = 1 ∨ k = 2 ∨ k = 3 ∨ k = 4 ∨ k = 5 := by omega
  rcases this with rfl | rfl | rfl | rfl | rfl <;> simp [partsS, encB, hk, keyB, flat8]
/-- A response that may be is told back. -/
theorem rawS_back (k : Nat) (q : Rs) (hk : q.k = k) (hq : q.Fit) (hm : mayS q = true) : rawS k ((partsS k q).map (·.add)).flatten = q := by
  simp only [mayS, Bool.and_eq_true, decide_eq_true_eq] at hm
  obtain ⟨hi, ho⟩ := hm
  obtain ⟨h1, h2, her1, her2, hvl, hrO, hrp, hrn, hO, htt, hkd⟩ := hi
  have : k = 1 ∨ k = 2 ∨ k = 3 ∨ k = 4 ∨ k = 5 := by omega
  have hid := beN_beW4 q.id hq.id
  have hnu := beN_beW4 q.nu hq.nu
  have g1 := back1 q.er ⟨her1, by omega⟩
  have g2 := back1 q.rO hrO
  have g3 := back1 q.rp hrp
  have g4 := back1 q.rn hrn
  have g5 := back1 q.O hO
  have g6 := back1 q.tt htt
  have g7 := back1 q.kd hkd
  have g8 := back8 q.fl (hq.f _ (by simp))
  have g9 := back8 q.rT (hq.f _ (by simp))
  have ga := back8 q.rS (hq.f _ (by simp))
  have gb := back8 q.rv (hq.f _ (by simp))
  have gc := back8 q.T (hq.f _ (by simp))
  have gd := back8 q.S (hq.f _ (by simp))
  have ge := back8 q.da (hq.f _ (by simp))
  have gf : (beN (beW (q.vs.length : Int) 1) : Int) = q.vs.length := back1 q.vs.length ⟨by omega, by omega⟩
  have gf2 : beN (beW (q.vs.length : Int) 1) = q.vs.length := by omega
  have gv := nums_flat8 q.vs hq.vs
  have l1 : ∀ v : Int, (beW v 1).length = 1 := fun v => beW_len v 1
  have l4 : ∀ v : Int, (beW v 4).length = 4 := fun v => beW_len v 4
  have l8 : ∀ v : Int, (beW v 8).length = 8 := fun v => beW_len v 8
  have t1 : ∀ v : Int, ∀ n, 1 ≤ n → (beW v 1).take n = beW v 1 := fun v n h => List.take_of_length_le (by rw [l1]; exact h)
  have t4 : ∀ v : Int, ∀ n, 4 ≤ n → (beW v 4).take n = beW v 4 := fun v n h => List.take_of_length_le (by rw [l4]; exact h)
  have t8 : ∀ v : Int, ∀ n, 8 ≤ n → (beW v 8).take n = beW v 8 := fun v n h => List.take_of_length_le (by rw [l8]; exact h)
  have d1 : ∀ v : Int, ∀ n, 1 ≤ n → (beW v 1).drop n = [] := fun v n h => List.drop_of_length_le (by rw [l1]; exact h)
  have d4 : ∀ v : Int, ∀ n, 4 ≤ n → (beW v 4).drop n = [] := fun v n h => List.drop_of_length_le (by rw [l4]; exact h)
  have d8 : ∀ v : Int, ∀ n, 8 ≤ n → (beW v 8).drop n = [] := fun v n h => List.drop_of_length_le (by rw [l8]; exact h)
  rcases this with rfl | rfl | rfl | rfl | rfl <;>
    (simp [onlyS, hk] at ho
     rw [← ho]
     simp [rawS, partsS, hk, Rs.zero, l1, l4, l8, flat8_length, List.take_append, List.drop_append, t1, t4, t8, d1, d4, d8, hid, hnu, g1, g2, g3, g4, g5, g6, g7, g8, g9, ga, gb, gc, gd, ge, gf, gf2, gv, hvl]
     try exact fun h => absurd (by omega) (h (by omega)))
theorem partsS_ok (k : Nat) (q : Rs) (hm : mayS q = true) : ∀ p ∈ partsS k q, p.ok := by
  simp only [mayS, Bool.and_eq_true, decide_eq_true_eq] at hm
  obtain ⟨hi, _⟩ := hm
  obtain ⟨h1, h2, her1, her2, hvl, hrO, hrp, hrn, hO, htt, hkd⟩ := hi
  intro p hp
  unfold partsS at hp
  repeat' split at hp
  all_goals
    first
      | (simp at hp; done)
      | (simp only [List.mem_cons, List.not_mem_nil, or_false] at hp
         first
           | (rcases hp with rfl | rfl | rfl <;> first | trivial | exact ⟨her1, her2⟩ | exact hvl | exact ⟨hrO, hrp, hrn⟩ | exact ⟨hO, htt, hkd⟩)
           | (rcases hp with rfl | rfl <;> first | trivial | exact ⟨her1, her2⟩ | exact hvl | exact ⟨hrO, hrp, hrn⟩ | exact ⟨hO, htt, hkd⟩)
           | (subst hp; first | trivial | exact ⟨her1, her2⟩ | exact hvl | exact ⟨hrO, hrp, hrn⟩ | exact ⟨hO, htt, hkd⟩))
theorem dec7S_back (q : Rs) (hq : q.Fit) (hm : mayS q = true) : dec7S (encB q) = (q, 0) := by
  have hi := hm
  simp only [mayS, Bool.and_eq_true, decide_eq_true_eq] at hi
  obtain ⟨⟨h1, h2, _⟩, _⟩ := hi
  obtain ⟨k, hkk⟩ : ∃ k : Nat, q.k = k := ⟨q.k.toNat, by omega⟩
  have hkb : (UInt8.ofNat k).toNat = k := by simp; omega
  have hb := partsS_bytes k q hkk (by omega)
  rw [← hb, dec7S_cons (UInt8.ofNat k) _ (by rw [hkb]; omega), hkb, rawS_back k q hkk hq hm, if_pos ⟨hm, hb.symm⟩]
/-- What ours encodes: what the document encodes, of a response that may be. -/
theorem encPS_eq (q : Rs) (hq : q.Fit) : encPS q = if mayS q = true then some (encB q) else none := by
  unfold encPS
  by_cases hk : 1 ≤ q.k ∧ q.k ≤ 5
  rotate_left
  · rw [if_neg hk, mayS_no (fun h => hk ⟨h.1, h.2.1⟩)]
    simp
  rw [if_pos hk]
  obtain ⟨k, hkk⟩ : ∃ k : Nat, q.k = k := ⟨q.k.toNat, by omega⟩
  have hk2 : 1 ≤ k ∧ k ≤ 5 := by omega
  rw [hkk, Int.toNat_natCast]
  unfold encRS
  rw [partsS_bytes k q hkk hk2]
  by_cases hm : mayS q = true
  · rw [if_pos hm, if_pos ⟨partsS_ok k q hm, dec7S_back q hq hm⟩]
  · rw [if_neg hm, if_neg]
    rintro ⟨_, h⟩
    have hkb : (UInt8.ofNat k).toNat = k := by simp; omega
    rw [← partsS_bytes k q hkk hk2, dec7S_cons (UInt8.ofNat k) _ (by rw [hkb]; omega)] at h
    split at h
    · rename_i h2
      have h3 := congrArg Prod.fst h
      simp only at h3
      rw [h3] at h2
      exact hm h2.1
    · have h3 := congrArg Prod.snd h
      simp at h3
theorem encB_small (q : Rs) (hm : mayS q = true) : (encB q).length ≤ 4096 := by
  simp only [mayS, Bool.and_eq_true, decide_eq_true_eq] at hm
  have hl := hm.1.2.2.2.2.1
  unfold encB
  repeat' split
  all_goals simp only [List.length_append, keyB, beW_len, flat8_len]
  all_goals omega
end Go.Proofs.Ytnbcjjgilndlaaa
