/- Messages: what the document decodes, plainly. Helper. -/
import Derived.Test.YtnbcjjgilndlaaaRdRefN
import Derived.Test.YtnbcjjgilndlaaaRdRefM
import Derived.Test.YtnbcjjgilndlaaaRdTx
import Derived.Deep.MidRow
namespace Go.Proofs.Ytnbcjjgilndlaaa
open Go.RowKit
set_option linter.unusedVariables false
set_option linter.unusedSimpArgs false
set_option maxRecDepth 100000
def rawQ (k : Nat) (bs : List UInt8) : Rq :=
  if k = 1 ∧ bs.length = 5 then { Rq.zero with k := k, id := (beN (bs.take 4) : Int), ver := (beN ((bs.drop 4).take 1) : Int) }
  else if k = 3 ∧ bs.length = 22 then { Rq.zero with k := k, id := (beN (bs.take 4) : Int), T := (s64 (beN ((bs.drop 4).take 8))), tt := (beN ((bs.drop 12).take 1) : Int), kd := (beN ((bs.drop 13).take 1) : Int), da := (s64 (beN ((bs.drop 14).take 8))) }
  else if k = 4 ∧ bs.length = 18 then { Rq.zero with k := k, id := (beN (bs.take 4) : Int), nu := (beN ((bs.drop 4).take 4) : Int), bp := (beN ((bs.drop 8).take 1) : Int), bk := (kindOf (beN ((bs.drop 9).take 1))), bt := (s64 (beN ((bs.drop 10).take 8))) }
  else if k = 5 ∧ bs.length = 8 then { Rq.zero with k := k, id := (beN (bs.take 4) : Int), nu := (beN ((bs.drop 4).take 4) : Int) }
  else if k = 6 ∧ bs.length = 5 then { Rq.zero with k := k, id := (beN (bs.take 4) : Int), pr := (beN ((bs.drop 4).take 1) : Int) }
  else if k = 10 ∧ bs.length = 20 then { Rq.zero with k := k, id := (beN (bs.take 4) : Int), nm := (s64 (beN ((bs.drop 4).take 8))), dn := (s64 (beN ((bs.drop 12).take 8))) }
  else if k = 2 then { Rq.zero with k := k, id := (beN (bs.take 4) : Int), md := bs.drop 4 }
  else { Rq.zero with k := k, id := (beN (bs.take 4) : Int) }
/-- What the document decodes: the request, and the error. -/
def dec7Q : List UInt8 → Rq × Int
  | [] => (Rq.zero, 12)
  | x :: bs => if x.toNat < 1 ∨ 12 < x.toNat then (Rq.zero, 12) else if bs.length < 4 then (Rq.zero, 14)
    else if mayQ (rawQ x.toNat bs) = true ∧ beW (rawQ x.toNat bs).k 1 ++ askB (rawQ x.toNat bs) = x :: bs then (rawQ x.toNat bs, 0) else (Rq.zero, 14)
/-- What a decoding tells. -/
def Dec7 (w : World) (p : Rq × Int) (e : Ending) (w' : World) : Prop := ∃ A c, e = .returned (.tuple #[.agg (p.1.c A c).toArray, .int .i64 p.2]) ∧ BytesAt w' A p.1.md ∧ Nw w w'
theorem byte_cell {w : World} {b off : Nat} {x : UInt8} {bs : List UInt8} (h : BytesAt w (some ⟨b, off, none⟩) (x :: bs)) (a : Nat) (ha : a < bs.length) : w.cell? ⟨b, off + (a + 1), none⟩ = some (.int .u8 (beN ((bs.drop a).take 1) : Int)) := by
  obtain ⟨b', off', e, _, hc⟩ := h.get (k := a + 1) (by simp; exact ha)
  injection e with e
  injection e with e1 e2
  subst e1 e2
  rw [hc]
  have : ∃ y ys, bs.drop a = y :: ys := by
    cases h : bs.drop a with
    | nil => have := congrArg List.length h; simp at this; omega
    | cons y ys => exact ⟨y, ys, rfl⟩
  obtain ⟨y, ys, e⟩ := this
  have hy : bs[a]'ha = y := by
    have := List.getElem_drop (xs := bs) (i := a) (j := 0) (h := by rw [e]; simp)
    simp only [Nat.add_zero] at this
    rw [← this]
    simp [e]
  simp [e, beN, hy]
theorem bytes_part {w : World} {b off : Nat} {x : UInt8} {bs : List UInt8} (h : BytesAt w (some ⟨b, off, none⟩) (x :: bs)) (a n : Nat) (ha : a < bs.length) : BytesAt w (some ⟨b, off + (a + 1), none⟩) ((bs.drop a).take n) := by
  have h1 := h.cut (bs.length + 1) (k := a + 1) (by simp; omega) (by simp)
  rw [if_neg (by omega)] at h1
  simp only [Option.map, add_plain, List.drop_succ_cons] at h1
  exact h1.take n
theorem dec7Q_cons (x : UInt8) (bs : List UInt8) (hx : ¬ (x.toNat < 1 ∨ 12 < x.toNat)) (hl : ¬ bs.length < 4) : dec7Q (x :: bs) = if mayQ (rawQ x.toNat bs) = true ∧ beW (rawQ x.toNat bs).k 1 ++ askB (rawQ x.toNat bs) = x :: bs then (rawQ x.toNat bs, 0) else (Rq.zero, 14) := by
  simp only [dec7Q]
  rw [if_neg hx, if_neg hl]
theorem bytes_setCell {w w3 : World} {A : Option Addr} {l : List UInt8} {p : Addr} {v : Value} (h : BytesAt w A l) (e3 : w.setCell p v = w3) (hf : l = [] ∨ ∃ a, A = some a ∧ a.block ≠ p.block) : BytesAt w3 A l := by
  subst e3
  rcases hf with rfl | ⟨a, rfl, ha⟩
  · exact .inl rfl
  · rcases h with h | ⟨b, off, e, hc⟩
    · exact .inl h
    · injection e with e
      subst e
      refine .inr ⟨b, off, rfl, fun j u hu => ?_⟩
      have h2 := hc j u hu
      rw [World.cell?_setCell_other (h := fun e => ha (by rw [e]))]
      exact h2
theorem bytes_setRow {w : World} {A : Option Addr} {l : List UInt8} {g : Nat} (h : BytesAt w A l) (hf : l = [] ∨ ∃ a, A = some a ∧ a.block ≠ g) (row : Array Value) : BytesAt (w.setRow g row) A l := by
  rcases hf with rfl | ⟨a, rfl, ha⟩
  · exact .inl rfl
  · rcases h with h | ⟨b, off, e, hc⟩
    · exact .inl h
    · injection e with e
      subst e
      have hh : (w.setRow g row).heap[b]? = w.heap[b]? := by
        simp only [World.setRow, Array.getElem?_modify]
        rw [if_neg (fun e => ha e.symm)]
      refine .inr ⟨b, off, rfl, fun j u hu => ?_⟩
      have h2 := hc j u hu
      unfold World.cell? at h2 ⊢
      rw [hh]
      exact h2
theorem own_far {w : World} {e : TypeId} {A : Option Addr} {c n : Nat} {l : List UInt8} {blk : Option Nat} (h : Own w e 1 (.slice A n c) n (bcells l) blk) : l = [] ∨ ∃ a, A = some a ∧ blk = some a.block := by
  obtain ⟨hl, A', c', e1, hn, hm, h | ⟨g, off, cur, rfl, rfl, hg, h1, h2⟩⟩ := h
  · left
    have : (bcells l).length = 0 := by rw [hl]; obtain ⟨h3, _⟩ := h; omega
    simpa [bcells] using this
  · injection e1 with e1 _ _
    exact .inr ⟨_, e1, rfl⟩
theorem there_of {w : World} {g : Nat} {t : TypeId} {cs : Array Value} (h : Blk w g t cs) (o n : Nat) (hn : o + n ≤ cs.size) : w.there g o n := fun j hj =>
  ⟨by rw [h.cell, Array.getElem?_eq_getElem (by omega)]; rfl, h.frozen _⟩
theorem num_n (w : World) (A : Option Addr) (c n : Nat) (l : List UInt8) (I : Int) (hb : BytesAt w A l) (hn : l.length = n) (h8 : n ≤ 8) (hI : (beN l : Int) = I) :
    Calls Try.prog 33 #[.slice A n c] w fun e w' => e = .returned (.int .u64 I) ∧ w' = w := by
  subst hn hI
  exact num_any w A c l hb h8
theorem wrap_s64 (l : List UInt8) (h : l.length ≤ 8) : IntKind.i64.wrap (beN l : Int) = s64 (beN l) ∧ wrap64 (beN l : Int) = s64 (beN l) := by
  have h1 := beN_lt l
  have h2 : beN l < 18446744073709551616 := Nat.lt_of_lt_of_le h1 (Nat.pow_le_pow_right (n := 256) (by omega) h)
  unfold s64
  constructor
  · rw [IntKind.wrap_i64]; split <;> omega
  · unfold wrap64; split <;> omega
theorem wrap_u32B (l : List UInt8) (h : l.length ≤ 4) : IntKind.u32.wrap (beN l : Int) = (beN l : Int) ∧ wrap32 (beN l : Int) = wrap32 (beN l : Int) := by
  have h1 := beN_lt l
  have h2 : beN l < 4294967296 := Nat.lt_of_lt_of_le h1 (Nat.pow_le_pow_right (n := 256) (by omega) h)
  exact ⟨by rw [IntKind.wrap_u32]; omega, rfl⟩
theorem wrap_byte (l : List UInt8) (h : l.length ≤ 1) : IntKind.i64.wrap (beN l : Int) = (beN l : Int) ∧ wrap64 (beN l : Int) = (beN l : Int) ∧ 0 ≤ (beN l : Int) ∧ (beN l : Int) ≤ 255 := by
  have h1 := beN_lt l
  have h2 : beN l < 256 := Nat.lt_of_lt_of_le h1 (Nat.pow_le_pow_right (n := 256) (by omega) h)
  exact ⟨by rw [IntKind.wrap_i64]; omega, by unfold wrap64; omega, by omega, by omega⟩
end Go.Proofs.Ytnbcjjgilndlaaa
