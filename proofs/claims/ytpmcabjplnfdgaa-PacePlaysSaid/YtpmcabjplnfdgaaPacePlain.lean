/- The plain law of paces: horizons, rates, and the least reading that is waited for. -/
import Derived.Test.YtpmcabjplnfdgaaMore
namespace Go.Proofs.Ytpmcabjplnfdgaa
/-- A pace: its start, its base, its rate (a den of 0 is 1), its reading. -/
structure Pc where
  S : Nat
  B : Nat
  N : Nat
  D : Nat
  C : Nat
def Pc.d (p : Pc) : Nat := max p.D 1
structure Pc.Ok (p : Pc) : Prop where
  s : p.S ≤ 1099511627776
  bc : p.B ≤ p.C
  c : p.C ≤ 9223372036854775807
  n : p.N ≤ 1048576
  dd : p.D ≤ 1048576
def Pc.hz (p : Pc) (c : Nat) : Nat := p.S + min ((c - p.B) * p.N / p.d) (1099511627776 - p.S)
def Pc.tick (p : Pc) (k : Int) : Pc := { p with C := max p.C k.toNat }
def Pc.rated (p : Pc) (n d : Nat) : Pc := ⟨p.hz p.C, p.C, n, d, p.C⟩
def Pc.zero : Pc := ⟨0, 0, 0, 0, 0⟩
theorem Pc.zero_ok : Pc.zero.Ok := ⟨by decide, by decide, by decide, by decide, by decide⟩
theorem Pc.Ok.dpos {p : Pc} (h : p.Ok) : 1 ≤ p.d ∧ p.d ≤ 1048576 := by have := h.dd; unfold Pc.d; omega
theorem Pc.hz_le {p : Pc} (h : p.Ok) (c : Nat) : p.S ≤ p.hz c ∧ p.hz c ≤ 1099511627776 := by
  have := h.s
  unfold Pc.hz
  generalize (c - p.B) * p.N / p.d = x
  omega
theorem Pc.hz_mono (p : Pc) {a b : Nat} (h : a ≤ b) : p.hz a ≤ p.hz b := by
  unfold Pc.hz
  have h1 : (a - p.B) * p.N / p.d ≤ (b - p.B) * p.N / p.d := Nat.div_le_div_right (Nat.mul_le_mul_right _ (by omega))
  omega
theorem Pc.Ok.tick {p : Pc} (h : p.Ok) {k : Int} (hk : k ≤ 9223372036854775807) : (p.tick k).Ok :=
  ⟨h.s, by have := h.bc; simp only [Pc.tick]; omega, by have := h.c; simp only [Pc.tick]; omega, h.n, h.dd⟩
theorem Pc.Ok.rated {p : Pc} (h : p.Ok) {n d : Nat} (hn : n ≤ 1048576) (hd : d ≤ 1048576) : (p.rated n d).Ok :=
  ⟨(Pc.hz_le h _).2, Nat.le_refl _, h.c, hn, hd⟩
theorem Pc.rated_hz {p : Pc} (h : p.Ok) (n d : Nat) : (p.rated n d).hz p.C = p.hz p.C := by
  have h1 := Pc.hz_le h p.C
  have e : (p.rated n d).hz p.C = p.hz p.C + min ((p.C - p.C) * n / (p.rated n d).d) (1099511627776 - p.hz p.C) := rfl
  rw [e, Nat.sub_self, Nat.zero_mul, Nat.zero_div]
  omega
/-- what the halves of the product say -/
theorem Pc.far {p : Pc} (h : p.Ok) (hd : p.d ≤ (p.C - p.B) * p.N / 18446744073709551616) : p.hz p.C = 1099511627776 := by
  have h1 := h.s
  have h2 := h.dpos
  have h3 : 18446744073709551616 ≤ (p.C - p.B) * p.N / p.d := by
    rw [Nat.le_div_iff_mul_le (by omega)]
    have := (Nat.le_div_iff_mul_le (by omega)).1 hd
    rw [Nat.mul_comm]; exact this
  unfold Pc.hz
  generalize (p.C - p.B) * p.N / p.d = x at *
  omega
/-- The least reading at which the horizon is a time at least. -/
def WaitIs (p : Pc) (t n : Int) (is : Bool) : Prop :=
  (is = true ∧ ∃ k : Nat, n = k ∧ p.C ≤ k ∧ k ≤ 9223372036854775807 ∧ t ≤ p.hz k ∧ ∀ c, p.C ≤ c → c < k → (p.hz c : Int) < t) ∨
  (is = false ∧ n = 0 ∧ (1099511627776 < t ∨ (p.hz 9223372036854775807 : Int) < t))
theorem WaitIs.same {p : Pc} (h : p.Ok) {t n m : Int} {a b : Bool} (h1 : WaitIs p t n a) (h2 : WaitIs p t m b) : n = m ∧ a = b := by
  rcases h1 with ⟨rfl, k, rfl, g1, g2, g3, g4⟩ | ⟨rfl, rfl, g1⟩ <;> rcases h2 with ⟨rfl, j, rfl, f1, f2, f3, f4⟩ | ⟨rfl, rfl, f1⟩
  · refine ⟨?_, rfl⟩
    rcases Nat.lt_trichotomy k j with hlt | rfl | hlt
    · have := f4 k g1 hlt; omega
    · rfl
    · have := g4 j f1 hlt; omega
  · exfalso
    have e1 := (Pc.hz_le h k).2
    have e2 := Pc.hz_mono p g2
    omega
  · exfalso
    have e1 := (Pc.hz_le h j).2
    have e2 := Pc.hz_mono p f2
    omega
  · exact ⟨rfl, rfl⟩
theorem waitIs_now {p : Pc} (h : p.Ok) {t : Int} (ht : t ≤ p.hz p.C) : WaitIs p t p.C true :=
  .inl ⟨rfl, p.C, rfl, Nat.le_refl _, h.c, ht, fun c h1 h2 => by omega⟩
theorem waitIs_big (p : Pc) {t : Int} (ht : 1099511627776 < t) : WaitIs p t 0 false := .inr ⟨rfl, rfl, .inl ht⟩
theorem waitIs_never (p : Pc) {t : Int} (ht : ¬ t ≤ p.hz p.C) (hn : p.N = 0) : WaitIs p t 0 false := by
  refine .inr ⟨rfl, rfl, .inr ?_⟩
  have e : ∀ c, p.hz c = p.S := by
    intro c; unfold Pc.hz; rw [hn, Nat.mul_zero, Nat.zero_div]; omega
  rw [e] at ht ⊢
  omega
/-- 'x up to a whole number of n' -/
theorem ceil_le (x n k : Nat) (hn : 0 < n) : (x + n - 1) / n ≤ k ↔ x ≤ k * n := by
  rw [← Nat.lt_succ_iff, Nat.div_lt_iff_lt_mul hn, Nat.succ_mul]
  generalize k * n = y
  omega
theorem hz_iff {p : Pc} (h : p.Ok) {t : Nat} (ht : t ≤ 1099511627776) (hS : p.S ≤ t) (hN : 0 < p.N) (c : Nat) : t ≤ p.hz c ↔ ((t - p.S) * p.d + p.N - 1) / p.N ≤ c - p.B := by
  rw [ceil_le _ _ _ hN, ← Nat.le_div_iff_mul_le (by have := h.dpos; omega)]
  unfold Pc.hz
  generalize (c - p.B) * p.N / p.d = x
  omega
theorem waitIs_on {p : Pc} (h : p.Ok) {t : Nat} (ht : t ≤ 1099511627776) (hN : 0 < p.N) (hno : ¬ t ≤ p.hz p.C) :
    let on := ((t - p.S) * p.d + p.N - 1) / p.N
    (9223372036854775807 - p.B < on → WaitIs p t 0 false) ∧ (on ≤ 9223372036854775807 - p.B → WaitIs p t ((p.B + on : Nat) : Int) true) := by
  have hS : p.S ≤ t := by have := Pc.hz_le h p.C; omega
  have hi := fun c => hz_iff h ht hS hN c
  have hbc := h.bc
  have hc := h.c
  have hn := hi p.C
  generalize ((t - p.S) * p.d + p.N - 1) / p.N = on at *
  refine ⟨fun hon => .inr ⟨rfl, rfl, .inr ?_⟩, fun hon => .inl ⟨rfl, p.B + on, rfl, by omega, by omega, ?_, fun c h1 h2 => ?_⟩⟩
  · have := hi 9223372036854775807
    omega
  · have := (hi (p.B + on)).2 (by omega)
    omega
  · have := hi c
    omega
/-- n times num by den, as far as the highest bits of n go -/
def scaled (n num den most i : Nat) : Nat := min (n / 2 ^ i * num / den) (most + 1)
theorem scaled_step (n num den most i : Nat) (hd : 0 < den) :
    (if most < 2 * scaled n num den most (i + 1) + (2 * (n / 2 ^ (i + 1) * num % den) + n / 2 ^ i % 2 * num) / den then most + 1 else 2 * scaled n num den most (i + 1) + (2 * (n / 2 ^ (i + 1) * num % den) + n / 2 ^ i % 2 * num) / den) = scaled n num den most i ∧
    (2 * (n / 2 ^ (i + 1) * num % den) + n / 2 ^ i % 2 * num) % den = n / 2 ^ i * num % den := by
  have e0 : n / 2 ^ i = 2 * (n / 2 ^ (i + 1)) + n / 2 ^ i % 2 := by
    rw [Nat.pow_succ, ← Nat.div_div_eq_div_mul]; omega
  unfold scaled
  generalize n / 2 ^ i % 2 = b at *
  generalize n / 2 ^ (i + 1) = m at *
  rw [e0]
  have e1 : (2 * m + b) * num = den * (2 * (m * num / den)) + (2 * (m * num % den) + b * num) := by
    have h0 := Nat.div_add_mod (m * num) den
    have h1 : (2 * m + b) * num = 2 * (m * num) + b * num := by rw [Nat.add_mul, Nat.mul_assoc]
    have h2 : den * (2 * (m * num / den)) = 2 * (den * (m * num / den)) := by rw [← Nat.mul_assoc, Nat.mul_comm den 2, Nat.mul_assoc]
    omega
  rw [e1, Nat.mul_add_div hd, Nat.mul_add_mod]
  generalize (2 * (m * num % den) + b * num) / den = x
  generalize m * num / den = y
  refine ⟨?_, rfl⟩
  split <;> omega
theorem scaled_top (n num den most : Nat) (hn : n < 2 ^ 63) : scaled n num den most 63 = 0 := by
  unfold scaled
  rw [Nat.div_eq_of_lt hn]; simp
theorem scaled_end (n num den most : Nat) : min (scaled n num den most 0) most = min (n * num / den) most := by
  unfold scaled
  rw [Nat.pow_zero, Nat.div_one]
  omega
end Go.Proofs.Ytpmcabjplnfdgaa
