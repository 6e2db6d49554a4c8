/- Outbox: few, and lists of acts. Helper of OutboxPlays. -/
import Derived.Test.YtmjikfhabfodkaaBoxTake
namespace Go.Proofs.Ytmjikfhabfodkaa
open Go.RowKit
set_option linter.unusedVariables false
set_option linter.unusedSimpArgs false
/-- A list of acts as it is handed in: of each its kind, its text, its number. -/
def Acts (w : World) (A : Option Addr) (ts : List (Int × List UInt8 × Int)) : Prop :=
  ts = [] ∨ ∃ b o, A = some ⟨b, o, none⟩ ∧ ∀ i (h : i < ts.length), ∃ A' c, w.cell? ⟨b, o + i * 3, none⟩ = some (.int .i64 ts[i].1) ∧ w.cell? ⟨b, o + i * 3 + 1, none⟩ = some (.slice A' ts[i].2.1.length c) ∧ w.cell? ⟨b, o + i * 3 + 2, none⟩ = some (.int .i64 ts[i].2.2) ∧ BytesAt w A' ts[i].2.1
theorem Acts.get {w : World} {A : Option Addr} {ts : List (Int × List UInt8 × Int)} (h : Acts w A ts) {i : Nat} (hi : i < ts.length) :
    ∃ b o A' c, A = some ⟨b, o, none⟩ ∧ w.cell? ⟨b, o + i * 3, none⟩ = some (.int .i64 ts[i].1) ∧ w.cell? ⟨b, o + i * 3 + 1, none⟩ = some (.slice A' ts[i].2.1.length c) ∧ w.cell? ⟨b, o + i * 3 + 2, none⟩ = some (.int .i64 ts[i].2.2) ∧ BytesAt w A' ts[i].2.1 := by
  rcases h with rfl | ⟨b, o, rfl, h⟩
  · simp at hi
  · obtain ⟨A', c, h1, h2, h3, h4⟩ := h i hi
    exact ⟨b, o, A', c, rfl, h1, h2, h3, h4⟩
def FewOut (e : Ending) (ts : List (Int × List UInt8 × Int)) (most : Nat) : Prop := ∃ b, e = .returned (.bool b) ∧ (b = true → ts.length ≤ most ∧ ∀ i (h : i < ts.length), ts[i].2.1.length ≤ 300)
set_option maxHeartbeats 1600000 in
theorem few_any (A : Option Addr) (ts : List (Int × List UInt8 × Int)) (c : Nat) (most : Nat) (w : World) (ha : Acts w A ts) (hn : ts.length ≤ 9223372036854775807) (hm : most ≤ 1000) (hlen : ∀ i (h : i < ts.length), ts[i].2.1.length ≤ 9223372036854775807) :
    Calls Try.prog 13 #[.slice A ts.length c, .int .i64 most] w fun e w' => FewOut e ts most ∧ w = w' := by
  go_enter Try.func13, Try.ntmps13
  go_wp2
  go_loop [5] (fun at_ => ∃ i : Nat, i ≤ ts.length ∧ i ≤ most + 1 ∧ at_ = .int .i64 i ∧ ∀ j (h : j < ts.length), j < i → ts[j].2.1.length ≤ 300) (fun at_ => ts.length - (intOf at_).toNat)
  case atStart => exact ⟨0, Nat.zero_le _, Nat.zero_le _, rfl, fun j _ h => absurd h (Nat.not_lt_zero j)⟩
  case round =>
    obtain ⟨i, hi, hi2, rfl, h300⟩ := hrel
    by_cases hlt : i < ts.length
    · have hlt' : (i : Int) < (ts.length : Int) := by omega
      by_cases hle : i ≤ most
      · have hle' : (i : Int) ≤ (most : Int) := by omega
        obtain ⟨b, o, A', c', rfl, c0, c1, c2, hby⟩ := ha.get hlt
        by_cases hbig : 300 < ts[i].2.1.length
        · have hbig' : (300 : Int) < (ts[i].2.1.length : Int) := by omega
          go_wp2
          go_ret
          exact ⟨⟨false, rfl, fun h => by cases h⟩, rfl⟩
        · have hbig' : ¬ (300 : Int) < (ts[i].2.1.length : Int) := by omega
          go_wp2
          go_round
          case rel => exact ⟨i + 1, hlt, by omega, by go_num, fun j h1 h2 => by
            rcases Nat.lt_or_ge j i with h | h
            · exact h300 j h1 h
            · obtain rfl : j = i := by omega
              omega⟩
          case measure => simp [intOf]; omega
      · have hle' : ¬ (i : Int) ≤ (most : Int) := by omega
        have hbad : ¬ (ts.length : Int) ≤ (most : Int) := by omega
        go_wp2
        go_ret
        exact ⟨⟨false, rfl, fun h => by cases h⟩, rfl⟩
    · obtain rfl : i = ts.length := by omega
      go_wp2
      go_ret
      exact ⟨⟨_, rfl, fun h => ⟨by simpa using h, fun j hj => h300 j hj hj⟩⟩, rfl⟩
end Go.Proofs.Ytmjikfhabfodkaa
