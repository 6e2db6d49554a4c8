/- Outbox: the walk of OutboxParts. Helper. -/
import Derived.Test.YtmjikfhabfodkaaBoxD
namespace Go.Proofs.Ytmjikfhabfodkaa
open Go.RowKit
set_option linter.unusedVariables false
set_option linter.unusedSimpArgs false
/-- A list of texts as it is handed in. -/
def Rows_ (w : World) (A : Option Addr) (ls : List (List UInt8)) : Prop :=
  ∃ vs, vs.length = ls.length ∧ Rd w A vs ∧ ∀ i (h : i < ls.length), ∃ A' c, vs[i]? = some (.slice A' ls[i].length c) ∧ ls[i].length ≤ c ∧ c ≤ maxLen ∧ BytesAt w A' ls[i]
theorem Rows_.below {w w' : World} {A : Option Addr} {ls : List (List UInt8)} (h : Rows_ w A ls) (hB : Below w.heap.size w w') : Rows_ w' A ls := by
  obtain ⟨vs, h1, h2, h3⟩ := h
  refine ⟨vs, h1, h2.below hB (Nat.le_refl _), fun i hi => ?_⟩
  obtain ⟨A', c, g1, g2, g3, g4⟩ := h3 i hi
  exact ⟨A', c, g1, g2, g3, g4.below hB (Nat.le_refl _)⟩
theorem Rows_.get {w : World} {A : Option Addr} {ls : List (List UInt8)} (h : Rows_ w A ls) {i : Nat} (hi : i < ls.length) :
    ∃ b o A' c, A = some ⟨b, o, none⟩ ∧ w.cell? ⟨b, o + i, none⟩ = some (.slice A' ls[i].length c) ∧ BytesAt w A' ls[i] := by
  obtain ⟨vs, h1, h2, h3⟩ := h
  obtain ⟨A', c, g1, g2, g3, g4⟩ := h3 i hi
  obtain ⟨b, o, hA, _, hc⟩ := Rd.get h2 (k := i) (by omega)
  exact ⟨b, o, A', c, hA, hc i _ g1, g4⟩
/-- what was put of the first texts -/
def puts : List (List UInt8) → List (List UInt8)
  | [] => []
  | l :: ls => if l = [] then puts ls else l :: puts ls
theorem puts_append (a b : List (List UInt8)) : puts (a ++ b) = puts a ++ puts b := by
  induction a with
  | nil => rfl
  | cons l a ih => simp only [List.cons_append, puts]; split <;> simp [ih]
theorem puts_le (a : List (List UInt8)) : (puts a).length ≤ a.length := by
  induction a with
  | nil => simp [puts]
  | cons l a ih => simp only [puts]; split <;> simp <;> omega
theorem puts_take (ls : List (List UInt8)) (i : Nat) (h : i < ls.length) (h30 : ls.length ≤ 30) : puts (ls.take (i + 1)) = putL (puts (ls.take i)) ls[i] 30 := by
  rw [List.take_succ_eq_append_getElem h, puts_append]
  have := puts_le (ls.take i)
  rw [List.length_take] at this
  unfold putL
  split
  · rename_i h0; rw [h0]; simp [puts]
  · rename_i h0
    rw [if_neg (by omega)]
    simp [puts, h0]
theorem puts_flat (a : List (List UInt8)) : (puts a).flatten = a.flatten := by
  induction a with
  | nil => rfl
  | cons l a ih => simp only [puts]; split <;> simp_all
theorem puts_full (a : List (List UInt8)) : Full (puts a) := by
  induction a with
  | nil => intro l hl; simp [puts] at hl
  | cons l a ih =>
    simp only [puts]; split
    · exact ih
    · rename_i h0
      intro x hx
      rcases List.mem_cons.1 hx with rfl | hx
      · exact h0
      · exact ih x hx
theorem lens_le (a : List (List UInt8)) (k : Nat) (h : ∀ l ∈ a, l.length ≤ k) : lens a ≤ a.length * k := by
  induction a with
  | nil => simp [lens]
  | cons l a ih =>
    have h1 := h l (by simp)
    have h2 := ih (fun x hx => h x (by simp [hx]))
    simp only [lens, List.map_cons, List.sum_cons, List.length_cons] at h2 ⊢
    rw [Nat.add_mul]
    omega
def str (l : List UInt8) : ByteArray := ⟨l.toArray⟩
theorem str_app (a b : List UInt8) : str a ++ str b = str (a ++ b) := by
  unfold str
  apply ByteArray.ext
  simp
theorem str_size (a : List UInt8) : (str a).size = a.length := by simp [str, ByteArray.size]
theorem str_inj {a b : List UInt8} (h : str a = str b) : a = b := by
  unfold str at h
  injection h with h
  simpa using congrArg Array.toList h
theorem cell_kept {w w' : World} (hB : Below w.heap.size w w') {p : Addr} {v : Value} (h : w.cell? p = some v) : w'.cell? p = some v := by
  have hlt : p.block < w.heap.size := by
    rcases Nat.lt_or_ge p.block w.heap.size with h' | h'
    · exact h'
    · simp [World.cell?, Array.getElem?_eq_none h'] at h
  rw [← h]
  exact hB.cell hlt
theorem lens_zero {L : List (List UInt8)} (h : Full L) (h0 : lens L = 0) : L = [] := by
  cases L with
  | nil => rfl
  | cons l L =>
    have := List.length_pos_iff.2 (h l (by simp))
    simp only [lens, List.map_cons, List.sum_cons] at h0
    omega
theorem str_extract (X : List UInt8) (k n : Nat) (hn : (X.take k).length = n) : (str X).extract 0 n = str (X.take k) := by
  subst hn
  apply ByteArray.ext
  simp only [ByteArray.data_extract, str]
  apply Array.ext'
  simp
theorem dropB_le (ls : List (List UInt8)) : ∀ n, (dropB ls n).length ≤ ls.length := by
  induction ls with
  | nil => intro n; delta dropB; simp
  | cons l ls ih =>
    intro n
    unfold dropB
    split
    · simp
    · have := ih (n - l.length); simp; omega
set_option maxHeartbeats 1600000 in
theorem Parts_walk (A : Option Addr) (ls : List (List UInt8)) (c : Nat) (P : Option Addr) (ns : List Int) (c2 : Nat) (w : World) (hr : Rows_ w A ls) (hp : Rd w P (ns.map (Value.int .i64))) (hl : ls.length ≤ 30) (hn : ns.length ≤ 60) :
    Calls Try.prog 3 #[.slice A ls.length c, .slice P ns.length c2] w fun e w' => e = .returned (.bool true) ∧ Below w.heap.size w w' := by
  have g1 : ¬ (30 : Int) < (ls.length : Int) := by omega
  have g2 : ¬ (60 : Int) < (ns.length : Int) := by omega
  have n1 := New_step 30 30 rfl w
  have N1 := Lib.hid n1
  clear n1
  go_enter Try.func3, Try.ntmps3
  go_wp2_with (go_at_call 7; refine N1.out.mono ?_; rintro e w1 ⟨rfl, hO1, hB1⟩)
  clear N1
  go_loopw [6, 7] (fun all at_ wr => ∃ i : Nat, i ≤ ls.length ∧ at_ = .int .i64 i ∧ all = .string (str (ls.take i).flatten) ∧ (∀ l ∈ ls.take i, l.length ≤ 300) ∧ OB wr w.heap.size w.heap.size (puts (ls.take i)) 30 0 ∧ Below w.heap.size w wr) (fun _ at_ _ => ls.length - (intOf at_).toNat)
  case atStart => exact ⟨0, Nat.zero_le _, rfl, by simp [str], by simp, by simpa [puts] using hO1, hB1⟩
  case round =>
    obtain ⟨i, hi, rfl, rfl, h300, hO, hB⟩ := hrel
    clear hO1 hB1
    by_cases hlt : i < ls.length
    · have hlt' : (i : Int) < (ls.length : Int) := by omega
      obtain ⟨b, o, A', c', rfl, hcell0, hby0⟩ := hr.get hlt
      have hcell := cell_kept hB hcell0
      have hby := hby0.below hB (Nat.le_refl _)
      have hlens : (ls.take i).flatten.length ≤ 9000 := by
        have h1 := lens_le (ls.take i) 300 h300
        rw [lens_flat, List.length_take] at h1
        omega
      by_cases hbig : 300 < ls[i].length
      · have hbig' : (300 : Int) < (ls[i].length : Int) := by omega
        go_wp2_with (go_at_call 6; refine (known_any _).mono ?_; rintro e w' ⟨rfl, hB'⟩)
        go_ret
        exact ⟨rfl, hB.trans (hB'.mono hB.size)⟩
      · have hbig' : ¬ (300 : Int) < (ls[i].length : Int) := by omega
        have hpl := puts_le (ls.take i)
        rw [List.length_take] at hpl
        have k1 := Put_step w.heap.size w.heap.size (puts (ls.take i)) 30 0 A' ls[i] c' wr hO hby (by omega) (by omega) (by omega)
        rw [← puts_take ls i hlt hl] at k1
        have h300' : ∀ l ∈ ls.take (i + 1), l.length ≤ 300 := by
          rw [List.take_succ_eq_append_getElem hlt]
          intro l hl
          rcases List.mem_append.1 hl with hl | hl
          · exact h300 l hl
          · obtain rfl : l = ls[i] := by simpa using hl
            omega
        have hcat : str (ls.take i).flatten ++ str ls[i] = str (ls.take (i + 1)).flatten := by
          rw [List.take_succ_eq_append_getElem hlt, List.flatten_append, str_app]; simp
        by_cases h0 : ls[i] = []
        · have hr0 : putR (puts (ls.take i)) ls[i] 30 = 2 := by unfold putR; rw [if_pos h0]
          rw [hr0] at k1
          have hfl : (ls.take (i + 1)).flatten = (ls.take i).flatten := by rw [List.take_succ_eq_append_getElem hlt, List.flatten_append, h0]; simp
          rw [hfl] at hcat
          have K1 := Lib.hid k1
          clear k1 h0 hr0
          go_wp2_with (go_at_call 8; refine K1.out.mono ?_; rintro e w2 ⟨rfl, hO2, hB2⟩)
          go_roundw
          case rel => exact ⟨i + 1, hlt, by go_num, by rw [hfl], h300', hO2, hB.trans hB2⟩
          case measure => simp [intOf]; omega
        · have hr0 : putR (puts (ls.take i)) ls[i] 30 = 0 := by unfold putR; rw [if_neg h0, if_neg (by omega)]
          rw [hr0] at k1
          have hsz : ¬ 9223372036854775807 < (str (ls.take i).flatten).size + (str ls[i]).size := by rw [str_size, str_size]; omega
          have hcell2 : ∀ w2, Below w.heap.size w w2 → w2.cell? ⟨b, o + i, none⟩ = some (.slice A' ls[i].length c') ∧ (convert 27 9 (.slice A' ls[i].length c')).run Try.prog w2 = .ok (.string (str ls[i])) w2 := fun w2 hB2 =>
            ⟨cell_kept hB2 hcell0, (hby0.below hB2 (Nat.le_refl _)).str 27 5 9 c' Try.underlying27 Try.underlying5 Try.underlying9⟩
          clear hcell0 hby0 hlens
          have K1 := Lib.hid k1
          clear k1 h0 hr0
          go_wp2_with (go_at_call 8; refine K1.out.mono ?_; rintro e w2 ⟨rfl, hO2, hB2⟩; obtain ⟨hc2, hs2⟩ := hcell2 w2 (hB.trans hB2))
          go_roundw
          case rel => exact ⟨i + 1, hlt, by go_num, rfl, h300', hO2, hB.trans hB2⟩
          case measure => simp [intOf]; omega
    · have hi' : i = ls.length := by omega
      subst hi'
      rw [List.take_length] at hO h300 ⊢
      obtain ⟨X, hX⟩ : ∃ X, X = ls.flatten := ⟨_, rfl⟩
      obtain ⟨Q, hQ⟩ : ∃ Q, Q = puts ls := ⟨_, rfl⟩
      have hQX : Q.flatten = X := by rw [hQ, hX, puts_flat]
      have hQF : Full Q := by rw [hQ]; exact puts_full ls
      have hQl : Q.length ≤ 30 := by rw [hQ]; have := puts_le ls; omega
      have hXl : X.length ≤ 9000 := by
        have h1 := lens_le ls 300 h300
        rw [lens_flat, ← hX] at h1
        omega
      have hLQ : lens Q = X.length := by rw [lens_flat, hQX]
      rw [← hX]
      rw [← hQ] at hO
      have hO' : OB wr w.heap.size w.heap.size Q 30 ((0 : Nat) : Int) := hO
      clear h300 hX hQ hr hi hlt
      go_wp2_with fail
      go_loopw [8, 9] (fun got at_ wr => ∃ (j : Nat) (k : Nat), j ≤ ns.length ∧ at_ = .int .i64 j ∧ k ≤ X.length ∧ got = .string (str (X.take k)) ∧ OB wr w.heap.size w.heap.size (dropB Q k) 30 k ∧ Below w.heap.size w wr) (fun _ at_ _ => ns.length - (intOf at_).toNat)
      case atStart => exact ⟨0, 0, Nat.zero_le _, rfl, Nat.zero_le _, by simp [str], by rw [dropB_zero Q hQF]; exact hO', hB⟩
      case round =>
        obtain ⟨j, k, hj, rfl, hk, rfl, hO3, hB3⟩ := hrel
        clear hO hO' hB
        have hfl : (dropB Q k).flatten = X.drop k := by rw [dropB_flat, hQX]
        have hld : lens (dropB Q k) = X.length - k := by rw [lens_dropB, hLQ]
        have hdl := dropB_le Q k
        by_cases hlt : j < ns.length
        · have hlt' : (j : Int) < (ns.length : Int) := by omega
          obtain ⟨b, o, hP, _, hc⟩ := Rd.get hp (k := j) (by simpa using hlt)
          subst hP
          have hcell := cell_kept hB3 (hc j (.int .i64 ns[j]) (by simp [hlt]))
          obtain ⟨N, hN⟩ : ∃ N, takeN (dropB Q k) ns[j] = N := ⟨_, rfl⟩
          have t1 := Take_step w.heap.size w.heap.size (dropB Q k) 30 k ns[j] wr hO3 (by omega) (by omega) (by omega)
          rw [hN, hfl, dropB_add] at t1
          have hNl : k + N ≤ X.length := by unfold takeN at hN; rw [hld] at hN; omega
          have hcat : str (X.take k) ++ str ((X.drop k).take N) = str (X.take (k + N)) := by rw [str_app, List.take_add]
          have hsz : ¬ 9223372036854775807 < (str (X.take k)).size + (str ((X.drop k).take N)).size := by
            rw [str_size, str_size]; simp only [List.length_take]; omega
          have T1 := Lib.hid t1
          clear t1 hN hfl hld
          go_wp2_with (go_at_call 9; refine T1.out.mono ?_; rintro e w2 ⟨v, rfl, hv, hO4, hB4⟩; have hs4 : (convert 27 9 v).run Try.prog w2 = .ok (.string (str ((X.drop k).take N))) w2 := hv.str)
          go_roundw
          case rel => exact ⟨j + 1, k + N, hlt, by go_num, hNl, rfl, by rw [Int.natCast_add]; exact hO4, hB3.trans hB4⟩
          case measure => simp [intOf]; omega
        · have hj' : j = ns.length := by omega
          subst hj'
          have e1 : ¬ (str X).size < (str (X.take k)).size := by simp only [str_size, List.length_take]; omega
          have e2 : (str (X.take k)).size ≤ (str X).size := by simp only [str_size, List.length_take]; omega
          have e3 : (str X).extract 0 (str (X.take k)).size = str (X.take k) := str_extract X k _ (by rw [str_size])
          have hN : takeN (dropB Q k) 1099511627776 = X.length - k := by unfold takeN; rw [hld]; omega
          have t1 := Take_step w.heap.size w.heap.size (dropB Q k) 30 k 1099511627776 wr hO3 (by omega) (by omega) (by omega)
          rw [hN, hfl, dropB_add, List.take_of_length_le (by rw [List.length_drop]; omega)] at t1
          have hz : dropB Q (k + (X.length - k)) = [] := lens_zero (hQF.drop _) (by rw [lens_dropB, hLQ]; omega)
          rw [hz] at t1
          have hcat : str (X.take k) ++ str (X.drop k) = str X := by rw [str_app, List.take_append_drop]
          have hsz : ¬ 9223372036854775807 < (str (X.take k)).size + (str (X.drop k)).size := by
            rw [str_size, str_size]; simp only [List.length_take, List.length_drop]; omega
          have T1 := Lib.hid t1
          clear t1 hN hfl hld hz hO3
          go_wp2_with (go_at_call 9; refine T1.out.mono ?_; rintro e w2 ⟨v, rfl, hv, hO4, hB4⟩; have hs4 : (convert 27 9 v).run Try.prog w2 = .ok (.string (str (X.drop k))) w2 := hv.str)
          refine (Len_step _ _ _ _ _ _ hO4).mono ?_
          rintro e w' ⟨rfl, rfl⟩
          go_wp2_with fail
          refine (Left_step _ _ _ _ _ _ hO4 (by simp) (by decide)).mono ?_
          rintro e w' ⟨rfl, rfl⟩
          go_wp2_with fail
          refine (Room_step _ _ _ _ _ _ hO4 (by omega) (by simp)).mono ?_
          rintro e w3 ⟨rfl, hO5, hB5⟩
          go_wp2_with fail
          refine (known_any _).mono ?_
          rintro e w4 ⟨rfl, hB6⟩
          go_wp2_with fail
          go_ret
          have z1 := (hB3.trans hB4).size
          have z2 := hB5.size
          exact ⟨rfl, (hB3.trans hB4).trans ((hB5.mono z1).trans (hB6.mono (by omega)))⟩
theorem Parts_known (A : Option Addr) (n c : Nat) (P : Option Addr) (m c2 : Nat) (w : World) (hn : n ≤ 9223372036854775807) (hm : m ≤ 9223372036854775807) (h : 30 < n ∨ 60 < m) :
    Calls Try.prog 3 #[.slice A n c, .slice P m c2] w fun e w' => e = .returned (.bool true) ∧ Below w.heap.size w w' := by
  by_cases h1 : 30 < n
  · have g1 : (30 : Int) < (n : Int) := by omega
    go_enter Try.func3, Try.ntmps3
    go_wp2_with (go_at_call 6; refine (known_any _).mono ?_; rintro e w' ⟨rfl, hB⟩)
    go_ret
    exact ⟨rfl, hB⟩
  · have g1 : ¬ (30 : Int) < (n : Int) := by omega
    have g2 : (60 : Int) < (m : Int) := by omega
    go_enter Try.func3, Try.ntmps3
    go_wp2_with (go_at_call 6; refine (known_any _).mono ?_; rintro e w' ⟨rfl, hB⟩)
    go_ret
    exact ⟨rfl, hB⟩
end Go.Proofs.Ytmjikfhabfodkaa
