/- Our Same, of two sequences that are one. Helper. -/
import Derived.Test.YtgijkgngldfdiaaSqA
import Derived.Test.YtgijkgngldfdiaaVmSame
import Derived.BigQuiet
import Derived.Shelf.SlMaps.Equal
import Derived.Test.YtgijkgngldfdiaaSqD
namespace Go.Proofs.Ytgijkgngldfdiaa
open Go.RowKit
set_option linter.unusedVariables false
set_option linter.unusedSimpArgs false
theorem srt_eq : ∀ {l l' : List Ev}, Srt l → Srt l' → l.Perm l' → l = l'
  | [], l', _, _, h => (List.perm_nil.1 h.symm).symm
  | x :: l, [], _, _, h => absurd (List.perm_nil.1 h) (by simp)
  | x :: l, y :: l', h1, h2, h => by
    have hxy : x = y := by
      have hx : x ∈ y :: l' := h.subset List.mem_cons_self
      have hy : y ∈ x :: l := h.symm.subset List.mem_cons_self
      rcases List.mem_cons.1 hx with e | hx
      · exact e
      · rcases List.mem_cons.1 hy with e | hy
        · exact e.symm
        · have a := (List.pairwise_cons.1 h1).1 y hy
          have b := (List.pairwise_cons.1 h2).1 x hx
          rw [Ky.less_asymm a] at b
          cases b
    subst hxy
    rw [srt_eq (List.pairwise_cons.1 h1).2 (List.pairwise_cons.1 h2).2 h.cons_inv]
/-- Two sequences that are one but for the order in which events were put in. -/
structure Eqv (a b : Sq) : Prop where
  sts : a.sts = b.sts
  w : a.w.Perm b.w
  put : a.put.Perm b.put
  done : a.done = b.done
  last : a.last = b.last
theorem Eqv.run {m : Mdl} {a b : Sq} (h : Eqv a b) (e : Ev) : m.run a e = m.run b e := by unfold Mdl.run; rw [h.sts]
theorem Eqv.after {m : Mdl} {a b : Sq} (h : Eqv a b) {e : Ev} {r r' : List Ev} (h1 : a.w.Perm (e :: r)) (h2 : b.w.Perm (e :: r')) : Eqv (m.after a e r) (m.after b e r') := by
  have hr : r.Perm r' := ((h1.symm.trans h.w).trans h2).cons_inv
  refine ⟨?_, ?_, h.put, ?_, rfl⟩
  · show a.sts.set _ _ = b.sts.set _ _; rw [h.run e, h.sts]
  · show (r ++ _).Perm (r' ++ _); rw [h.run e]; exact hr.append_right _
  · show a.done + 1 = b.done + 1; rw [h.done]
/-- Events put in, one behind the other; those that were taken in. -/
def putIn (m : Mdl) (s : Sq) (e : Ev) : Sq := if m.putErr s e = 0 then s.add e else s
def putAll (m : Mdl) : Sq → List Ev → Sq
  | s, [] => s
  | s, e :: l => putAll m (putIn m s e) l
def taken (m : Mdl) : Sq → List Ev → List Ev
  | _, [] => []
  | s, e :: l => if m.putErr s e = 0 then e :: taken m (putIn m s e) l else taken m (putIn m s e) l
def addAll (s : Sq) (l : List Ev) : Sq := { s with w := s.w ++ l, put := s.put ++ l.map fun e => e.k.S }
theorem putAll_eq (m : Mdl) : ∀ (l : List Ev) (s : Sq), putAll m s l = addAll s (taken m s l)
  | [], s => by simp [putAll, taken, addAll]
  | e :: l, s => by
    unfold putAll taken
    by_cases h : m.putErr s e = 0
    · rw [if_pos h, putAll_eq m l]
      unfold putIn
      rw [if_pos h]
      simp [addAll, Sq.add]
    · rw [if_neg h, putAll_eq m l]
      unfold putIn
      rw [if_neg h]
/-- What was taken in may be put in, and no two have one number. -/
theorem taken_ok (m : Mdl) : ∀ (l : List Ev) (s : Sq), (∀ e ∈ taken m s l, e.may m.procs.length = true ∧ e.k.O = 17 ∧ ¬ e.k.T ≤ s.last.T ∧ e.k.S ∉ s.put) ∧ ((taken m s l).map fun e => e.k.S).Nodup
  | [], s => by simp [taken]
  | e :: l, s => by
    have hlast : (putIn m s e).last = s.last := by unfold putIn; split <;> rfl
    obtain ⟨h1, h2⟩ := taken_ok m l (putIn m s e)
    rw [hlast] at h1
    unfold taken
    by_cases h : m.putErr s e = 0
    · rw [if_pos h]
      have hput : (putIn m s e).put = s.put ++ [e.k.S] := by unfold putIn; rw [if_pos h]; rfl
      rw [hput] at h1
      have he : e.may m.procs.length = true ∧ e.k.O = 17 ∧ ¬ e.k.T ≤ s.last.T ∧ e.k.S ∉ s.put := by
        unfold Mdl.putErr at h
        split at h
        · rename_i hm
          simp only [Bool.and_eq_true, decide_eq_true_eq] at hm
          split at h
          · omega
          · rename_i hc
            split at h
            · omega
            · rename_i ht
              exact ⟨hm.1, hm.2, ht, by simpa using hc⟩
        · omega
      refine ⟨fun x hx => ?_, ?_⟩
      · rcases List.mem_cons.1 hx with rfl | hx
        · exact he
        · obtain ⟨q1, q2, q3, q4⟩ := h1 x hx
          exact ⟨q1, q2, q3, fun q => q4 (List.mem_append_left _ q)⟩
      · rw [List.map_cons, List.nodup_cons]
        refine ⟨fun q => ?_, h2⟩
        obtain ⟨x, hx, e2⟩ := List.mem_map.1 q
        exact (h1 x hx).2.2.2 (by rw [e2]; simp)
    · rw [if_neg h]
      have hput : putIn m s e = s := by unfold putIn; rw [if_neg h]
      rw [hput] at h1 h2 ⊢
      exact ⟨h1, h2⟩
/-- Whatever may be, and of numbers of its own, is taken in, in any order. -/
theorem put_any_order (m : Mdl) : ∀ (l : List Ev) (s : Sq), (∀ e ∈ l, e.may m.procs.length = true ∧ e.k.O = 17 ∧ ¬ e.k.T ≤ s.last.T ∧ e.k.S ∉ s.put) → (l.map fun e => e.k.S).Nodup → ∀ j (hj : j < l.length), m.putErr (addAll s (l.take j)) l[j] = 0
  | l, s, h, hn, j, hj => by
    obtain ⟨q1, q2, q3, q4⟩ := h l[j] (List.getElem_mem hj)
    unfold Mdl.putErr
    rw [if_pos (by simp [q1, q2]), if_neg (by
      simp only [addAll, List.contains_iff_mem, List.mem_append]
      intro q
      rcases q with q | q
      · exact q4 q
      · obtain ⟨x, hx, e⟩ := List.mem_map.1 q
        obtain ⟨i, hi, rfl⟩ := List.getElem_of_mem hx
        rw [List.getElem_take] at e
        have hij : i < j := by have := hi; rw [List.length_take] at this; omega
        have hnd := List.pairwise_iff_getElem.1 hn i j (by simp; omega) (by simpa using hj) hij
        simp only [List.getElem_map] at hnd
        exact hnd e), if_neg (show ¬ l[j].k.T ≤ (addAll s (l.take j)).last.T from q3)]
theorem addAll_eqv (s : Sq) {l l' : List Ev} (h : l.Perm l') : Eqv (addAll s l) (addAll s l') :=
  ⟨rfl, h.append_left _, (h.map _).append_left _, rfl, rfl⟩
end Go.Proofs.Ytgijkgngldfdiaa
/- In whichever order events are put in: what the loops hold. Helper. -/
namespace Go.Proofs.Ytgijkgngldfdiaa
open Go.RowKit
set_option linter.unusedVariables false
set_option linter.unusedSimpArgs false
theorem putAll_snoc (m : Mdl) : ∀ (l : List Ev) (s : Sq) (e : Ev), putAll m s (l ++ [e]) = putIn m (putAll m s l) e
  | [], s, e => rfl
  | x :: l, s, e => by
    rw [List.cons_append]
    unfold putAll
    exact putAll_snoc m l _ e
theorem taken_snoc (m : Mdl) : ∀ (l : List Ev) (s : Sq) (e : Ev), taken m s (l ++ [e]) = taken m s l ++ if m.putErr (putAll m s l) e = 0 then [e] else []
  | [], s, e => by
    rw [List.nil_append]
    show taken m s [e] = [] ++ if m.putErr s e = 0 then [e] else []
    unfold taken
    split <;> simp [taken]
  | x :: l, s, e => by
    rw [List.cons_append]
    show taken m s (x :: (l ++ [e])) = taken m s (x :: l) ++ if m.putErr (putAll m (putIn m s x) l) e = 0 then [e] else []
    have h1 : taken m s (x :: (l ++ [e])) = if m.putErr s x = 0 then x :: taken m (putIn m s x) (l ++ [e]) else taken m (putIn m s x) (l ++ [e]) := rfl
    have h2 : taken m s (x :: l) = if m.putErr s x = 0 then x :: taken m (putIn m s x) l else taken m (putIn m s x) l := rfl
    rw [h1, h2, taken_snoc m l]
    by_cases h : m.putErr s x = 0
    · rw [if_pos h, if_pos h]; rfl
    · rw [if_neg h, if_neg h]
theorem take_snoc {α : Type} (l : List α) {k : Nat} (hk : k < l.length) : l.take (k + 1) = l.take k ++ [l[k]] := by
  rw [List.take_add_one, List.getElem?_eq_getElem hk]; rfl
theorem taken_le (m : Mdl) : ∀ (l : List Ev) (s : Sq), (taken m s l).length ≤ l.length
  | [], s => by simp [taken]
  | x :: l, s => by
    unfold taken
    have := taken_le m l (putIn m s x)
    split
    · simp only [List.length_cons]; omega
    · simp only [List.length_cons]; omega
theorem taken_sub (m : Mdl) : ∀ (l : List Ev) (s : Sq), ∀ e ∈ taken m s l, e ∈ l
  | [], s, e, h => by simp [taken] at h
  | x :: l, s, e, h => by
    unfold taken at h
    split at h
    · rcases List.mem_cons.1 h with rfl | h
      · exact List.mem_cons_self
      · exact List.mem_cons_of_mem _ (taken_sub m l _ e h)
    · exact List.mem_cons_of_mem _ (taken_sub m l _ e h)
theorem putAll_size (m : Mdl) (l : List Ev) (s : Sq) : (putAll m s l).w.length ≤ s.w.length + l.length ∧ (putAll m s l).put.length ≤ s.put.length + l.length ∧ (putAll m s l).done = s.done := by
  have h := taken_le m l s
  rw [putAll_eq]
  simp [addAll]
  omega
theorem addAll_snoc (s : Sq) (l : List Ev) (e : Ev) : addAll s (l ++ [e]) = (addAll s l).add e := by
  simp [addAll, Sq.add]
theorem addAll_size (s : Sq) (l : List Ev) : (addAll s l).w.length = s.w.length + l.length ∧ (addAll s l).put.length = s.put.length + l.length ∧ (addAll s l).done = s.done := by
  simp [addAll]
theorem turned_put (m : Mdl) (l : List Ev) (s : Sq) {tk : List Ev} (htk : taken m s l = tk) {j i : Nat} (hj : j < tk.length) (hi : i = tk.length - 1 - j) (hil : i < tk.length) {e : Ev} (he : tk[i] = e) : m.putErr (addAll s (tk.reverse.take j)) e = 0 := by
  subst htk hi he
  obtain ⟨h1, h2⟩ := taken_ok m l s
  have hj' : j < (taken m s l).reverse.length := by simpa using hj
  have := put_any_order m (taken m s l).reverse s (fun e he => h1 e (by simpa using he)) (by rw [List.map_reverse]; exact (List.reverse_perm _).nodup_iff.2 h2) j hj'
  rwa [List.getElem_reverse] at this
theorem turned_snoc (tk : List Ev) (s : Sq) {j i : Nat} (hj : j < tk.length) (hi : i = tk.length - 1 - j) (hil : i < tk.length) {e : Ev} (he : tk[i] = e) : addAll s (tk.reverse.take (j + 1)) = (addAll s (tk.reverse.take j)).add e := by
  subst hi he
  rw [take_snoc tk.reverse (by simpa using hj), addAll_snoc, List.getElem_reverse]
theorem turned_eqv (m : Mdl) (l : List Ev) (s : Sq) : Eqv (putAll m s l) (addAll s ((taken m s l).reverse.take (taken m s l).length)) := by
  rw [putAll_eq, List.take_of_length_le (by simp)]
  exact addAll_eqv s (List.reverse_perm _).symm
end Go.Proofs.Ytgijkgngldfdiaa
/- slices.Equal of numbers and of events. Helper. -/
namespace Go.Proofs.Ytgijkgngldfdiaa
open Go.RowKit
set_option linter.unusedVariables false
set_option linter.unusedSimpArgs false
section
set_option maxRecDepth 100000
set_option maxHeartbeats 3200000
theorem equal64_yes (w : World) (A B : Option Addr) (c c' : Nat) (L : List Int) (hA : Rd w A (ints L)) (hB : Rd w B (ints L)) (hl : L.length ≤ 4294967295) :
    Calls Try.prog 44 #[.slice A L.length c, .slice B L.length c'] w fun e w' => e = .returned (.bool true) ∧ ∃ q, w' = w.drewN q := by
  have HA := Lib.hid hA
  have HB := Lib.hid hB
  obtain ⟨n, hn⟩ : ∃ n, L.length = n := ⟨_, rfl⟩
  have HN := Lib.hid hn
  rw [hn] at hl ⊢
  clear hA hB hn
  go_enter Try.func44, Try.ntmps44
  go_wp2_with fail
  go_loopw [13] (fun i wr => ∃ k : Nat, k ≤ n ∧ i = .int .i64 k ∧ Hid (∃ q, wr = w.drewN q)) (fun i _ => n - (intOf i).toNat)
  case atStart => exact ⟨0, Nat.zero_le _, rfl, Lib.hid ⟨0, rfl⟩⟩
  case round =>
    obtain ⟨k, hk, rfl, HI⟩ := hrel
    obtain ⟨q, hq⟩ := HI.out
    have hA' := Rd.drewN HA.out q
    have hB' := Rd.drewN HB.out q
    rw [← hq] at hA' hB'
    have HQ := Lib.hid hq
    clear hq HI
    by_cases hlt : k < n
    · have hlt' : k < L.length := by rw [HN.out]; exact hlt
      obtain ⟨b1, o1, e1, h1⟩ := ints_at hA' hlt'
      obtain ⟨b2, o2, e2, h2⟩ := ints_at hB' hlt'
      have c1 := h1 k hlt'
      have c2 := h2 k hlt'
      obtain ⟨z, hz⟩ : ∃ z, L.getD k 0 = z := ⟨_, rfl⟩
      rw [hz] at c1 c2
      have g1 : (k : Int) < (n : Int) := by omega
      subst e1 e2
      clear h1 h2 hz hA' hB'
      go_wp2_with fail
      go_quiet (fail)
      go_wp2_with fail
      go_roundw
      case rel => exact ⟨k + 1, by omega, by go_num, Lib.hid ⟨q + nq, by rw [HQ.out]; simp [World.drewN, Nat.add_assoc]⟩⟩
      case measure => simp [intOf]; omega
    · have g1 : ¬ (k : Int) < (n : Int) := by omega
      go_wp2_with fail
      go_ret
      exact ⟨rfl, q, HQ.out⟩
theorem equalEv_yes (w : World) (A B : Option Addr) (c c' : Nat) (l : List Ev) (hA : Rd w A (ints (rows l))) (hB : Rd w B (ints (rows l))) (hl : l.length ≤ 4294967295) :
    Calls Try.prog 46 #[.slice A l.length c, .slice B l.length c'] w fun e w' => e = .returned (.bool true) ∧ ∃ q, w' = w.drewN q := by
  have HA := Lib.hid hA
  have HB := Lib.hid hB
  obtain ⟨n, hn⟩ : ∃ n, l.length = n := ⟨_, rfl⟩
  have HN := Lib.hid hn
  rw [hn] at hl ⊢
  clear hA hB hn
  go_enter Try.func46, Try.ntmps46
  go_wp2_with fail
  go_loopw [13] (fun i wr => ∃ k : Nat, k ≤ n ∧ i = .int .i64 k ∧ Hid (∃ q, wr = w.drewN q)) (fun i _ => n - (intOf i).toNat)
  case atStart => exact ⟨0, Nat.zero_le _, rfl, Lib.hid ⟨0, rfl⟩⟩
  case round =>
    obtain ⟨k, hk, rfl, HI⟩ := hrel
    obtain ⟨q, hq⟩ := HI.out
    have hA' := Rd.drewN HA.out q
    have hB' := Rd.drewN HB.out q
    rw [← hq] at hA' hB'
    have HQ := Lib.hid hq
    clear hq HI
    by_cases hlt : k < n
    · have hlt' : k < l.length := by rw [HN.out]; exact hlt
      obtain ⟨b1, o1, e1, c0, c1, c2, c3, c4, c5⟩ := ev_at hA' hlt'
      obtain ⟨b2, o2, e2, d0, d1, d2, d3, d4, d5⟩ := ev_at hB' hlt'
      obtain ⟨x, hx⟩ : ∃ x, l[k]'hlt' = x := ⟨_, rfl⟩
      simp only [hx] at c0 c1 c2 c3 c4 c5 d0 d1 d2 d3 d4 d5
      have g1 : (k : Int) < (n : Int) := by omega
      subst e1 e2
      clear hx hA' hB'
      go_wp2_with fail
      go_quiet (fail)
      go_wp2_with fail
      go_roundw
      case rel => exact ⟨k + 1, by omega, by go_num, Lib.hid ⟨q + nq, by rw [HQ.out]; simp [World.drewN, Nat.add_assoc]⟩⟩
      case measure => simp [intOf]; omega
    · have g1 : ¬ (k : Int) < (n : Int) := by omega
      go_wp2_with fail
      go_ret
      exact ⟨rfl, q, HQ.out⟩
end
end Go.Proofs.Ytgijkgngldfdiaa
/- slices.EqualFunc of states. Helper. -/
namespace Go.Proofs.Ytgijkgngldfdiaa
open Go.RowKit
set_option linter.unusedVariables false
set_option linter.unusedSimpArgs false
section
set_option maxRecDepth 100000
set_option maxHeartbeats 3200000
theorem same1_yes (w : World) (A B : Option Addr) (c c' : Nat) (L : List Int) (x y : Int) (hA : Rd w A (ints L)) (hB : Rd w B (ints L)) (hl : L.length ≤ 4294967295) :
    Calls Try.prog 43 #[.agg #[.slice A L.length c, .int .i64 x, .int .i64 y], .agg #[.slice B L.length c', .int .i64 x, .int .i64 y]] w fun e w' => e = .returned (.bool true) ∧ Nw w w' := by
  obtain ⟨w1, hw1⟩ : ∃ w1, (w.alloc (.cells #[.slice A L.length c, .int .i64 x, .int .i64 y] 65)).alloc (.cells #[.slice B L.length c', .int .i64 x, .int .i64 y] 65) = w1 := ⟨_, rfl⟩
  have n1 : Nw w w1 := by rw [← hw1]; exact ((Nw.refl w).alloc _).alloc _
  have hb1 : Blk w1 w.heap.size 65 #[.slice A L.length c, .int .i64 x, .int .i64 y] := by rw [← hw1]; exact (Blk.last w _ _ rfl).alloc _
  have hb2 : Blk w1 (w.heap.size + 1) 65 #[.slice B L.length c', .int .i64 x, .int .i64 y] := by rw [← hw1]; exact Blk.last _ _ _ (by simp)
  have K := Lib.hid (equal64_yes w1 A B c c' L (hA.keep fun p hp => Below.cell n1 hp) (hB.keep fun p hp => Below.cell n1 hp) hl)
  have p0 : w1.cell? ⟨w.heap.size, 0, none⟩ = some (.slice A L.length c) := hb1.cell 0
  have p1 : w1.cell? ⟨w.heap.size, 1, none⟩ = some (.int .i64 x) := hb1.cell 1
  have p2 : w1.cell? ⟨w.heap.size, 2, none⟩ = some (.int .i64 y) := hb1.cell 2
  have q0 : w1.cell? ⟨w.heap.size + 1, 0, none⟩ = some (.slice B L.length c') := hb2.cell 0
  have q1 : w1.cell? ⟨w.heap.size + 1, 1, none⟩ = some (.int .i64 x) := hb2.cell 1
  have q2 : w1.cell? ⟨w.heap.size + 1, 2, none⟩ = some (.int .i64 y) := hb2.cell 2
  have HW := Lib.hid hw1
  have N1 := Lib.hid n1
  clear hA hB hw1 n1 hb1 hb2 hl
  obtain ⟨n, hn⟩ : ∃ n, L.length = n := ⟨_, rfl⟩
  rw [hn] at K p0 q0 HW ⊢
  clear hn
  go_enter Try.func43, Try.ntmps43
  go_upto_region 1 with (fail)
  rw [HW.out]
  go_wp2_with fail
  refine K.out.mono ?_
  rintro e w2 ⟨rfl, q, rfl⟩
  go_wp2_with fail
  go_ret
  exact ⟨rfl, Below.many N1.out q⟩
/-- States that lie from here on. -/
def StsAt (w : World) (b o : Nat) (l : List St) : Prop := ∀ i, i < l.length → ∃ a c, w.cell? ⟨b, o + i * 3, none⟩ = some (.slice a (l.getD i St.z).vars.length c) ∧ w.cell? ⟨b, o + i * 3 + 1, none⟩ = some (.int .i64 (l.getD i St.z).sent) ∧ w.cell? ⟨b, o + i * 3 + 2, none⟩ = some (.int .i64 (l.getD i St.z).drawn) ∧ Rd w a (ints (l.getD i St.z).vars)
theorem StsAt.keep {w w' : World} {b o : Nat} {l : List St} (h : StsAt w b o l) (hN : Nw w w') : StsAt w' b o l := fun i hi => by
  obtain ⟨a, c, h0, h1, h2, h3⟩ := h i hi
  exact ⟨a, c, hN.cell h0, hN.cell h1, hN.cell h2, h3.keep fun p hp => Below.cell hN hp⟩
theorem equalFunc_yes (w : World) (b1 o1 b2 o2 c c' : Nat) (l : List St) (hA : StsAt w b1 o1 l) (hB : StsAt w b2 o2 l) (hv : ∀ i, i < l.length → (l.getD i St.z).vars.length ≤ 100000) (hl : l.length ≤ 1000) :
    Calls Try.prog 45 #[.slice (some ⟨b1, o1, none⟩) l.length c, .slice (some ⟨b2, o2, none⟩) l.length c', .func (.func 43) #[] #[]] w fun e w' => e = .returned (.bool true) ∧ Nw w w' := by
  have HA := Lib.hid hA
  have HB := Lib.hid hB
  have HV := Lib.hid hv
  obtain ⟨n, hn⟩ : ∃ n, l.length = n := ⟨_, rfl⟩
  have HN := Lib.hid hn
  rw [hn] at hl ⊢
  clear hA hB hn hv
  go_enter Try.func45, Try.ntmps45
  go_wp2_with fail
  go_loopw [17] (fun i wr => ∃ k : Nat, k ≤ n ∧ i = .int .i64 k ∧ Hid (Nw w wr)) (fun i _ => n - (intOf i).toNat)
  case atStart => exact ⟨0, Nat.zero_le _, rfl, Lib.hid (Nw.refl w)⟩
  case round =>
    obtain ⟨k, hk, rfl, HI⟩ := hrel
    by_cases hlt : k < n
    · have hlt' : k < l.length := by rw [HN.out]; exact hlt
      obtain ⟨a1, e1, c0, c1, c2, r1⟩ := HA.out.keep HI.out k hlt'
      obtain ⟨a2, e2, d0, d1, d2, r2⟩ := HB.out.keep HI.out k hlt'
      have hv := HV.out k hlt'
      obtain ⟨T, hT⟩ : ∃ T, l.getD k St.z = T := ⟨_, rfl⟩
      rw [hT] at c0 c1 c2 r1 d0 d1 d2 r2 hv
      obtain ⟨w2, hw2⟩ : ∃ w2, (wr.alloc (.cells #[.slice a1 T.vars.length e1, .int .i64 T.sent, .int .i64 T.drawn] 65)).alloc (.cells #[.slice a2 T.vars.length e2, .int .i64 T.sent, .int .i64 T.drawn] 65) = w2 := ⟨_, rfl⟩
      have n2 : Nw wr w2 := by rw [← hw2]; exact ((Nw.refl wr).alloc _).alloc _
      have hb1 : Blk w2 wr.heap.size 65 #[.slice a1 T.vars.length e1, .int .i64 T.sent, .int .i64 T.drawn] := by rw [← hw2]; exact (Blk.last wr _ _ rfl).alloc _
      have hb2 : Blk w2 (wr.heap.size + 1) 65 #[.slice a2 T.vars.length e2, .int .i64 T.sent, .int .i64 T.drawn] := by rw [← hw2]; exact Blk.last _ _ _ (by simp)
      have K := Lib.hid (same1_yes w2 a1 a2 e1 e2 T.vars T.sent T.drawn (r1.keep fun p hp => Below.cell n2 hp) (r2.keep fun p hp => Below.cell n2 hp) (by omega))
      have p0 : w2.cell? ⟨wr.heap.size, 0, none⟩ = some (.slice a1 T.vars.length e1) := hb1.cell 0
      have p1 : w2.cell? ⟨wr.heap.size, 1, none⟩ = some (.int .i64 T.sent) := hb1.cell 1
      have p2 : w2.cell? ⟨wr.heap.size, 2, none⟩ = some (.int .i64 T.drawn) := hb1.cell 2
      have q0 : w2.cell? ⟨wr.heap.size + 1, 0, none⟩ = some (.slice a2 T.vars.length e2) := hb2.cell 0
      have q1 : w2.cell? ⟨wr.heap.size + 1, 1, none⟩ = some (.int .i64 T.sent) := hb2.cell 1
      have q2 : w2.cell? ⟨wr.heap.size + 1, 2, none⟩ = some (.int .i64 T.drawn) := hb2.cell 2
      obtain ⟨vn, hvn⟩ : ∃ vn, T.vars.length = vn := ⟨_, rfl⟩
      rw [hvn] at c0 d0 K p0 q0 hw2
      have d0' := ((Nw.refl wr).alloc (.cells #[.slice a1 vn e1, .int .i64 T.sent, .int .i64 T.drawn] 65)).cell d0
      have d1' := ((Nw.refl wr).alloc (.cells #[.slice a1 vn e1, .int .i64 T.sent, .int .i64 T.drawn] 65)).cell d1
      have d2' := ((Nw.refl wr).alloc (.cells #[.slice a1 vn e1, .int .i64 T.sent, .int .i64 T.drawn] 65)).cell d2
      have HW := Lib.hid hw2
      have N2 := Lib.hid n2
      have g1 : (k : Int) < (n : Int) := by omega
      have g2 : (0 : Int) ≤ (k : Int) := by omega
      clear r1 r2 hv hT n2 hb1 hb2 hw2 hvn
      go_upto_region 7 with (fail)
      rw [HW.out]
      clear c0 c1 c2 d0 d1 d2 d0' d1' d2'
      go_wp2_with fail
      refine K.out.mono ?_
      rintro e w3 ⟨rfl, n3⟩
      have N3 := Lib.hid ((HI.out.step N2.out).step n3)
      clear n3 p0 p1 p2 q0 q1 q2
      go_wp2_with fail
      go_roundw
      case rel => exact ⟨k + 1, by omega, by go_num, N3⟩
      case measure => simp [intOf]; omega
    · have g1 : ¬ (k : Int) < (n : Int) := by omega
      go_wp2_with fail
      go_ret
      exact ⟨rfl, HI.out⟩
end
end Go.Proofs.Ytgijkgngldfdiaa
/- maps.Equal of the numbers that were put in. Helper. -/
namespace Go.Proofs.Ytgijkgngldfdiaa
open Go.RowKit Go.Maps Go.Shelf
set_option maxRecDepth 100000
set_option linter.unusedVariables false
set_option linter.unusedSimpArgs false
def eqM_ren : Go.Shelf.Ren := ⟨fun | 6 => 47 | n => n, fun | 23 => 61 | 24 => 61 | 26 => 2 | 27 => 4 | 4 => 4 | 3 => 3 | 0 => 0 | 36 => 136 | n => n, fun | n => n⟩
theorem eqM : Go.Proofs.SlLaysEq.n6 Try.prog eqM_ren := {
  mixed := by kernel_rfl
  f6 := ⟨Try.f47.name, by decide, Try.func47.trans (congrArg some (by kernel_rfl))⟩
  t0 := Try.underlying0
  a0 := Try.isAgg0
  z0 := Try.sizeOf0
  v0 := Try.zeroValue0
  t3 := Try.underlying3
  a3 := Try.isAgg3
  z3 := Try.sizeOf3
  v3 := Try.zeroValue3
  t4 := Try.underlying4
  a4 := Try.isAgg4
  z4 := Try.sizeOf4
  v4 := Try.zeroValue4
  t23 := Try.underlying61
  a23 := Try.isAgg61
  z23 := Try.sizeOf61
  v23 := Try.zeroValue61
  t24 := Try.underlying61
  a24 := Try.isAgg61
  z24 := Try.sizeOf61
  v24 := Try.zeroValue61
  a26 := Try.isAgg2
  z26 := Try.sizeOf2
  a27 := Try.isAgg4
  z27 := Try.sizeOf4
  t36 := Try.underlying136
  a36 := Try.isAgg136
  z36 := Try.sizeOf136 }
/-- Are two elements one? -/
def oneD : DataW Unit → DataW Unit → Bool
  | .lit (.bool x), .lit (.bool y) => x == y
  | _, _ => false
theorem neq_bool (W : World) (x y : Value) (xd yd : DataW Unit) (xp yp : List MemPlace) (hx : plainElem Try.prog 4 x = some (xd, xp)) (hy : plainElem Try.prog 4 y = some (yd, yp)) :
    (binOp .neq 4 x y).run Try.prog W = .ok (.bool (!oneD xd yd)) W ∧ ∀ (a b : Operand), (eqGuard .neq 4 a b x y).run Try.prog W = .ok () W := by
  obtain ⟨a, rfl, h1⟩ := plainElem_bool_inv Try.underlying4 hx
  obtain ⟨b, rfl, h2⟩ := plainElem_bool_inv Try.underlying4 hy
  obtain rfl : xd = .lit (.bool a) := congrArg Prod.fst h1
  obtain rfl : yd = .lit (.bool b) := congrArg Prod.fst h2
  refine ⟨?_, fun _ _ => by rw [eqGuard_at_bool]; rfl⟩
  simp [go_sem, oneD, binOp]
  cases a <;> cases b <;> rfl
theorem mem_ins {x p : Lit × DataW Unit} : ∀ {l : List (Lit × DataW Unit)}, p ∈ DataW.insert x l → p = x ∨ p ∈ l
  | [], h => by simp [DataW.insert] at h; exact .inl h
  | y :: l, h => by
    unfold DataW.insert at h
    split at h
    · rcases List.mem_cons.1 h with h | h
      · exact .inl h
      · exact .inr h
    · rcases List.mem_cons.1 h with h | h
      · exact .inr (h ▸ List.mem_cons_self)
      · rcases mem_ins h with h | h
        · exact .inl h
        · exact .inr (List.mem_cons_of_mem _ h)
theorem seen_is : ∀ l : List Int, ∃ es, seenD l = .map es ∧ ∀ p ∈ es, ∃ q, q ∈ l ∧ p = (Lit.int .i64 q, .lit (.bool true))
  | [] => ⟨[], rfl, by simp⟩
  | q :: l => by
    obtain ⟨es, he, h⟩ := seen_is l
    refine ⟨_, by unfold seenD; rw [he]; rfl, fun p hp => ?_⟩
    rcases mem_ins hp with rfl | hp
    · exact ⟨q, List.mem_cons_self, rfl⟩
    · obtain ⟨z, hz, e⟩ := h p (List.mem_filter.1 hp).1
      exact ⟨z, List.mem_cons_of_mem _ hz, e⟩
theorem same_seen {l1 l2 : List Int} (h : l1.Perm l2) (hn : l1.Nodup) : Lib.equalFuncD oneD (seenD l1) (seenD l2) = true := by
  unfold Lib.equalFuncD
  rw [size_seen hn, size_seen (h.nodup_iff.1 hn), decide_eq_true h.length_eq, Bool.true_and]
  obtain ⟨es, he, hp⟩ := seen_is l1
  rw [he]
  refine List.all_eq_true.2 fun p hpp => ?_
  obtain ⟨q, hq, rfl⟩ := hp p hpp
  have hq2 : q ∈ l2 := h.subset hq
  have hh : has (seenD l2) (Lit.int .i64 q) = true := by rw [has_seen]; simpa using hq2
  unfold Lib.goodD
  rw [hh, atKey_indep hh .nil (.lit (.bool false)), at_seen]
  simp [oneD, hq2]
theorem mapsEqual_yes (w : World) (b1 b2 : Nat) (l1 l2 : List Int) (h1 : Sn w b1 l1) (h2 : Sn w b2 l2) (h : l1.Perm l2) :
    Calls Try.prog 47 #[.map (some b1), .map (some b2)] w fun e w' => e = .returned (.bool true) ∧ Nw w w' := by
  refine (AnyEq.maps_Equal eqM kInt (plainElem Try.prog 4) (plainElem Try.prog 4) oneD b1 b2 l1.length l2.length (seenD l1) (seenD l2) w h1.1 h2.1 (.bool false) zero_bool (.lit (.bool false)) [] (plainElem_bool Try.underlying4 false) neq_bool).mono ?_
  rintro e w' ⟨rfl, hg⟩
  exact ⟨by rw [same_seen h h1.2.1], (Nw.refl w).grown hg (Nat.le_refl _) (fun k e => by cases e)⟩
end Go.Proofs.Ytgijkgngldfdiaa
/- Our Same, of two sequences that are one. Helper. -/
namespace Go.Proofs.Ytgijkgngldfdiaa
open Go.RowKit
set_option linter.unusedVariables false
set_option linter.unusedSimpArgs false
section
set_option maxRecDepth 100000
set_option maxHeartbeats 3200000
theorem stsAt_of {w : World} {p : PMem} {m : Mdl} {s : Sq} {ws : List Ev} (h : PSeq w p m s ws) : StsAt w p.stB p.so s.sts := fun i hi => by
  rw [h.ok.len] at hi
  obtain ⟨cur, hst, hc⟩ := h.sts
  obtain ⟨a, c, ⟨g0, g1, g2⟩, hr⟩ := hc i hi
  exact ⟨a, c, (hst.cell _).trans g0, (hst.cell _).trans g1, (hst.cell _).trans g2, hr.here⟩
theorem sameY_any (w : World) (p q : PMem) (m : Mdl) (s t : Sq) (ws : List Ev) (hp : PSeq w p m s ws) (hq : PSeq w q m t ws) (he : Eqv s t) (hv : ∀ i, (s.sts.getD i St.z).vars.length ≤ 100000) :
    Calls Try.prog 19 #[.pointer (some ⟨p.SB, 0, none⟩), .pointer (some ⟨q.SB, 0, none⟩)] w fun e w' => e = .returned (.bool true) ∧ Nw w w' := by
  have n1 := Lib.hid (seqNone_any p m s ws w hp)
  have n2 := Lib.hid (seqNone_any q m t ws w hq)
  obtain ⟨N, hN⟩ : ∃ N, m.procs.length = N := ⟨_, rfl⟩
  obtain ⟨nw, hnw⟩ : ∃ nw, ws.length = nw := ⟨_, rfl⟩
  obtain ⟨dn, hdn⟩ : ∃ dn, s.done = dn := ⟨_, rfl⟩
  obtain ⟨lt, hlt⟩ : ∃ lt, s.last.T = lt := ⟨_, rfl⟩
  have a0 : w.cell? ⟨p.SB, 0, none⟩ = some (.slice p.pA m.procs.length p.pc) := hp.waits.box.cell 0
  have a1 : w.cell? ⟨p.SB, 1, none⟩ = some (.slice (some ⟨p.stB, p.so, none⟩) m.procs.length p.sc) := hp.waits.box.cell 1
  have a2 : w.cell? ⟨p.SB, 2, none⟩ = some (.slice p.A ws.length p.c) := hp.waits.box.cell 2
  have a3 : w.cell? ⟨p.SB, 3, none⟩ = some (.map (some p.PB)) := hp.waits.box.cell 3
  have a4 : w.cell? ⟨p.SB, 4, none⟩ = some (.int .i64 (s.done : Int)) := hp.waits.box.cell 4
  have a5 : w.cell? ⟨p.SB, 5, none⟩ = some (.int .i64 s.last.T) := hp.waits.box.cell 5
  have b1 : w.cell? ⟨q.SB, 1, none⟩ = some (.slice (some ⟨q.stB, q.so, none⟩) m.procs.length q.sc) := hq.waits.box.cell 1
  have b2 : w.cell? ⟨q.SB, 2, none⟩ = some (.slice q.A ws.length q.c) := hq.waits.box.cell 2
  have b3 : w.cell? ⟨q.SB, 3, none⟩ = some (.map (some q.PB)) := hq.waits.box.cell 3
  have b4 : w.cell? ⟨q.SB, 4, none⟩ = some (.int .i64 (t.done : Int)) := hq.waits.box.cell 4
  have b5 : w.cell? ⟨q.SB, 5, none⟩ = some (.int .i64 t.last.T) := hq.waits.box.cell 5
  rw [← he.done] at b4
  rw [← he.last] at b5
  rw [hN] at a1 b1
  rw [hnw] at a2 b2
  rw [hdn] at a4 b4
  rw [hlt] at a5 b5
  have hS : ∀ W, Nw w W → W.cell? ⟨p.SB, 1, none⟩ = some (.slice (some ⟨p.stB, p.so, none⟩) N p.sc) ∧ W.cell? ⟨p.SB, 2, none⟩ = some (.slice p.A nw p.c) ∧ W.cell? ⟨p.SB, 3, none⟩ = some (.map (some p.PB)) ∧ W.cell? ⟨p.SB, 4, none⟩ = some (.int .i64 (dn : Int)) ∧ W.cell? ⟨p.SB, 5, none⟩ = some (.int .i64 lt) ∧ W.cell? ⟨q.SB, 1, none⟩ = some (.slice (some ⟨q.stB, q.so, none⟩) N q.sc) ∧ W.cell? ⟨q.SB, 2, none⟩ = some (.slice q.A nw q.c) ∧ W.cell? ⟨q.SB, 3, none⟩ = some (.map (some q.PB)) ∧ W.cell? ⟨q.SB, 4, none⟩ = some (.int .i64 (dn : Int)) ∧ W.cell? ⟨q.SB, 5, none⟩ = some (.int .i64 lt) := fun W hW => ⟨hW.cell a1, hW.cell a2, hW.cell a3, hW.cell a4, hW.cell a5, hW.cell b1, hW.cell b2, hW.cell b3, hW.cell b4, hW.cell b5⟩
  have hlen : s.sts.length = N := by rw [hp.ok.len, hN]
  have s1 := stsAt_of hp
  have s2 := stsAt_of hq
  rw [← he.sts] at s2
  have hn16 := hp.ok.may.n16
  have hw5 : ws.length ≤ 10000 := by rw [hp.twin.perm.length_eq]; exact hp.few.2.1
  obtain ⟨_, _, ep, r1, _⟩ := hp.waits.own.rd
  injection ep with ep1 _ ep2
  obtain ⟨_, _, eq, r2, _⟩ := hq.waits.own.rd
  injection eq with eq1 _ eq2
  subst ep1 eq1
  have K1 : Hid (∀ W, Nw w W → Calls Try.prog 45 #[.slice (some ⟨p.stB, p.so, none⟩) N p.sc, .slice (some ⟨q.stB, q.so, none⟩) N q.sc, .func (.func 43) #[] #[]] W fun e w' => e = .returned (.bool true) ∧ Nw W w') := Lib.hid fun W hW => by
    rw [← hlen]
    exact equalFunc_yes W p.stB p.so q.stB q.so p.sc q.sc s.sts (s1.keep hW) (s2.keep hW) (fun i _ => hv i) (by rw [hlen, ← hN]; omega)
  have K2 : Hid (∀ W, Nw w W → Calls Try.prog 46 #[.slice p.A nw p.c, .slice q.A nw q.c] W fun e w' => e = .returned (.bool true) ∧ Nw W w') := Lib.hid fun W hW => by
    rw [← hnw]
    refine (equalEv_yes W p.A q.A p.c q.c ws (r1.keep fun g hg => Below.cell hW hg) (r2.keep fun g hg => Below.cell hW hg) (by omega)).mono ?_
    rintro e w' ⟨rfl, k, rfl⟩
    exact ⟨rfl, Below.many (Nw.refl W) k⟩
  have K3 : Hid (∀ W, Nw w W → Calls Try.prog 47 #[.map (some p.PB), .map (some q.PB)] W fun e w' => e = .returned (.bool true) ∧ Nw W w') := Lib.hid fun W hW =>
    mapsEqual_yes W p.PB q.PB _ _ (hp.put.same (hW.block _ hp.put.1.lt)) (hq.put.same (hW.block _ hq.put.1.lt)) ((s.put.reverse_perm.trans he.put).trans t.put.reverse_perm.symm)
  have HS := Lib.hid hS
  clear hp hq he hN hnw hdn hlt hS hlen s1 s2 hn16 hw5 r1 r2 a0 a1 a2 a3 a4 a5 b1 b2 b3 b4 b5 hv ep2 eq2
  go_enter Try.func19, Try.ntmps19
  go_upto_region 1 with (fail)
  go_wp2_with fail
  refine n1.out.mono ?_
  rintro e wq ⟨rfl, hwq⟩
  rw [hwq]
  clear hwq wq
  go_wp2_with fail
  refine n2.out.mono ?_
  rintro e wq ⟨rfl, hwq⟩
  rw [hwq]
  clear hwq wq
  go_upto_region 4 with (fail)
  refine wp_region_F (fun W => W.cell? ⟨p.SB, 1, none⟩ = some (.slice (some ⟨p.stB, p.so, none⟩) N p.sc) ∧ W.cell? ⟨p.SB, 2, none⟩ = some (.slice p.A nw p.c) ∧ W.cell? ⟨p.SB, 3, none⟩ = some (.map (some p.PB)) ∧ W.cell? ⟨p.SB, 4, none⟩ = some (.int .i64 (dn : Int)) ∧ W.cell? ⟨p.SB, 5, none⟩ = some (.int .i64 lt) ∧ W.cell? ⟨q.SB, 1, none⟩ = some (.slice (some ⟨q.stB, q.so, none⟩) N q.sc) ∧ W.cell? ⟨q.SB, 2, none⟩ = some (.slice q.A nw q.c) ∧ W.cell? ⟨q.SB, 3, none⟩ = some (.map (some q.PB)) ∧ W.cell? ⟨q.SB, 4, none⟩ = some (.int .i64 (dn : Int)) ∧ W.cell? ⟨q.SB, 5, none⟩ = some (.int .i64 lt)) [54] (by kernel_rfl) ?_
  have hS := HS.out w.drew (Nw.refl w).drew
  refine wpAnyF_freeT (i := 0) (v := ?_) rfl (by kernel_rfl) (by kernel_rfl) (by kernel_rfl) (by kernel_rfl) (by kernel_rfl) (fun _ _ _ h => h) (by rfl) ?_ hS ?_
  rotate_left
  · intro u
    go_simp
    try with_reducible rfl
  try simp only [List.getElem_toArray, List.getElem_cons_succ, List.getElem_cons_zero, Act.put, List.setIfInBounds_toArray, List.set_cons_zero, List.set_cons_succ]
  refine wpAnyF_freeT (i := 1) (v := ?_) rfl (by kernel_rfl) (by kernel_rfl) (by kernel_rfl) (by kernel_rfl) (by kernel_rfl) (fun _ _ _ h => h) (by rfl) ?_ hS ?_
  rotate_left
  · intro u
    go_simp
    try with_reducible rfl
  try simp only [List.getElem_toArray, List.getElem_cons_succ, List.getElem_cons_zero, Act.put, List.setIfInBounds_toArray, List.set_cons_zero, List.set_cons_succ]
  refine wpAnyF_freeT (i := 2) (v := ?_) rfl (by kernel_rfl) (by kernel_rfl) (by kernel_rfl) (by kernel_rfl) (by kernel_rfl) (fun _ _ _ h => h) (by rfl) ?_ hS ?_
  rotate_left
  · intro u
    go_simp
    try with_reducible rfl
  try simp only [List.getElem_toArray, List.getElem_cons_succ, List.getElem_cons_zero, Act.put, List.setIfInBounds_toArray, List.set_cons_zero, List.set_cons_succ]
  refine wpAnyF_takeT (i := 3) (v := ?_) rfl (by kernel_rfl) (by kernel_rfl) (by kernel_rfl) (by kernel_rfl) (by kernel_rfl) (by kernel_rfl) (fun _ _ _ h => h) (by rfl) ?_ hS ?_
  rotate_left
  · intro u hu
    try dsimp only at hu
    go_simp
    try with_reducible rfl
  try simp only [List.getElem_toArray, List.getElem_cons_succ, List.getElem_cons_zero, Act.put, List.setIfInBounds_toArray, List.set_cons_zero, List.set_cons_succ]
  refine wpAnyF_freeT (i := 4) (v := ?_) rfl (by kernel_rfl) (by kernel_rfl) (by kernel_rfl) (by kernel_rfl) (by kernel_rfl) (fun _ _ _ h => h) (by rfl) ?_ hS ?_
  rotate_left
  · intro u
    go_simp
    try with_reducible rfl
  try simp only [List.getElem_toArray, List.getElem_cons_succ, List.getElem_cons_zero, Act.put, List.setIfInBounds_toArray, List.set_cons_zero, List.set_cons_succ]
  refine wpAnyF_freeT (i := 5) (v := ?_) rfl (by kernel_rfl) (by kernel_rfl) (by kernel_rfl) (by kernel_rfl) (by kernel_rfl) (fun _ _ _ h => h) (by rfl) ?_ hS ?_
  rotate_left
  · intro u
    go_simp
    try with_reducible rfl
  try simp only [List.getElem_toArray, List.getElem_cons_succ, List.getElem_cons_zero, Act.put, List.setIfInBounds_toArray, List.set_cons_zero, List.set_cons_succ]
  refine wpAnyF_freeT (i := 6) (v := ?_) rfl (by kernel_rfl) (by kernel_rfl) (by kernel_rfl) (by kernel_rfl) (by kernel_rfl) (fun _ _ _ h => h) (by rfl) ?_ hS ?_
  rotate_left
  · intro u
    go_simp
    try with_reducible rfl
  try simp only [List.getElem_toArray, List.getElem_cons_succ, List.getElem_cons_zero, Act.put, List.setIfInBounds_toArray, List.set_cons_zero, List.set_cons_succ]
  refine wpAnyF_takeT (i := 7) (v := ?_) rfl (by kernel_rfl) (by kernel_rfl) (by kernel_rfl) (by kernel_rfl) (by kernel_rfl) (by kernel_rfl) (fun _ _ _ h => h) (by rfl) ?_ hS ?_
  rotate_left
  · intro u hu
    try dsimp only at hu
    go_simp
    try with_reducible rfl
  try simp only [List.getElem_toArray, List.getElem_cons_succ, List.getElem_cons_zero, Act.put, List.setIfInBounds_toArray, List.set_cons_zero, List.set_cons_succ]
  refine wpAnyF_freeT (i := 8) (v := ?_) rfl (by kernel_rfl) (by kernel_rfl) (by kernel_rfl) (by kernel_rfl) (by kernel_rfl) (fun _ _ _ h => h) (by rfl) ?_ hS ?_
  rotate_left
  · intro u
    go_simp
    try with_reducible rfl
  try simp only [List.getElem_toArray, List.getElem_cons_succ, List.getElem_cons_zero, Act.put, List.setIfInBounds_toArray, List.set_cons_zero, List.set_cons_succ]
  refine wpAnyF_freeT (i := 9) (v := ?_) rfl (by kernel_rfl) (by kernel_rfl) (by kernel_rfl) (by kernel_rfl) (by kernel_rfl) (fun _ _ _ h => h) (by rfl) ?_ hS ?_
  rotate_left
  · intro u
    go_simp
    try with_reducible rfl
  try simp only [List.getElem_toArray, List.getElem_cons_succ, List.getElem_cons_zero, Act.put, List.setIfInBounds_toArray, List.set_cons_zero, List.set_cons_succ]
  refine wpAnyF_freeT (i := 10) (v := ?_) rfl (by kernel_rfl) (by kernel_rfl) (by kernel_rfl) (by kernel_rfl) (by kernel_rfl) (fun _ _ _ h => h) (by rfl) ?_ hS ?_
  rotate_left
  · intro u
    go_simp
    try with_reducible rfl
  try simp only [List.getElem_toArray, List.getElem_cons_succ, List.getElem_cons_zero, Act.put, List.setIfInBounds_toArray, List.set_cons_zero, List.set_cons_succ]
  refine wpAnyF_freeT (i := 11) (v := ?_) rfl (by kernel_rfl) (by kernel_rfl) (by kernel_rfl) (by kernel_rfl) (by kernel_rfl) (fun _ _ _ h => h) (by rfl) ?_ hS ?_
  rotate_left
  · intro u
    go_simp
    try with_reducible rfl
  try simp only [List.getElem_toArray, List.getElem_cons_succ, List.getElem_cons_zero, Act.put, List.setIfInBounds_toArray, List.set_cons_zero, List.set_cons_succ]
  refine wpAnyF_freeT (i := 12) (v := ?_) rfl (by kernel_rfl) (by kernel_rfl) (by kernel_rfl) (by kernel_rfl) (by kernel_rfl) (fun _ _ _ h => h) (by rfl) ?_ hS ?_
  rotate_left
  · intro u
    go_simp
    try with_reducible rfl
  try simp only [List.getElem_toArray, List.getElem_cons_succ, List.getElem_cons_zero, Act.put, List.setIfInBounds_toArray, List.set_cons_zero, List.set_cons_succ]
  refine wpAnyF_takeT (i := 13) (v := ?_) rfl (by kernel_rfl) (by kernel_rfl) (by kernel_rfl) (by kernel_rfl) (by kernel_rfl) (by kernel_rfl) (fun _ _ _ h => h) (by rfl) ?_ hS ?_
  rotate_left
  · intro u hu
    try dsimp only at hu
    go_simp
    try with_reducible rfl
  try simp only [List.getElem_toArray, List.getElem_cons_succ, List.getElem_cons_zero, Act.put, List.setIfInBounds_toArray, List.set_cons_zero, List.set_cons_succ]
  refine wpAnyF_freeT (i := 14) (v := ?_) rfl (by kernel_rfl) (by kernel_rfl) (by kernel_rfl) (by kernel_rfl) (by kernel_rfl) (fun _ _ _ h => h) (by rfl) ?_ hS ?_
  rotate_left
  · intro u
    go_simp
    try with_reducible rfl
  try simp only [List.getElem_toArray, List.getElem_cons_succ, List.getElem_cons_zero, Act.put, List.setIfInBounds_toArray, List.set_cons_zero, List.set_cons_succ]
  refine wpAnyF_freeT (i := 15) (v := ?_) rfl (by kernel_rfl) (by kernel_rfl) (by kernel_rfl) (by kernel_rfl) (by kernel_rfl) (fun _ _ _ h => h) (by rfl) ?_ hS ?_
  rotate_left
  · intro u
    go_simp
    try with_reducible rfl
  try simp only [List.getElem_toArray, List.getElem_cons_succ, List.getElem_cons_zero, Act.put, List.setIfInBounds_toArray, List.set_cons_zero, List.set_cons_succ]
  refine wpAnyF_freeT (i := 16) (v := ?_) rfl (by kernel_rfl) (by kernel_rfl) (by kernel_rfl) (by kernel_rfl) (by kernel_rfl) (fun _ _ _ h => h) (by rfl) ?_ hS ?_
  rotate_left
  · intro u
    go_simp
    try with_reducible rfl
  try simp only [List.getElem_toArray, List.getElem_cons_succ, List.getElem_cons_zero, Act.put, List.setIfInBounds_toArray, List.set_cons_zero, List.set_cons_succ]
  refine wpAnyF_takeT (i := 17) (v := ?_) rfl (by kernel_rfl) (by kernel_rfl) (by kernel_rfl) (by kernel_rfl) (by kernel_rfl) (by kernel_rfl) (fun _ _ _ h => h) (by rfl) ?_ hS ?_
  rotate_left
  · intro u hu
    try dsimp only at hu
    go_simp
    try with_reducible rfl
  try simp only [List.getElem_toArray, List.getElem_cons_succ, List.getElem_cons_zero, Act.put, List.setIfInBounds_toArray, List.set_cons_zero, List.set_cons_succ]
  refine wpAnyF_freeT (i := 18) (v := ?_) rfl (by kernel_rfl) (by kernel_rfl) (by kernel_rfl) (by kernel_rfl) (by kernel_rfl) (fun _ _ _ h => h) (by rfl) ?_ hS ?_
  rotate_left
  · intro u
    go_simp
    try with_reducible rfl
  try simp only [List.getElem_toArray, List.getElem_cons_succ, List.getElem_cons_zero, Act.put, List.setIfInBounds_toArray, List.set_cons_zero, List.set_cons_succ]
  refine wpAnyF_freeT (i := 19) (v := ?_) rfl (by kernel_rfl) (by kernel_rfl) (by kernel_rfl) (by kernel_rfl) (by kernel_rfl) (fun _ _ _ h => h) (by rfl) ?_ hS ?_
  rotate_left
  · intro u
    go_simp
    try with_reducible rfl
  try simp only [List.getElem_toArray, List.getElem_cons_succ, List.getElem_cons_zero, Act.put, List.setIfInBounds_toArray, List.set_cons_zero, List.set_cons_succ]
  refine wpAnyF_freeT (i := 20) (v := ?_) rfl (by kernel_rfl) (by kernel_rfl) (by kernel_rfl) (by kernel_rfl) (by kernel_rfl) (fun _ _ _ h => h) (by rfl) ?_ hS ?_
  rotate_left
  · intro u
    go_simp
    try with_reducible rfl
  try simp only [List.getElem_toArray, List.getElem_cons_succ, List.getElem_cons_zero, Act.put, List.setIfInBounds_toArray, List.set_cons_zero, List.set_cons_succ]
  refine wpAnyF_freeT (i := 21) (v := ?_) rfl (by kernel_rfl) (by kernel_rfl) (by kernel_rfl) (by kernel_rfl) (by kernel_rfl) (fun _ _ _ h => h) (by rfl) ?_ hS ?_
  rotate_left
  · intro u
    go_simp
    try with_reducible rfl
  try simp only [List.getElem_toArray, List.getElem_cons_succ, List.getElem_cons_zero, Act.put, List.setIfInBounds_toArray, List.set_cons_zero, List.set_cons_succ]
  refine wpAnyF_freeT (i := 22) (v := ?_) rfl (by kernel_rfl) (by kernel_rfl) (by kernel_rfl) (by kernel_rfl) (by kernel_rfl) (fun _ _ _ h => h) (by rfl) ?_ hS ?_
  rotate_left
  · intro u
    go_simp
    try with_reducible rfl
  try simp only [List.getElem_toArray, List.getElem_cons_succ, List.getElem_cons_zero, Act.put, List.setIfInBounds_toArray, List.set_cons_zero, List.set_cons_succ]
  refine wpAnyF_freeT (i := 23) (v := ?_) rfl (by kernel_rfl) (by kernel_rfl) (by kernel_rfl) (by kernel_rfl) (by kernel_rfl) (fun _ _ _ h => h) (by rfl) ?_ hS ?_
  rotate_left
  · intro u
    go_simp
    try with_reducible rfl
  try simp only [List.getElem_toArray, List.getElem_cons_succ, List.getElem_cons_zero, Act.put, List.setIfInBounds_toArray, List.set_cons_zero, List.set_cons_succ]
  refine wpAnyF_takeT (i := 24) (v := ?_) rfl (by kernel_rfl) (by kernel_rfl) (by kernel_rfl) (by kernel_rfl) (by kernel_rfl) (by kernel_rfl) (fun _ _ _ h => h) (by rfl) ?_ hS ?_
  rotate_left
  · intro u hu
    try dsimp only at hu
    go_simp
    try with_reducible rfl
  try simp only [List.getElem_toArray, List.getElem_cons_succ, List.getElem_cons_zero, Act.put, List.setIfInBounds_toArray, List.set_cons_zero, List.set_cons_succ]
  refine wpAnyF_freeT (i := 25) (v := ?_) rfl (by kernel_rfl) (by kernel_rfl) (by kernel_rfl) (by kernel_rfl) (by kernel_rfl) (fun _ _ _ h => h) (by rfl) ?_ hS ?_
  rotate_left
  · intro u
    go_simp
    try with_reducible rfl
  try simp only [List.getElem_toArray, List.getElem_cons_succ, List.getElem_cons_zero, Act.put, List.setIfInBounds_toArray, List.set_cons_zero, List.set_cons_succ]
  refine wpAnyF_freeT (i := 26) (v := ?_) rfl (by kernel_rfl) (by kernel_rfl) (by kernel_rfl) (by kernel_rfl) (by kernel_rfl) (fun _ _ _ h => h) (by rfl) ?_ hS ?_
  rotate_left
  · intro u
    go_simp
    try with_reducible rfl
  try simp only [List.getElem_toArray, List.getElem_cons_succ, List.getElem_cons_zero, Act.put, List.setIfInBounds_toArray, List.set_cons_zero, List.set_cons_succ]
  refine wpAnyF_freeT (i := 27) (v := ?_) rfl (by kernel_rfl) (by kernel_rfl) (by kernel_rfl) (by kernel_rfl) (by kernel_rfl) (fun _ _ _ h => h) (by rfl) ?_ hS ?_
  rotate_left
  · intro u
    go_simp
    try with_reducible rfl
  try simp only [List.getElem_toArray, List.getElem_cons_succ, List.getElem_cons_zero, Act.put, List.setIfInBounds_toArray, List.set_cons_zero, List.set_cons_succ]
  refine wpAnyF_takeT (i := 28) (v := ?_) rfl (by kernel_rfl) (by kernel_rfl) (by kernel_rfl) (by kernel_rfl) (by kernel_rfl) (by kernel_rfl) (fun _ _ _ h => h) (by rfl) ?_ hS ?_
  rotate_left
  · intro u hu
    try dsimp only at hu
    go_simp
    try with_reducible rfl
  try simp only [List.getElem_toArray, List.getElem_cons_succ, List.getElem_cons_zero, Act.put, List.setIfInBounds_toArray, List.set_cons_zero, List.set_cons_succ]
  refine wpAnyF_freeT (i := 29) (v := ?_) rfl (by kernel_rfl) (by kernel_rfl) (by kernel_rfl) (by kernel_rfl) (by kernel_rfl) (fun _ _ _ h => h) (by rfl) ?_ hS ?_
  rotate_left
  · intro u
    go_simp
    try with_reducible rfl
  try simp only [List.getElem_toArray, List.getElem_cons_succ, List.getElem_cons_zero, Act.put, List.setIfInBounds_toArray, List.set_cons_zero, List.set_cons_succ]
  refine wpAnyF_step (i := 30) (by kernel_rfl) rfl (by rfl) fun K hK => ?_
  go_simp
  go_at_call 45
  refine (K1.out _ ((Nw.refl w).drew)).mono ?_
  rintro x w1 ⟨rfl, hnk⟩
  have i1 : Nw w w1 := Nw.step ((Nw.refl w).drew) hnk
  clear hnk
  have hS := HS.out w1 i1
  refine hK _ _ (.inr (HS.out w1 i1)) ?_
  clear hK K
  try simp only [List.getElem_toArray, List.getElem_cons_succ, List.getElem_cons_zero, Act.put, List.setIfInBounds_toArray, List.set_cons_zero, List.set_cons_succ]
  refine wpAnyF_freeT (i := 31) (v := ?_) rfl (by kernel_rfl) (by kernel_rfl) (by kernel_rfl) (by kernel_rfl) (by kernel_rfl) (fun _ _ _ h => h) (by rfl) ?_ hS ?_
  rotate_left
  · intro u
    go_simp
    try with_reducible rfl
  try simp only [List.getElem_toArray, List.getElem_cons_succ, List.getElem_cons_zero, Act.put, List.setIfInBounds_toArray, List.set_cons_zero, List.set_cons_succ]
  refine wpAnyF_freeT (i := 32) (v := ?_) rfl (by kernel_rfl) (by kernel_rfl) (by kernel_rfl) (by kernel_rfl) (by kernel_rfl) (fun _ _ _ h => h) (by rfl) ?_ hS ?_
  rotate_left
  · intro u
    go_simp
    try with_reducible rfl
  try simp only [List.getElem_toArray, List.getElem_cons_succ, List.getElem_cons_zero, Act.put, List.setIfInBounds_toArray, List.set_cons_zero, List.set_cons_succ]
  refine wpAnyF_freeT (i := 33) (v := ?_) rfl (by kernel_rfl) (by kernel_rfl) (by kernel_rfl) (by kernel_rfl) (by kernel_rfl) (fun _ _ _ h => h) (by rfl) ?_ hS ?_
  rotate_left
  · intro u
    go_simp
    try with_reducible rfl
  try simp only [List.getElem_toArray, List.getElem_cons_succ, List.getElem_cons_zero, Act.put, List.setIfInBounds_toArray, List.set_cons_zero, List.set_cons_succ]
  refine wpAnyF_freeT (i := 34) (v := ?_) rfl (by kernel_rfl) (by kernel_rfl) (by kernel_rfl) (by kernel_rfl) (by kernel_rfl) (fun _ _ _ h => h) (by rfl) ?_ hS ?_
  rotate_left
  · intro u
    go_simp
    try with_reducible rfl
  try simp only [List.getElem_toArray, List.getElem_cons_succ, List.getElem_cons_zero, Act.put, List.setIfInBounds_toArray, List.set_cons_zero, List.set_cons_succ]
  refine wpAnyF_freeT (i := 35) (v := ?_) rfl (by kernel_rfl) (by kernel_rfl) (by kernel_rfl) (by kernel_rfl) (by kernel_rfl) (fun _ _ _ h => h) (by rfl) ?_ hS ?_
  rotate_left
  · intro u
    go_simp
    try with_reducible rfl
  try simp only [List.getElem_toArray, List.getElem_cons_succ, List.getElem_cons_zero, Act.put, List.setIfInBounds_toArray, List.set_cons_zero, List.set_cons_succ]
  refine wpAnyF_takeT (i := 36) (v := ?_) rfl (by kernel_rfl) (by kernel_rfl) (by kernel_rfl) (by kernel_rfl) (by kernel_rfl) (by kernel_rfl) (fun _ _ _ h => h) (by rfl) ?_ hS ?_
  rotate_left
  · intro u hu
    try dsimp only at hu
    go_simp
    try with_reducible rfl
  try simp only [List.getElem_toArray, List.getElem_cons_succ, List.getElem_cons_zero, Act.put, List.setIfInBounds_toArray, List.set_cons_zero, List.set_cons_succ]
  refine wpAnyF_freeT (i := 37) (v := ?_) rfl (by kernel_rfl) (by kernel_rfl) (by kernel_rfl) (by kernel_rfl) (by kernel_rfl) (fun _ _ _ h => h) (by rfl) ?_ hS ?_
  rotate_left
  · intro u
    go_simp
    try with_reducible rfl
  try simp only [List.getElem_toArray, List.getElem_cons_succ, List.getElem_cons_zero, Act.put, List.setIfInBounds_toArray, List.set_cons_zero, List.set_cons_succ]
  refine wpAnyF_freeT (i := 38) (v := ?_) rfl (by kernel_rfl) (by kernel_rfl) (by kernel_rfl) (by kernel_rfl) (by kernel_rfl) (fun _ _ _ h => h) (by rfl) ?_ hS ?_
  rotate_left
  · intro u
    go_simp
    try with_reducible rfl
  try simp only [List.getElem_toArray, List.getElem_cons_succ, List.getElem_cons_zero, Act.put, List.setIfInBounds_toArray, List.set_cons_zero, List.set_cons_succ]
  refine wpAnyF_freeT (i := 39) (v := ?_) rfl (by kernel_rfl) (by kernel_rfl) (by kernel_rfl) (by kernel_rfl) (by kernel_rfl) (fun _ _ _ h => h) (by rfl) ?_ hS ?_
  rotate_left
  · intro u
    go_simp
    try with_reducible rfl
  try simp only [List.getElem_toArray, List.getElem_cons_succ, List.getElem_cons_zero, Act.put, List.setIfInBounds_toArray, List.set_cons_zero, List.set_cons_succ]
  refine wpAnyF_takeT (i := 40) (v := ?_) rfl (by kernel_rfl) (by kernel_rfl) (by kernel_rfl) (by kernel_rfl) (by kernel_rfl) (by kernel_rfl) (fun _ _ _ h => h) (by rfl) ?_ hS ?_
  rotate_left
  · intro u hu
    try dsimp only at hu
    go_simp
    try with_reducible rfl
  try simp only [List.getElem_toArray, List.getElem_cons_succ, List.getElem_cons_zero, Act.put, List.setIfInBounds_toArray, List.set_cons_zero, List.set_cons_succ]
  refine wpAnyF_step (i := 41) (by kernel_rfl) rfl (by rfl) fun K hK => ?_
  go_simp
  go_at_call 46
  refine (K2.out _ (i1)).mono ?_
  rintro x w2 ⟨rfl, hnk⟩
  have i2 : Nw w w2 := Nw.step (i1) hnk
  clear hnk
  have hS := HS.out w2 i2
  refine hK _ _ (.inr (HS.out w2 i2)) ?_
  clear hK K
  try simp only [List.getElem_toArray, List.getElem_cons_succ, List.getElem_cons_zero, Act.put, List.setIfInBounds_toArray, List.set_cons_zero, List.set_cons_succ]
  refine wpAnyF_freeT (i := 42) (v := ?_) rfl (by kernel_rfl) (by kernel_rfl) (by kernel_rfl) (by kernel_rfl) (by kernel_rfl) (fun _ _ _ h => h) (by rfl) ?_ hS ?_
  rotate_left
  · intro u
    go_simp
    try with_reducible rfl
  try simp only [List.getElem_toArray, List.getElem_cons_succ, List.getElem_cons_zero, Act.put, List.setIfInBounds_toArray, List.set_cons_zero, List.set_cons_succ]
  refine wpAnyF_freeT (i := 43) (v := ?_) rfl (by kernel_rfl) (by kernel_rfl) (by kernel_rfl) (by kernel_rfl) (by kernel_rfl) (fun _ _ _ h => h) (by rfl) ?_ hS ?_
  rotate_left
  · intro u
    go_simp
    try with_reducible rfl
  try simp only [List.getElem_toArray, List.getElem_cons_succ, List.getElem_cons_zero, Act.put, List.setIfInBounds_toArray, List.set_cons_zero, List.set_cons_succ]
  refine wpAnyF_freeT (i := 44) (v := ?_) rfl (by kernel_rfl) (by kernel_rfl) (by kernel_rfl) (by kernel_rfl) (by kernel_rfl) (fun _ _ _ h => h) (by rfl) ?_ hS ?_
  rotate_left
  · intro u
    go_simp
    try with_reducible rfl
  try simp only [List.getElem_toArray, List.getElem_cons_succ, List.getElem_cons_zero, Act.put, List.setIfInBounds_toArray, List.set_cons_zero, List.set_cons_succ]
  refine wpAnyF_freeT (i := 45) (v := ?_) rfl (by kernel_rfl) (by kernel_rfl) (by kernel_rfl) (by kernel_rfl) (by kernel_rfl) (fun _ _ _ h => h) (by rfl) ?_ hS ?_
  rotate_left
  · intro u
    go_simp
    try with_reducible rfl
  try simp only [List.getElem_toArray, List.getElem_cons_succ, List.getElem_cons_zero, Act.put, List.setIfInBounds_toArray, List.set_cons_zero, List.set_cons_succ]
  refine wpAnyF_freeT (i := 46) (v := ?_) rfl (by kernel_rfl) (by kernel_rfl) (by kernel_rfl) (by kernel_rfl) (by kernel_rfl) (fun _ _ _ h => h) (by rfl) ?_ hS ?_
  rotate_left
  · intro u
    go_simp
    try with_reducible rfl
  try simp only [List.getElem_toArray, List.getElem_cons_succ, List.getElem_cons_zero, Act.put, List.setIfInBounds_toArray, List.set_cons_zero, List.set_cons_succ]
  refine wpAnyF_takeT (i := 47) (v := ?_) rfl (by kernel_rfl) (by kernel_rfl) (by kernel_rfl) (by kernel_rfl) (by kernel_rfl) (by kernel_rfl) (fun _ _ _ h => h) (by rfl) ?_ hS ?_
  rotate_left
  · intro u hu
    try dsimp only at hu
    go_simp
    try with_reducible rfl
  try simp only [List.getElem_toArray, List.getElem_cons_succ, List.getElem_cons_zero, Act.put, List.setIfInBounds_toArray, List.set_cons_zero, List.set_cons_succ]
  refine wpAnyF_freeT (i := 48) (v := ?_) rfl (by kernel_rfl) (by kernel_rfl) (by kernel_rfl) (by kernel_rfl) (by kernel_rfl) (fun _ _ _ h => h) (by rfl) ?_ hS ?_
  rotate_left
  · intro u
    go_simp
    try with_reducible rfl
  try simp only [List.getElem_toArray, List.getElem_cons_succ, List.getElem_cons_zero, Act.put, List.setIfInBounds_toArray, List.set_cons_zero, List.set_cons_succ]
  refine wpAnyF_freeT (i := 49) (v := ?_) rfl (by kernel_rfl) (by kernel_rfl) (by kernel_rfl) (by kernel_rfl) (by kernel_rfl) (fun _ _ _ h => h) (by rfl) ?_ hS ?_
  rotate_left
  · intro u
    go_simp
    try with_reducible rfl
  try simp only [List.getElem_toArray, List.getElem_cons_succ, List.getElem_cons_zero, Act.put, List.setIfInBounds_toArray, List.set_cons_zero, List.set_cons_succ]
  refine wpAnyF_freeT (i := 50) (v := ?_) rfl (by kernel_rfl) (by kernel_rfl) (by kernel_rfl) (by kernel_rfl) (by kernel_rfl) (fun _ _ _ h => h) (by rfl) ?_ hS ?_
  rotate_left
  · intro u
    go_simp
    try with_reducible rfl
  try simp only [List.getElem_toArray, List.getElem_cons_succ, List.getElem_cons_zero, Act.put, List.setIfInBounds_toArray, List.set_cons_zero, List.set_cons_succ]
  refine wpAnyF_takeT (i := 51) (v := ?_) rfl (by kernel_rfl) (by kernel_rfl) (by kernel_rfl) (by kernel_rfl) (by kernel_rfl) (by kernel_rfl) (fun _ _ _ h => h) (by rfl) ?_ hS ?_
  rotate_left
  · intro u hu
    try dsimp only at hu
    go_simp
    try with_reducible rfl
  try simp only [List.getElem_toArray, List.getElem_cons_succ, List.getElem_cons_zero, Act.put, List.setIfInBounds_toArray, List.set_cons_zero, List.set_cons_succ]
  refine wpAnyF_step (i := 52) (by kernel_rfl) rfl (by rfl) fun K hK => ?_
  go_simp
  go_at_call 47
  refine (K3.out _ (i2)).mono ?_
  rintro x w3 ⟨rfl, hnk⟩
  have i3 : Nw w w3 := Nw.step (i2) hnk
  clear hnk
  have hS := HS.out w3 i3
  refine hK _ _ (.inr (HS.out w3 i3)) ?_
  clear hK K
  try simp only [List.getElem_toArray, List.getElem_cons_succ, List.getElem_cons_zero, Act.put, List.setIfInBounds_toArray, List.set_cons_zero, List.set_cons_succ]
  refine wpAnyF_freeT (i := 53) (v := ?_) rfl (by kernel_rfl) (by kernel_rfl) (by kernel_rfl) (by kernel_rfl) (by kernel_rfl) (fun _ _ _ h => h) (by rfl) ?_ hS ?_
  rotate_left
  · intro u
    go_simp
    try with_reducible rfl
  try simp only [List.getElem_toArray, List.getElem_cons_succ, List.getElem_cons_zero, Act.put, List.setIfInBounds_toArray, List.set_cons_zero, List.set_cons_succ]
  refine wpAnyF_step (i := 54) (by kernel_rfl) rfl (by rfl) fun K hK => ?_
  go_simp
  refine hK _ _ (.inl (by kernel_rfl)) ?_
  clear hK K
  try simp only [List.getElem_toArray, List.getElem_cons_succ, List.getElem_cons_zero, Act.put, List.setIfInBounds_toArray, List.set_cons_zero, List.set_cons_succ]
  refine wpAnyF_done (by kernel_rfl) ?_ _
  go_wp2_with fail
  go_ret
  exact ⟨rfl, i3⟩
end
end Go.Proofs.Ytgijkgngldfdiaa
