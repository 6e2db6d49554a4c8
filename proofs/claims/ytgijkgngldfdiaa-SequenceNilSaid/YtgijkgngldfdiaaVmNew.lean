/- A machine is made: slices.Clone of kinds and of instructions, vm.New. Helper. -/
import Derived.Test.YtgijkgngldfdiaaVmMayR
namespace Go.Proofs.Ytgijkgngldfdiaa
open Go.RowKit
set_option linter.unusedVariables false
set_option linter.unusedSimpArgs false
/-- Instructions as cells. -/
def raws (l : List (Int × Int)) : List Value := l.flatMap fun x => [.int .i64 x.1, .int .i64 x.2]
theorem raws_length (l : List (Int × Int)) : (raws l).length = l.length * 2 := by
  induction l with
  | nil => rfl
  | cons x l ih => simp [raws] at ih ⊢; omega
theorem raws_get : ∀ (l : List (Int × Int)) (j : Nat) (h : j < l.length), (raws l)[j * 2]? = some (.int .i64 (l[j]).1) ∧ (raws l)[j * 2 + 1]? = some (.int .i64 (l[j]).2)
  | x :: l, 0, h => ⟨rfl, rfl⟩
  | x :: l, j + 1, h => by
    have := raws_get l j (by simpa using h)
    have e : raws (x :: l) = .int .i64 x.1 :: .int .i64 x.2 :: raws l := rfl
    rw [e, show (j + 1) * 2 = j * 2 + 1 + 1 by omega, show j * 2 + 1 + 1 + 1 = j * 2 + 1 + 1 + 1 from rfl]
    simpa using this
theorem raws_one (l : List (Int × Int)) : ∀ u ∈ raws l, u.oneCell' = true := by
  intro u hu; simp [raws] at hu; obtain ⟨a, b, _, h | h⟩ := hu <;> subst h <;> rfl
theorem RawAt.rd {w : World} {A : Option Addr} {l : List (Int × Int)} (h : RawAt w A l) : Rd w A (raws l) := by
  rcases h with rfl | ⟨b, o, rfl, h⟩
  · exact .inl rfl
  · refine .inr ⟨b, o, rfl, fun j u hu => ?_⟩
    have hj : j < (raws l).length := by
      rcases Nat.lt_or_ge j (raws l).length with h' | h'
      · exact h'
      · rw [List.getElem?_eq_none h'] at hu; cases hu
    rw [raws_length] at hj
    obtain ⟨k, hk⟩ : ∃ k, j = k * 2 ∨ j = k * 2 + 1 := ⟨j / 2, by omega⟩
    rcases hk with rfl | rfl
    · have := raws_get l k (by omega)
      rw [this.1] at hu; injection hu with hu; subst hu
      exact (h k (by omega)).1
    · have := raws_get l k (by omega)
      rw [this.2] at hu; injection hu with hu; subst hu
      rw [← Nat.add_assoc]
      exact (h k (by omega)).2
theorem RawAt.of_rd {w : World} {A : Option Addr} {l : List (Int × Int)} (h : Rd w A (raws l)) : RawAt w A l := by
  rcases h with h | ⟨b, o, rfl, h⟩
  · have := congrArg List.length h
    rw [raws_length] at this
    exact .inl (List.eq_nil_of_length_eq_zero (by simp at this; omega))
  · refine .inr ⟨b, o, rfl, fun j hj => ?_⟩
    have := raws_get l j hj
    exact ⟨h _ _ this.1, by have h2 := h _ _ this.2; rwa [← Nat.add_assoc] at h2⟩
theorem infoIns : (Try.prog.info? 110).map (fun i => (i.zero, i.size, i.bytes)) = some (some (.agg #[.int .i64 0, .int .i64 0]), 2, 16) := by kernel_rfl
theorem infoKin : (Try.prog.info? 107).map (fun i => (i.zero, i.size, i.bytes)) = some (some (.slice none 0 0), 1, 24) := by kernel_rfl
/-- 'slices.Clone': nil stays nil, else it lies anew. -/
def CloneIns (w : World) (l : List (Int × Int)) (e : Ending) (w' : World) : Prop :=
  ∃ A c blk, e = .returned (.slice A l.length c) ∧ Own w' 110 2 (.slice A l.length c) l.length (raws l) blk ∧ Below w.heap.size w w' ∧ ∀ g, blk = some g → w.heap.size ≤ g
def CloneKin (w : World) (l : List Value) (e : Ending) (w' : World) : Prop :=
  ∃ A c blk, e = .returned (.slice A l.length c) ∧ Own w' 107 1 (.slice A l.length c) l.length l blk ∧ Below w.heap.size w w' ∧ ∀ g, blk = some g → w.heap.size ≤ g
section
variable (w : World)
set_option maxRecDepth 100000
set_option maxHeartbeats 800000
theorem cloneIns_any (A : Option Addr) (l : List (Int × Int)) (c : Nat) (ha : RawAt w A l) (hl : l.length ≤ 4294967295) :
    Calls Try.prog 55 #[.slice A l.length c] w (CloneIns w l) := by
  obtain ⟨i0, hi0, hz0, hz1, hz2⟩ := info_parts infoIns
  have HL1 := Lib.hid hi0
  have HL2 := Lib.hid hz0
  have HL3 := Lib.hid hz1
  have HL4 := Lib.hid hz2
  clear hi0 hz0 hz1 hz2
  cases A with
  | none =>
    have hn : l = [] := by
      rcases ha with h | ⟨b, o, h, _⟩
      · exact h
      · cases h
    subst hn
    clear ha hl
    have hn := fun w => Lib.run_eql_slice_nil (P := Try.prog) w 107 110 none 0 c 0 0 Try.underlying107
    go_enter Try.func55, Try.ntmps55
    go_wp2
    go_ret
    exact ⟨none, _, none, rfl, ⟨rfl, none, _, rfl, Nat.zero_le _, by simp [maxLen], .inl ⟨rfl, rfl⟩⟩, Below.refl _ _, fun g hg => by cases hg⟩
  | some ad =>
    obtain ⟨b, off, spot⟩ := ad
    have hn := fun w => Lib.run_eql_slice_nil (P := Try.prog) w 107 110 (some ⟨b, off, spot⟩) l.length c 0 0 Try.underlying107
    have HA := Lib.hid ha.rd
    have HX := Lib.hid (raws_length l)
    clear ha
    go_enter Try.func55, Try.ntmps55
    go_wp2_with (at_builtin; refine wpList_append_at _ rfl _ _ _ rfl 110 i0 _ 2 16 Try.underlying107 HL1.out HL2.out HL3.out HL4.out rfl (by omega) _ 0 [] none rfl ⟨by simp, _, 0, rfl, Nat.le_refl _, Nat.zero_le _, .inl ⟨rfl, rfl⟩⟩ _ l.length c (raws l) rfl HX.out (Rd.below HA.out ((Below.refl w.heap.size w).alloc (Nat.le_refl _) _) (Nat.le_refl _)) (raws_one l) (by simp only [maxLen]; omega) (by omega) ?_; intro A' c' w1 blk hown hchg hat; simp only [Nat.zero_add, List.nil_append] at hown)
    go_ret
    refine ⟨A', c', blk, rfl, hown, ((Below.refl w.heap.size w).alloc (Nat.le_refl _) _).trans (hchg.below (fun i _ h => by cases h) (by simp)), fun g hg => ?_⟩
    rcases hat with h | h
    · rw [h] at hg; cases hg
    · rw [h] at hg; injection hg with hg; simp at hg; omega
theorem cloneKin_any (b off : Nat) (l : List Value) (c : Nat) (ha : Rd w (some ⟨b, off, none⟩) l) (h1 : ∀ u ∈ l, u.oneCell' = true) (hl : l.length ≤ 4294967295) :
    Calls Try.prog 54 #[.slice (some ⟨b, off, none⟩) l.length c] w (CloneKin w l) := by
  obtain ⟨i0, hi0, hz0, hz1, hz2⟩ := info_parts infoKin
  have HL1 := Lib.hid hi0
  have HL2 := Lib.hid hz0
  have HL3 := Lib.hid hz1
  have HL4 := Lib.hid hz2
  have HO := Lib.hid h1
  clear hi0 hz0 hz1 hz2 h1
  have hn := fun w => Lib.run_eql_slice_nil (P := Try.prog) w 75 107 (some ⟨b, off, none⟩) l.length c 0 0 Try.underlying75
  have HA := Lib.hid ha
  clear ha
  go_enter Try.func54, Try.ntmps54
  go_wp2_with (at_builtin; refine wpList_append_at _ rfl _ _ _ rfl 107 i0 _ 1 24 Try.underlying75 HL1.out HL2.out HL3.out HL4.out rfl (by omega) _ 0 [] none rfl ⟨by simp, _, 0, rfl, Nat.le_refl _, Nat.zero_le _, .inl ⟨rfl, rfl⟩⟩ _ l.length c l rfl (by simp) (Rd.below HA.out ((Below.refl w.heap.size w).alloc (Nat.le_refl _) _) (Nat.le_refl _)) HO.out (by simp only [maxLen]; omega) (by omega) ?_; intro A' c' w1 blk hown hchg hat; simp only [Nat.zero_add, List.nil_append] at hown)
  go_ret
  refine ⟨A', c', blk, rfl, hown, ((Below.refl w.heap.size w).alloc (Nat.le_refl _) _).trans (hchg.below (fun i _ h => by cases h) (by simp)), fun g hg => ?_⟩
  rcases hat with h | h
  · rw [h] at hg; cases hg
  · rw [h] at hg; injection hg with hg; simp at hg; omega
end
/-- Kinds as values: the slices. -/
theorem RKinds.vals {w : World} {A : Option Addr} {ks : List (List (Int × Int))} (h : RKinds w A ks) (hn : 1 ≤ ks.length) :
    ∃ b o vs, A = some ⟨b, o, none⟩ ∧ List.length vs = ks.length ∧ Rd w (some ⟨b, o, none⟩) vs ∧ (∀ u ∈ vs, u.oneCell' = true) ∧ ∀ i (h : i < ks.length), ∃ lA lc, vs[i]? = some (.slice lA ks[i].length lc) ∧ RawAt w lA ks[i] := by
  rcases h with rfl | ⟨b, o, rfl, h⟩
  · simp at hn
  · have h2 : ∀ i, i < ks.length → ∃ v : Value, w.cell? ⟨b, o + i, none⟩ = some v ∧ v.oneCell' = true ∧ ∀ hi : i < ks.length, ∃ lA lc, v = .slice lA ks[i].length lc ∧ RawAt w lA ks[i] := fun i hi => by
      obtain ⟨lA, lc, h1, h2, _⟩ := h i hi
      exact ⟨_, h1, rfl, fun _ => ⟨lA, lc, rfl, h2⟩⟩
    obtain ⟨q, hq⟩ := Go.Deep.choose_lt h2
    refine ⟨b, o, (List.range ks.length).map q, rfl, by simp, .inr ⟨b, o, rfl, fun j u hu => ?_⟩, fun u hu => ?_, fun i hi => ?_⟩
    · have hj : j < ks.length := by
        rcases Nat.lt_or_ge j ks.length with h' | h'
        · exact h'
        · rw [List.getElem?_eq_none (by simpa using h')] at hu; cases hu
      simp [hj] at hu
      subst hu
      exact (hq j hj).1
    · obtain ⟨i, hi, rfl⟩ := List.mem_map.1 hu
      exact (hq i (by simpa using hi)).2.1
    · obtain ⟨lA, lc, e, g⟩ := (hq i hi).2.2 hi
      exact ⟨lA, lc, by simp [hi, e], g⟩
/-- So many kinds are cloned. -/
def NewRel (w : World) (KB off : Nat) (ks : List (List (Int × Int))) (k : Nat) (wr : World) : Prop :=
  Nw w wr ∧ w.heap.size ≤ KB ∧ ∃ cur, Blk wr KB 107 cur ∧ off + ks.length ≤ cur.size ∧ ∀ j (hj : j < ks.length), ∃ lA lc, cur[off + j]? = some (.slice lA ks[j].length lc) ∧
    (j < k → ∃ blk, Own wr 110 2 (.slice lA ks[j].length lc) ks[j].length (raws ks[j]) blk ∧ ∀ g, blk = some g → w.heap.size ≤ g) ∧ (k ≤ j → RawAt w lA ks[j])
theorem NewRel.next {w wr w1 : World} {KB off : Nat} {ks : List (List (Int × Int))} {k : Nat} (h : NewRel w KB off ks k wr) (hk : k < ks.length) {A : Option Addr} {c : Nat} {blk : Option Nat}
    (ho : Own w1 110 2 (.slice A ks[k].length c) ks[k].length (raws ks[k]) blk) (hnw : ∀ g, blk = some g → wr.heap.size ≤ g) (hB : Below wr.heap.size wr w1) : NewRel w KB off ks (k + 1) (w1.setCell ⟨KB, off + k, none⟩ (.slice A ks[k].length c)) := by
  obtain ⟨h1, h2, cur, hb, hs, hc⟩ := h
  have hb1 : Blk w1 KB 107 cur := hb.below hB hb.lt
  have far : ∀ g cs, Blk w1 g 110 cs → (w1.setCell ⟨KB, off + k, none⟩ (.slice A ks[k].length c)).heap[g]? = w1.heap[g]? := fun g cs hg =>
    Below.heap_setCell _ _ _ _ (show g ≠ KB from hg.ne_ hb1 (by decide))
  refine ⟨(h1.step hB).set h2 _, h2, _, hb1.set_ _ _, by simpa using hs, fun j hj => ?_⟩
  by_cases e : j = k
  · subst e
    refine ⟨A, c, set_same _ (by omega), fun _ => ⟨blk, ho.kept fun g hg => ?_, fun g hg => ?_⟩, fun h => by omega⟩
    · obtain ⟨cs, hcs⟩ := ho.tyB g hg
      exact far g cs hcs
    · have := hnw g hg
      have := Below.size h1
      omega
  · obtain ⟨lA, lc, g1, g2, g3⟩ := hc j hj
    refine ⟨lA, lc, by rw [set_other _ (by omega)]; exact g1, fun hlt => ?_, fun hge => g3 (by omega)⟩
    obtain ⟨bk, hbk, hbn⟩ := g2 (by omega)
    have hbk1 := hbk.kept (w' := w1) (fun g hg => hB.block g (hbk.lt g hg))
    refine ⟨bk, hbk1.kept fun g hg => ?_, hbn⟩
    obtain ⟨cs, hcs⟩ := hbk1.tyB g hg
    exact far g cs hcs
theorem NewRel.at_ {w wr : World} {KB off : Nat} {ks : List (List (Int × Int))} {k : Nat} (h : NewRel w KB off ks k wr) (hk : k < ks.length) :
    ∃ lA lc, wr.cell? ⟨KB, off + k, none⟩ = some (.slice lA ks[k].length lc) ∧ wr.frozen? ⟨KB, off + k, none⟩ = false ∧ RawAt wr lA ks[k] := by
  obtain ⟨h1, h2, cur, hb, hs, hc⟩ := h
  obtain ⟨lA, lc, g1, _, g3⟩ := hc k hk
  exact ⟨lA, lc, (hb.cell _).trans g1, hb.frozen _, (g3 (Nat.le_refl _)).keep h1⟩
/-- The kinds lie in blocks from base on. -/
def KFree (base : Nat) (w : World) (A : Option Addr) (ks : List (List (Int × Int))) : Prop := ∀ w' : World, (∀ g, base ≤ g → g < w.heap.size → w'.heap[g]? = w.heap[g]?) → RKinds w' A ks
theorem KFree.at_ {base : Nat} {w : World} {A : Option Addr} {ks : List (List (Int × Int))} (h : KFree base w A ks) : RKinds w A ks := h w fun _ _ _ => rfl
theorem KFree.keep {base : Nat} {w w' : World} {A : Option Addr} {ks : List (List (Int × Int))} (h : KFree base w A ks) (hs : w.heap.size ≤ w'.heap.size) (hk : ∀ g, base ≤ g → g < w.heap.size → w'.heap[g]? = w.heap[g]?) : KFree base w' A ks :=
  fun w'' g => h w'' fun i h1 h2 => (g i h1 (by omega)).trans (hk i h1 h2)
theorem NewRel.done {w wr : World} {KB off : Nat} {ks : List (List (Int × Int))} (h : NewRel w KB off ks ks.length wr) (hm : ∀ i (h : i < ks.length), ks[i].length ≤ maxLen) : KFree w.heap.size wr (some ⟨KB, off, none⟩) ks := by
  intro w' hk
  obtain ⟨h1, h2, cur, hb, hs, hc⟩ := h
  refine .inr ⟨KB, off, rfl, fun i hi => ?_⟩
  obtain ⟨lA, lc, g1, g2, _⟩ := hc i hi
  obtain ⟨blk, ho, hbn⟩ := g2 hi
  have ho' := ho.kept (w' := w') fun g hg => hk g (hbn g hg) (ho.lt g hg)
  obtain ⟨A', c', e, hr, _⟩ := ho'.rd
  injection e with e1 e2 e3
  subst e1
  have hb' : Blk w' KB 107 cur := (hk KB h2 hb.lt).trans hb
  exact ⟨lA, lc, (hb'.cell _).trans g1, RawAt.of_rd hr, hm i hi⟩
/-- A machine is there, as handed in. -/
def NewOut (w : World) (vars : Int) (ks : List (List (Int × Int))) (me procs seed : Int) (e : Ending) (w' : World) : Prop :=
  ∃ MB kA kc, e = .returned (.tuple #[.pointer (some ⟨MB, 0, none⟩), .int .i64 0]) ∧ MachAt w' MB vars kA ks.length kc me procs seed ∧ RKinds w' kA ks ∧ Below w.heap.size w w' ∧ w.heap.size ≤ MB ∧ KFree w.heap.size w' kA ks
section
variable (vars : Int) (kA : Option Addr) (ks : List (List (Int × Int))) (kc : Nat) (me procs seed : Int) (w : World)
set_option maxRecDepth 100000
set_option maxHeartbeats 1600000
theorem new_ok (hk : RKinds w kA ks) (hmay : codeMay vars ks = true) (hp : 1 ≤ procs ∧ procs ≤ 16) (hme : 1 ≤ me ∧ me ≤ procs) :
    Calls Try.prog 31 #[.agg #[.int .i64 vars, .slice kA ks.length kc], .int .i64 me, .int .i64 procs, .int .i64 seed] w (NewOut w vars ks me procs seed) := by
  have hn : 1 ≤ ks.length ∧ ks.length ≤ 8 ∧ ∀ i (h : i < ks.length), ks[i].length ≤ 128 := by
    unfold codeMay at hmay
    simp only [Bool.and_eq_true, decide_eq_true_eq, List.all_eq_true] at hmay
    refine ⟨hmay.1.1.2, hmay.1.2, fun i h => ?_⟩
    have := hmay.2 _ (List.getElem_mem h)
    unfold kindOk at this
    simp only [Bool.and_eq_true, decide_eq_true_eq] at this
    exact this.1
  obtain ⟨n1, n8, n128⟩ := hn
  have kcm := fun W (g : Nw w W) => codeMay_any vars kA ks kc W (hk.keep g) (by simp only [maxLen]; omega)
  rw [hmay] at kcm
  have KCM := Lib.hid kcm
  obtain ⟨b, o, vs, rfl, hvl, hvr, hv1, hvs⟩ := hk.vals n1
  have HVL := Lib.hid hvl
  have HVR := Lib.hid hvr
  have HV1 := Lib.hid hv1
  have HVS := Lib.hid hvs
  have N128 := Lib.hid n128
  obtain ⟨p1, p2⟩ := hp
  obtain ⟨m1, m2⟩ := hme
  obtain ⟨w1, hw1⟩ : ∃ w1, w.alloc (.cells #[.int .i64 vars, .slice (some ⟨b, o, none⟩) ks.length kc] 77) = w1 := ⟨_, rfl⟩
  have nw1 : Nw w w1 := by rw [← hw1]; exact (Nw.refl w).alloc _
  have hbb : Blk w1 w.heap.size 77 #[.int .i64 vars, .slice (some ⟨b, o, none⟩) ks.length kc] := by rw [← hw1]; exact Blk.last w _ _ rfl
  have c0 : w1.cell? ⟨w.heap.size, 0, none⟩ = some (.int .i64 vars) := hbb.cell 0
  have c1 : w1.cell? ⟨w.heap.size, 1, none⟩ = some (.slice (some ⟨b, o, none⟩) ks.length kc) := hbb.cell 1
  have HW := Lib.hid hw1
  have NW1 := Lib.hid nw1
  have kcm1 := Lib.hid (KCM.out w1 nw1)
  obtain ⟨PB, hPB⟩ : ∃ PB, w.heap.size = PB := ⟨_, rfl⟩
  have HPB := Lib.hid hPB
  rw [hPB] at c0 c1
  have C0 := Lib.hid c0
  have C1 := Lib.hid c1
  clear hk hmay kcm KCM hvl hvr hv1 hvs n128 hw1 nw1 hbb hPB
  go_enter Try.func31, Try.ntmps31
  go_upto_region 1 with (fail)
  rw [HW.out, HPB.out]
  go_wp2_with fail
  refine kcm1.out.mono ?_
  rintro e w2 ⟨rfl, b2⟩
  have N2 := Lib.hid (show Nw w1 w2 from b2)
  have d0 := N2.out.cell C0.out
  have d1 := N2.out.cell C1.out
  have kck := cloneKin_any w2 b o vs kc (HVR.out.keep fun p hp => Below.cell (show Below w.heap.size w w2 from NW1.out.step N2.out) hp) HV1.out (by rw [HVL.out]; omega)
  rw [HVL.out] at kck
  have KCK := Lib.hid kck
  clear b2 c0 c1 kck kcm1
  go_wp2_with fail
  refine KCK.out.mono ?_
  rintro e w3 ⟨A, c, blk, rfl, hown, b3, hnew⟩
  rw [HVL.out] at hown
  rw [HVL.out]
  obtain ⟨KB, off, rfl, hkb, hrel⟩ : ∃ KB off, A = some ⟨KB, off, none⟩ ∧ w1.heap.size ≤ KB ∧ NewRel w KB off ks 0 w3 := by
    obtain ⟨hl, A', cc, hv, h1, h2, h3 | ⟨g, off, cur, e1, hg', hg, h4, h5⟩⟩ := hown
    · injection hv with e1 e2 e3
      omega
    · injection hv with e1' e2 e3
      refine ⟨g, off, e1'.trans e1, by have h1 := hnew g hg'; have h2 := Below.size N2.out; omega, (NW1.out.step N2.out).step b3, by have h1 := hnew g hg'; have h2 := Below.size (NW1.out.step N2.out); omega, cur, hg, by omega, fun j hj => ?_⟩
      obtain ⟨lA, lc, f1, f2⟩ := HVS.out j hj
      refine ⟨lA, lc, ?_, fun h => by omega, fun _ => f2⟩
      have e : ((cur.toList.drop off).take (ks.length * 1))[j]? = cur[off + j]? := by
        rw [List.getElem?_take, if_pos (by omega), List.getElem?_drop]; simp
      rw [← e, h5]
      exact f1
  have hg0 : Nw w1 w3 := (N2.out.step b3)
  have HG0 := Lib.hid hg0
  have HREL := Lib.hid hrel
  have HKB := Lib.hid hkb
  clear hown hrel hnew b3 hg0 d0 d1 KCK hkb
  go_wp2_with fail
  go_loopw [38] (fun i wr => ∃ k : Nat, k ≤ ks.length ∧ i = .int .i64 k ∧ Hid (NewRel w KB off ks k wr ∧ Nw w1 wr)) (fun i _ => ks.length - (intOf i).toNat)
  case atStart => exact ⟨0, Nat.zero_le _, rfl, Lib.hid ⟨HREL.out, HG0.out⟩⟩
  case round =>
    obtain ⟨k, hk, rfl, HI⟩ := hrel
    by_cases hlt : k < ks.length
    · obtain ⟨lA, lc, cc, cf, cr⟩ := HI.out.1.at_ hlt
      have g1 : (k : Int) < (ks.length : Int) := by omega
      have kci := cloneIns_any wr lA ks[k] lc cr (by have := N128.out k hlt; omega)
      have HKI := Lib.hid kci
      have CF := Lib.hid cf
      obtain ⟨m, hm⟩ : ∃ m, ks[k].length = m := ⟨_, rfl⟩
      rw [hm] at cc HKI
      have HM := Lib.hid hm
      clear cr kci hm cf
      go_wp2_with fail
      refine HKI.out.mono ?_
      rintro e w4 ⟨A4, c4, blk4, rfl, ho4, b4, hnw4⟩
      rw [HM.out]
      have e1 := b4.cell (p := ⟨KB, off + k, none⟩) (World.block_lt_of_cell? wr _ cc)
      have e2 := b4.frozen (p := ⟨KB, off + k, none⟩) (World.block_lt_of_cell? wr _ cc)
      have x1 := e1.trans cc
      have x2 := e2.trans CF.out
      have HO := Lib.hid ho4
      have HNW := Lib.hid hnw4
      have HB4 := Lib.hid b4
      clear ho4 b4 e1 e2 cc hnw4
      go_wp2_with fail
      go_roundw
      case rel =>
        have hnx := HI.out.1.next hlt HO.out HNW.out HB4.out
        rw [HM.out] at hnx
        exact ⟨k + 1, by omega, by go_num, Lib.hid ⟨hnx, (HI.out.2.step HB4.out).set HKB.out _⟩⟩
      case measure => simp [intOf]; omega
    · have hkk : k = ks.length := by omega
      have hdone := HI.out.1
      rw [hkk] at hdone
      have HD := Lib.hid (hdone.done (fun i hi => by have := N128.out i hi; simp only [maxLen]; omega))
      have HN := Lib.hid (NW1.out.step HI.out.2)
      have d0 := HI.out.2.cell C0.out
      have g1 : ¬ (k : Int) < (ks.length : Int) := by omega
      have hpb : PB < wr.heap.size := World.block_lt_of_cell? wr _ d0
      clear hdone hkk
      go_wp2_with fail
      go_ret2
      refine ⟨wr.heap.size, some ⟨KB, off, none⟩, c, rfl, ?_, HD.out.at_.keep ((Nw.refl wr).alloc _), HN.out.alloc _, Below.size HN.out, HD.out.keep (by simp) (fun g _ hg => Below.heap_alloc _ _ _ hg)⟩
      have hb := Blk.last wr 115 #[.int .i64 vars, .slice (some ⟨KB, off, none⟩) ks.length c, .int .i64 me, .int .i64 procs, .int .i64 seed] rfl
      exact ⟨hb.cell 0, hb.cell 1, hb.cell 2, hb.cell 3, hb.cell 4⟩
end
end Go.Proofs.Ytgijkgngldfdiaa
