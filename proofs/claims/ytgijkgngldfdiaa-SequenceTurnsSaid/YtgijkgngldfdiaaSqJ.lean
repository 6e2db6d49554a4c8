/- A step of the document's sequence. Helper. -/
import Derived.Test.YtgijkgngldfdiaaSqH
import Derived.Test.YtgijkgngldfdiaaSqB
import Derived.Test.YtgijkgngldfdiaaSqI
namespace Go.Proofs.Ytgijkgngldfdiaa
open Go.RowKit
set_option linter.unusedVariables false
set_option linter.unusedSimpArgs false
def RefStepOut (w : World) (r : RMem) (m : Mdl) (s : Sq) (e : Ev) (rest : List Ev) (x : Ending) (w' : World) : Prop :=
  ∃ (r' : RMem) (tA : Option Addr) (tc : Nat), x = .returned (.tuple #[ev6 e, .slice tA (m.run s e).1.tells.length tc, .int .i64 0]) ∧ RSeq w' r' m (m.after s e rest) ∧ r'.RB = r.RB ∧ (r'.pA = r.pA ∧ r'.pc = r.pc) ∧ r'.U = r.U ∧ Chg r.T w w' ∧ (∀ g, r'.T g → r.T g ∨ w.heap.size ≤ g) ∧
    Rd w' tA (ints (m.run s e).1.tells.flatten) ∧ (m.run s e).1.tells.flatten.length = (m.run s e).1.tells.length * 6
theorem min_less {l : List Ev} (hu : l.Pairwise fun a b => a.k ≠ b.k) {j : Nat} (hj : j < l.length) (hmin : ∀ y ∈ l, y.k.less l[j].k = false) : ∀ x ∈ l.eraseIdx j, l[j].k.less x.k = true := fun x hx => by
  have hp := perm_erase l j hj
  have h1 := (List.pairwise_cons.1 (uniq_perm hu hp)).1 x hx
  exact Ky.less_or (hmin x (hp.symm.subset (List.mem_cons_of_mem _ hx))) (fun q => h1 q.symm)
section
variable (r : RMem) (m : Mdl) (s : Sq) (fA : Option Addr) (w0 w : World)
set_option maxRecDepth 100000
set_option maxHeartbeats 8000000
theorem refStep_any (h : RSeq w r m s) (h0 : Nw w0 w) (hM : MAt w0 m r.pA fA) (hlo : w0.heap.size ≤ r.RB) (hne : s.w ≠ []) (hd : s.done ≤ 900) (hw9 : s.w.length ≤ 9000) :
    Calls Try.prog 38 #[.pointer (some ⟨r.RB, 0, none⟩)] w (fun x w' => ∃ j, ∃ hj : j < s.w.length, (∀ y ∈ s.w, y.k.less s.w[j].k = false) ∧ RefStepOut w r m s s.w[j] (s.w.eraseIdx j) x w') := by
  obtain ⟨iE, he0, he1, he2, he3⟩ := info_parts infoEve
  have HE1 := Lib.hid he0
  have HE2 := Lib.hid he1
  have HE3 := Lib.hid he2
  have HE4 := Lib.hid he3
  clear he0 he1 he2 he3
  obtain ⟨w1, hw1⟩ : ∃ w1, w.alloc (.cells #[.int .i64 0, .int .i64 0, .int .i64 0, .int .i64 0, .int .i64 0, .int .i64 0] 44) = w1 := ⟨_, rfl⟩
  have n1 : Nw w w1 := by rw [← hw1]; exact (Nw.refl w).alloc _
  obtain ⟨OB, hOB⟩ : ∃ OB, w.heap.size = OB := ⟨_, rfl⟩
  have hbO : Blk w1 OB 44 #[.int .i64 0, .int .i64 0, .int .i64 0, .int .i64 0, .int .i64 0, .int .i64 0] := by rw [← hw1]; exact Blk.last w _ _ hOB
  have HW1 := Lib.hid hw1
  have HOB := Lib.hid hOB
  have HBO := Lib.hid hbO
  have N1 := Lib.hid n1
  have HR := Lib.hid h
  have HM := Lib.hid hM
  have H0 := Lib.hid h0
  have HLO := Lib.hid hlo
  have K1 := Lib.hid (refLeast_any r m s w1 (h.new n1))
  have HNE := Lib.hid hne
  have HD := Lib.hid hd
  have HW9 := Lib.hid hw9
  clear h hM h0 hlo hw1 hOB hbO n1 hne
  go_enter Try.func38, Try.ntmps38
  go_upto_region 1 with (fail)
  rw [HW1.out, HOB.out]
  go_wp2_with fail
  refine K1.out.mono ?_
  rintro x w2 ⟨n12, ⟨hz, _⟩ | ⟨j, hj, rfl, hmin⟩⟩
  · exact absurd hz HNE.out
  have HMIN := Lib.hid hmin
  have n02 : Nw w w2 := N1.out.step n12
  have hr2 := HR.out.new n02
  have HJ := Lib.hid hj
  have hcap : s.w.length ≤ r.wc := by
    obtain ⟨_, _, ea, _, hc, _⟩ := hr2.wown.rd
    injection ea with _ _ e3
    omega
  have hrd2 : Rd w2 r.wA (ints (rows s.w)) := by
    obtain ⟨_, _, ea, hrd, _, _⟩ := hr2.wown.rd
    injection ea with e1 _ e3
    subst e1
    exact hrd
  obtain ⟨wb, wo, ew, c0, c1, c2, c3, c4, c5⟩ := ev_at hrd2 hj
  obtain ⟨e, he⟩ : ∃ e, s.w[j]'hj = e := ⟨_, rfl⟩
  simp only [he] at c0 c1 c2 c3 c4 c5
  have HEV := Lib.hid he
  have b3 : w2.cell? ⟨r.RB, 3, none⟩ = some (.slice (some ⟨wb, wo, none⟩) s.w.length r.wc) := by rw [← ew]; exact hr2.box.cell 3
  have hm := (HR.out.ok.ev e (by rw [← he]; exact List.getElem_mem hj))
  have ho := Ev.may_out hm
  obtain ⟨i, hi⟩ : ∃ i, (e.p - 1).toNat = i := ⟨_, rfl⟩
  have hip : e.p = (i : Int) + 1 := by omega
  have hin : i < m.procs.length := by omega
  have hn16 := HR.out.ok.may.n16
  have HI := Lib.hid (⟨hi, hip, hin⟩ : (e.p - 1).toNat = i ∧ e.p = (i : Int) + 1 ∧ i < m.procs.length)
  obtain ⟨n, hn⟩ : ∃ n, s.w.length = n := ⟨_, rfl⟩
  rw [hn] at b3 hcap hj hw9
  rw [hip] at c3
  have HN := Lib.hid hn
  have g1 : ((j : Int) < 0) = False := by simp
  have g2 : (0 : Int) ≤ (j : Int) := by omega
  have g3 : (j : Int) < (n : Int) := by omega
  obtain ⟨EB, hEB⟩ : ∃ EB, w2.heap.size = EB := ⟨_, rfl⟩
  obtain ⟨w3, hw3⟩ : ∃ w3, w2.alloc (.cells #[.int .i64 e.k.T, .int .i64 e.k.O, .int .i64 e.k.S, .int .i64 ((i : Int) + 1), .int .i64 e.q, .int .i64 e.d] 44) = w3 := ⟨_, rfl⟩
  have hbE : Blk w3 EB 44 #[.int .i64 e.k.T, .int .i64 e.k.O, .int .i64 e.k.S, .int .i64 ((i : Int) + 1), .int .i64 e.q, .int .i64 e.d] := by rw [← hw3]; exact Blk.last w2 _ _ hEB
  have n23 : Nw w2 w3 := by rw [← hw3]; exact (Nw.refl w2).alloc _
  have HRD3 := Lib.hid (show Rd w3 (some ⟨wb, wo, none⟩) (ints (rows s.w)) from by rw [← ew]; exact hrd2.keep fun p hp => Below.cell n23 hp)
  have HW3 := Lib.hid hw3
  have HEB := Lib.hid hEB
  have HBE := Lib.hid hbE
  have N12 := Lib.hid n12
  have N23 := Lib.hid n23
  have b3' := n23.cell b3
  have HR3 := Lib.hid (hr2.new n23)
  clear hmin n02 hr2 hrd2 he ew hm ho hi hip hn hEB hw3 hbE n12 n23 K1
  go_upto_region 5 with (fail)
  rw [HW3.out, HEB.out]
  clear c0 c1 c2 c3 c4 c5 b3 g1
  have HS : Hid (∀ W, Nw w3 W → W.cell? ⟨r.RB, 3, none⟩ = some (.slice (some ⟨wb, wo, none⟩) n r.wc)) := Lib.hid fun W hW => hW.cell b3'
  have k4 : IntKind.i64.wrap ((j : Int) + 1) = (j : Int) + 1 := IntWalk.i64_in _ (by constructor <;> omega)
  have k5 : (j : Int) + 1 ≤ (n : Int) := by omega
  have k6 : (n : Int) ≤ (r.wc : Int) := by omega
  have k7 : (j : Int) ≤ (r.wc : Int) := by omega
  have k8 : (0 : Int) ≤ (j : Int) + 1 := by omega
  have hdr : Rd w3 (if r.wc = j + 1 then some ⟨wb, wo, none⟩ else some ⟨wb, wo + (j + 1) * 6, none⟩) ((ints (rows s.w)).drop ((j + 1) * 6)) := by
    have hl : (ints (rows s.w)).length = n * 6 := by rw [ints_length, rows_length, HN.out]
    by_cases hjn : j + 1 = n
    · exact .inl (by rw [List.drop_eq_nil_iff, hl]; omega)
    · rw [if_neg (by omega)]
      obtain ⟨b', o', eb, hc⟩ := HRD3.out.cut (k := (j + 1) * 6) (by rw [hl]; omega)
      injection eb with eb
      injection eb with e1 e2 _
      subst e1 e2
      exact hc
  have HDR := Lib.hid hdr
  have hlt : ((ints (rows s.w)).take (j * 6)).length = j * 6 := by rw [List.length_take, ints_length, rows_length, HN.out]; omega
  have hld : ((ints (rows s.w)).drop ((j + 1) * 6)).length = (n - (j + 1)) * 6 := by rw [List.length_drop, ints_length, rows_length, HN.out]; omega
  have HLT := Lib.hid hlt
  have HLD := Lib.hid hld
  have hb3 := HR3.out.box
  have f3 := hb3.frozen 3
  have k9 : j < n := hj
  have k10 : n ≤ 9000 := hw9
  clear b3' hdr hlt hld hb3
  refine wp_region_F (fun W => W.cell? ⟨r.RB, 3, none⟩ = some (.slice (some ⟨wb, wo, none⟩) n r.wc)) [18] (by kernel_rfl) ?_
  have hS := HS.out w3.drew (Nw.refl w3).drew
  refine wpAnyF_takeT (i := 0) (v := ?_) rfl (by kernel_rfl) (by kernel_rfl) (by kernel_rfl) (by kernel_rfl) (by kernel_rfl) (by kernel_rfl) (fun _ _ _ h => h) (by rfl) ?_ hS ?_
  rotate_left
  · intro u hu
    try dsimp only at hu
    go_simp
    try with_reducible rfl
  try simp only [List.getElem_toArray, List.getElem_cons_succ, List.getElem_cons_zero, Act.put, List.setIfInBounds_toArray, List.set_cons_zero, List.set_cons_succ]
  refine wpAnyF_takeT (i := 1) (v := ?_) rfl (by kernel_rfl) (by kernel_rfl) (by kernel_rfl) (by kernel_rfl) (by kernel_rfl) (by kernel_rfl) (fun _ _ _ h => h) (by rfl) ?_ hS ?_
  rotate_left
  · intro u hu
    try dsimp only at hu
    go_simp
    try with_reducible rfl
  try simp only [List.getElem_toArray, List.getElem_cons_succ, List.getElem_cons_zero, Act.put, List.setIfInBounds_toArray, List.set_cons_zero, List.set_cons_succ]
  refine wpAnyF_takeT (i := 2) (v := ?_) rfl (by kernel_rfl) (by kernel_rfl) (by kernel_rfl) (by kernel_rfl) (by kernel_rfl) (by kernel_rfl) (fun _ _ _ h => h) (by rfl) ?_ hS ?_
  rotate_left
  · intro u hu
    try dsimp only at hu
    go_simp
    try with_reducible rfl
  try simp only [List.getElem_toArray, List.getElem_cons_succ, List.getElem_cons_zero, Act.put, List.setIfInBounds_toArray, List.set_cons_zero, List.set_cons_succ]
  refine wpAnyF_takeT (i := 3) (v := ?_) rfl (by kernel_rfl) (by kernel_rfl) (by kernel_rfl) (by kernel_rfl) (by kernel_rfl) (by kernel_rfl) (fun _ _ _ h => h) (by rfl) ?_ hS ?_
  rotate_left
  · intro u hu
    try dsimp only at hu
    go_simp
    try with_reducible rfl
  try simp only [List.getElem_toArray, List.getElem_cons_succ, List.getElem_cons_zero, Act.put, List.setIfInBounds_toArray, List.set_cons_zero, List.set_cons_succ]
  refine wpAnyF_takeT (i := 4) (v := ?_) rfl (by kernel_rfl) (by kernel_rfl) (by kernel_rfl) (by kernel_rfl) (by kernel_rfl) (by kernel_rfl) (fun _ _ _ h => h) (by rfl) ?_ hS ?_
  rotate_left
  · intro u hu
    try dsimp only at hu
    go_simp
    try with_reducible rfl
  try simp only [List.getElem_toArray, List.getElem_cons_succ, List.getElem_cons_zero, Act.put, List.setIfInBounds_toArray, List.set_cons_zero, List.set_cons_succ]
  refine wpAnyF_takeT (i := 5) (v := ?_) rfl (by kernel_rfl) (by kernel_rfl) (by kernel_rfl) (by kernel_rfl) (by kernel_rfl) (by kernel_rfl) (fun _ _ _ h => h) (by rfl) ?_ hS ?_
  rotate_left
  · intro u hu
    try dsimp only at hu
    go_simp
    try with_reducible rfl
  try simp only [List.getElem_toArray, List.getElem_cons_succ, List.getElem_cons_zero, Act.put, List.setIfInBounds_toArray, List.set_cons_zero, List.set_cons_succ]
  refine wpAnyF_takeT (i := 6) (v := ?_) rfl (by kernel_rfl) (by kernel_rfl) (by kernel_rfl) (by kernel_rfl) (by kernel_rfl) (by kernel_rfl) (fun _ _ _ h => h) (by rfl) ?_ hS ?_
  rotate_left
  · intro u hu
    try dsimp only at hu
    go_simp
    try with_reducible rfl
  try simp only [List.getElem_toArray, List.getElem_cons_succ, List.getElem_cons_zero, Act.put, List.setIfInBounds_toArray, List.set_cons_zero, List.set_cons_succ]
  refine wpAnyF_takeT (i := 8) (v := ?_) rfl (by kernel_rfl) (by kernel_rfl) (by kernel_rfl) (by kernel_rfl) (by kernel_rfl) (by kernel_rfl) (fun _ _ _ h => h) (by rfl) ?_ hS ?_
  rotate_left
  · intro u hu
    try dsimp only at hu
    go_simp
    try with_reducible rfl
  try simp only [List.getElem_toArray, List.getElem_cons_succ, List.getElem_cons_zero, Act.put, List.setIfInBounds_toArray, List.set_cons_zero, List.set_cons_succ]
  refine wpAnyF_takeT (i := 9) (v := ?_) rfl (by kernel_rfl) (by kernel_rfl) (by kernel_rfl) (by kernel_rfl) (by kernel_rfl) (by kernel_rfl) (fun _ _ _ h => h) (by rfl) ?_ hS ?_
  rotate_left
  · intro u hu
    try dsimp only at hu
    go_simp
    try with_reducible rfl
  try simp only [List.getElem_toArray, List.getElem_cons_succ, List.getElem_cons_zero, Act.put, List.setIfInBounds_toArray, List.set_cons_zero, List.set_cons_succ]
  refine wpAnyF_takeT (i := 10) (v := ?_) rfl (by kernel_rfl) (by kernel_rfl) (by kernel_rfl) (by kernel_rfl) (by kernel_rfl) (by kernel_rfl) (fun _ _ _ h => h) (by rfl) ?_ hS ?_
  rotate_left
  · intro u hu
    try dsimp only at hu
    go_simp
    try with_reducible rfl
  try simp only [List.getElem_toArray, List.getElem_cons_succ, List.getElem_cons_zero, Act.put, List.setIfInBounds_toArray, List.set_cons_zero, List.set_cons_succ]
  refine wpAnyF_takeT (i := 11) (v := ?_) rfl (by kernel_rfl) (by kernel_rfl) (by kernel_rfl) (by kernel_rfl) (by kernel_rfl) (by kernel_rfl) (fun _ _ _ h => h) (by rfl) ?_ hS ?_
  rotate_left
  · intro u hu
    try dsimp only at hu
    go_simp
    try with_reducible rfl
  try simp only [List.getElem_toArray, List.getElem_cons_succ, List.getElem_cons_zero, Act.put, List.setIfInBounds_toArray, List.set_cons_zero, List.set_cons_succ]
  refine wpAnyF_takeT (i := 12) (v := ?_) rfl (by kernel_rfl) (by kernel_rfl) (by kernel_rfl) (by kernel_rfl) (by kernel_rfl) (by kernel_rfl) (fun _ _ _ h => h) (by rfl) ?_ hS ?_
  rotate_left
  · intro u hu
    try dsimp only at hu
    go_simp
    try with_reducible rfl
  try simp only [List.getElem_toArray, List.getElem_cons_succ, List.getElem_cons_zero, Act.put, List.setIfInBounds_toArray, List.set_cons_zero, List.set_cons_succ]
  refine wpAnyF_takeT (i := 13) (v := ?_) rfl (by kernel_rfl) (by kernel_rfl) (by kernel_rfl) (by kernel_rfl) (by kernel_rfl) (by kernel_rfl) (fun _ _ _ h => h) (by rfl) ?_ hS ?_
  rotate_left
  · intro u hu
    try dsimp only at hu
    go_simp
    try with_reducible rfl
  try simp only [List.getElem_toArray, List.getElem_cons_succ, List.getElem_cons_zero, Act.put, List.setIfInBounds_toArray, List.set_cons_zero, List.set_cons_succ]
  refine wpAnyF_takeT (i := 14) (v := ?_) rfl (by kernel_rfl) (by kernel_rfl) (by kernel_rfl) (by kernel_rfl) (by kernel_rfl) (by kernel_rfl) (fun _ _ _ h => h) (by rfl) ?_ hS ?_
  rotate_left
  · intro u hu
    try dsimp only at hu
    go_simp
    try with_reducible rfl
  try simp only [List.getElem_toArray, List.getElem_cons_succ, List.getElem_cons_zero, Act.put, List.setIfInBounds_toArray, List.set_cons_zero, List.set_cons_succ]
  refine wpAnyF_step (i := 7) (by kernel_rfl) rfl (by rfl) fun K hK => ?_
  refine wp_append_at w3.drew _ _ 23 rfl 44 iE _ 6 48 Try.underlying23 HE1.out HE2.out HE3.out HE4.out rfl (by omega) _ 0 [] none rfl (Own.nil _ _ _) _ j r.wc ((ints (rows s.w)).take (j * 6)) rfl HLT.out (HRD3.out.take _) (fun u hu => ints_one _ u (List.mem_of_mem_take hu)) (by simp only [maxLen]; omega) (by omega) ?_
  intro A4 c4 w4 b4 hown4 hchg4 hat4
  simp only [Nat.zero_add, List.nil_append] at hown4 ⊢
  have HO4 := Lib.hid hown4
  have hc34 : Chg (fun _ => False) w3 w4 := (Chg.refl (fun _ => False) w3).drew.trans (hchg4.mono fun i _ e => by cases e) fun i _ q => q
  have HC34 := Lib.hid hc34
  have HN34 := Lib.hid (show Nw w3 w4 from hc34.below (fun i _ q => q.elim) (Nat.le_refl _))
  have HB4 : Hid (∀ g, b4 = some g → w3.heap.size ≤ g) := Lib.hid fun g e => by
    rcases hat4 with q | q
    · rw [q] at e; cases e
    · rw [q] at e; injection e with e; simp at e; omega
  clear hown4 hchg4 hat4 hc34
  have hS := HS.out w4 HN34.out
  refine hK _ _ (.inr (HS.out w4 HN34.out)) ?_
  clear hK K
  try simp only [List.getElem_toArray, List.getElem_cons_succ, List.getElem_cons_zero, Act.put, List.setIfInBounds_toArray, List.set_cons_zero, List.set_cons_succ]
  refine wpAnyF_step (i := 15) (by kernel_rfl) rfl (by rfl) fun K hK => ?_
  refine wp_append_at w4 _ _ 23 rfl 44 iE _ 6 48 Try.underlying23 HE1.out HE2.out HE3.out HE4.out rfl (by omega) _ j ((ints (rows s.w)).take (j * 6)) b4 rfl HO4.out _ (n - (j + 1)) (r.wc - (j + 1)) ((ints (rows s.w)).drop ((j + 1) * 6)) rfl HLD.out (HDR.out.keep fun p hp => Below.cell HN34.out hp) (fun u hu => ints_one _ u (List.mem_of_mem_drop hu)) (by simp only [maxLen]; omega) (by omega) ?_
  intro A6 c6 w6 b6 hown6 hchg6 hat6
  have HO6 := Lib.hid hown6
  have hc36 : Chg (fun _ => False) w3 w6 := HC34.out.trans hchg6 fun i hi q => by have := HB4.out i q.symm; omega
  have HC36 := Lib.hid hc36
  have HN36 := Lib.hid (show Nw w3 w6 from hc36.below (fun i _ q => q.elim) (Nat.le_refl _))
  have HB6 : Hid (∀ g, b6 = some g → w3.heap.size ≤ g) := Lib.hid fun g e => by
    rcases hat6 with q | q
    · exact HB4.out g (q.symm.trans e)
    · rw [q] at e; injection e with e; have := HC34.out.size; omega
  have hb6 := HR3.out.box.chg hc36 (fun q => q)
  have f3 := hb6.frozen 3
  have d3 := hb6.cell 3
  clear hown6 hchg6 hat6 hc36 hb6
  have hS := HS.out w6 HN36.out
  refine hK _ _ (.inr (HS.out w6 HN36.out)) ?_
  clear hK K
  try simp only [List.getElem_toArray, List.getElem_cons_succ, List.getElem_cons_zero, Act.put, List.setIfInBounds_toArray, List.set_cons_zero, List.set_cons_succ]
  refine wpAnyF_step (i := 16) (by kernel_rfl) rfl (by rfl) fun K hK => ?_
  go_simp
  refine hK _ _ (.inr hS) ?_
  clear hK K
  try simp only [List.getElem_toArray, List.getElem_cons_succ, List.getElem_cons_zero, Act.put, List.setIfInBounds_toArray, List.set_cons_zero, List.set_cons_succ]
  refine wpAnyF_step (i := 17) (by kernel_rfl) rfl (by rfl) fun K hK => ?_
  go_simp
  refine hK _ _ (.inr hS) ?_
  clear hK K
  try simp only [List.getElem_toArray, List.getElem_cons_succ, List.getElem_cons_zero, Act.put, List.setIfInBounds_toArray, List.set_cons_zero, List.set_cons_succ]
  refine wpAnyF_step (i := 18) (by kernel_rfl) rfl (by rfl) fun K hK => ?_
  go_simp
  refine hK _ _ (.inl (by kernel_rfl)) ?_
  clear hK K
  try simp only [List.getElem_toArray, List.getElem_cons_succ, List.getElem_cons_zero, Act.put, List.setIfInBounds_toArray, List.set_cons_zero, List.set_cons_succ]
  refine wpAnyF_done (by kernel_rfl) ?_ _
  clear HDR
  generalize (if r.wc = j + 1 then (some ⟨wb, wo, none⟩ : Option Addr) else some ⟨wb, wo + (j + 1) * 6, none⟩) = dA
  obtain ⟨q, hq⟩ : ∃ q, j + (n - (j + 1)) = q := ⟨_, rfl⟩
  have hqn : q + 1 = n := by omega
  have hres : (s.w.eraseIdx j).length = q := by rw [List.length_eraseIdx_of_lt (by rw [HN.out]; exact hj), HN.out]; omega
  have HRES := Lib.hid hres
  have ho6 := HO6.out
  rw [hq, erase_rows s.w j (by rw [HN.out]; exact hj)] at ho6
  simp only [hq]
  have HO6 := Lib.hid ho6
  clear ho6 hq hres g2 g3 k4 k5 k6 k7 k8
  go_upto_region 6 with (fail)
  obtain ⟨w5, hw5⟩ : ∃ w5, w6.setCell ⟨r.RB, 3, none⟩ (.slice A6 q c6) = w5 := ⟨_, rfl⟩
  rw [hw5]
  have hne := HR.out.ne
  have hN36 : Chg (fun _ => False) w3 w6 := HC36.out
  have hbR5 : Blk w5 r.RB 42 #[.slice r.pA m.procs.length r.pc, .slice r.fA r.fn r.fc, .slice (some ⟨r.sB, r.so, none⟩) m.procs.length r.sc, .slice A6 q c6, .slice r.uA s.put.length r.uc, .int .i64 (s.done : Int), .int .i64 s.last.T] := by
    rw [← hw5]; exact (HR3.out.box.chg hN36 (fun q => q)).set_ 3 _
  have hC35 : Chg (fun g => g = r.RB) w3 w5 := by rw [← hw5]; exact Chg.setCell (M := fun g => g = r.RB) (hN36.mono fun i _ q => q.elim) (p := ⟨r.RB, 3, none⟩) (.inl rfl) _
  have hO5 : Own w5 44 6 (.slice A6 q c6) q (ints (rows (s.w.eraseIdx j))) b6 := by
    rw [← hw5]
    exact HO6.out.kept fun g hg => by
      obtain ⟨cs, hcs⟩ := HO6.out.tyB g hg
      have hx : g ≠ r.RB := hcs.ne_ (HR3.out.box.chg hN36 (fun q => q)) (by decide)
      rw [Below.heap_setCell _ _ _ _ (by exact hx)]
  have n03 : Nw w w3 := (N1.out.step N12.out).step N23.out
  have hOB3 : OB < w3.heap.size := Nat.lt_of_lt_of_le HBO.out.lt (Nat.le_trans N12.out.size N23.out.size)
  have hEB3 : EB < w3.heap.size := HBE.out.lt
  have hEO : w.heap.size ≤ EB ∧ w.heap.size = OB ∧ OB < EB := by
    have h1 := N1.out.size
    have h2 := N12.out.size
    have h3 := HEB.out
    have h4 := HOB.out
    have h5 := HBO.out.lt
    omega
  have hRlt := HR.out.box.lt
  have hbE5 := HBE.out.chg hC35 (show ¬ EB = r.RB from by omega)
  have hbO5 := ((HBO.out.below N12.out HBO.out.lt).below N23.out (Nat.lt_of_lt_of_le HBO.out.lt N12.out.size)).chg hC35 (show ¬ OB = r.RB from by omega)
  obtain ⟨cur, hst0, hsts3⟩ := HR.out.sts
  have hst3 := hst0.below n03 hst0.lt
  have HST0 := Lib.hid hst0
  have hst5 := hst3.chg hC35 (fun q => hne.1 q.symm)
  obtain ⟨a, va, ⟨q0, q1, q2⟩, hrs⟩ := hsts3 i HI.out.2.2
  have hc05 : Chg (fun g => g = r.RB) w w5 := (Chg.of_below n03 (Nat.le_refl _) _).trans hC35 fun i _ q => q
  have HC05 := Lib.hid hc05
  have hcT5 : Chg r.V w w5 := hc05.mono fun i _ q => .inl (.inl q)
  have hrd := (hrs.keep hcT5 (fun g e => .inl e)).here
  rw [← hst5.cell] at q0 q1 q2
  have hn05 : Nw w w5 → True := fun _ => trivial
  have hcm := (HR.out.ok.may.proc (i := i) HI.out.2.2).1
  obtain ⟨v, hv⟩ : ∃ v, (m.run s e).1 = v := ⟨_, rfl⟩
  have hem : e ∈ s.w := by rw [← HEV.out]; exact List.getElem_mem _
  have hmn := run_means HR.out.ok hem (by omega)
  obtain ⟨N, hNN⟩ : ∃ N, m.procs.length = N := ⟨_, rfl⟩
  obtain ⟨P, hP⟩ : ∃ P, m.procs.getD i Pr.z = P := ⟨_, rfl⟩
  obtain ⟨st, hstt⟩ : ∃ st, s.sts.getD i St.z = st := ⟨_, rfl⟩
  have hfin : runB P.vars ((i : Int) + 1) N P.seed (nk P.ks) e.k.T e.k.O e.k.S ((i : Int) + 1) e.q e.d st.vars st.sent st.drawn = (v, 0) := by
    have h1 : m.run s e = (v, 0) := Prod.ext hv hmn.1
    unfold Mdl.run at h1
    rw [HI.out.1, HI.out.2.1, hNN, hP, hstt] at h1
    exact h1
  rw [hstt] at q0 q1 q2 hrd
  rw [hP] at hcm
  have hn16 := HR.out.ok.may.n16
  rw [hNN] at hn16
  have hiN : i < N := by rw [← hNN]; exact HI.out.2.2
  have hnRB : ∀ W, Nw w5 W → MAt W m r.pA fA := fun W hW => HM.out.keep (Nw.step (Below.trans (H0.out.step n03) (hC35.below (fun i _ q => by rw [q]; exact HLO.out) (H0.out.step n03).size)) hW)
  have KM := Lib.hid (fun W (g : Nw w5 W) => by
    have k := refMachG_any m r.pA fA r.pc W r.fA r.fn r.fc i HI.out.2.2 (hnRB W g)
    unfold MachOut at k
    rw [hNN, hP] at k
    exact k : ∀ W, Nw w5 W → Calls Try.prog 61 #[.agg #[.slice r.pA N r.pc, .slice r.fA r.fn r.fc], .int .i64 ((i : Int) + 1)] W (fun x w' => ∃ kA kc, x = .returned (.agg #[.int .i64 P.vars, .slice kA P.ks.length kc, .int .i64 ((i : Int) + 1), .int .i64 (N : Int), .int .i64 P.seed]) ∧ RKinds w' kA P.ks ∧ Nw W w'))
  have KR := Lib.hid (fun W kA kc (hk : RKinds W kA P.ks) (g : Nw w5 W) => by
    have k := refRun_any P.vars kA P.ks kc ((i : Int) + 1) N P.seed a st.vars va st.sent st.drawn e.k.T e.k.O e.k.S ((i : Int) + 1) e.q e.d W hk hcm
      (by unfold argsOk; simp only [Bool.and_eq_true, decide_eq_true_eq]; omega) (hrd.keep fun p hp => Below.cell g hp)
    rw [hfin] at k
    exact k : ∀ W kA kc, RKinds W kA P.ks → Nw w5 W → Calls Try.prog 62 #[.agg #[.int .i64 P.vars, .slice kA P.ks.length kc, .int .i64 ((i : Int) + 1), .int .i64 (N : Int), .int .i64 P.seed], .agg #[.slice a st.vars.length va, .int .i64 st.sent, .int .i64 st.drawn], .agg #[.int .i64 e.k.T, .int .i64 e.k.O, .int .i64 e.k.S, .int .i64 ((i : Int) + 1), .int .i64 e.q, .int .i64 e.d]] W (RunAll W (v, 0)))
  have b0 : w5.cell? ⟨r.RB, 0, none⟩ = some (.slice r.pA N r.pc) := (hbR5.cell 0).trans (by rw [hNN]; rfl)
  have b1 : w5.cell? ⟨r.RB, 1, none⟩ = some (.slice r.fA r.fn r.fc) := hbR5.cell 1
  have b2 : w5.cell? ⟨r.RB, 2, none⟩ = some (.slice (some ⟨r.sB, r.so, none⟩) N r.sc) := (hbR5.cell 2).trans (by rw [hNN]; rfl)
  have HS6 := Lib.hid (fun W (g : Nw w5 W) => (⟨g.cell b0, g.cell b1, g.cell b2, g.cell (hbE5.cell 0), g.cell (hbE5.cell 1), g.cell (hbE5.cell 2), g.cell (hbE5.cell 3), g.cell (hbE5.cell 4), g.cell (hbE5.cell 5), g.cell q0, g.cell q1, g.cell q2⟩ : W.cell? ⟨r.RB, 0, none⟩ = some (.slice r.pA N r.pc) ∧ W.cell? ⟨r.RB, 1, none⟩ = some (.slice r.fA r.fn r.fc) ∧ W.cell? ⟨r.RB, 2, none⟩ = some (.slice (some ⟨r.sB, r.so, none⟩) N r.sc) ∧ W.cell? ⟨EB, 0, none⟩ = some (.int .i64 e.k.T) ∧ W.cell? ⟨EB, 1, none⟩ = some (.int .i64 e.k.O) ∧ W.cell? ⟨EB, 2, none⟩ = some (.int .i64 e.k.S) ∧ W.cell? ⟨EB, 3, none⟩ = some (.int .i64 ((i : Int) + 1)) ∧ W.cell? ⟨EB, 4, none⟩ = some (.int .i64 e.q) ∧ W.cell? ⟨EB, 5, none⟩ = some (.int .i64 e.d) ∧ W.cell? ⟨r.sB, r.so + i * 3, none⟩ = some (.slice a st.vars.length va) ∧ W.cell? ⟨r.sB, r.so + i * 3 + 1, none⟩ = some (.int .i64 st.sent) ∧ W.cell? ⟨r.sB, r.so + i * 3 + 2, none⟩ = some (.int .i64 st.drawn)))
  have HBR5 := Lib.hid hbR5
  have HC35 := Lib.hid hC35
  have HO5 := Lib.hid hO5
  have N03 := Lib.hid n03
  have HEO := Lib.hid hEO
  have HBE5 := Lib.hid hbE5
  have HBO5 := Lib.hid hbO5
  have HST3 := Lib.hid hst3
  have HSTS := Lib.hid hsts3
  have HST5 := Lib.hid hst5
  have HCU := Lib.hid (⟨q0, q1, q2⟩ : _ ∧ _ ∧ _)
  have HV := Lib.hid hv
  have HMN := Lib.hid hmn
  have HNN := Lib.hid hNN
  have HSTT := Lib.hid hstt
  have HEM := Lib.hid hem
  have HQN := Lib.hid hqn
  have HOB3 := Lib.hid hOB3
  have HEB3 := Lib.hid hEB3
  have HRLT := Lib.hid hRlt
  have k1 : IntKind.i64.wrap ((i : Int) + 1 - 1) = (i : Int) := by rw [Int.add_sub_cancel]; exact IntWalk.i64_in _ (by constructor <;> omega)
  have k4 : IntKind.i64.wrap (i : Int) = (i : Int) := IntWalk.i64_in _ (by constructor <;> omega)
  have k2 : (0 : Int) ≤ (i : Int) := by omega
  have k3 : (i : Int) < (N : Int) := by omega
  clear hst0 hc05 hw5 hbR5 hO5 hC35 hN36 n03 hOB3 hEB3 hEO hRlt hbE5 hbO5 hst3 hsts3 hst5 hrs hcT5 hrd hn05 hcm hv hem hmn hNN hP hstt hfin hn16 hiN hnRB b0 b1 b2 q0 q1 q2 hne f3 d3 hqn k9 k10 hd hw9 hj
  go_cut [7, 8] (fun v7 v8 wx => ∃ XB xA xc yA yc tA tc, v7 = .pointer (some ⟨XB, 0, none⟩) ∧ v8 = .int .i64 0 ∧ Hid (StepBox w5.heap.size wx XB v xA yA tA xc yc tc ∧ Nw w5 wx))
  case first =>
    refine wp_region_F (fun W => W.cell? ⟨r.RB, 0, none⟩ = some (.slice r.pA N r.pc) ∧ W.cell? ⟨r.RB, 1, none⟩ = some (.slice r.fA r.fn r.fc) ∧ W.cell? ⟨r.RB, 2, none⟩ = some (.slice (some ⟨r.sB, r.so, none⟩) N r.sc) ∧ W.cell? ⟨EB, 0, none⟩ = some (.int .i64 e.k.T) ∧ W.cell? ⟨EB, 1, none⟩ = some (.int .i64 e.k.O) ∧ W.cell? ⟨EB, 2, none⟩ = some (.int .i64 e.k.S) ∧ W.cell? ⟨EB, 3, none⟩ = some (.int .i64 ((i : Int) + 1)) ∧ W.cell? ⟨EB, 4, none⟩ = some (.int .i64 e.q) ∧ W.cell? ⟨EB, 5, none⟩ = some (.int .i64 e.d) ∧ W.cell? ⟨r.sB, r.so + i * 3, none⟩ = some (.slice a st.vars.length va) ∧ W.cell? ⟨r.sB, r.so + i * 3 + 1, none⟩ = some (.int .i64 st.sent) ∧ W.cell? ⟨r.sB, r.so + i * 3 + 2, none⟩ = some (.int .i64 st.drawn)) [22, 23] (by kernel_rfl) ?_
    have hS := HS6.out w5.drew (Nw.refl w5).drew
    refine wpAnyF_takeT (i := 0) (v := ?_) rfl (by kernel_rfl) (by kernel_rfl) (by kernel_rfl) (by kernel_rfl) (by kernel_rfl) (by kernel_rfl) (fun _ _ _ h => h) (by rfl) ?_ hS ?_
    rotate_left
    · intro u hu
      try dsimp only at hu
      go_simp
      try with_reducible rfl
    try simp only [List.getElem_toArray, List.getElem_cons_succ, List.getElem_cons_zero, Act.put, List.setIfInBounds_toArray, List.set_cons_zero, List.set_cons_succ]
    refine wpAnyF_takeT (i := 1) (v := ?_) rfl (by kernel_rfl) (by kernel_rfl) (by kernel_rfl) (by kernel_rfl) (by kernel_rfl) (by kernel_rfl) (fun _ _ _ h => h) (by rfl) ?_ hS ?_
    rotate_left
    · intro u hu
      try dsimp only at hu
      go_simp
      try with_reducible rfl
    try simp only [List.getElem_toArray, List.getElem_cons_succ, List.getElem_cons_zero, Act.put, List.setIfInBounds_toArray, List.set_cons_zero, List.set_cons_succ]
    refine wpAnyF_takeT (i := 2) (v := ?_) rfl (by kernel_rfl) (by kernel_rfl) (by kernel_rfl) (by kernel_rfl) (by kernel_rfl) (by kernel_rfl) (fun _ _ _ h => h) (by rfl) ?_ hS ?_
    rotate_left
    · intro u hu
      try dsimp only at hu
      go_simp
      try with_reducible rfl
    try simp only [List.getElem_toArray, List.getElem_cons_succ, List.getElem_cons_zero, Act.put, List.setIfInBounds_toArray, List.set_cons_zero, List.set_cons_succ]
    refine wpAnyF_takeT (i := 3) (v := ?_) rfl (by kernel_rfl) (by kernel_rfl) (by kernel_rfl) (by kernel_rfl) (by kernel_rfl) (by kernel_rfl) (fun _ _ _ h => h) (by rfl) ?_ hS ?_
    rotate_left
    · intro u hu
      try dsimp only at hu
      go_simp
      try with_reducible rfl
    try simp only [List.getElem_toArray, List.getElem_cons_succ, List.getElem_cons_zero, Act.put, List.setIfInBounds_toArray, List.set_cons_zero, List.set_cons_succ]
    refine wpAnyF_takeT (i := 4) (v := ?_) rfl (by kernel_rfl) (by kernel_rfl) (by kernel_rfl) (by kernel_rfl) (by kernel_rfl) (by kernel_rfl) (fun _ _ _ h => h) (by rfl) ?_ hS ?_
    rotate_left
    · intro u hu
      try dsimp only at hu
      go_simp
      try with_reducible rfl
    try simp only [List.getElem_toArray, List.getElem_cons_succ, List.getElem_cons_zero, Act.put, List.setIfInBounds_toArray, List.set_cons_zero, List.set_cons_succ]
    refine wpAnyF_takeT (i := 5) (v := ?_) rfl (by kernel_rfl) (by kernel_rfl) (by kernel_rfl) (by kernel_rfl) (by kernel_rfl) (by kernel_rfl) (fun _ _ _ h => h) (by rfl) ?_ hS ?_
    rotate_left
    · intro u hu
      try dsimp only at hu
      go_simp
      try with_reducible rfl
    try simp only [List.getElem_toArray, List.getElem_cons_succ, List.getElem_cons_zero, Act.put, List.setIfInBounds_toArray, List.set_cons_zero, List.set_cons_succ]
    refine wpAnyF_takeT (i := 7) (v := ?_) rfl (by kernel_rfl) (by kernel_rfl) (by kernel_rfl) (by kernel_rfl) (by kernel_rfl) (by kernel_rfl) (fun _ _ _ h => h) (by rfl) ?_ hS ?_
    rotate_left
    · intro u hu
      try dsimp only at hu
      go_simp
      try with_reducible rfl
    try simp only [List.getElem_toArray, List.getElem_cons_succ, List.getElem_cons_zero, Act.put, List.setIfInBounds_toArray, List.set_cons_zero, List.set_cons_succ]
    refine wpAnyF_takeT (i := 8) (v := ?_) rfl (by kernel_rfl) (by kernel_rfl) (by kernel_rfl) (by kernel_rfl) (by kernel_rfl) (by kernel_rfl) (fun _ _ _ h => h) (by rfl) ?_ hS ?_
    rotate_left
    · intro u hu
      try dsimp only at hu
      go_simp
      try with_reducible rfl
    try simp only [List.getElem_toArray, List.getElem_cons_succ, List.getElem_cons_zero, Act.put, List.setIfInBounds_toArray, List.set_cons_zero, List.set_cons_succ]
    refine wpAnyF_takeT (i := 9) (v := ?_) rfl (by kernel_rfl) (by kernel_rfl) (by kernel_rfl) (by kernel_rfl) (by kernel_rfl) (by kernel_rfl) (fun _ _ _ h => h) (by rfl) ?_ hS ?_
    rotate_left
    · intro u hu
      try dsimp only at hu
      go_simp
      try with_reducible rfl
    try simp only [List.getElem_toArray, List.getElem_cons_succ, List.getElem_cons_zero, Act.put, List.setIfInBounds_toArray, List.set_cons_zero, List.set_cons_succ]
    refine wpAnyF_takeT (i := 10) (v := ?_) rfl (by kernel_rfl) (by kernel_rfl) (by kernel_rfl) (by kernel_rfl) (by kernel_rfl) (by kernel_rfl) (fun _ _ _ h => h) (by rfl) ?_ hS ?_
    rotate_left
    · intro u hu
      try dsimp only at hu
      go_simp
      try with_reducible rfl
    try simp only [List.getElem_toArray, List.getElem_cons_succ, List.getElem_cons_zero, Act.put, List.setIfInBounds_toArray, List.set_cons_zero, List.set_cons_succ]
    refine wpAnyF_takeT (i := 11) (v := ?_) rfl (by kernel_rfl) (by kernel_rfl) (by kernel_rfl) (by kernel_rfl) (by kernel_rfl) (by kernel_rfl) (fun _ _ _ h => h) (by rfl) ?_ hS ?_
    rotate_left
    · intro u hu
      try dsimp only at hu
      go_simp
      try with_reducible rfl
    try simp only [List.getElem_toArray, List.getElem_cons_succ, List.getElem_cons_zero, Act.put, List.setIfInBounds_toArray, List.set_cons_zero, List.set_cons_succ]
    refine wpAnyF_takeT (i := 12) (v := ?_) rfl (by kernel_rfl) (by kernel_rfl) (by kernel_rfl) (by kernel_rfl) (by kernel_rfl) (by kernel_rfl) (fun _ _ _ h => h) (by rfl) ?_ hS ?_
    rotate_left
    · intro u hu
      try dsimp only at hu
      go_simp
      try with_reducible rfl
    try simp only [List.getElem_toArray, List.getElem_cons_succ, List.getElem_cons_zero, Act.put, List.setIfInBounds_toArray, List.set_cons_zero, List.set_cons_succ]
    refine wpAnyF_takeT (i := 13) (v := ?_) rfl (by kernel_rfl) (by kernel_rfl) (by kernel_rfl) (by kernel_rfl) (by kernel_rfl) (by kernel_rfl) (fun _ _ _ h => h) (by rfl) ?_ hS ?_
    rotate_left
    · intro u hu
      try dsimp only at hu
      go_simp
      try with_reducible rfl
    try simp only [List.getElem_toArray, List.getElem_cons_succ, List.getElem_cons_zero, Act.put, List.setIfInBounds_toArray, List.set_cons_zero, List.set_cons_succ]
    refine wpAnyF_takeT (i := 14) (v := ?_) rfl (by kernel_rfl) (by kernel_rfl) (by kernel_rfl) (by kernel_rfl) (by kernel_rfl) (by kernel_rfl) (fun _ _ _ h => h) (by rfl) ?_ hS ?_
    rotate_left
    · intro u hu
      try dsimp only at hu
      go_simp
      try with_reducible rfl
    try simp only [List.getElem_toArray, List.getElem_cons_succ, List.getElem_cons_zero, Act.put, List.setIfInBounds_toArray, List.set_cons_zero, List.set_cons_succ]
    refine wpAnyF_takeT (i := 15) (v := ?_) rfl (by kernel_rfl) (by kernel_rfl) (by kernel_rfl) (by kernel_rfl) (by kernel_rfl) (by kernel_rfl) (fun _ _ _ h => h) (by rfl) ?_ hS ?_
    rotate_left
    · intro u hu
      try dsimp only at hu
      go_simp
      try with_reducible rfl
    try simp only [List.getElem_toArray, List.getElem_cons_succ, List.getElem_cons_zero, Act.put, List.setIfInBounds_toArray, List.set_cons_zero, List.set_cons_succ]
    refine wpAnyF_takeT (i := 16) (v := ?_) rfl (by kernel_rfl) (by kernel_rfl) (by kernel_rfl) (by kernel_rfl) (by kernel_rfl) (by kernel_rfl) (fun _ _ _ h => h) (by rfl) ?_ hS ?_
    rotate_left
    · intro u hu
      try dsimp only at hu
      go_simp
      try with_reducible rfl
    try simp only [List.getElem_toArray, List.getElem_cons_succ, List.getElem_cons_zero, Act.put, List.setIfInBounds_toArray, List.set_cons_zero, List.set_cons_succ]
    refine wpAnyF_two (i := 6) (j := 21) (by kernel_rfl) rfl (by rfl) rfl (by rfl) (fun K hK => ?_) (fun K hK => ?_)
    · go_simp
      go_at_call 61
      refine (KM.out _ ((Nw.refl w5).drew)).mono ?_
      rintro x wk ⟨kA', kc', rfl, hkk, hnk⟩
      have ik : Nw w5 wk := Nw.step ((Nw.refl w5).drew) hnk
      have hS := HS6.out wk ik
      refine hK _ _ (.inr (HS6.out wk ik)) ?_
      clear hK K
      try simp only [List.getElem_toArray, List.getElem_cons_succ, List.getElem_cons_zero, Act.put, List.setIfInBounds_toArray, List.set_cons_zero, List.set_cons_succ]
      refine wpAnyF_two (i := 17) (j := 21) (by kernel_rfl) rfl (by rfl) rfl (by rfl) (fun K hK => ?_) (fun K hK => ?_)
      · go_simp
        go_at_call 62
        refine (KR.out _ _ _ (hkk) (ik)).mono ?_
        rintro x wz ⟨xA, xc, yA, yc, tA, tc, rfl, hstp, bz⟩
        have iz : Nw w5 wz := Nw.step (ik) bz
        have hS := HS6.out wz iz
        refine hK _ _ (.inr (HS6.out wz iz)) ?_
        clear hK K
        try simp only [List.getElem_toArray, List.getElem_cons_succ, List.getElem_cons_zero, Act.put, List.setIfInBounds_toArray, List.set_cons_zero, List.set_cons_succ]
        refine wpAnyF_freeT (i := 18) (v := ?_) rfl (by kernel_rfl) (by kernel_rfl) (by kernel_rfl) (by kernel_rfl) (by kernel_rfl) (fun _ _ _ h => h) (by rfl) ?_ hS ?_
        rotate_left
        · intro u
          go_simp
          try with_reducible rfl
        try simp only [List.getElem_toArray, List.getElem_cons_succ, List.getElem_cons_zero, Act.put, List.setIfInBounds_toArray, List.set_cons_zero, List.set_cons_succ]
        refine wpAnyF_freeT (i := 19) (v := ?_) rfl (by kernel_rfl) (by kernel_rfl) (by kernel_rfl) (by kernel_rfl) (by kernel_rfl) (fun _ _ _ h => h) (by rfl) ?_ hS ?_
        rotate_left
        · intro u
          go_simp
          try with_reducible rfl
        try simp only [List.getElem_toArray, List.getElem_cons_succ, List.getElem_cons_zero, Act.put, List.setIfInBounds_toArray, List.set_cons_zero, List.set_cons_succ]
        refine wpAnyF_freeT (i := 20) (v := ?_) rfl (by kernel_rfl) (by kernel_rfl) (by kernel_rfl) (by kernel_rfl) (by kernel_rfl) (fun _ _ _ h => h) (by rfl) ?_ hS ?_
        rotate_left
        · intro u
          go_simp
          try with_reducible rfl
        try simp only [List.getElem_toArray, List.getElem_cons_succ, List.getElem_cons_zero, Act.put, List.setIfInBounds_toArray, List.set_cons_zero, List.set_cons_succ]
        refine wpAnyF_step (i := 21) (by kernel_rfl) rfl (by rfl) fun K hK => ?_
        go_simp
        refine hK _ _ (.inr (HS6.out _ (iz.alloc _))) ?_
        clear hK K
        try simp only [List.getElem_toArray, List.getElem_cons_succ, List.getElem_cons_zero, Act.put, List.setIfInBounds_toArray, List.set_cons_zero, List.set_cons_succ]
        refine wpAnyF_step (i := 22) (by kernel_rfl) rfl (by rfl) fun K hK => ?_
        go_simp
        refine hK _ _ (.inl (by kernel_rfl)) ?_
        clear hK K
        try simp only [List.getElem_toArray, List.getElem_cons_succ, List.getElem_cons_zero, Act.put, List.setIfInBounds_toArray, List.set_cons_zero, List.set_cons_succ]
        refine wpAnyF_step (i := 23) (by kernel_rfl) rfl (by rfl) fun K hK => ?_
        go_simp
        refine hK _ _ (.inl (by kernel_rfl)) ?_
        clear hK K
        try simp only [List.getElem_toArray, List.getElem_cons_succ, List.getElem_cons_zero, Act.put, List.setIfInBounds_toArray, List.set_cons_zero, List.set_cons_succ]
        refine wpAnyF_done (by kernel_rfl) ?_ _
        go_wp2_with fail
        go_meet
        exact ⟨_, xA, xc, yA, yc, tA, tc, rfl, rfl, Lib.hid ⟨StepBox.late (hstp.mono ik.size) (Below.size (show Below w5.heap.size w5 wz from iz)), iz.alloc _⟩⟩
      · go_simp
        refine hK _ _ (.inr (HS6.out _ (ik.alloc _))) ?_
        clear hK K
        try simp only [List.getElem_toArray, List.getElem_cons_succ, List.getElem_cons_zero, Act.put, List.setIfInBounds_toArray, List.set_cons_zero, List.set_cons_succ]
        refine wpAnyF_step (i := 17) (by kernel_rfl) rfl (by rfl) fun K hK => ?_
        go_simp
        go_at_call 62
        refine (KR.out _ _ _ (hkk.keep ((Nw.refl wk).alloc _)) (ik.alloc _)).mono ?_
        rintro x wz ⟨xA, xc, yA, yc, tA, tc, rfl, hstp, bz⟩
        have iz : Nw w5 wz := Nw.step (ik.alloc _) bz
        have hbB : Blk wz wk.heap.size 94 stepZ := Blk.below (Blk.last wk _ _ rfl) bz (by simp)
        obtain ⟨⟨y0, y1, y2, y3, y4⟩, v0, v1, v2, v3, v4⟩ := stepZ_cells hbB
        have hS := HS6.out wz iz
        refine hK _ _ (.inr (HS6.out wz iz)) ?_
        clear hK K
        try simp only [List.getElem_toArray, List.getElem_cons_succ, List.getElem_cons_zero, Act.put, List.setIfInBounds_toArray, List.set_cons_zero, List.set_cons_succ]
        refine wpAnyF_freeT (i := 18) (v := ?_) rfl (by kernel_rfl) (by kernel_rfl) (by kernel_rfl) (by kernel_rfl) (by kernel_rfl) (fun _ _ _ h => h) (by rfl) ?_ hS ?_
        rotate_left
        · intro u
          go_simp
          try with_reducible rfl
        try simp only [List.getElem_toArray, List.getElem_cons_succ, List.getElem_cons_zero, Act.put, List.setIfInBounds_toArray, List.set_cons_zero, List.set_cons_succ]
        refine wpAnyF_freeT (i := 19) (v := ?_) rfl (by kernel_rfl) (by kernel_rfl) (by kernel_rfl) (by kernel_rfl) (by kernel_rfl) (fun _ _ _ h => h) (by rfl) ?_ hS ?_
        rotate_left
        · intro u
          go_simp
          try with_reducible rfl
        try simp only [List.getElem_toArray, List.getElem_cons_succ, List.getElem_cons_zero, Act.put, List.setIfInBounds_toArray, List.set_cons_zero, List.set_cons_succ]
        refine wpAnyF_freeT (i := 20) (v := ?_) rfl (by kernel_rfl) (by kernel_rfl) (by kernel_rfl) (by kernel_rfl) (by kernel_rfl) (fun _ _ _ h => h) (by rfl) ?_ hS ?_
        rotate_left
        · intro u
          go_simp
          try with_reducible rfl
        try simp only [List.getElem_toArray, List.getElem_cons_succ, List.getElem_cons_zero, Act.put, List.setIfInBounds_toArray, List.set_cons_zero, List.set_cons_succ]
        refine wpAnyF_step (i := 22) (by kernel_rfl) rfl (by rfl) fun K hK => ?_
        go_simp
        refine hK _ _ (.inl (by kernel_rfl)) ?_
        clear hK K
        try simp only [List.getElem_toArray, List.getElem_cons_succ, List.getElem_cons_zero, Act.put, List.setIfInBounds_toArray, List.set_cons_zero, List.set_cons_succ]
        refine wpAnyF_step (i := 23) (by kernel_rfl) rfl (by rfl) fun K hK => ?_
        go_simp
        refine hK _ _ (.inl (by kernel_rfl)) ?_
        clear hK K
        try simp only [List.getElem_toArray, List.getElem_cons_succ, List.getElem_cons_zero, Act.put, List.setIfInBounds_toArray, List.set_cons_zero, List.set_cons_succ]
        refine wpAnyF_done (by kernel_rfl) ?_ _
        go_wp2_with fail
        go_meet
        exact ⟨_, xA, xc, yA, yc, tA, tc, rfl, rfl, Lib.hid ⟨StepBox.early hstp hbB ik.size (by simp), ((((iz.set ik.size _).set ik.size _).set ik.size _).set ik.size _).set ik.size _⟩⟩
    · go_simp
      refine hK _ _ (.inr (HS6.out _ (((Nw.refl w5).alloc _).drew))) ?_
      clear hK K
      try simp only [List.getElem_toArray, List.getElem_cons_succ, List.getElem_cons_zero, Act.put, List.setIfInBounds_toArray, List.set_cons_zero, List.set_cons_succ]
      refine wpAnyF_step (i := 6) (by kernel_rfl) rfl (by rfl) fun K hK => ?_
      go_simp
      go_at_call 61
      refine (KM.out _ (((Nw.refl w5).alloc _).drew)).mono ?_
      rintro x wk ⟨kA', kc', rfl, hkk, hnk⟩
      have ik : Nw w5 wk := Nw.step (((Nw.refl w5).alloc _).drew) hnk
      have hbK : Blk wk w5.heap.size 94 stepZ := Blk.below (Blk.last w5 _ _ rfl).drew hnk (by simp)
      have hS := HS6.out wk ik
      refine hK _ _ (.inr (HS6.out wk ik)) ?_
      clear hK K
      try simp only [List.getElem_toArray, List.getElem_cons_succ, List.getElem_cons_zero, Act.put, List.setIfInBounds_toArray, List.set_cons_zero, List.set_cons_succ]
      refine wpAnyF_step (i := 17) (by kernel_rfl) rfl (by rfl) fun K hK => ?_
      go_simp
      go_at_call 62
      refine (KR.out _ _ _ (hkk) (ik)).mono ?_
      rintro x wz ⟨xA, xc, yA, yc, tA, tc, rfl, hstp, bz⟩
      have iz : Nw w5 wz := Nw.step (ik) bz
      have hbA : Blk wz w5.heap.size 94 stepZ := Blk.below hbK bz hbK.lt
      obtain ⟨⟨y0, y1, y2, y3, y4⟩, v0, v1, v2, v3, v4⟩ := stepZ_cells hbA
      have hS := HS6.out wz iz
      refine hK _ _ (.inr (HS6.out wz iz)) ?_
      clear hK K
      try simp only [List.getElem_toArray, List.getElem_cons_succ, List.getElem_cons_zero, Act.put, List.setIfInBounds_toArray, List.set_cons_zero, List.set_cons_succ]
      refine wpAnyF_freeT (i := 18) (v := ?_) rfl (by kernel_rfl) (by kernel_rfl) (by kernel_rfl) (by kernel_rfl) (by kernel_rfl) (fun _ _ _ h => h) (by rfl) ?_ hS ?_
      rotate_left
      · intro u
        go_simp
        try with_reducible rfl
      try simp only [List.getElem_toArray, List.getElem_cons_succ, List.getElem_cons_zero, Act.put, List.setIfInBounds_toArray, List.set_cons_zero, List.set_cons_succ]
      refine wpAnyF_freeT (i := 19) (v := ?_) rfl (by kernel_rfl) (by kernel_rfl) (by kernel_rfl) (by kernel_rfl) (by kernel_rfl) (fun _ _ _ h => h) (by rfl) ?_ hS ?_
      rotate_left
      · intro u
        go_simp
        try with_reducible rfl
      try simp only [List.getElem_toArray, List.getElem_cons_succ, List.getElem_cons_zero, Act.put, List.setIfInBounds_toArray, List.set_cons_zero, List.set_cons_succ]
      refine wpAnyF_freeT (i := 20) (v := ?_) rfl (by kernel_rfl) (by kernel_rfl) (by kernel_rfl) (by kernel_rfl) (by kernel_rfl) (fun _ _ _ h => h) (by rfl) ?_ hS ?_
      rotate_left
      · intro u
        go_simp
        try with_reducible rfl
      try simp only [List.getElem_toArray, List.getElem_cons_succ, List.getElem_cons_zero, Act.put, List.setIfInBounds_toArray, List.set_cons_zero, List.set_cons_succ]
      refine wpAnyF_step (i := 22) (by kernel_rfl) rfl (by rfl) fun K hK => ?_
      go_simp
      refine hK _ _ (.inl (by kernel_rfl)) ?_
      clear hK K
      try simp only [List.getElem_toArray, List.getElem_cons_succ, List.getElem_cons_zero, Act.put, List.setIfInBounds_toArray, List.set_cons_zero, List.set_cons_succ]
      refine wpAnyF_step (i := 23) (by kernel_rfl) rfl (by rfl) fun K hK => ?_
      go_simp
      refine hK _ _ (.inl (by kernel_rfl)) ?_
      clear hK K
      try simp only [List.getElem_toArray, List.getElem_cons_succ, List.getElem_cons_zero, Act.put, List.setIfInBounds_toArray, List.set_cons_zero, List.set_cons_succ]
      refine wpAnyF_done (by kernel_rfl) ?_ _
      go_wp2_with fail
      go_meet
      exact ⟨_, xA, xc, yA, yc, tA, tc, rfl, rfl, Lib.hid ⟨StepBox.early hstp hbA (Nat.le_refl _) hbK.lt, ((((iz.set (Nat.le_refl _) _).set (Nat.le_refl _) _).set (Nat.le_refl _) _).set (Nat.le_refl _) _).set (Nat.le_refl _) _⟩⟩
  case rest =>
    obtain ⟨XB, xA, xc, yA, yc, tA, tc, rfl, rfl, HX⟩ := hcut
    obtain ⟨ww6, hww6⟩ : ∃ ww6, ww6 = wc := ⟨_, rfl⟩
    subst hww6
    have n6 := HX.out.2
    have hbx := HX.out.1.1
    have x0 : ww6.cell? ⟨XB, 0, none⟩ = some (.slice xA v.vars.length xc) := hbx.cell 0
    have x1 : ww6.cell? ⟨XB, 1, none⟩ = some (.int .i64 v.sent) := hbx.cell 1
    have x2 : ww6.cell? ⟨XB, 2, none⟩ = some (.int .i64 v.drawn) := hbx.cell 2
    have b2 : ww6.cell? ⟨r.RB, 2, none⟩ = some (.slice (some ⟨r.sB, r.so, none⟩) N r.sc) := n6.cell ((HBR5.out.cell 2).trans (by rw [HNN.out]; rfl))
    have e3 : ww6.cell? ⟨EB, 3, none⟩ = some (.int .i64 ((i : Int) + 1)) := n6.cell (HBE5.out.cell 3)
    have hst6 := HST5.out.below n6 HST5.out.lt
    have q0 := n6.cell HCU.out.1
    have q1 := n6.cell HCU.out.2.1
    have q2 := n6.cell HCU.out.2.2
    have z0 := hst6.frozen (r.so + i * 3)
    have z1 := hst6.frozen (r.so + i * 3 + 1)
    have z2 := hst6.frozen (r.so + i * 3 + 2)
    have N6 := Lib.hid n6
    have HST6 := Lib.hid hst6
    clear n6 hbx hst6 HS6 KR KM HS HB4 HN34 HC34
    go_upto_region 7 with (fail)
    go_cut [] (fun wx => Hid (Blk wx r.sB 65 (cur3 cur (r.so + i * 3) (.slice xA v.vars.length xc) (.int .i64 v.sent) (.int .i64 v.drawn)) ∧ Chg (fun k => k = r.sB) ww6 wx))
    case first =>
      go_region
      all_goals
        go_wp2_with fail
        go_meet
        exact Lib.hid ⟨((HST6.out.drew.set_ _ _).set_ _ _).set_ _ _, (((Chg.refl (fun k => k = r.sB) ww6).drew.setCell (p := ⟨r.sB, _, none⟩) (.inl rfl) _).setCell (p := ⟨r.sB, _, none⟩) (.inl rfl) _).setCell (p := ⟨r.sB, _, none⟩) (.inl rfl) _⟩
    case rest =>
      have H7 := hcut
      obtain ⟨ww7, hww7⟩ : ∃ ww7, ww7 = wc := ⟨_, rfl⟩
      subst hww7
      clear x0 x1 x2 b2 e3 q0 q1 q2 z0 z1 z2 k1 k2 k3 k4
      have hne := HR.out.ne
      have hs35 : w3.heap.size ≤ w5.heap.size := HC35.out.size
      have hs03 : w.heap.size ≤ w3.heap.size := N03.out.size
      have hsl0 : r.sB < w.heap.size := HR.out.lt _ (.inr (.inl rfl))
      have hq7 : ∀ g, w5.heap.size ≤ g → ¬ (g = r.sB) := fun g hg q => by omega
      have hx7 := HX.out.1.turn H7.out.2 hq7
      have hbR7 := (HBR5.out.below N6.out HBR5.out.lt).chg H7.out.2 hne.1
      have hb6lt : ∀ g, b6 = some g → g < w5.heap.size := HO5.out.lt
      have hO7 := (HO5.out.kept fun g hg => N6.out.block g (HO5.out.lt g hg)).chg H7.out.2 (fun g hg q => by have := HB6.out g hg; omega)
      have hsl : v.sends.length ≤ 4 := by have h1 := HMN.out.2.2.1; rw [HV.out] at h1; exact h1
      have hr6 : ∀ r ∈ v.sends, r.length = 6 := fun r hr => by
        obtain ⟨j, hj, rfl⟩ := List.getElem_of_mem hr
        have h1 := HMN.out.2.2.2.2.2.2.1
        rw [HV.out] at h1
        obtain ⟨x, ex, _⟩ := h1 j hj
        rw [ex]; rfl
      have hrdS : Rd ww7 yA (ints (rows (v.sends.map evOf))) := by rw [← rows_flat v.sends hr6]; exact hx7.2.1.2.1
      have hsn : (ints (rows (v.sends.map evOf))).length = v.sends.length * 6 := by rw [ints_length, rows_length, List.length_map]
      have hyb : ∀ b o, yA = some ⟨b, o, none⟩ → w5.heap.size ≤ b ∨ v.sends = [] := hx7.2.1.2.2.2.2.2.2.1
      have hbE7 := (HBE5.out.below N6.out HBE5.out.lt).chg H7.out.2 (show ¬ EB = r.sB from fun q => by have := HEO.out.1; omega)
      have hbO7 := (HBO5.out.below N6.out HBO5.out.lt).chg H7.out.2 (show ¬ OB = r.sB from fun q => by have := HEO.out.2.1; omega)
      have hs8 : ∀ W, Chg (fun g => some g = b6) ww7 W → W.cell? ⟨r.RB, 3, none⟩ = some (.slice A6 q c6) ∧ W.cell? ⟨XB, 3, none⟩ = some (.slice yA v.sends.length yc) := fun W hW =>
        ⟨(hbR7.chg hW (fun q => by have := HB6.out _ q.symm; have := HRLT.out; omega)).cell 3, (hx7.1.chg hW (fun q => by have := hb6lt _ q.symm; have := hx7.2.2; omega)).cell 3⟩
      have HS8 := Lib.hid hs8
      have HX7 := Lib.hid hx7
      have HBR7 := Lib.hid hbR7
      have HO7 := Lib.hid hO7
      have HRS := Lib.hid hrdS
      have HSN := Lib.hid hsn
      have HBE7 := Lib.hid hbE7
      have HBO7 := Lib.hid hbO7
      have HB6L := Lib.hid hb6lt
      have HSZ := Lib.hid (⟨hs35, hs03, hsl0⟩ : _ ∧ _ ∧ _)
      have hq9 : q ≤ 9000 := by have := HQN.out; have := HN.out; have := HW9.out; omega
      obtain ⟨ns, hns⟩ : ∃ ns, v.sends.length = ns := ⟨_, rfl⟩
      have HNS := Lib.hid hns
      rw [hns] at hsl HSN HS8
      clear hne hs35 hs03 hsl0 hq7 hx7 hbR7 hb6lt hO7 hr6 hrdS hsn hyb hbE7 hbO7 hs8 hns
      go_upto_region 8 with (fail)
      refine wp_region_F (fun W => W.cell? ⟨r.RB, 3, none⟩ = some (.slice A6 q c6) ∧ W.cell? ⟨XB, 3, none⟩ = some (.slice yA ns yc)) [10] (by kernel_rfl) ?_
      have hS := HS8.out ww7.drew (Chg.refl _ ww7).drew
      refine wpAnyF_takeT (i := 0) (v := ?_) rfl (by kernel_rfl) (by kernel_rfl) (by kernel_rfl) (by kernel_rfl) (by kernel_rfl) (by kernel_rfl) (fun _ _ _ h => h) (by rfl) ?_ hS ?_
      rotate_left
      · intro u hu
        try dsimp only at hu
        go_simp
        try with_reducible rfl
      try simp only [List.getElem_toArray, List.getElem_cons_succ, List.getElem_cons_zero, Act.put, List.setIfInBounds_toArray, List.set_cons_zero, List.set_cons_succ]
      refine wpAnyF_takeT (i := 1) (v := ?_) rfl (by kernel_rfl) (by kernel_rfl) (by kernel_rfl) (by kernel_rfl) (by kernel_rfl) (by kernel_rfl) (fun _ _ _ h => h) (by rfl) ?_ hS ?_
      rotate_left
      · intro u hu
        try dsimp only at hu
        go_simp
        try with_reducible rfl
      try simp only [List.getElem_toArray, List.getElem_cons_succ, List.getElem_cons_zero, Act.put, List.setIfInBounds_toArray, List.set_cons_zero, List.set_cons_succ]
      refine wpAnyF_takeT (i := 2) (v := ?_) rfl (by kernel_rfl) (by kernel_rfl) (by kernel_rfl) (by kernel_rfl) (by kernel_rfl) (by kernel_rfl) (fun _ _ _ h => h) (by rfl) ?_ hS ?_
      rotate_left
      · intro u hu
        try dsimp only at hu
        go_simp
        try with_reducible rfl
      try simp only [List.getElem_toArray, List.getElem_cons_succ, List.getElem_cons_zero, Act.put, List.setIfInBounds_toArray, List.set_cons_zero, List.set_cons_succ]
      refine wpAnyF_takeT (i := 3) (v := ?_) rfl (by kernel_rfl) (by kernel_rfl) (by kernel_rfl) (by kernel_rfl) (by kernel_rfl) (by kernel_rfl) (fun _ _ _ h => h) (by rfl) ?_ hS ?_
      rotate_left
      · intro u hu
        try dsimp only at hu
        go_simp
        try with_reducible rfl
      try simp only [List.getElem_toArray, List.getElem_cons_succ, List.getElem_cons_zero, Act.put, List.setIfInBounds_toArray, List.set_cons_zero, List.set_cons_succ]
      refine wpAnyF_takeT (i := 4) (v := ?_) rfl (by kernel_rfl) (by kernel_rfl) (by kernel_rfl) (by kernel_rfl) (by kernel_rfl) (by kernel_rfl) (fun _ _ _ h => h) (by rfl) ?_ hS ?_
      rotate_left
      · intro u hu
        try dsimp only at hu
        go_simp
        try with_reducible rfl
      try simp only [List.getElem_toArray, List.getElem_cons_succ, List.getElem_cons_zero, Act.put, List.setIfInBounds_toArray, List.set_cons_zero, List.set_cons_succ]
      refine wpAnyF_takeT (i := 5) (v := ?_) rfl (by kernel_rfl) (by kernel_rfl) (by kernel_rfl) (by kernel_rfl) (by kernel_rfl) (by kernel_rfl) (fun _ _ _ h => h) (by rfl) ?_ hS ?_
      rotate_left
      · intro u hu
        try dsimp only at hu
        go_simp
        try with_reducible rfl
      try simp only [List.getElem_toArray, List.getElem_cons_succ, List.getElem_cons_zero, Act.put, List.setIfInBounds_toArray, List.set_cons_zero, List.set_cons_succ]
      refine wpAnyF_takeT (i := 6) (v := ?_) rfl (by kernel_rfl) (by kernel_rfl) (by kernel_rfl) (by kernel_rfl) (by kernel_rfl) (by kernel_rfl) (fun _ _ _ h => h) (by rfl) ?_ hS ?_
      rotate_left
      · intro u hu
        try dsimp only at hu
        go_simp
        try with_reducible rfl
      try simp only [List.getElem_toArray, List.getElem_cons_succ, List.getElem_cons_zero, Act.put, List.setIfInBounds_toArray, List.set_cons_zero, List.set_cons_succ]
      refine wpAnyF_step (i := 7) (by kernel_rfl) rfl (by rfl) fun K hK => ?_
      refine wp_append_at ww7.drew _ _ 23 rfl 44 iE _ 6 48 Try.underlying23 HE1.out HE2.out HE3.out HE4.out rfl (by omega) _ q (ints (rows (s.w.eraseIdx j))) b6 rfl HO7.out _ ns yc (ints (rows (v.sends.map evOf))) rfl HSN.out HRS.out (ints_one _) (by simp only [maxLen]; omega) (by omega) ?_
      intro A8 c8 ww8 b8 hown8 hchg8 hat8
      have HO8 := Lib.hid hown8
      have HA8 := Lib.hid hat8
      have hc78 : Chg (fun g => some g = b6) ww7 ww8 := (Chg.refl (fun g => some g = b6) ww7).drew.trans hchg8 fun i _ q => q
      have HC78 := Lib.hid hc78
      have hb8 := HBR7.out.chg hc78 (fun q => by have := HB6.out _ q.symm; have := HRLT.out; have := HSZ.out.2.1; omega)
      have HBR8 := Lib.hid hb8
      have hbE8 := HBE7.out.chg hc78 (fun q => by
        obtain ⟨cs, hcs⟩ := HO7.out.tyB EB q.symm
        have := HB6.out EB q.symm
        have := HEB3.out
        omega)
      have hbO8 := HBO7.out.chg hc78 (fun q => by have := HB6.out OB q.symm; have := HOB3.out; omega)
      have hbX8 := HX7.out.1.chg hc78 (fun q => by have := HB6L.out _ q.symm; have := HX7.out.2.2; omega)
      have HBE8 := Lib.hid hbE8
      have HBO8 := Lib.hid hbO8
      have HBX8 := Lib.hid hbX8
      have f3 := hb8.frozen 3
      have f5 := hb8.frozen 5
      have f6 := hb8.frozen 6
      have d3 := hb8.cell 3
      have d5 := hb8.cell 5
      have d6 := hb8.cell 6
      have e0 := hbE8.cell 0
      clear hown8 hat8 hchg8 hc78 hb8 hbE8 hbO8 hbX8
      have hS := HS8.out ww8 HC78.out
      refine hK _ _ (.inr (HS8.out ww8 HC78.out)) ?_
      clear hK K
      try simp only [List.getElem_toArray, List.getElem_cons_succ, List.getElem_cons_zero, Act.put, List.setIfInBounds_toArray, List.set_cons_zero, List.set_cons_succ]
      refine wpAnyF_step (i := 8) (by kernel_rfl) rfl (by rfl) fun K hK => ?_
      go_simp
      refine hK _ _ (.inr hS) ?_
      clear hK K
      try simp only [List.getElem_toArray, List.getElem_cons_succ, List.getElem_cons_zero, Act.put, List.setIfInBounds_toArray, List.set_cons_zero, List.set_cons_succ]
      refine wpAnyF_step (i := 9) (by kernel_rfl) rfl (by rfl) fun K hK => ?_
      go_simp
      refine hK _ _ (.inr hS) ?_
      clear hK K
      try simp only [List.getElem_toArray, List.getElem_cons_succ, List.getElem_cons_zero, Act.put, List.setIfInBounds_toArray, List.set_cons_zero, List.set_cons_succ]
      refine wpAnyF_step (i := 10) (by kernel_rfl) rfl (by rfl) fun K hK => ?_
      go_simp
      refine hK _ _ (.inl (by kernel_rfl)) ?_
      clear hK K
      try simp only [List.getElem_toArray, List.getElem_cons_succ, List.getElem_cons_zero, Act.put, List.setIfInBounds_toArray, List.set_cons_zero, List.set_cons_succ]
      refine wpAnyF_done (by kernel_rfl) ?_ _
      have b5 : ww8.cell? ⟨r.RB, 5, none⟩ = some (.int .i64 (s.done : Int)) := d5
      have HW8C := Lib.hid d3
      obtain ⟨ww9, hww9⟩ : ∃ ww9, ((ww8.setCell ⟨r.RB, 3, none⟩ (.slice A8 (q + ns) c8)).setCell ⟨r.RB, 5, none⟩ (.int .i64 ((s.done : Int) + 1))).setCell ⟨r.RB, 6, none⟩ (.int .i64 e.k.T) = ww9 := ⟨_, rfl⟩
      have HWW9 := Lib.hid hww9
      have k0 : (0 : Int) ≤ (s.done : Int) := by omega
      have k1 : (s.done : Int) ≤ 900 := by have := HD.out; omega
      clear hww9
      go_upto_region 11 with (fail)
      rw [HWW9.out]
      have hRO : r.RB ≠ OB := fun q => by have := HRLT.out; have := HEO.out.2.1; omega
      have hEX : EB ≠ r.RB := fun q => by have := HRLT.out; have := HEO.out; omega
      have hOX' : OB ≠ r.RB := fun q => hRO q.symm
      have hXX : XB ≠ r.RB := fun q => by have := HRLT.out; have := HX7.out.2.2; have := HSZ.out; omega
      have hb9 : Blk ww9 r.RB 42 #[.slice r.pA m.procs.length r.pc, .slice r.fA r.fn r.fc, .slice (some ⟨r.sB, r.so, none⟩) m.procs.length r.sc, .slice A8 (q + ns) c8, .slice r.uA s.put.length r.uc, .int .i64 ((s.done : Int) + 1), .int .i64 e.k.T] := by
        rw [← HWW9.out]; exact ((HBR8.out.set_ 3 _).set_ 5 _).set_ 6 _
      have hbE9 : Blk ww9 EB 44 #[.int .i64 e.k.T, .int .i64 e.k.O, .int .i64 e.k.S, .int .i64 ((i : Int) + 1), .int .i64 e.q, .int .i64 e.d] := by
        rw [← HWW9.out]; exact ((HBE8.out.far (p := ⟨r.RB, 3, none⟩) hEX _).far (p := ⟨r.RB, 5, none⟩) hEX _).far (p := ⟨r.RB, 6, none⟩) hEX _
      have hbO9 : Blk ww9 OB 44 #[.int .i64 0, .int .i64 0, .int .i64 0, .int .i64 0, .int .i64 0, .int .i64 0] := by
        rw [← HWW9.out]; exact ((HBO8.out.far (p := ⟨r.RB, 3, none⟩) hOX' _).far (p := ⟨r.RB, 5, none⟩) hOX' _).far (p := ⟨r.RB, 6, none⟩) hOX' _
      have hbX9 : Blk ww9 XB 94 #[.slice xA v.vars.length xc, .int .i64 v.sent, .int .i64 v.drawn, .slice yA v.sends.length yc, .slice tA v.tells.length tc] := by
        rw [← HWW9.out]; exact ((HBX8.out.far (p := ⟨r.RB, 3, none⟩) hXX _).far (p := ⟨r.RB, 5, none⟩) hXX _).far (p := ⟨r.RB, 6, none⟩) hXX _
      have x4 : ww9.cell? ⟨XB, 4, none⟩ = some (.slice tA v.tells.length tc) := hbX9.cell 4
      have e0' := e0
      clear e0
      have e0 : ww9.cell? ⟨EB, 0, none⟩ = some (.int .i64 e.k.T) := hbE9.cell 0
      have e1 : ww9.cell? ⟨EB, 1, none⟩ = some (.int .i64 e.k.O) := hbE9.cell 1
      have e2 : ww9.cell? ⟨EB, 2, none⟩ = some (.int .i64 e.k.S) := hbE9.cell 2
      have e3 : ww9.cell? ⟨EB, 3, none⟩ = some (.int .i64 ((i : Int) + 1)) := hbE9.cell 3
      have e4 : ww9.cell? ⟨EB, 4, none⟩ = some (.int .i64 e.q) := hbE9.cell 4
      have e5 : ww9.cell? ⟨EB, 5, none⟩ = some (.int .i64 e.d) := hbE9.cell 5
      have o0 : ww9.cell? ⟨OB, 0, none⟩ = some (.int .i64 0) := hbO9.cell 0
      have o1 : ww9.cell? ⟨OB, 1, none⟩ = some (.int .i64 0) := hbO9.cell 1
      have o2 : ww9.cell? ⟨OB, 2, none⟩ = some (.int .i64 0) := hbO9.cell 2
      have o3 : ww9.cell? ⟨OB, 3, none⟩ = some (.int .i64 0) := hbO9.cell 3
      have o4 : ww9.cell? ⟨OB, 4, none⟩ = some (.int .i64 0) := hbO9.cell 4
      have o5 : ww9.cell? ⟨OB, 5, none⟩ = some (.int .i64 0) := hbO9.cell 5
      obtain ⟨z0, z1, z2, z3, z4, z5⟩ := frz6 hbO9
      have hc89 : Chg (fun g => g = r.RB ∨ g = OB) ww8 ww9 := by
        rw [← HWW9.out]
        exact (((Chg.refl (fun g => g = r.RB ∨ g = OB) ww8).setCell (p := ⟨r.RB, 3, none⟩) (.inl (.inl rfl)) _).setCell (p := ⟨r.RB, 5, none⟩) (.inl (.inl rfl)) _).setCell (p := ⟨r.RB, 6, none⟩) (.inl (.inl rfl)) _
      have hsets : ∀ a0 a1 a2 a3 a4 a5, Chg (fun k => k = OB) ww9 ((((((ww9.setCell ⟨OB, 0, none⟩ a0).setCell ⟨OB, 1, none⟩ a1).setCell ⟨OB, 2, none⟩ a2).setCell ⟨OB, 3, none⟩ a3).setCell ⟨OB, 4, none⟩ a4).setCell ⟨OB, 5, none⟩ a5).drew := fun a0 a1 a2 a3 a4 a5 =>
        (((((((Chg.refl (fun k => k = OB) ww9).setCell (p := ⟨OB, 0, none⟩) (.inl rfl) _).setCell (p := ⟨OB, 1, none⟩) (.inl rfl) _).setCell (p := ⟨OB, 2, none⟩) (.inl rfl) _).setCell (p := ⟨OB, 3, none⟩) (.inl rfl) _).setCell (p := ⟨OB, 4, none⟩) (.inl rfl) _).setCell (p := ⟨OB, 5, none⟩) (.inl rfl) _).drew
      have HSETS := Lib.hid hsets
      have HC89 := Lib.hid hc89
      have HB9 := Lib.hid hb9
      have hXO : ¬ XB = OB := hbX9.ne_ hbO9 (by decide)
      have hOX : ¬ OB = XB := fun q => hXO q.symm
      have HRO := Lib.hid hRO
      clear hsets hc89 hb9 hbE9 hbO9 hbX9 hRO hEX hOX' hXX e0' b5 d3 d5 d6 f3 f5 f6 k0 k1
      go_region
      all_goals
        go_wp2_with fail
        refine bodyPost_ret (v := .tuple #[.agg #[.int .i64 e.k.T, .int .i64 e.k.O, .int .i64 e.k.S, .int .i64 ((i : Int) + 1), .int .i64 e.q, .int .i64 e.d], .slice tA v.tells.length tc, .int .i64 0]) (by simp [results, Try.results38, go_sem, o0, o1, o2, o3, o4, o5]) rfl ?_
        have hfc := HSETS.out (.int .i64 e.k.T) (.int .i64 e.k.O) (.int .i64 e.k.S) (.int .i64 ((i : Int) + 1)) (.int .i64 e.q) (.int .i64 e.d)
        obtain ⟨wf, hwf⟩ : ∃ wf, ((((((ww9.setCell ⟨OB, 0, none⟩ (.int .i64 e.k.T)).setCell ⟨OB, 1, none⟩ (.int .i64 e.k.O)).setCell ⟨OB, 2, none⟩ (.int .i64 e.k.S)).setCell ⟨OB, 3, none⟩ (.int .i64 ((i : Int) + 1))).setCell ⟨OB, 4, none⟩ (.int .i64 e.q)).setCell ⟨OB, 5, none⟩ (.int .i64 e.d)).drew = wf := ⟨_, rfl⟩
        rw [hwf] at hfc ⊢
        have hcf : Chg (fun g => g = r.RB ∨ g = OB) ww8 wf := HC89.out.trans hfc fun i _ q => .inr q
        have hbf := HB9.out.chg hfc HRO.out
        have hsz := HSZ.out
        have heo := HEO.out
        have hob3 := HOB3.out
        have hjj := HJ.out
        have hmle := min_less HR.out.ok.uniq hjj HMIN.out
        have hprm := perm_erase s.w j hjj
        simp only [HEV.out] at hmle hprm
        have haf := RSeq.after (w := w) (w5 := w5) (w6 := ww6) (w7 := ww7) (w8 := ww8) (wf := wf) (e := e) (rest := s.w.eraseIdx j) (i := i) (v := v) HR.out hprm hmle HI.out.1 HI.out.2.2 HV.out HST0.out HSTS.out (b2 := b6) (A3 := A8) (c3 := c8) (b3 := b8) (xA := xA) (xc := xc) (OB := OB)
          HC05.out (fun g hg => by have := HB6.out g hg; omega) HB6L.out N6.out H7.out.2 H7.out.1 HX7.out.2.1.1 HX7.out.2.1.2.2.2.2.2.1 HC78.out (by rw [HRES.out, HNS.out]; exact HO8.out)
          (fun g hg => (HA8.out).elim (fun q => .inl (q.symm.trans hg)) fun q => .inr (by rw [q] at hg; injection hg with hg; simp at hg; omega)) hcf (by omega) (by omega)
          (fun q => by
            have h6 := N6.out.size
            have h7 := H7.out.2.size
            rcases HA8.out with q2 | q2
            · have := HB6.out OB (q2.symm.trans q); omega
            · rw [q2] at q; injection q with q; simp at q; omega)
          (by rw [HRES.out, HNS.out]; exact hbf) HD.out HW9.out
        obtain ⟨r', a1, a2, a3, a4, a5, a6⟩ := haf
        refine ⟨j, hjj, HMIN.out, ?_⟩
        simp only [HEV.out]
        refine ⟨r', tA, tc, by unfold ev6; rw [HV.out, HI.out.2.1], a1, a2, a3, a4, a5, a6, ?_, ?_⟩
        · rw [HV.out]
          have hc7f : Chg (fun g => some g = b6 ∨ g = r.RB ∨ g = OB) ww7 wf := (HC78.out.mono fun i _ q => .inl q).trans hcf fun i _ q => .inr q
          exact (HX7.out.turn hc7f (fun g hg q => by
            have hr := HRLT.out
            rcases q with q | q | q
            · have := HB6L.out g q.symm; omega
            · omega
            · omega)).2.1.2.2.1
        · rw [HV.out]
          exact HX7.out.2.1.2.2.2.2.1
end
end Go.Proofs.Ytgijkgngldfdiaa
