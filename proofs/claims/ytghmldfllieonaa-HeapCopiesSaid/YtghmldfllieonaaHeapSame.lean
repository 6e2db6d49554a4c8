/- Our heaps: Same. Helper. -/
import Derived.Test.YtghmldfllieonaaHpD
import Derived.Test.YtghmldfllieonaaHeapSeqP
import Derived.Stop.RegionWithIn
import Derived.Sort.CutIn
import Derived.RangeFuncCalls
import Derived.Test.YtghmldfllieonaaQuietR
namespace Go.Proofs.Ytghmldfllieonaa
open Go.RowKit Go.Shelf Go.Maps
set_option linter.unusedVariables false
set_option linter.unusedSimpArgs false
attribute [local go_sem] Oper.semAt_some
set_option maxRecDepth 100000
theorem MapIs.found {w : World} {S : Nat} {f : Int → Int → Option Nat} {c : Nat} (h : MapIs w S f c) {O N : Int} (hO : W64 O) (hN : W64 N) {j : Nat} (hj : f O N = some j) :
    (Instr.lookup 55 (.map (some S)) (.agg #[.int .i64 O, .int .i64 N]) true).run Try.prog w = .ok (.tuple #[.int .i64 (j : Int), .bool true]) w := by
  obtain ⟨D, ho, _, hh, ha⟩ := h
  obtain ⟨v, ps, hrun, hv⟩ := ho.look_ok kName Try.underlying55 (zero_int w) (plainElem_int Try.underlying3 (by decide)) (key_nk hO hN)
  obtain ⟨x, rfl, hx, _⟩ := plainElem_int_inv Try.underlying3 hv
  rw [ha O N j hO hN hj] at hx
  injection hx with hx _
  injection hx with hx
  injection hx with _ hx
  rw [hh O N hO hN, hj] at hrun
  rw [hx]; exact hrun
theorem MapIs.lost {w : World} {S : Nat} {f : Int → Int → Option Nat} {c : Nat} (h : MapIs w S f c) {O N : Int} (hO : W64 O) (hN : W64 N) (hj : f O N = none) :
    ∃ v, (Instr.lookup 55 (.map (some S)) (.agg #[.int .i64 O, .int .i64 N]) true).run Try.prog w = .ok (.tuple #[.int .i64 v, .bool false]) w := by
  obtain ⟨v, hv⟩ := h.has hO hN
  rw [hj] at hv
  exact ⟨v, hv⟩
theorem results_boolcell {fn : Func} {p : Tmp} (h : fn.results = #[.cell p 4]) (tmps : Array Value) (w : World) (g : Nat) (v : Value) (hp : tmps.getD p undef = .pointer (some ⟨g, 0, none⟩)) (hg : w.cell? ⟨g, 0, none⟩ = some v) : (results fn tmps).run Try.prog w = .ok v w := by
  have hp' : tmps[p]?.getD undef = .pointer (some ⟨g, 0, none⟩) := by simpa using hp
  simp [results, h, hp', asAddr, loadVar, run_isAgg_plain Try.underlying4 rfl, hg, Sem.run_bind, Result.andThen]
theorem boxed_putObj {X : World} {D B : Nat} {t : TypeId} {v : Value} (h : Boxed X B t v) (hD : B ≠ D) (o : Obj) : Boxed (X.putObj D o) B t v := (World.putObj_heap_other hD).trans h
theorem keeps_nw {W W' : World} (h : Nw W W') : KeepsOthers W W' := ⟨h.size, fun k o hk _ => (h.block k (Array.getElem?_eq_some_iff.1 hk).1).trans hk⟩
theorem kb_ownS {α : Type} (b B : Nat) (W0 : World) (hb : b < B) (hB : b < W0.heap.size) : OwnFrom B (fun (_ : List α) W => Kb b W0 W ∧ W0.heap.size ≤ W.heap.size) := by
  intro s A A' row hs hg hr
  refine ⟨?_, Nat.le_trans hs.2 hg.size⟩
  refine (hg.block b (Nat.lt_of_lt_of_le hB hs.2) (fun e => ?_)).trans hs.1
  have := (hr b e.symm).1
  omega
set_option maxRecDepth 100000
set_option maxHeartbeats 4000000
set_option maxHeartbeats 16000000
theorem sameH_any (w : World) (gB S : Nat) (v0 : Value) (l : List It) (f : Int → Int → Option Nat) (blk : Option Nat) (hB S2 : Nat) (v2 : Value) (m : List It) (f2 : Int → Int → Option Nat) (blk2 : Option Nat) (h : HpS w gB S v0 l f blk) (h2 : HpS w hB S2 v2 m f2 blk2) (hl : l.length ≤ 100000) (hm : m.length ≤ 100000) :
    Calls Try.prog 23 #[.pointer (some ⟨gB, 0, none⟩), .pointer (some ⟨hB, 0, none⟩)] w fun e w' => ∃ b : Bool, e = .returned (.bool b) ∧ (b = true ↔ (∀ x ∈ l, x ∈ m) ∧ l.length = m.length) ∧ Nw w w' := by
  have K := Lib.hid (all_any ((w.alloc (.cells #[.pointer (some ⟨hB, 0, none⟩)] 24)).alloc (.cells #[.bool false] 4)) gB S v0 l f blk (h.new (((Below.refl _ w).alloc (Nat.le_refl _) _).alloc (by simp) _)) hl)
  obtain ⟨A2, c2, rfl, z1, z2, z3⟩ := h2.hm.ow.rd
  clear z1 z2 z3
  obtain ⟨q, hq⟩ : ∃ q, m.length = q := ⟨_, rfl⟩
  rw [hq] at h2 hm
  have H1 := Lib.hid h
  have H2 := Lib.hid h2
  have HQ := Lib.hid (And.intro hq hm)
  have HLL := Lib.hid hl
  clear h h2 hl hm hq
  refine (callsIn_wide (n := 4)).1 ?_
  refine callsIn_of_wp_marks Try.func23 rfl trivial ?_ rfl
  simp only [Try.ntmps23, List.size_toArray, List.length_nil, List.length_cons, Nat.reduceAdd, Nat.reduceSub, Array.replicate_succ, Array.replicate_zero, List.push_toArray, List.append_toArray, List.nil_append, List.cons_append]
  gi_wp2_with fail
  refine ⟨trivial, (callsIn_wide.2 K.out).mono ?_⟩
  rintro e w1 ⟨B, u, L, rfl, hp, ho, hBu, hBB, A, c, rfl, hN, hh⟩
  have n1 : Nw w w1 := (((Nw.refl w).alloc _).alloc _).step hN
  have bM : Boxed w1 w.heap.size 24 (.pointer (some ⟨hB, 0, none⟩)) := (hN.block w.heap.size (by simp; omega)).trans ((Boxed.new w 24 (.pointer (some ⟨hB, 0, none⟩))).alloc _)
  have bO : Boxed w1 (w.heap.size + 1) 4 (.bool false) := (hN.block (w.heap.size + 1) (by simp)).trans (by have := Boxed.new (w.alloc (.cells #[.pointer (some ⟨hB, 0, none⟩)] 24)) 4 (.bool false); rw [World.size_alloc] at this; exact this)
  have hB1 : B < w1.heap.size := World.block_lt_of_cell? w1 _ hBu
  obtain ⟨b, hb1, hb2, hA, hc⟩ : ∃ b, b < w1.heap.size ∧ w.heap.size + 2 ≤ b ∧ (0 < L.length → A = some ⟨b, 0, none⟩) ∧ ∀ i, i < L.length → ∀ j, j < 7 → w1.cell? ⟨b, 0 + i * 7 + j, none⟩ = (g L i).c[j]? := by
    by_cases h0 : 0 < L.length
    · obtain ⟨b, e1, e2, e3, e4⟩ := hh h0
      exact ⟨b, e3, by simpa using e2, fun _ => e1, e4⟩
    · exact ⟨B, hB1, by simpa using hBB, fun h => absurd h h0, fun i hi => by omega⟩
  have hLn : L.length ≤ 100000 := by rw [hp.length_eq]; exact HLL.out
  have ST := fun n hn => all1_stopsP Fence.wide n trivial rfl hn B b 0 c A L (by omega) w1 hBu hA hc hB1 hb1
  have N1 := Lib.hid n1
  have BM := Lib.hid bM
  have BO := Lib.hid bO
  have HB1 := Lib.hid (And.intro hb1 hb2)
  have HST := Lib.hid ST
  have HP := Lib.hid hp
  clear n1 bM bO hBu hBB hN hc hA hh hB1 hb1 hb2 ST K hp ho hLn
  gi_wp2_with fail
  refine wpIn_rangeFunc_ownH rfl (by omega) (gf := 48) (lb := #[.pointer (some ⟨B, 0, none⟩)]) rfl trivial (enters_of Try.func48 (by kernel_rfl) rfl)
    (HST.out _ (by omega)) (fun h1 h2 => h2.trans h1) (fun W l o o' hl ho _ _ => World.putObj_heap_other (by have := HB1.out; omega)) (Below.refl _ _) (fun _ => rfl)
    (fun pre W => (∀ y ∈ pre.map Subtype.val, y ∈ m) ∧ (Boxed W w.heap.size 24 (.pointer (some ⟨hB, 0, none⟩)) ∧ Boxed W (w.heap.size + 1) 4 (.bool false)) ∧ (Kb b w1 W ∧ w1.heap.size ≤ W.heap.size) ∧ Below w.heap.size w W)
    (fun c pre W => (c = .ret ∧ ∃ y ∈ L, y ∉ m) ∧ (Boxed W w.heap.size 24 (.pointer (some ⟨hB, 0, none⟩)) ∧ Boxed W (w.heap.size + 1) 4 (.bool false)) ∧ (Kb b w1 W ∧ w1.heap.size ≤ W.heap.size) ∧ Below w.heap.size w W)
    (OwnFrom.and (OwnFrom.pure (fun pre : List {x : It // x ∈ L} => ∀ y ∈ pre.map Subtype.val, y ∈ m)) (OwnFrom.and (OwnFrom.and (Own.from (boxed_own _ _ _) _) (Own.from (boxed_own _ _ _) _)) (OwnFrom.and (kb_ownS b _ w1 HB1.out.1 HB1.out.1) (ownFrom_below (Nat.le_refl _) N1.out.size))))
    (fun c => OwnFrom.and (OwnFrom.pure (fun pre : List {x : It // x ∈ L} => c = .ret ∧ ∃ y ∈ L, y ∉ m)) (OwnFrom.and (OwnFrom.and (Own.from (boxed_own _ _ _) _) (Own.from (boxed_own _ _ _) _)) (OwnFrom.and (kb_ownS b _ w1 HB1.out.1 HB1.out.1) (ownFrom_below (Nat.le_refl _) N1.out.size))))
    ⟨fun y hy => by simp at hy, ⟨BM.out, BO.out⟩, ⟨rfl, Nat.le_refl _⟩, N1.out⟩
    (fun x a' W => ∃ Bx, w1.heap.size ≤ Bx ∧ W.heap[Bx]? = some (.cells #[.int .i64 x.1.k.T, .int .i64 x.1.k.O, .int .i64 x.1.k.S, .int .i64 x.1.p, .int .i64 x.1.q, .int .i64 x.1.d, .int .i64 x.1.n] 36 (0, 0)) ∧ a' = { tmps := #[.pointer (some ⟨gB, 0, none⟩), .pointer (some ⟨hB, 0, none⟩), undef, .pointer (some ⟨w.heap.size, 0, none⟩), .pointer (some ⟨w.heap.size + 1, 0, none⟩), .pointer (some ⟨Bx, 0, none⟩), undef, undef, .pointer (some ⟨gB, 0, none⟩), .bool false, .bool false, .pointer (some ⟨hB, 0, none⟩), .bool false, .bool false, undef, undef, undef, undef, undef, undef, .pointer (some ⟨gB, 0, none⟩), .func (.func 48) #[] #[.pointer (some ⟨B, 0, none⟩)], .agg #[.int .i64 x.1.k.T, .int .i64 x.1.k.O, .int .i64 x.1.k.S, .int .i64 x.1.p, .int .i64 x.1.q, .int .i64 x.1.d, .int .i64 x.1.n], undef, undef, undef, undef, undef, undef, undef, undef, undef, undef, undef, undef, undef, undef, undef, undef, undef, undef, undef, undef, undef, undef, undef, undef, undef, undef, undef, undef], defers := [] })
    (fun x a' _ X Y row hs hg hr => by
      obtain ⟨Bx, h1, h2, h3⟩ := hs
      refine ⟨Bx, h1, (hg.block Bx (Array.getElem?_eq_some_iff.1 h2).1 (fun e => ?_)).trans h2, h3⟩
      obtain ⟨_, o, ho, hcl⟩ := hr Bx e.symm
      rw [h2] at ho; cases ho; cases hcl)
    ?assign ?body ?done ?stop
  case assign =>
    rintro l pre x W K ⟨hno, ⟨hb3, hb4⟩, ⟨hkb, hsz⟩, hBW⟩ hK
    have hblt : b < W.heap.size := by have := HB1.out; omega
    unfold It.c
    gi_wp2
    exact hK _ _ ((KeepsOthers.alloc _ _).from _) (Below.heap_alloc _ _ _ hblt) ⟨hno, ⟨hb3.alloc _, hb4.alloc _⟩, ⟨(Below.heap_alloc _ _ _ hblt).trans hkb, by simp; omega⟩, hBW.alloc hBW.size _⟩ ⟨W.heap.size, hsz, heap_last W _ rfl, rfl⟩
  case body =>
    rename_i Qq Kq Ha
    clear Ha Kq
    clear Qq
    rintro l' pre ⟨x, hx⟩ a' W hl' ⟨r, hr⟩ ⟨hno, ⟨hb3, hb4⟩, ⟨hkb, hsz⟩, hBW⟩ ⟨Bx, hBx, hX, rfl⟩ hlt
    have hxw : WOk x := H1.out.wf x (HP.out.mem_iff.1 hx)
    have hp2 := H2.out.new hBW
    have hbk2 : Blk W hB 57 #[.slice A2 q c2, .map (some S2)] := hp2.hm.bk
    have hXB : Blk W Bx 36 #[.int .i64 x.k.T, .int .i64 x.k.O, .int .i64 x.k.S, .int .i64 x.p, .int .i64 x.q, .int .i64 x.d, .int .i64 x.n] := hX
    have c3 : W.cell? ⟨w.heap.size, 0, none⟩ = some (.pointer (some ⟨hB, 0, none⟩)) := hb3.cell
    have cB0 : W.cell? ⟨hB, 0, none⟩ = some (.slice A2 q c2) := (hbk2.cell 0).trans rfl
    have cB1 : W.cell? ⟨hB, 1, none⟩ = some (.map (some S2)) := (hbk2.cell 1).trans rfl
    have k0 : W.cell? ⟨Bx, 0, none⟩ = some (.int .i64 x.k.T) := (hXB.cell 0).trans rfl
    have k1 : W.cell? ⟨Bx, 1, none⟩ = some (.int .i64 x.k.O) := (hXB.cell 1).trans rfl
    have k2 : W.cell? ⟨Bx, 2, none⟩ = some (.int .i64 x.k.S) := (hXB.cell 2).trans rfl
    have k3 : W.cell? ⟨Bx, 3, none⟩ = some (.int .i64 x.p) := (hXB.cell 3).trans rfl
    have k4 : W.cell? ⟨Bx, 4, none⟩ = some (.int .i64 x.q) := (hXB.cell 4).trans rfl
    have k5 : W.cell? ⟨Bx, 5, none⟩ = some (.int .i64 x.d) := (hXB.cell 5).trans rfl
    have k6 : W.cell? ⟨Bx, 6, none⟩ = some (.int .i64 x.n) := (hXB.cell 6).trans rfl
    have HC := Lib.hid (fun W' (hW : Nw W W') => (⟨hW.cell c3, hW.cell cB0, hW.cell cB1, hW.cell k0, hW.cell k1, hW.cell k2, hW.cell k3, hW.cell k4, hW.cell k5, hW.cell k6⟩ : W'.cell? ⟨w.heap.size, 0, none⟩ = some (.pointer (some ⟨hB, 0, none⟩)) ∧ W'.cell? ⟨hB, 0, none⟩ = some (.slice A2 q c2) ∧ W'.cell? ⟨hB, 1, none⟩ = some (.map (some S2)) ∧ W'.cell? ⟨Bx, 0, none⟩ = some (.int .i64 x.k.T) ∧ W'.cell? ⟨Bx, 1, none⟩ = some (.int .i64 x.k.O) ∧ W'.cell? ⟨Bx, 2, none⟩ = some (.int .i64 x.k.S) ∧ W'.cell? ⟨Bx, 3, none⟩ = some (.int .i64 x.p) ∧ W'.cell? ⟨Bx, 4, none⟩ = some (.int .i64 x.q) ∧ W'.cell? ⟨Bx, 5, none⟩ = some (.int .i64 x.d) ∧ W'.cell? ⟨Bx, 6, none⟩ = some (.int .i64 x.n)))
    have hmp := hp2.hm.mp
    have HMP := Lib.hid (fun W' (hW : Nw W W') => hmp.same (hW.block S2 hmp.lt))
    have hblt : b < W.heap.size := by have := HB1.out; omega
    -- what is left of the round's world
    have HEND := Lib.hid (fun W' (hW : Nw W W') => (⟨(keeps_nw hW).from _, hW.block b hblt, ⟨(hW.block w.heap.size hb3.lt).trans hb3, (hW.block (w.heap.size + 1) hb4.lt).trans hb4⟩, ⟨(hW.block b hblt).trans hkb, Nat.le_trans hsz hW.size⟩, hBW.trans (hW.mono hBW.size)⟩ : KeepsFrom w1.heap.size W W' ∧ Kb b W W' ∧ ((Boxed W' w.heap.size 24 (.pointer (some ⟨hB, 0, none⟩)) ∧ Boxed W' (w.heap.size + 1) 4 (.bool false)) ∧ (Kb b w1 W' ∧ w1.heap.size ≤ W'.heap.size) ∧ Below w.heap.size w W')))
    have HSET := Lib.hid (fun W' (hW : Nw W W') => (⟨(show Boxed W' (w.heap.size + 1) 4 (.bool false) from (hW.block (w.heap.size + 1) hb4.lt).trans hb4).cell, (show Boxed W' (w.heap.size + 1) 4 (.bool false) from (hW.block (w.heap.size + 1) hb4.lt).trans hb4).frozen⟩ : W'.cell? ⟨w.heap.size + 1, 0, none⟩ = some (.bool false) ∧ W'.frozen? ⟨w.heap.size + 1, 0, none⟩ = false))
    have HSTOP := Lib.hid (fun W' (hW : Nw W W') => (by
      obtain ⟨z1, z2, ⟨z3, z4⟩, ⟨z5, z6⟩, z7⟩ := HEND.out W' hW
      have hne : b ≠ w.heap.size + 1 := by have := HB1.out; omega
      exact ⟨⟨by have := z1.size; simpa [World.setCell] using this, fun k o hk1 hk2 hk3 => ((KeepsOthers.setCell W' ⟨w.heap.size + 1, 0, none⟩ (.bool false)).from w1.heap.size).same k o hk1 (z1.same k o hk1 hk2 hk3) hk3⟩, ⟨z3.other (by omega) _, z4.set _⟩, ⟨(Below.heap_setCell _ _ _ _ hne).trans z5, by simpa [World.setCell] using z6⟩, z7.setCell (p := ⟨w.heap.size + 1, 0, none⟩) (by simp) _⟩ : KeepsFrom w1.heap.size W (W'.setCell ⟨w.heap.size + 1, 0, none⟩ (.bool false)) ∧ ((Boxed (W'.setCell ⟨w.heap.size + 1, 0, none⟩ (.bool false)) w.heap.size 24 (.pointer (some ⟨hB, 0, none⟩)) ∧ Boxed (W'.setCell ⟨w.heap.size + 1, 0, none⟩ (.bool false)) (w.heap.size + 1) 4 (.bool false)) ∧ (Kb b w1 (W'.setCell ⟨w.heap.size + 1, 0, none⟩ (.bool false)) ∧ w1.heap.size ≤ (W'.setCell ⟨w.heap.size + 1, 0, none⟩ (.bool false)).heap.size) ∧ Below w.heap.size w (W'.setCell ⟨w.heap.size + 1, 0, none⟩ (.bool false)))))
    have HGO := Lib.hid (fun (hxm : x ∈ m) W' (hW : Nw W W') => (by
      obtain ⟨z1, z2, z3⟩ := HEND.out W' hW
      refine ⟨z1, z2, fun y hy => ?_, z3⟩
      rw [List.map_append] at hy
      rcases List.mem_append.1 hy with h | h
      · exact hno y h
      · simp at h; rw [h]; exact hxm : KeepsFrom w1.heap.size W W' ∧ Kb b W W' ∧ (∀ y ∈ (pre ++ [(⟨x, hx⟩ : {x : It // x ∈ L})]).map Subtype.val, y ∈ m) ∧ ((Boxed W' w.heap.size 24 (.pointer (some ⟨hB, 0, none⟩)) ∧ Boxed W' (w.heap.size + 1) 4 (.bool false)) ∧ (Kb b w1 W' ∧ w1.heap.size ≤ W'.heap.size) ∧ Below w.heap.size w W')))
    have HP2 := Lib.hid hp2
    have HNO := Lib.hid hno
    have HXL := Lib.hid hx
    clear hno hb3 hb4 hkb hsz hBW hX hXB hr hblt hmp hp2 hbk2
    cases hf : f2 x.k.O x.n with
    | none =>
      have hnm : x ∉ m := fun hxm => by
        obtain ⟨j, h1, _⟩ := HP2.out.nm.some hxm
        rw [hf] at h1; cases h1
      have HF := Lib.hid hf
      clear hf
      clear HST HP HP2 H1 H2 HLL BM BO
      gi_wp2_with fail
      gi_cut [6, 7] from 51 (fun s6 s7 wx => (∃ vv, s6 = .int .i64 vv) ∧ s7 = .bool false ∧ Nw W wx)
      case first =>
        rename_i J1 K1 hJ hK
        gi_region_with (refine ⟨trivial, ?_⟩; gi_at_call 40; refine (CallsIn.inRound l' (callsIn_wide.2 (of_any x _))).mono ?_; rintro e w4 ⟨rfl, hB4⟩; have hB5 : Below W.drew.heap.size W.drew w4 := hB4; have n4 : Nw W w4 := Nw.step (show Nw W W.drew from (Nw.refl W).drew) hB5; clear hB5 hB4; have d3 := (HC.out w4 n4).1; have dB := (HC.out w4 n4).2.2.1; obtain ⟨vv, lk⟩ := (HMP.out w4 n4).lost hxw.1 hxw.2 HF.out)
        all_goals
          refine hK _ _ (Met.intro (hJ _ _ ?_))
          (repeat apply Exists.intro)
          exact ⟨⟨⟨_, rfl⟩, rfl, by assumption⟩, rfl⟩
      case rest =>
        obtain ⟨⟨vv, rfl⟩, rfl, n4⟩ := hcut
        obtain ⟨e0, e1⟩ := HSET.out wc n4
        gi_wp2_with fail
        refine wpIn_region_quiet_litR (by kernel_rfl) (by kernel_rfl) (by kernel_rfl) ?_
        repeat (gi_big_quiet_step (fail))
        refine wpQuietIn_nil ?_
        intro _ hw'
        obtain ⟨nq, hw''⟩ := hw'
        subst hw''
        have hst := HSTOP.out (wc.drewN nq) (n4.step (Below.many (Nw.refl wc) _))
        gi_wp2_with fail
        exact ⟨hst.1, ⟨rfl, x, HXL.out, hnm⟩, hst.2⟩
    | some j =>
      obtain ⟨hjl, hjO, hjN⟩ := HP2.out.nm.2 _ _ _ hf
      have hjq : (j : Int) < (q : Int) := by have := HQ.out.1; omega
      have hki : j ≤ 100000 := by have := HQ.out; omega
      have how := HP2.out.hm.ow
      rw [HQ.out.1] at how
      obtain ⟨b2, o2, rfl, it⟩ := rdI_item (k := j) how.rdAt hjl
      have hxm : x ∈ m ↔ g m j = x := by
        constructor
        · intro hx
          obtain ⟨i, h1, _, h3⟩ := HP2.out.nm.some hx
          rw [hf] at h1
          injection h1 with h1
          rw [h1]; exact h3
        · intro h
          rw [← h]
          rw [g_get m j hjl]
          exact List.getElem_mem _
      have HXM := Lib.hid hxm
      have HF := Lib.hid hf
      have HIT := Lib.hid it
      clear hf it how hjl hjO hjN hxm
      clear HST HP HP2 H1 H2 HLL BM BO
      gi_wp2_with fail
      gi_cut [6, 7] from 51 (fun s6 s7 wx => s6 = .int .i64 (j : Int) ∧ s7 = .bool true ∧ Nw W wx)
      case first =>
        rename_i J1 K1 hJ hK
        gi_region_with (refine ⟨trivial, ?_⟩; gi_at_call 40; refine (CallsIn.inRound l' (callsIn_wide.2 (of_any x _))).mono ?_; rintro e w4 ⟨rfl, hB4⟩; have hB5 : Below W.drew.heap.size W.drew w4 := hB4; have n4 : Nw W w4 := Nw.step (show Nw W W.drew from (Nw.refl W).drew) hB5; clear hB5 hB4; have d3 := (HC.out w4 n4).1; have dB := (HC.out w4 n4).2.2.1; have lk := (HMP.out w4 n4).found hxw.1 hxw.2 HF.out)
        all_goals
          refine hK _ _ (Met.intro (hJ _ _ ?_))
          (repeat apply Exists.intro)
          exact ⟨⟨rfl, rfl, by assumption⟩, rfl⟩
      case rest =>
        obtain ⟨rfl, rfl, n4⟩ := hcut
        obtain ⟨e0, e1⟩ := HSET.out wc n4
        obtain ⟨d3, dB0, dB1, f0, f1, f2', f3, f4, f5, f6⟩ := HC.out wc n4
        obtain ⟨y, hy⟩ : ∃ y, g m j = y := ⟨_, rfl⟩
        rw [hy] at HXM HIT
        by_cases hxy : y = x
        · have hgo := HGO.out (HXM.out.2 hxy)
          subst hxy
          have u0 : wc.cell? ⟨b2, o2 + j * 7, none⟩ = some (.int .i64 y.k.T) := n4.cell (HIT.out 0 (by omega))
          have u1 : wc.cell? ⟨b2, o2 + j * 7 + 1, none⟩ = some (.int .i64 y.k.O) := n4.cell (HIT.out 1 (by omega))
          have u2 : wc.cell? ⟨b2, o2 + j * 7 + 2, none⟩ = some (.int .i64 y.k.S) := n4.cell (HIT.out 2 (by omega))
          have u3 : wc.cell? ⟨b2, o2 + j * 7 + 3, none⟩ = some (.int .i64 y.p) := n4.cell (HIT.out 3 (by omega))
          have u4 : wc.cell? ⟨b2, o2 + j * 7 + 4, none⟩ = some (.int .i64 y.q) := n4.cell (HIT.out 4 (by omega))
          have u5 : wc.cell? ⟨b2, o2 + j * 7 + 5, none⟩ = some (.int .i64 y.d) := n4.cell (HIT.out 5 (by omega))
          have u6 : wc.cell? ⟨b2, o2 + j * 7 + 6, none⟩ = some (.int .i64 y.n) := n4.cell (HIT.out 6 (by omega))
          gi_wp2_with fail
          refine wpIn_region_quiet_litR (by kernel_rfl) (by kernel_rfl) (by kernel_rfl) ?_
          repeat (gi_big_quiet_step (fail))
          refine wpQuietIn_nil ?_
          intro _ hw'
          obtain ⟨nq, hw''⟩ := hw'
          subst hw''
          have hst := hgo (wc.drewN nq) (n4.step (Below.many (Nw.refl wc) _))
          gi_wp2_with fail
          exact ⟨hst.1, hst.2.1, hst.2.2.1, hst.2.2.2⟩
        · have hno : x ∉ m := fun h => hxy (HXM.out.1 h)
          have hgo := HSTOP.out
          have HNM := Lib.hid (show ∃ y ∈ L, y ∉ m from ⟨x, HXL.out, hno⟩)
          clear hno HXL
          clear HGO HSTOP HNO HEND HSET HC hxw HXM
          obtain ⟨⟨x1, x2, x3⟩, x4, x5, x6, x7⟩ := x
          obtain ⟨⟨y1, y2, y3⟩, y4, y5, y6, y7⟩ := y
          have hne : ¬ (y1 = x1 ∧ y2 = x2 ∧ y3 = x3 ∧ y4 = x4 ∧ y5 = x5 ∧ y6 = x6 ∧ y7 = x7) := by rintro ⟨rfl, rfl, rfl, rfl, rfl, rfl, rfl⟩; exact hxy rfl
          have u0 : wc.cell? ⟨b2, o2 + j * 7, none⟩ = some (.int .i64 y1) := n4.cell (HIT.out 0 (by omega))
          have u1 : wc.cell? ⟨b2, o2 + j * 7 + 1, none⟩ = some (.int .i64 y2) := n4.cell (HIT.out 1 (by omega))
          have u2 : wc.cell? ⟨b2, o2 + j * 7 + 2, none⟩ = some (.int .i64 y3) := n4.cell (HIT.out 2 (by omega))
          have u3 : wc.cell? ⟨b2, o2 + j * 7 + 3, none⟩ = some (.int .i64 y4) := n4.cell (HIT.out 3 (by omega))
          have u4 : wc.cell? ⟨b2, o2 + j * 7 + 4, none⟩ = some (.int .i64 y5) := n4.cell (HIT.out 4 (by omega))
          have u5 : wc.cell? ⟨b2, o2 + j * 7 + 5, none⟩ = some (.int .i64 y6) := n4.cell (HIT.out 5 (by omega))
          have u6 : wc.cell? ⟨b2, o2 + j * 7 + 6, none⟩ = some (.int .i64 y7) := n4.cell (HIT.out 6 (by omega))
          have hcase : ¬ y1 = x1 ∨ (y1 = x1 ∧ ¬ y2 = x2) ∨ (y1 = x1 ∧ y2 = x2 ∧ ¬ y3 = x3) ∨ (y1 = x1 ∧ y2 = x2 ∧ y3 = x3 ∧ ¬ y4 = x4) ∨ (y1 = x1 ∧ y2 = x2 ∧ y3 = x3 ∧ y4 = x4 ∧ ¬ y5 = x5) ∨ (y1 = x1 ∧ y2 = x2 ∧ y3 = x3 ∧ y4 = x4 ∧ y5 = x5 ∧ ¬ y6 = x6) ∨ (y1 = x1 ∧ y2 = x2 ∧ y3 = x3 ∧ y4 = x4 ∧ y5 = x5 ∧ y6 = x6 ∧ ¬ y7 = x7) := by omega
          clear HIT hxy hne
          rcases hcase with h | ⟨rfl, h⟩ | ⟨rfl, rfl, h⟩ | ⟨rfl, rfl, rfl, h⟩ | ⟨rfl, rfl, rfl, rfl, h⟩ | ⟨rfl, rfl, rfl, rfl, rfl, h⟩ | ⟨rfl, rfl, rfl, rfl, rfl, rfl, h⟩
          all_goals
            gi_wp2_with fail
            refine wpIn_region_quiet_litR (by kernel_rfl) (by kernel_rfl) (by kernel_rfl) ?_
            repeat (gi_big_quiet_step (fail))
            refine wpQuietIn_nil ?_
            intro _ hw'
            obtain ⟨nq, hw''⟩ := hw'
            subst hw''
            have hst := hgo (wc.drewN nq) (n4.step (Below.many (Nw.refl wc) _))
            gi_wp2_with fail
            exact ⟨hst.1, ⟨rfl, HNM.out⟩, hst.2⟩
  case done =>
    rintro D ys W hD hys ⟨hno, ⟨hm3, hO⟩, ⟨hkb, hsz⟩, hBW⟩ hK
    have hg := H1.out.new hBW
    have hh := H2.out.new hBW
    have hg1 : HpS W.drew gB S v0 l f blk := hg.new (Below.refl _ W).drew
    have hh1 : HpS W.drew hB S2 (.slice A2 q c2) m f2 blk2 := hh.new (Below.refl _ W).drew
    have HG1 := Lib.hid hg1
    have HH1 := Lib.hid hh1
    have c3 : W.cell? ⟨w.heap.size, 0, none⟩ = some (.pointer (some ⟨hB, 0, none⟩)) := hm3.cell
    have e0 := hO.cell
    have e1 := hO.frozen
    have HM3 := Lib.hid hm3
    have HO := Lib.hid hO
    clear hg hh hg1 hh1 hm3 hO
    gi_wp2_with fail
    refine wpIn_noPan ?_
    gi_region_with (first | (refine ⟨trivial, ?_⟩; gi_at_call 18; refine (callsIn_wide.2 (len_any _ _ _ _ _ _ _ HG1.out)).mono ?_; rintro e w4 ⟨rfl, rfl⟩) | (refine ⟨trivial, ?_⟩; gi_at_call 18; refine (callsIn_wide.2 (len_any _ _ _ _ _ _ _ HH1.out)).mono ?_; rintro e w4 ⟨rfl, rfl⟩))
    all_goals
      dsimp only [NoPan]
      gi_wp2_with fail
      have hne : D ≠ w.heap.size + 1 := by have := HB1.out; omega
      have hO2 := HO.out.set (.bool ((l.length : Int) == (m.length : Int)))
      have hKD : (W.setCell ⟨w.heap.size + 1, 0, none⟩ (.bool ((l.length : Int) == (m.length : Int)))).heap[D]? = some (.deferred (some [])) := (Below.heap_setCell _ _ _ _ hne).trans hK
      refine ⟨by simp, .inl ⟨_, _, rfl, run_takeDeferred (w := (W.setCell ⟨w.heap.size + 1, 0, none⟩ (.bool ((l.length : Int) == (m.length : Int)))).drew) hKD, ?_⟩⟩
      refine ⟨_, results_boolcell rfl _ _ _ _ rfl (boxed_putObj hO2 (fun e => hne e.symm) _).cell, _, rfl, ?_, ?_⟩
      · rw [beq_iff_eq]
        constructor
        · intro h
          refine ⟨fun x hx => ?_, by omega⟩
          have hx2 : x ∈ L := HP.out.mem_iff.2 hx
          rw [← hys] at hx2
          exact hno x hx2
        · rintro ⟨_, h⟩
          omega
      · have hBS := hBW.setCell (p := ⟨w.heap.size + 1, 0, none⟩) (by simp) (.bool ((l.length : Int) == (m.length : Int)))
        exact (Below.drew hBS).trans (belowK_b (w := w) (Nat.le_refl _) _ D _ _ (by have := N1.out.size; omega) hKD rfl rfl)
  case stop =>
    rintro D c pre W hD hpre ⟨⟨rfl, y, hyL, hym⟩, ⟨hm3, hO⟩, ⟨hkb, hsz⟩, hBW⟩ hK
    have e0 := hO.cell
    have hne : D ≠ w.heap.size + 1 := by have := HB1.out; omega
    gi_wp2
    refine ⟨by simp, .inl ⟨_, _, rfl, run_takeDeferred hK, ?_⟩⟩
    refine ⟨_, results_boolcell rfl _ _ _ _ rfl (boxed_putObj hO (fun e => hne e.symm) _).cell, _, rfl, ?_, ?_⟩
    · constructor
      · intro h; cases h
      · rintro ⟨h, _⟩
        exact absurd (h y (HP.out.mem_iff.1 hyL)) hym
    · exact hBW.trans (belowK_b (w := w) (Nat.le_refl _) W D _ _ (by have := N1.out.size; omega) hK rfl rfl)
end Go.Proofs.Ytghmldfllieonaa
