/- Messages: what known() encodes. Helper. -/
import Derived.Test.YtnbcjjgilndlaaaRdDecQ
import Derived.Test.YtnbcjjgilndlaaaRdSameQ
import Derived.Test.YtnbcjjgilndlaaaRdReg
namespace Go.Proofs.Ytnbcjjgilndlaaa
open Go.RowKit
set_option linter.unusedVariables false
set_option linter.unusedSimpArgs false
set_option maxRecDepth 100000
set_option maxHeartbeats 6400000
theorem step_load_row {P : Program} {ops : Array Oper} {o : Oper} {a : Act} {w : World} {K : Act → World → Prop} {Q : Exit → Act → World → Prop} {E : Prop} (hgd : o.guard = none) (ty : TypeId) (x : Operand) (ho : o.op = .load ty x)
    (g : Nat) (hx : a.eval x = .pointer (some ⟨g, 0, none⟩)) (t : TypeId) (cs : Array Value) (fr : Nat × Nat) (d : TypeDesc) (hg : w.heap[g]? = some (.cells cs t fr))
    (hu : P.underlying ty = some d) (hd : (match d with | .struct _ | .array _ _ => true | _ => false) = true) (hi : (P.info? ty).map (·.size) = some cs.size)
    (h : K (a.put o.dst (.agg cs)) w) : if Region.wanted o (yielded ops a.tmps) = true then Oper.wp P o a w K Q else E := by
  rw [if_pos (by simp [Region.wanted, hgd])]
  exact wp_load_row ty x ho g hx t cs fr d hg hu hd hi h
theorem exec_load_row {P : Program} {o : Oper} {a : Act} {w : World} (ty : TypeId) (x : Operand) (ho : o.op = .load ty x)
    (g : Nat) (hx : a.eval x = .pointer (some ⟨g, 0, none⟩)) (t : TypeId) (cs : Array Value) (fr : Nat × Nat) (d : TypeDesc) (hg : w.heap[g]? = some (.cells cs t fr))
    (hu : P.underlying ty = some d) (hd : (match d with | .struct _ | .array _ _ => true | _ => false) = true) (hi : (P.info? ty).map (·.size) = some cs.size) :
    (execOp a.eval o).run P w = .ok (.value (.agg cs)) w := by
  unfold execOp
  simp only [ho, hx, Instr.loadAt, Instr.sureAddr, Sem.run_bind, Sem.run_pure, Result.andThen_ok, run_loadVar_row w g t ty cs fr d hg hu hd hi]
/-- A pen that is made, and a copy of the message. -/
structure Made (wc wx : World) (T : TypeId) (q : Array Value) (k : UInt8) (P M : Nat) (blk : Option Nat) : Prop where
  pen : PenW wx P [k] blk
  msg : Blk wx M T q
  ne : M ≠ P
  nw : Nw wc wx
  p : wc.heap.size ≤ P
  m : wc.heap.size ≤ M
  b : ∃ g, blk = some g ∧ wc.heap.size ≤ g
theorem own7 (w : World) (k : UInt8) {n : Nat} (hn : w.heap.size = n) : Own (w.alloc (.cells #[.int .u8 (k.toNat : Int)] 5)) 5 1 (.slice (some ⟨n, 0, none⟩) 1 1) 1 (bcells [k]) (some n) :=
  ⟨rfl, some ⟨n, 0, none⟩, 1, rfl, Nat.le_refl _, by simp [maxLen], .inr ⟨n, 0, #[.int .u8 (k.toNat : Int)], rfl, rfl, Blk.last w _ _ hn, by simp, by simp [bcells]⟩⟩
theorem made1 (wc : World) (T : TypeId) (q : Array Value) : Made wc (((wc.alloc (.cells #[.int .u8 ((7 : UInt8).toNat : Int)] 5)).alloc (.cells #[.slice (some ⟨wc.heap.size, 0, none⟩) 1 1, .bool false] 76)).alloc (.cells q T)).drew T q 7 (wc.heap.size + 1) (wc.heap.size + 1 + 1) (some wc.heap.size) := by
  refine ⟨⟨some ⟨wc.heap.size, 0, none⟩, 1, (((Blk.last (wc.alloc _) _ _ (by simp)).alloc _)).drew, ((own7 wc 7 rfl).kept fun g hg => ?_)⟩, (Blk.last _ _ _ (by simp)).drew, by omega, ((((Nw.refl wc).alloc _).alloc _).alloc _).drew, by omega, by omega, _, rfl, Nat.le_refl _⟩
  injection hg with hg
  rw [← hg]
  exact (Below.heap_alloc _ _ _ (by simp; omega)).trans (Below.heap_alloc _ _ _ (by simp))
theorem made2 (wc : World) (T : TypeId) (q : Array Value) : Made wc (((wc.alloc (.cells #[.int .u8 ((7 : UInt8).toNat : Int)] 5)).alloc (.cells q T)).alloc (.cells #[.slice (some ⟨wc.heap.size, 0, none⟩) 1 1, .bool false] 76)).drew T q 7 (wc.heap.size + 1 + 1) (wc.heap.size + 1) (some wc.heap.size) := by
  refine ⟨⟨some ⟨wc.heap.size, 0, none⟩, 1, (Blk.last _ _ _ (by simp)).drew, ((own7 wc 7 rfl).kept fun g hg => ?_)⟩, ((Blk.last (wc.alloc _) _ _ (by simp)).alloc _).drew, by omega, ((((Nw.refl wc).alloc _).alloc _).alloc _).drew, by omega, by omega, _, rfl, Nat.le_refl _⟩
  injection hg with hg
  rw [← hg]
  exact (Below.heap_alloc _ _ _ (by simp; omega)).trans (Below.heap_alloc _ _ _ (by simp))
theorem made3 (wc : World) (T : TypeId) (q : Array Value) : Made wc (((wc.alloc (.cells q T)).alloc (.cells #[.int .u8 ((7 : UInt8).toNat : Int)] 5)).alloc (.cells #[.slice (some ⟨wc.heap.size + 1, 0, none⟩) 1 1, .bool false] 76)).drew T q 7 (wc.heap.size + 1 + 1) wc.heap.size (some (wc.heap.size + 1)) := by
  refine ⟨⟨some ⟨wc.heap.size + 1, 0, none⟩, 1, (Blk.last _ _ _ (by simp)).drew, ((own7 (wc.alloc (.cells q T)) 7 (by simp)).kept fun g hg => ?_)⟩, (((Blk.last wc _ _ rfl).alloc _).alloc _).drew, by omega, ((((Nw.refl wc).alloc _).alloc _).alloc _).drew, by omega, by omega, _, rfl, by omega⟩
  injection hg with hg
  rw [← hg]
  exact Below.heap_alloc _ _ _ (by simp)
theorem wpList_load_row_g {P : Program} {ops : Array Oper} {rest : List Oper} {o : Oper} {a : Act} {w : World} {Q : Exit → Act → World → Prop} (hw : Region.wanted o (yielded ops a.tmps) = true) (ty : TypeId) (x : Operand) (ho : o.op = .load ty x)
    (g : Nat) (hx : a.eval x = .pointer (some ⟨g, 0, none⟩)) (t : TypeId) (cs : Array Value) (fr : Nat × Nat) (d : TypeDesc) (hg : w.heap[g]? = some (.cells cs t fr))
    (hu : P.underlying ty = some d) (hd : (match d with | .struct _ | .array _ _ => true | _ => false) = true) (hi : (P.info? ty).map (·.size) = some cs.size)
    (h : wpList P ops Q rest (a.put o.dst (.agg cs)) w) : wpList P ops Q (o :: rest) a w :=
  wpList_step fun K hK => by rw [if_pos hw]; exact wp_load_row ty x ho g hx t cs fr d hg hu hd hi (hK _ _ h)
/-- Where the pen is made: all that the encoding goes on from. -/
structure Enc (w W : World) (T FT : TypeId) (tab f : Nat) (q : Array Value) (k : UInt8) (P M : Nat) (blk : Option Nat) : Prop where
  pen : PenW W P [k] blk
  msg : Blk W M T q
  ne : M ≠ P
  nw : Nw w W
  tabs : Blk W tab FT #[.func (.func f) #[] #[]]
  own : Blk W w.heap.size T q
  p : tab < P
  m : tab < M
  b : ∃ g, blk = some g ∧ tab < g
theorem Made.enc {w wc wx : World} {T FT : TypeId} {tab f : Nat} {q : Array Value} {k : UInt8} {P M : Nat} {blk : Option Nat} (h : Made wc wx T q k P M blk) (hn : Nw w wc) (ht : Blk wc tab FT #[.func (.func f) #[] #[]]) (ho : Blk wc w.heap.size T q) : Enc w wx T FT tab f q k P M blk := by
  obtain ⟨g, hg1, hg2⟩ := h.b
  have := ht.lt
  exact ⟨h.pen, h.msg, h.ne, Below.trans hn (h.nw.mono hn.size), ht.below h.nw ht.lt, ho.below h.nw ho.lt, Nat.lt_of_lt_of_le ht.lt h.p, Nat.lt_of_lt_of_le ht.lt h.m, g, hg1, Nat.lt_of_lt_of_le ht.lt hg2⟩
theorem beN_beW4 (v : Int) (hv : 0 ≤ v ∧ v < 4294967296) : (beN (beW v 4) : Int) = v := by
  simp only [beW, beN, List.foldl_cons, List.foldl_nil]
  have h := fun i => byteOf_cell v i
  have h0 := h 0; have h1 := h 1; have h2 := h 2; have h3 := h 3
  rw [IntKind.wrap_u8] at h0 h1 h2 h3
  simp only [Nat.mul_zero, Nat.reduceMul, Int.reducePow] at h0 h1 h2 h3
  omega
theorem encPause (w : World) (v : Int) (hv : 0 ≤ v ∧ v < 4294967296) :
    Calls Try.prog 17 #[.agg #[.int .i64 7, .int .u32 v, .int .i64 0, .slice none 0 0, .int .i64 0, .int .i64 0, .int .i64 0, .int .i64 0, .int .i64 0, .int .i64 0, .int .u32 0, .int .i64 0, .int .i64 0, .int .i64 0, .int .i64 0, .int .i64 0, .int .i64 0]] w fun e w' => ∃ A c, e = .returned (.tuple #[.slice A 5 c, .int .i64 0]) ∧ BytesAt w' A (7 :: beW v 4) ∧ 5 ≤ c ∧ Nw w w' := by
  obtain ⟨w1, hw1⟩ : ∃ w1, w.alloc (.cells #[.int .i64 7, .int .u32 v, .int .i64 0, .slice none 0 0, .int .i64 0, .int .i64 0, .int .i64 0, .int .i64 0, .int .i64 0, .int .i64 0, .int .u32 0, .int .i64 0, .int .i64 0, .int .i64 0, .int .i64 0, .int .i64 0, .int .i64 0] 33) = w1 := ⟨_, rfl⟩
  have hM : Blk w1 w.heap.size 33 #[.int .i64 7, .int .u32 v, .int .i64 0, .slice none 0 0, .int .i64 0, .int .i64 0, .int .i64 0, .int .i64 0, .int .i64 0, .int .i64 0, .int .u32 0, .int .i64 0, .int .i64 0, .int .i64 0, .int .i64 0, .int .i64 0, .int .i64 0] := by rw [← hw1]; exact Blk.last w _ _ rfl
  have n1 : Nw w w1 := by rw [← hw1]; exact (Nw.refl w).alloc _
  have s1 : w1.heap.size = w.heap.size + 1 := by rw [← hw1]; simp
  have k0 : w1.cell? ⟨w.heap.size, 0, none⟩ = some (.int .i64 7) := (hM.cell 0).trans rfl
  have HW1 := Lib.hid hw1
  have HM := Lib.hid hM
  have N1 := Lib.hid n1
  have S1 := Lib.hid s1
  have HV := Lib.hid hv
  have KA := Lib.hid (fun (W : World) (hs : W.heap.size = w.heap.size + 1) => by have := asks_any W; rw [hs] at this; exact this)
  clear hw1 hM n1 s1 hv
  go_enter Try.func17, Try.ntmps17
  go_upto_region 1 with (fail)
  rw [HW1.out]
  go_cut [4, 5] from 10 to 17 (fun s4 s5 wx => s4 = .slice (some ⟨w.heap.size + 1 + 7, 0, none⟩) 1 1 ∧ s5 = .bool true ∧ Hid (Nw w1 wx ∧ asksAt wx (w.heap.size + 1)))
  case first =>
   as_aux_lemma =>
    go_region_with (go_at_call 29; refine (KA.out w1.drew S1.out).mono ?_; rintro e w4 ⟨rfl, h4, b4⟩; have i4 : Nw w1 w4 := Nw.step (show Nw w1 w1.drew from (Nw.refl w1).drew) (by have hs : w1.drew.heap.size = w.heap.size + 1 := S1.out; rw [hs]; exact b4); have kk := i4.cell k0; have lk := look_run Try.underlying71 Try.underlying24 h4.tab 7 _ _ rfl; have H4 := Lib.hid h4; have I4 := Lib.hid i4; clear h4 i4 b4)
    all_goals
      go_wp2_with fail
      go_meet
      exact ⟨rfl, rfl, Lib.hid ⟨I4.out, H4.out⟩⟩
  case rest =>
    obtain ⟨rfl, rfl, HX⟩ := hcut
    clear k0
    have hQ : Blk wc w.heap.size 33 #[.int .i64 7, .int .u32 v, .int .i64 0, .slice none 0 0, .int .i64 0, .int .i64 0, .int .i64 0, .int .i64 0, .int .i64 0, .int .i64 0, .int .u32 0, .int .i64 0, .int .i64 0, .int .i64 0, .int .i64 0, .int .i64 0, .int .i64 0] := HM.out.below HX.out.1 HM.out.lt
    have HQ := Lib.hid hQ
    have HEN := Lib.hid (show Nw w wc from N1.out.trans (HX.out.1.mono N1.out.size))
    have HTB := Lib.hid (HX.out.2.p7)
    clear hQ
    go_upto_region 2 with (fail)
    go_cut [6, 7] from 17 to 24 (fun s6 s7 wx => ∃ P M, s6 = .pointer (some ⟨P, 0, none⟩) ∧ s7 = .pointer (some ⟨M, 0, none⟩) ∧ ∃ blk, Hid (Enc w wx 33 102 (w.heap.size + 1 + 7) 48 #[.int .i64 7, .int .u32 v, .int .i64 0, .slice none 0 0, .int .i64 0, .int .i64 0, .int .i64 0, .int .i64 0, .int .i64 0, .int .i64 0, .int .u32 0, .int .i64 0, .int .i64 0, .int .i64 0, .int .i64 0, .int .i64 0, .int .i64 0] 7 P M blk))
    case first =>
      as_aux_lemma =>
        obtain ⟨d, hd⟩ := stRq
        have HD := Lib.hid hd
        have HI := Lib.hid (show (Try.prog.info? 33).map (·.size) = some (#[.int .i64 7, .int .u32 v, .int .i64 0, .slice none 0 0, .int .i64 0, .int .i64 0, .int .i64 0, .int .i64 0, .int .i64 0, .int .i64 0, .int .u32 0, .int .i64 0, .int .i64 0, .int .i64 0, .int .i64 0, .int .i64 0, .int .i64 0] : Array Value).size by kernel_rfl)
        have HSW := Lib.hid (fun W (hW : Nw wc W) => (⟨hW, HQ.out.below hW HQ.out.lt⟩ : Nw wc W ∧ Blk W w.heap.size 33 #[.int .i64 7, .int .u32 v, .int .i64 0, .slice none 0 0, .int .i64 0, .int .i64 0, .int .i64 0, .int .i64 0, .int .i64 0, .int .i64 0, .int .u32 0, .int .i64 0, .int .i64 0, .int .i64 0, .int .i64 0, .int .i64 0, .int .i64 0]))
        clear hd
        refine wp_region_F (fun W => Nw wc W ∧ Blk W w.heap.size 33 #[.int .i64 7, .int .u32 v, .int .i64 0, .slice none 0 0, .int .i64 0, .int .i64 0, .int .i64 0, .int .i64 0, .int .i64 0, .int .i64 0, .int .u32 0, .int .i64 0, .int .i64 0, .int .i64 0, .int .i64 0, .int .i64 0, .int .i64 0]) [9] (by kernel_rfl) ?_
        have hS := HSW.out wc.drew (Nw.refl wc).drew
        refine wpAnyF_freeT (i := 0) (v := ?_) rfl (by kernel_rfl) (by kernel_rfl) (by kernel_rfl) (by kernel_rfl) (by kernel_rfl) (fun _ _ _ h => h) (by rfl) ?_ hS ?_
        rotate_left
        · intro u
          go_simp
          try with_reducible rfl
        try simp only [List.getElem_toArray, List.getElem_cons_succ, List.getElem_cons_zero, Act.put, List.setIfInBounds_toArray, List.set_cons_zero, List.set_cons_succ]
        refine wpAnyF_takeT (i := 1) (v := ?_) rfl (by kernel_rfl) (by kernel_rfl) (by kernel_rfl) (by kernel_rfl) (by kernel_rfl) (by kernel_rfl) (fun _ _ _ h => h) (by rfl) ?_ hS ?_
        rotate_left
        · intro u hu
          have hu1 : u.cell? ⟨w.heap.size, 0, none⟩ = some (.int .i64 7) := (hu.2.cell 0).trans rfl
          go_simp
          try with_reducible rfl
        try simp only [List.getElem_toArray, List.getElem_cons_succ, List.getElem_cons_zero, Act.put, List.setIfInBounds_toArray, List.set_cons_zero, List.set_cons_succ]
        refine wpAnyF_freeT (i := 2) (v := ?_) rfl (by kernel_rfl) (by kernel_rfl) (by kernel_rfl) (by kernel_rfl) (by kernel_rfl) (fun _ _ _ h => h) (by rfl) ?_ hS ?_
        rotate_left
        · intro u
          go_simp
          try with_reducible rfl
        try simp only [List.getElem_toArray, List.getElem_cons_succ, List.getElem_cons_zero, Act.put, List.setIfInBounds_toArray, List.set_cons_zero, List.set_cons_succ]
        refine wpAnyF_takeT (i := 6) (v := ?_) rfl (by kernel_rfl) (by kernel_rfl) (by kernel_rfl) (by kernel_rfl) (by kernel_rfl) (by kernel_rfl) (fun _ _ _ h => h) (by rfl) ?_ hS ?_
        rotate_left
        · intro u hu
          try simp only [List.getElem_toArray, List.getElem_cons_succ, List.getElem_cons_zero]
          refine Eq.trans (exec_load_row 33 _ rfl w.heap.size rfl 33 #[.int .i64 7, .int .u32 v, .int .i64 0, .slice none 0 0, .int .i64 0, .int .i64 0, .int .i64 0, .int .i64 0, .int .i64 0, .int .i64 0, .int .u32 0, .int .i64 0, .int .i64 0, .int .i64 0, .int .i64 0, .int .i64 0, .int .i64 0] (0, 0) (.struct d) hu.2 HD.out rfl HI.out) ?_
          with_reducible rfl
        try simp only [List.getElem_toArray, List.getElem_cons_succ, List.getElem_cons_zero, Act.put, List.setIfInBounds_toArray, List.set_cons_zero, List.set_cons_succ]
        refine wpAnyF_two (i := 3) (j := 7) (by kernel_rfl) rfl (by rfl) rfl (by rfl) (fun K hK => ?_) (fun K hK => ?_)
        · go_simp
          refine hK _ _ (.inr (HSW.out _ (by repeat (first | exact Nw.refl wc | refine Nw.drew ?_ | refine Nw.alloc ?_ _)))) ?_
          clear hK K
          try simp only [List.getElem_toArray, List.getElem_cons_succ, List.getElem_cons_zero, Act.put, List.setIfInBounds_toArray, List.set_cons_zero, List.set_cons_succ]
          refine wpAnyF_freeT (i := 4) (v := ?_) rfl (by kernel_rfl) (by kernel_rfl) (by kernel_rfl) (by kernel_rfl) (by kernel_rfl) (fun _ _ _ h => h) (by rfl) ?_ (HSW.out _ (by repeat (first | exact Nw.refl wc | refine Nw.drew ?_ | refine Nw.alloc ?_ _))) ?_
          rotate_left
          · intro u
            go_simp
            try with_reducible rfl
          try simp only [List.getElem_toArray, List.getElem_cons_succ, List.getElem_cons_zero, Act.put, List.setIfInBounds_toArray, List.set_cons_zero, List.set_cons_succ]
          refine wpAnyF_two (i := 5) (j := 7) (by kernel_rfl) rfl (by rfl) rfl (by rfl) (fun K hK => ?_) (fun K hK => ?_)
          · go_simp
            refine hK _ _ (.inr (HSW.out _ (by repeat (first | exact Nw.refl wc | refine Nw.drew ?_ | refine Nw.alloc ?_ _)))) ?_
            clear hK K
            try simp only [List.getElem_toArray, List.getElem_cons_succ, List.getElem_cons_zero, Act.put, List.setIfInBounds_toArray, List.set_cons_zero, List.set_cons_succ]
            refine wpAnyF_step (i := 7) (by kernel_rfl) rfl (by rfl) fun K hK => ?_
            go_simp
            refine hK _ _ (.inr ((HSW.out _ (by repeat (first | exact Nw.refl wc | refine Nw.drew ?_ | refine Nw.alloc ?_ _))))) ?_
            clear hK K
            try simp only [List.getElem_toArray, List.getElem_cons_succ, List.getElem_cons_zero, Act.put, List.setIfInBounds_toArray, List.set_cons_zero, List.set_cons_succ]
            refine wpAnyF_freeT (i := 8) (v := ?_) rfl (by kernel_rfl) (by kernel_rfl) (by kernel_rfl) (by kernel_rfl) (by kernel_rfl) (fun _ _ _ h => h) (by rfl) ?_ (HSW.out _ (by repeat (first | exact Nw.refl wc | refine Nw.drew ?_ | refine Nw.alloc ?_ _))) ?_
            rotate_left
            · intro u
              go_simp
              try with_reducible rfl
            try simp only [List.getElem_toArray, List.getElem_cons_succ, List.getElem_cons_zero, Act.put, List.setIfInBounds_toArray, List.set_cons_zero, List.set_cons_succ]
            refine wpAnyF_step (i := 9) (by kernel_rfl) rfl (by rfl) fun K hK => ?_
            go_simp
            refine hK _ _ (.inl (by kernel_rfl)) ?_
            clear hK K
            try simp only [List.getElem_toArray, List.getElem_cons_succ, List.getElem_cons_zero, Act.put, List.setIfInBounds_toArray, List.set_cons_zero, List.set_cons_succ]
            refine wpAnyF_done (by kernel_rfl) ?_ _
            go_wp2_with fail
            go_meet
            exact ⟨_, _, rfl, rfl, some wc.heap.size, Lib.hid ((made1 wc 33 #[.int .i64 7, .int .u32 v, .int .i64 0, .slice none 0 0, .int .i64 0, .int .i64 0, .int .i64 0, .int .i64 0, .int .i64 0, .int .i64 0, .int .u32 0, .int .i64 0, .int .i64 0, .int .i64 0, .int .i64 0, .int .i64 0, .int .i64 0]).enc HEN.out HTB.out HQ.out)⟩
          · go_simp
            refine hK _ _ (.inr (HSW.out _ (by repeat (first | exact Nw.refl wc | refine Nw.drew ?_ | refine Nw.alloc ?_ _)))) ?_
            clear hK K
            try simp only [List.getElem_toArray, List.getElem_cons_succ, List.getElem_cons_zero, Act.put, List.setIfInBounds_toArray, List.set_cons_zero, List.set_cons_succ]
            refine wpAnyF_step (i := 5) (by kernel_rfl) rfl (by rfl) fun K hK => ?_
            go_simp
            refine hK _ _ (.inr ((HSW.out _ (by repeat (first | exact Nw.refl wc | refine Nw.drew ?_ | refine Nw.alloc ?_ _))))) ?_
            clear hK K
            try simp only [List.getElem_toArray, List.getElem_cons_succ, List.getElem_cons_zero, Act.put, List.setIfInBounds_toArray, List.set_cons_zero, List.set_cons_succ]
            refine wpAnyF_freeT (i := 8) (v := ?_) rfl (by kernel_rfl) (by kernel_rfl) (by kernel_rfl) (by kernel_rfl) (by kernel_rfl) (fun _ _ _ h => h) (by rfl) ?_ (HSW.out _ (by repeat (first | exact Nw.refl wc | refine Nw.drew ?_ | refine Nw.alloc ?_ _))) ?_
            rotate_left
            · intro u
              go_simp
              try with_reducible rfl
            try simp only [List.getElem_toArray, List.getElem_cons_succ, List.getElem_cons_zero, Act.put, List.setIfInBounds_toArray, List.set_cons_zero, List.set_cons_succ]
            refine wpAnyF_step (i := 9) (by kernel_rfl) rfl (by rfl) fun K hK => ?_
            go_simp
            refine hK _ _ (.inl (by kernel_rfl)) ?_
            clear hK K
            try simp only [List.getElem_toArray, List.getElem_cons_succ, List.getElem_cons_zero, Act.put, List.setIfInBounds_toArray, List.set_cons_zero, List.set_cons_succ]
            refine wpAnyF_done (by kernel_rfl) ?_ _
            go_wp2_with fail
            go_meet
            exact ⟨_, _, rfl, rfl, some wc.heap.size, Lib.hid ((made2 wc 33 #[.int .i64 7, .int .u32 v, .int .i64 0, .slice none 0 0, .int .i64 0, .int .i64 0, .int .i64 0, .int .i64 0, .int .i64 0, .int .i64 0, .int .u32 0, .int .i64 0, .int .i64 0, .int .i64 0, .int .i64 0, .int .i64 0, .int .i64 0]).enc HEN.out HTB.out HQ.out)⟩
        · go_simp
          refine hK _ _ (.inr (HSW.out _ (by repeat (first | exact Nw.refl wc | refine Nw.drew ?_ | refine Nw.alloc ?_ _)))) ?_
          clear hK K
          try simp only [List.getElem_toArray, List.getElem_cons_succ, List.getElem_cons_zero, Act.put, List.setIfInBounds_toArray, List.set_cons_zero, List.set_cons_succ]
          refine wpAnyF_step (i := 3) (by kernel_rfl) rfl (by rfl) fun K hK => ?_
          go_simp
          refine hK _ _ (.inr ((HSW.out _ (by repeat (first | exact Nw.refl wc | refine Nw.drew ?_ | refine Nw.alloc ?_ _))))) ?_
          clear hK K
          try simp only [List.getElem_toArray, List.getElem_cons_succ, List.getElem_cons_zero, Act.put, List.setIfInBounds_toArray, List.set_cons_zero, List.set_cons_succ]
          refine wpAnyF_freeT (i := 4) (v := ?_) rfl (by kernel_rfl) (by kernel_rfl) (by kernel_rfl) (by kernel_rfl) (by kernel_rfl) (fun _ _ _ h => h) (by rfl) ?_ (HSW.out _ (by repeat (first | exact Nw.refl wc | refine Nw.drew ?_ | refine Nw.alloc ?_ _))) ?_
          rotate_left
          · intro u
            go_simp
            try with_reducible rfl
          try simp only [List.getElem_toArray, List.getElem_cons_succ, List.getElem_cons_zero, Act.put, List.setIfInBounds_toArray, List.set_cons_zero, List.set_cons_succ]
          refine wpAnyF_step (i := 5) (by kernel_rfl) rfl (by rfl) fun K hK => ?_
          go_simp
          refine hK _ _ (.inr ((HSW.out _ (by repeat (first | exact Nw.refl wc | refine Nw.drew ?_ | refine Nw.alloc ?_ _))))) ?_
          clear hK K
          try simp only [List.getElem_toArray, List.getElem_cons_succ, List.getElem_cons_zero, Act.put, List.setIfInBounds_toArray, List.set_cons_zero, List.set_cons_succ]
          refine wpAnyF_freeT (i := 8) (v := ?_) rfl (by kernel_rfl) (by kernel_rfl) (by kernel_rfl) (by kernel_rfl) (by kernel_rfl) (fun _ _ _ h => h) (by rfl) ?_ (HSW.out _ (by repeat (first | exact Nw.refl wc | refine Nw.drew ?_ | refine Nw.alloc ?_ _))) ?_
          rotate_left
          · intro u
            go_simp
            try with_reducible rfl
          try simp only [List.getElem_toArray, List.getElem_cons_succ, List.getElem_cons_zero, Act.put, List.setIfInBounds_toArray, List.set_cons_zero, List.set_cons_succ]
          refine wpAnyF_step (i := 9) (by kernel_rfl) rfl (by rfl) fun K hK => ?_
          go_simp
          refine hK _ _ (.inl (by kernel_rfl)) ?_
          clear hK K
          try simp only [List.getElem_toArray, List.getElem_cons_succ, List.getElem_cons_zero, Act.put, List.setIfInBounds_toArray, List.set_cons_zero, List.set_cons_succ]
          refine wpAnyF_done (by kernel_rfl) ?_ _
          go_wp2_with fail
          go_meet
          exact ⟨_, _, rfl, rfl, some (wc.heap.size + 1), Lib.hid ((made3 wc 33 #[.int .i64 7, .int .u32 v, .int .i64 0, .slice none 0 0, .int .i64 0, .int .i64 0, .int .i64 0, .int .i64 0, .int .i64 0, .int .i64 0, .int .u32 0, .int .i64 0, .int .i64 0, .int .i64 0, .int .i64 0, .int .i64 0, .int .i64 0]).enc HEN.out HTB.out HQ.out)⟩
    case rest =>
      obtain ⟨P, M, rfl, rfl, blk, HE⟩ := hcut
      as_aux_lemma =>
        have hsz : w.heap.size + 1 + 7 < wc.heap.size := HE.out.tabs.lt
        have hP := HE.out.p
        have hMP := HE.out.m
        have hne := HE.out.ne
        obtain ⟨g, hg1, hg2⟩ := HE.out.b
        have hst : WrSt (wc.alloc (.cells #[.bool false] 4)) (wc.alloc (.cells #[.bool false] 4)) P M 33 [7] blk blk #[.int .i64 7, .int .u32 v, .int .i64 0, .slice none 0 0, .int .i64 0, .int .i64 0, .int .i64 0, .int .i64 0, .int .i64 0, .int .i64 0, .int .u32 0, .int .i64 0, .int .i64 0, .int .i64 0, .int .i64 0, .int .i64 0, .int .i64 0] :=
          ⟨HE.out.pen.alloc _, .inl rfl, HE.out.msg.alloc _, hne, by decide, Chg.refl _ _⟩
        have KO := overQ_any wc P M (w.heap.size + 1 + 7) 0 1 [48]
          (fun i W => (i = 0 ∧ WrSt (wc.alloc (.cells #[.bool false] 4)) W P M 33 [7] blk blk #[.int .i64 7, .int .u32 v, .int .i64 0, .slice none 0 0, .int .i64 0, .int .i64 0, .int .i64 0, .int .i64 0, .int .i64 0, .int .i64 0, .int .u32 0, .int .i64 0, .int .i64 0, .int .i64 0, .int .i64 0, .int .i64 0, .int .i64 0]) ∨ (i = 1 ∧ ∃ blk', WrSt (wc.alloc (.cells #[.bool false] 4)) W P M 33 ([7] ++ beW v 4) blk' blk #[.int .i64 7, .int .u32 v, .int .i64 0, .slice none 0 0, .int .i64 0, .int .i64 0, .int .i64 0, .int .i64 0, .int .i64 0, .int .i64 0, .int .u32 0, .int .i64 0, .int .i64 0, .int .i64 0, .int .i64 0, .int .i64 0, .int .i64 0]))
          (fun i h args W => by
            have : i = 0 := by simpa using h
            subst this
            exact enters_of Try.func48 (by kernel_rfl) rfl args W)
          (fun i W hq j hj => by
            have : j = 0 := by simpa using hj
            subst this
            have hch : Chg (fun i => i = P ∨ i = M ∨ some i = blk) (wc.alloc (.cells #[.bool false] 4)) W := hq.elim (fun h => h.2.chg) (fun h => h.2.elim fun _ h => h.chg)
            exact (((HE.out.tabs.alloc _).chg hch (by rw [hg1]; rintro (q | q | q) <;> first | omega | (injection q with q; omega))).cell 0).trans rfl)
          (.inl ⟨rfl, hst⟩)
          (fun i W hq => by
            have hch : Chg (fun i => i = P ∨ i = M ∨ some i = blk) (wc.alloc (.cells #[.bool false] 4)) W := hq.elim (fun h => h.2.chg) (fun h => h.2.elim fun _ h => h.chg)
            have e1 := HE.out.pen.lt
            have e2 := HE.out.msg.lt
            have hb : Blk W wc.heap.size 4 #[.bool false] := (Blk.last wc _ _ rfl).chg hch (by rintro (q | q | q) <;> first | omega | (have := HE.out.pen.blt _ q.symm; omega))
            exact ⟨(hb.cell 0).trans rfl, hb.frozen 0⟩)
          (fun i h W hq => by
            have : i = 0 := by simpa using h
            subst this
            rcases hq with ⟨_, hq⟩ | ⟨h, _⟩
            · exact (askId_wr _ W P M _ _ _ _ v hq rfl HV.out (by simp)).mono fun e w' ⟨h1, h2⟩ => ⟨h1, .inr ⟨rfl, h2⟩⟩
            · cases h)
          (fun W hq => by
            rcases hq with ⟨h, _⟩ | ⟨_, _, hq⟩
            · cases h
            · obtain ⟨A, c, h1, _⟩ := hq.pen
              exact ⟨A, _, c, (h1.cell 0).trans rfl, .inl ((h1.cell 1).trans rfl)⟩) (by simp)
        have KOV := Lib.hid KO
        have HPM := Lib.hid (And.intro hP (And.intro hMP hne))
        have HG := Lib.hid (And.intro hg1 hg2)
        clear KO hst hsz hP hMP hne hg1 hg2
        go_wp2_with fail
        refine KOV.out.mono ?_
        as_aux_lemma =>
          rintro e w6 ⟨rfl, W, hW, hw6⟩
          rcases hW with ⟨h, _⟩ | ⟨_, blk', hW⟩
          · cases h
          have hlow : w.heap.size < wc.heap.size := HE.out.own.lt
          have hch := hW.chg
          have e1 := HE.out.pen.lt
          have e2 := HE.out.msg.lt
          have hob : Blk W w.heap.size 33 #[.int .i64 7, .int .u32 v, .int .i64 0, .slice none 0 0, .int .i64 0, .int .i64 0, .int .i64 0, .int .i64 0, .int .i64 0, .int .i64 0, .int .u32 0, .int .i64 0, .int .i64 0, .int .i64 0, .int .i64 0, .int .i64 0, .int .i64 0] := (HE.out.own.alloc _).chg hch (by have := HPM.out; rw [HG.out.1]; have := HG.out.2; rintro (q | q | q) <;> first | omega | (injection q with q; omega))
          have ho6 : Blk w6 w.heap.size 33 #[.int .i64 7, .int .u32 v, .int .i64 0, .slice none 0 0, .int .i64 0, .int .i64 0, .int .i64 0, .int .i64 0, .int .i64 0, .int .i64 0, .int .u32 0, .int .i64 0, .int .i64 0, .int .i64 0, .int .i64 0, .int .i64 0, .int .i64 0] := by rw [hw6]; exact hob.far (p := ⟨wc.heap.size, 0, none⟩) (by show w.heap.size ≠ wc.heap.size; omega) _
          have hp6 : PenW w6 P ([7] ++ beW v 4) blk' := by
            rw [hw6]
            refine hW.pen.far (p := ⟨wc.heap.size, 0, none⟩) (by show P ≠ wc.heap.size; omega) ?_ _
            rcases hW.new with q | ⟨g, q, hg⟩
            · rw [q]; intro q2; have q3 := HE.out.pen.blt _ q2; exact absurd q3 (by show ¬ wc.heap.size < wc.heap.size; omega)
            · rw [q]; intro q2; injection q2 with q2; simp at hg; have q2 : g = wc.heap.size := q2; omega
          have hn6 : Nw w w6 := by
            have h1 : Below w.heap.size w (wc.alloc (.cells #[.bool false] 4)) := Below.alloc HE.out.nw (by omega) _
            have h2 : Below w.heap.size w W := h1.trans (hch.below (fun i hi hq => by have := HPM.out; have := HG.out.2; rw [HG.out.1] at hq; rcases hq with q | q | q <;> first | omega | (injection q with q; omega)) (by simp; omega))
            rw [hw6]
            exact Nw.set h2 (by show w.heap.size ≤ wc.heap.size; omega) _
          clear hW hw6 hch hob KOV e1 e2 hlow
          obtain ⟨A, c, hpb, hpo⟩ := hp6
          obtain ⟨A', c', e, hrd, hcc, _⟩ := hpo.rd
          injection e with e1 _ e3
          subst e1 e3
          have hlen : ([7] ++ beW v 4 : List UInt8).length = 5 := rfl
          rw [hlen] at hpb hcc
          have hby : BytesAt w6 A (7 :: beW v 4) := hrd
          have KD := Lib.hid (decPause w6 A c (beW v 4) hby rfl hcc)
          have p0 : w6.cell? ⟨P, 0, none⟩ = some (.slice A 5 c) := (hpb.cell 0).trans rfl
          have HPB := Lib.hid hpb
          have HBY := Lib.hid (And.intro hby hcc)
          have HO6 := Lib.hid ho6
          have HN6 := Lib.hid hn6
          clear hpb hpo hrd hcc hlen hby ho6 hn6
          go_wp2_with fail
          refine KD.out.mono ?_
          as_aux_lemma =>
            rintro e w7 ⟨rfl, n7⟩
            obtain ⟨w8, hw8⟩ : ∃ w8, w7.alloc (.cells #[.int .i64 7, .int .u32 (beN (beW v 4) : Int), .int .i64 0, .slice none 0 0, .int .i64 0, .int .i64 0, .int .i64 0, .int .i64 0, .int .i64 0, .int .i64 0, .int .u32 0, .int .i64 0, .int .i64 0, .int .i64 0, .int .i64 0, .int .i64 0, .int .i64 0] 33) = w8 := ⟨_, rfl⟩
            obtain ⟨B8, hB8⟩ : ∃ B8, w7.heap.size = B8 := ⟨_, rfl⟩
            have hb8 : Blk w8 B8 33 #[.int .i64 7, .int .u32 (beN (beW v 4) : Int), .int .i64 0, .slice none 0 0, .int .i64 0, .int .i64 0, .int .i64 0, .int .i64 0, .int .i64 0, .int .i64 0, .int .u32 0, .int .i64 0, .int .i64 0, .int .i64 0, .int .i64 0, .int .i64 0, .int .i64 0] := by rw [← hw8]; exact Blk.last w7 _ _ hB8
            have n78 : Nw w7 w8 := by rw [← hw8]; exact (Nw.refl w7).alloc _
            have n68 : Nw w6 w8 := Below.trans n7 (n78.mono n7.size)
            have ho8 : Blk w8 w.heap.size 33 #[.int .i64 7, .int .u32 v, .int .i64 0, .slice none 0 0, .int .i64 0, .int .i64 0, .int .i64 0, .int .i64 0, .int .i64 0, .int .i64 0, .int .u32 0, .int .i64 0, .int .i64 0, .int .i64 0, .int .i64 0, .int .i64 0, .int .i64 0] := HO6.out.below n68 HO6.out.lt
            have hp8 : Blk w8 P 76 #[.slice A 5 c, .bool false] := HPB.out.below n68 HPB.out.lt
            have HW8 := Lib.hid (And.intro hw8 hB8)
            have HP8 := Lib.hid hp8
            have HN8 := Lib.hid (show Nw w w8 from HN6.out.trans (n68.mono HN6.out.size))
            have HBY8 := Lib.hid (HBY.out.1.below n68 (Nat.le_refl _))
            obtain ⟨d8, hd8⟩ := stRq
            have HD8 := Lib.hid hd8
            have HB8 := Lib.hid hb8
            have HO8 := Lib.hid ho8
            have HI8 := Lib.hid (show (Try.prog.info? 33).map (·.size) = some (#[.int .i64 7, .int .u32 (beN (beW v 4) : Int), .int .i64 0, .slice none 0 0, .int .i64 0, .int .i64 0, .int .i64 0, .int .i64 0, .int .i64 0, .int .i64 0, .int .u32 0, .int .i64 0, .int .i64 0, .int .i64 0, .int .i64 0, .int .i64 0, .int .i64 0] : Array Value).size by kernel_rfl)
            have HJ8 := Lib.hid (show (Try.prog.info? 33).map (·.size) = some (#[.int .i64 7, .int .u32 v, .int .i64 0, .slice none 0 0, .int .i64 0, .int .i64 0, .int .i64 0, .int .i64 0, .int .i64 0, .int .i64 0, .int .u32 0, .int .i64 0, .int .i64 0, .int .i64 0, .int .i64 0, .int .i64 0, .int .i64 0] : Array Value).size by kernel_rfl)
            clear hd8
            clear hw8 hB8 hb8 n78 n68 ho8 hp8 p0
            go_upto_region 6 with (fail)
            rw [HW8.out.1, HW8.out.2]
            as_aux_lemma =>
              have KS := Lib.hid (by
                have h := sameRq_any w8 ⟨7, (beN (beW v 4) : Int), 0, [], 0, 0, 0, 0, 0, 0, 0, 0, 0, 0, 0, 0, 0⟩ ⟨7, v, 0, [], 0, 0, 0, 0, 0, 0, 0, 0, 0, 0, 0, 0, 0⟩ none none 0 0 (.inl rfl) (.inl rfl) (by simp) (by simp)
                rw [decide_eq_true (by rw [beN_beW4 v HV.out])] at h
                exact h)
              go_wp2_with (first | (refine wpList_load_row_g (by rfl) 33 _ rfl B8 rfl 33 #[.int .i64 7, .int .u32 (beN (beW v 4) : Int), .int .i64 0, .slice none 0 0, .int .i64 0, .int .i64 0, .int .i64 0, .int .i64 0, .int .i64 0, .int .i64 0, .int .u32 0, .int .i64 0, .int .i64 0, .int .i64 0, .int .i64 0, .int .i64 0, .int .i64 0] (0, 0) (.struct d8) HB8.out HD8.out rfl HI8.out ?_) | (refine wpList_load_row_g (by rfl) 33 _ rfl w.heap.size rfl 33 #[.int .i64 7, .int .u32 v, .int .i64 0, .slice none 0 0, .int .i64 0, .int .i64 0, .int .i64 0, .int .i64 0, .int .i64 0, .int .i64 0, .int .u32 0, .int .i64 0, .int .i64 0, .int .i64 0, .int .i64 0, .int .i64 0, .int .i64 0] (0, 0) (.struct d8) HO8.out HD8.out rfl HJ8.out ?_))
              refine KS.out.mono ?_
              as_aux_lemma =>
                rintro e w9 ⟨rfl, n9⟩
                have p9 : w9.cell? ⟨P, 0, none⟩ = some (.slice A 5 c) := n9.cell ((HP8.out.cell 0).trans rfl)
                have HN9 := Lib.hid (show Nw w w9 from HN8.out.trans (n9.mono HN8.out.size))
                have HB9 := Lib.hid (HBY8.out.below n9 (Nat.le_refl _))
                clear n9
                go_wp2_with fail
                go_ret2
                exact ⟨A, c, rfl, HB9.out, HBY.out.2, HN9.out⟩end Go.Proofs.Ytnbcjjgilndlaaa
