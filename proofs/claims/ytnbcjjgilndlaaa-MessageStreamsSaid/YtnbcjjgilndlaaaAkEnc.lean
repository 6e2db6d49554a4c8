/- Messages: what ours encodes, of any request. Helper. -/
import Derived.Test.YtnbcjjgilndlaaaAkOvW
import Derived.Test.YtnbcjjgilndlaaaRdEncQ
import Derived.Test.YtnbcjjgilndlaaaRdPlQ
import Derived.Test.YtnbcjjgilndlaaaRdDec0
namespace Go.Proofs.Ytnbcjjgilndlaaa
open Go.RowKit
set_option linter.unusedVariables false
set_option linter.unusedSimpArgs false
set_option maxRecDepth 100000
set_option maxHeartbeats 6400000
/-- Where the pen is made: all that the encoding goes on from. -/
structure EncR (w W : World) (T FT : TypeId) (tab : Nat) (row q : Array Value) (k : UInt8) (P M : Nat) (blk : Option Nat) : Prop where
  pen : PenW W P [k] blk
  msg : Blk W M T q
  ne : M ≠ P
  nw : Nw w W
  tabs : Blk W tab FT row
  own : Blk W w.heap.size T q
  p : tab < P
  m : tab < M
  b : ∃ g, blk = some g ∧ tab < g
theorem Made.encR {w wc wx : World} {T FT : TypeId} {tab : Nat} {row q : Array Value} {k : UInt8} {P M : Nat} {blk : Option Nat} (h : Made wc wx T q k P M blk) (hn : Nw w wc) (ht : Blk wc tab FT row) (ho : Blk wc w.heap.size T q) : EncR w wx T FT tab row q k P M blk := by
  obtain ⟨g, hg1, hg2⟩ := h.b
  have := ht.lt
  exact ⟨h.pen, h.msg, h.ne, Below.trans hn (h.nw.mono hn.size), ht.below h.nw ht.lt, ho.below h.nw ho.lt, Nat.lt_of_lt_of_le ht.lt h.p, Nat.lt_of_lt_of_le ht.lt h.m, g, hg1, Nat.lt_of_lt_of_le ht.lt hg2⟩
theorem Made.row {wc wx : World} {T : TypeId} {q : Array Value} {k : UInt8} {P M : Nat} {blk : Option Nat} (h : Made wc wx T q k P M blk) (hT : T ≠ 5) (q' : Array Value) : Made wc (wx.setRow M q') T q' k P M blk := by
  have hc : Chg (fun i => i = M) wx (wx.setRow M q') := (Chg.refl (fun i => i = M) wx).setRow (.inl rfl) q'
  have hne := h.pen.neT h.msg hT
  obtain ⟨A, c, h1, h2⟩ := h.pen
  exact ⟨⟨A, c, h1.chg hc (fun e => h.ne e.symm), h2.kept fun g hg => hc.block g (h2.lt g hg) (fun e => hne (by rw [hg, e]))⟩, setRow_heap wx M _ q' T _ h.msg, h.ne, below_setRow h.nw h.m q', h.p, h.m, h.b⟩
theorem madeK1 (wc : World) (T : TypeId) (q : Array Value) (k : UInt8) {v : Int} (hv : (k.toNat : Int) = v) : Made wc (((wc.alloc (.cells #[.int .u8 v] 5)).alloc (.cells #[.slice (some ⟨wc.heap.size, 0, none⟩) 1 1, .bool false] 76)).alloc (.cells q T)).drew T q k (wc.heap.size + 1) (wc.heap.size + 1 + 1) (some wc.heap.size) := by
  subst hv
  refine ⟨⟨some ⟨wc.heap.size, 0, none⟩, 1, (((Blk.last (wc.alloc _) _ _ (by simp)).alloc _)).drew, ((own7 wc k rfl).kept fun g hg => ?_)⟩, (Blk.last _ _ _ (by simp)).drew, by omega, ((((Nw.refl wc).alloc _).alloc _).alloc _).drew, by omega, by omega, _, rfl, Nat.le_refl _⟩
  injection hg with hg
  rw [← hg]
  exact (Below.heap_alloc _ _ _ (by simp; omega)).trans (Below.heap_alloc _ _ _ (by simp))
theorem madeK2 (wc : World) (T : TypeId) (q : Array Value) (k : UInt8) {v : Int} (hv : (k.toNat : Int) = v) : Made wc (((wc.alloc (.cells #[.int .u8 v] 5)).alloc (.cells q T)).alloc (.cells #[.slice (some ⟨wc.heap.size, 0, none⟩) 1 1, .bool false] 76)).drew T q k (wc.heap.size + 1 + 1) (wc.heap.size + 1) (some wc.heap.size) := by
  subst hv
  refine ⟨⟨some ⟨wc.heap.size, 0, none⟩, 1, (Blk.last _ _ _ (by simp)).drew, ((own7 wc k rfl).kept fun g hg => ?_)⟩, ((Blk.last (wc.alloc _) _ _ (by simp)).alloc _).drew, by omega, ((((Nw.refl wc).alloc _).alloc _).alloc _).drew, by omega, by omega, _, rfl, Nat.le_refl _⟩
  injection hg with hg
  rw [← hg]
  exact (Below.heap_alloc _ _ _ (by simp; omega)).trans (Below.heap_alloc _ _ _ (by simp))
theorem madeK3 (wc : World) (T : TypeId) (q : Array Value) (k : UInt8) {v : Int} (hv : (k.toNat : Int) = v) : Made wc (((wc.alloc (.cells q T)).alloc (.cells #[.int .u8 v] 5)).alloc (.cells #[.slice (some ⟨wc.heap.size + 1, 0, none⟩) 1 1, .bool false] 76)).drew T q k (wc.heap.size + 1 + 1) wc.heap.size (some (wc.heap.size + 1)) := by
  subst hv
  refine ⟨⟨some ⟨wc.heap.size + 1, 0, none⟩, 1, (Blk.last _ _ _ (by simp)).drew, ((own7 (wc.alloc (.cells q T)) k (by simp)).kept fun g hg => ?_)⟩, (((Blk.last wc _ _ rfl).alloc _).alloc _).drew, by omega, ((((Nw.refl wc).alloc _).alloc _).alloc _).drew, by omega, by omega, _, rfl, by omega⟩
  injection hg with hg
  rw [← hg]
  exact Below.heap_alloc _ _ _ (by simp)
/-- What an encoding tells: the bytes, or none. -/
def EncF (w : World) (r : Option (List UInt8)) (e : Ending) (w' : World) : Prop :=
  match r with
  | some l => ∃ A c, e = .returned (.tuple #[.slice A l.length c, .int .i64 0]) ∧ BytesAt w' A l ∧ l.length ≤ c ∧ Nw w w'
  | none => e = .returned (.tuple #[.slice none 0 0, .int .i64 2]) ∧ Nw w w'
open Classical in
/-- What ours encodes, of the parts that a kind names. -/
noncomputable def encR (k : UInt8) (q : Rq) (ps : List WPart) : Option (List UInt8) :=
  if (∀ p ∈ ps, p.ok) ∧ dec7Q (k :: (ps.map (·.add)).flatten) = (q, 0) then some (k :: (ps.map (·.add)).flatten) else none
theorem rawQ_md (k : Nat) (bs : List UInt8) : (rawQ k bs).md.length ≤ bs.length := by
  unfold rawQ
  repeat' split
  all_goals simp [Rq.zero]
theorem dec7Q_md (bs : List UInt8) : (dec7Q bs).1.md.length ≤ bs.length := by
  cases bs with
  | nil => simp [dec7Q, Rq.zero]
  | cons x bs =>
    simp only [dec7Q]
    repeat' split
    all_goals first | (simp [Rq.zero]; done) | (have := rawQ_md x.toNat bs; simp only [List.length_cons]; omega)
theorem encQ_of (kx : Nat) (hkx : 1 ≤ kx ∧ kx ≤ 12) (q : Rq) (hk : q.k = kx) (hq : q.Fit) (A : Option Addr) (c : Nat) (i t np : Nat) (row : Array Value) (ps : List WPart) (hnp : ps.length = np) (hps : ∀ p ∈ ps, p ∈ allQ q) (kb : UInt8) (hkb : (kb.toNat : Int) = kx)
    (hlk : ∀ S, Instr.findNow (.int .i64) (.int .i64 kx) (asksES S).toArray.toList 0 = some (some (i, .slice (some ⟨S + t, 0, none⟩) np np))) (hrow : ∀ W S, asksAt W S → Blk W (S + t) 102 row) (hrw : ∀ j (h : j < ps.length), row[j]? = some (.func (.func ps[j].f) #[] #[]))
    (hlen : ∀ i, ([kb] ++ ((ps.take i).map (·.add)).flatten).length ≤ 80000) (hl9 : np ≤ 9) (w : World) (hb : BytesAt w A q.md) (hA : q.md = [] ∨ ∀ a, A = some a → a.block < w.heap.size) :
    Calls Try.prog 17 #[.agg #[.int .i64 q.k, .int .u32 q.id, .int .i64 q.ver, .slice A q.md.length c, .int .i64 q.T, .int .i64 q.O, .int .i64 q.S, .int .i64 q.tt, .int .i64 q.kd, .int .i64 q.da, .int .u32 q.nu, .int .i64 q.bp, .int .i64 q.bk, .int .i64 q.bt, .int .i64 q.pr, .int .i64 q.nm, .int .i64 q.dn]] w (EncF w (encR kb q ps)) := by
  obtain ⟨Q0, hQ0⟩ : ∃ Q0 : Array Value, #[.int .i64 q.k, .int .u32 q.id, .int .i64 q.ver, .slice A q.md.length c, .int .i64 q.T, .int .i64 q.O, .int .i64 q.S, .int .i64 q.tt, .int .i64 q.kd, .int .i64 q.da, .int .u32 q.nu, .int .i64 q.bp, .int .i64 q.bk, .int .i64 q.bt, .int .i64 q.pr, .int .i64 q.nm, .int .i64 q.dn] = Q0 := ⟨_, rfl⟩
  have HQ0 := Lib.hid (show Q0[0]? = some (.int .i64 (kx : Int)) ∧ Q0.size = 17 ∧ Q0.all (·.oneCell') = true ∧ Q0 = (q.c A c).toArray by rw [← hQ0, ← hk]; exact ⟨rfl, rfl, by simp [Value.oneCell'], rfl⟩)
  obtain ⟨r, hr⟩ : ∃ r, encR kb q ps = r := ⟨_, rfl⟩
  rw [hQ0, hr]
  obtain ⟨w1, hw1⟩ : ∃ w1, w.alloc (.cells Q0 33) = w1 := ⟨_, rfl⟩
  have hM : Blk w1 w.heap.size 33 Q0 := by rw [← hw1]; exact Blk.last w _ _ rfl
  have n1 : Nw w w1 := by rw [← hw1]; exact (Nw.refl w).alloc _
  have s1 : w1.heap.size = w.heap.size + 1 := by rw [← hw1]; simp
  have k0 : w1.cell? ⟨w.heap.size, 0, none⟩ = some (.int .i64 kx) := (hM.cell 0).trans HQ0.out.1
  have jb : IntKind.u8.wrap (kx : Int) = (kx : Int) := by rw [IntKind.wrap_u8]; omega
  have HR := Lib.hid hr
  have HFIT := Lib.hid hq
  have HPS := Lib.hid (And.intro hps (And.intro hrw hlen))
  have HNP := Lib.hid (And.intro hnp hl9)
  have HKB := Lib.hid hkb
  have HBY0 := Lib.hid (And.intro hb hA)
  have HLK := Lib.hid hlk
  have HRW := Lib.hid hrow
  have HW1 := Lib.hid hw1
  have HM := Lib.hid hM
  have N1 := Lib.hid n1
  have S1 := Lib.hid s1
  have HKX := Lib.hid hkx
  have KA := Lib.hid (fun (W : World) (hs : W.heap.size = w.heap.size + 1) => by have := asks_any W; rw [hs] at this; exact this)
  clear hw1 hM n1 s1 hQ0 hr hq hps hnp hkb hb hA hlk hrow hrw hlen hk hkx hl9
  go_enter Try.func17, Try.ntmps17
  go_upto_region 1 with (fail)
  rw [HW1.out]
  go_cut [4, 5] from 10 to 17 (fun s4 s5 wx => s4 = .slice (some ⟨w.heap.size + 1 + t, 0, none⟩) np np ∧ s5 = .bool true ∧ Hid (Nw w1 wx ∧ asksAt wx (w.heap.size + 1)))
  case first =>
   as_aux_lemma =>
    go_region_with (go_at_call 29; refine (KA.out w1.drew S1.out).mono ?_; rintro e w4 ⟨rfl, h4, b4⟩; have i4 : Nw w1 w4 := Nw.step (show Nw w1 w1.drew from (Nw.refl w1).drew) (by have hs : w1.drew.heap.size = w.heap.size + 1 := S1.out; rw [hs]; exact b4); have kk := i4.cell k0; have lk := look_run Try.underlying71 Try.underlying24 h4.tab kx _ _ (HLK.out _); have H4 := Lib.hid h4; have I4 := Lib.hid i4; clear h4 i4 b4)
    all_goals
      go_wp2_with fail
      go_meet
      exact ⟨rfl, rfl, Lib.hid ⟨I4.out, H4.out⟩⟩
  case rest =>
    obtain ⟨rfl, rfl, HX⟩ := hcut
    clear k0
    have hQ : Blk wc w.heap.size 33 Q0 := HM.out.below HX.out.1 HM.out.lt
    have HQ := Lib.hid hQ
    have HEN := Lib.hid (show Nw w wc from N1.out.trans HX.out.1)
    have HTB := Lib.hid (HRW.out _ _ HX.out.2)
    clear hQ
    go_upto_region 2 with (fail)
    go_cut [6, 7] from 17 to 24 (fun s6 s7 wx => ∃ P M, s6 = .pointer (some ⟨P, 0, none⟩) ∧ s7 = .pointer (some ⟨M, 0, none⟩) ∧ ∃ blk, Hid (EncR w wx 33 102 (w.heap.size + 1 + t) row Q0 kb P M blk))
    case first =>
      as_aux_lemma =>
        obtain ⟨d, hd⟩ := stRq
        have HD := Lib.hid hd
        have HI := Lib.hid (show (Try.prog.info? 33).map (·.size) = some Q0.size by rw [HQ0.out.2.1]; kernel_rfl)
        have HSW := Lib.hid (fun W (hW : Nw wc W) => (⟨hW, HQ.out.below hW HQ.out.lt⟩ : Nw wc W ∧ Blk W w.heap.size 33 Q0))
        clear hd
        refine wp_region_F (fun W => Nw wc W ∧ Blk W w.heap.size 33 Q0) [9] (by kernel_rfl) ?_
        have hS := HSW.out wc.drew (Nw.refl wc).drew
        refine wpAnyF_freeT (i := 0) (v := ?_) rfl (by kernel_rfl) (by kernel_rfl) (by kernel_rfl) (by kernel_rfl) (by kernel_rfl) (fun _ _ _ h => h) (by rfl) ?_ hS ?_
        rotate_left
        · intro u
          go_simp
          try with_reducible rfl
        try simp only [List.getElem_toArray, List.getElem_cons_succ, List.getElem_cons_zero, Act.put, List.setIfInBounds_toArray, List.set_cons_zero, List.set_cons_succ]
        refine wpAnyF_takeT (i := 1) (v := ?_) rfl (by kernel_rfl) (by kernel_rfl) (by kernel_rfl) (by kernel_rfl) (by kernel_rfl) (by kernel_rfl) (fun _ _ _ h => h) (by rfl) ?_ hS ?_
        rotate_left
        · intro u hu
          have hu1 : u.cell? ⟨w.heap.size, 0, none⟩ = some (.int .i64 kx) := (hu.2.cell 0).trans HQ0.out.1
          go_simp
          try with_reducible rfl
        try simp only [List.getElem_toArray, List.getElem_cons_succ, List.getElem_cons_zero, Act.put, List.setIfInBounds_toArray, List.set_cons_zero, List.set_cons_succ]
        refine wpAnyF_freeT (i := 2) (v := ?_) rfl (by kernel_rfl) (by kernel_rfl) (by kernel_rfl) (by kernel_rfl) (by kernel_rfl) (fun _ _ _ h => h) (by rfl) ?_ hS ?_
        rotate_left
        · intro u
          go_simp
          try with_reducible rfl
        try simp only [List.getElem_toArray, List.getElem_cons_succ, List.getElem_cons_zero, Act.put, List.setIfInBounds_toArray, List.set_cons_zero, List.set_cons_succ]
        refine wpAnyF_takeT (i := 6) (v := ?_) rfl (by kernel_rfl) (by kernel_rfl) (by kernel_rfl) (by kernel_rfl) (by kernel_rfl) (by kernel_rfl) (fun _ _ _ h => h) (by rfl) ?_ hS ?_
        rotate_left
        · intro u hu
          try simp only [List.getElem_toArray, List.getElem_cons_succ, List.getElem_cons_zero]
          refine Eq.trans (exec_load_row 33 _ rfl w.heap.size rfl 33 Q0 (0, 0) (.struct d) hu.2 HD.out rfl HI.out) ?_
          with_reducible rfl
        try simp only [List.getElem_toArray, List.getElem_cons_succ, List.getElem_cons_zero, Act.put, List.setIfInBounds_toArray, List.set_cons_zero, List.set_cons_succ]
        refine wpAnyF_two (i := 3) (j := 7) (by kernel_rfl) rfl (by rfl) rfl (by rfl) (fun K hK => ?_) (fun K hK => ?_)
        · go_simp
          refine hK _ _ (.inr (HSW.out _ (by repeat (first | exact Nw.refl wc | refine Nw.drew ?_ | refine Nw.alloc ?_ _)))) ?_
          clear hK K
          try simp only [List.getElem_toArray, List.getElem_cons_succ, List.getElem_cons_zero, Act.put, List.setIfInBounds_toArray, List.set_cons_zero, List.set_cons_succ]
          refine wpAnyF_freeT (i := 4) (v := ?_) rfl (by kernel_rfl) (by kernel_rfl) (by kernel_rfl) (by kernel_rfl) (by kernel_rfl) (fun _ _ _ h => h) (by rfl) ?_ (HSW.out _ (by repeat (first | exact Nw.refl wc | refine Nw.drew ?_ | refine Nw.alloc ?_ _))) ?_
          rotate_left
          · intro u
            go_simp
            try with_reducible rfl
          try simp only [List.getElem_toArray, List.getElem_cons_succ, List.getElem_cons_zero, Act.put, List.setIfInBounds_toArray, List.set_cons_zero, List.set_cons_succ]
          refine wpAnyF_two (i := 5) (j := 7) (by kernel_rfl) rfl (by rfl) rfl (by rfl) (fun K hK => ?_) (fun K hK => ?_)
          · go_simp
            refine hK _ _ (.inr (HSW.out _ (by repeat (first | exact Nw.refl wc | refine Nw.drew ?_ | refine Nw.alloc ?_ _)))) ?_
            clear hK K
            try simp only [List.getElem_toArray, List.getElem_cons_succ, List.getElem_cons_zero, Act.put, List.setIfInBounds_toArray, List.set_cons_zero, List.set_cons_succ]
            refine wpAnyF_step (i := 7) (by kernel_rfl) rfl (by rfl) fun K hK => ?_
            go_simp
            refine hK _ _ (.inr ((HSW.out _ (by repeat (first | exact Nw.refl wc | refine Nw.drew ?_ | refine Nw.alloc ?_ _))))) ?_
            clear hK K
            try simp only [List.getElem_toArray, List.getElem_cons_succ, List.getElem_cons_zero, Act.put, List.setIfInBounds_toArray, List.set_cons_zero, List.set_cons_succ]
            refine wpAnyF_freeT (i := 8) (v := ?_) rfl (by kernel_rfl) (by kernel_rfl) (by kernel_rfl) (by kernel_rfl) (by kernel_rfl) (fun _ _ _ h => h) (by rfl) ?_ (HSW.out _ (by repeat (first | exact Nw.refl wc | refine Nw.drew ?_ | refine Nw.alloc ?_ _))) ?_
            rotate_left
            · intro u
              go_simp
              try with_reducible rfl
            try simp only [List.getElem_toArray, List.getElem_cons_succ, List.getElem_cons_zero, Act.put, List.setIfInBounds_toArray, List.set_cons_zero, List.set_cons_succ]
            refine wpAnyF_step (i := 9) (by kernel_rfl) rfl (by rfl) fun K hK => ?_
            refine wp_store_row 33 _ _ rfl (wc.heap.size + 1 + 1) Q0 rfl rfl 33 #[.int .i64 0, .int .u32 0, .int .i64 0, .slice none 0 0, .int .i64 0, .int .i64 0, .int .i64 0, .int .i64 0, .int .i64 0, .int .i64 0, .int .u32 0, .int .i64 0, .int .i64 0, .int .i64 0, .int .i64 0, .int .i64 0, .int .i64 0] (madeK1 wc 33 #[.int .i64 0, .int .u32 0, .int .i64 0, .slice none 0 0, .int .i64 0, .int .i64 0, .int .i64 0, .int .i64 0, .int .i64 0, .int .i64 0, .int .u32 0, .int .i64 0, .int .i64 0, .int .i64 0, .int .i64 0, .int .i64 0, .int .i64 0] kb HKB.out).msg HI.out (by rw [HQ0.out.2.1]; rfl) HQ0.out.2.2.1 ?_
            refine hK _ _ (.inl rfl) ?_
            clear hK K
            try simp only [List.getElem_toArray, List.getElem_cons_succ, List.getElem_cons_zero, Act.put, List.setIfInBounds_toArray, List.set_cons_zero, List.set_cons_succ]
            refine wpAnyF_done (by kernel_rfl) ?_ _
            go_wp2_with fail
            go_meet
            exact ⟨_, _, rfl, rfl, some wc.heap.size, Lib.hid (((madeK1 wc 33 #[.int .i64 0, .int .u32 0, .int .i64 0, .slice none 0 0, .int .i64 0, .int .i64 0, .int .i64 0, .int .i64 0, .int .i64 0, .int .i64 0, .int .u32 0, .int .i64 0, .int .i64 0, .int .i64 0, .int .i64 0, .int .i64 0, .int .i64 0] kb HKB.out).row (by decide) Q0).encR HEN.out HTB.out HQ.out)⟩
          · go_simp
            refine hK _ _ (.inr (HSW.out _ (by repeat (first | exact Nw.refl wc | refine Nw.drew ?_ | refine Nw.alloc ?_ _)))) ?_
            clear hK K
            try simp only [List.getElem_toArray, List.getElem_cons_succ, List.getElem_cons_zero, Act.put, List.setIfInBounds_toArray, List.set_cons_zero, List.set_cons_succ]
            refine wpAnyF_step (i := 5) (by kernel_rfl) rfl (by rfl) fun K hK => ?_
            go_simp
            refine hK _ _ (.inr ((HSW.out _ (by repeat (first | exact Nw.refl wc | refine Nw.drew ?_ | refine Nw.alloc ?_ _))))) ?_
            clear hK K
            try simp only [List.getElem_toArray, List.getElem_cons_succ, List.getElem_cons_zero, Act.put, List.setIfInBounds_toArray, List.set_cons_zero, List.set_cons_succ]
            refine wpAnyF_freeT (i := 8) (v := ?_) rfl (by kernel_rfl) (by kernel_rfl) (by kernel_rfl) (by kernel_rfl) (by kernel_rfl) (fun _ _ _ h => h) (by rfl) ?_ (HSW.out _ (by repeat (first | exact Nw.refl wc | refine Nw.drew ?_ | refine Nw.alloc ?_ _))) ?_
            rotate_left
            · intro u
              go_simp
              try with_reducible rfl
            try simp only [List.getElem_toArray, List.getElem_cons_succ, List.getElem_cons_zero, Act.put, List.setIfInBounds_toArray, List.set_cons_zero, List.set_cons_succ]
            refine wpAnyF_step (i := 9) (by kernel_rfl) rfl (by rfl) fun K hK => ?_
            refine wp_store_row 33 _ _ rfl (wc.heap.size + 1) Q0 rfl rfl 33 #[.int .i64 0, .int .u32 0, .int .i64 0, .slice none 0 0, .int .i64 0, .int .i64 0, .int .i64 0, .int .i64 0, .int .i64 0, .int .i64 0, .int .u32 0, .int .i64 0, .int .i64 0, .int .i64 0, .int .i64 0, .int .i64 0, .int .i64 0] (madeK2 wc 33 #[.int .i64 0, .int .u32 0, .int .i64 0, .slice none 0 0, .int .i64 0, .int .i64 0, .int .i64 0, .int .i64 0, .int .i64 0, .int .i64 0, .int .u32 0, .int .i64 0, .int .i64 0, .int .i64 0, .int .i64 0, .int .i64 0, .int .i64 0] kb HKB.out).msg HI.out (by rw [HQ0.out.2.1]; rfl) HQ0.out.2.2.1 ?_
            refine hK _ _ (.inl rfl) ?_
            clear hK K
            try simp only [List.getElem_toArray, List.getElem_cons_succ, List.getElem_cons_zero, Act.put, List.setIfInBounds_toArray, List.set_cons_zero, List.set_cons_succ]
            refine wpAnyF_done (by kernel_rfl) ?_ _
            go_wp2_with fail
            go_meet
            exact ⟨_, _, rfl, rfl, some wc.heap.size, Lib.hid (((madeK2 wc 33 #[.int .i64 0, .int .u32 0, .int .i64 0, .slice none 0 0, .int .i64 0, .int .i64 0, .int .i64 0, .int .i64 0, .int .i64 0, .int .i64 0, .int .u32 0, .int .i64 0, .int .i64 0, .int .i64 0, .int .i64 0, .int .i64 0, .int .i64 0] kb HKB.out).row (by decide) Q0).encR HEN.out HTB.out HQ.out)⟩
        · go_simp
          refine hK _ _ (.inr (HSW.out _ (by repeat (first | exact Nw.refl wc | refine Nw.drew ?_ | refine Nw.alloc ?_ _)))) ?_
          clear hK K
          try simp only [List.getElem_toArray, List.getElem_cons_succ, List.getElem_cons_zero, Act.put, List.setIfInBounds_toArray, List.set_cons_zero, List.set_cons_succ]
          refine wpAnyF_step (i := 3) (by kernel_rfl) rfl (by rfl) fun K hK => ?_
          go_simp
          refine hK _ _ (.inr ((HSW.out _ (by repeat (first | exact Nw.refl wc | refine Nw.drew ?_ | refine Nw.alloc ?_ _))))) ?_
          clear hK K
          try simp only [List.getElem_toArray, List.getElem_cons_succ, List.getElem_cons_zero, Act.put, List.setIfInBounds_toArray, List.set_cons_zero, List.set_cons_succ]
          refine wpAnyF_freeT (i := 4) (v := ?_) rfl (by kernel_rfl) (by kernel_rfl) (by kernel_rfl) (by kernel_rfl) (by kernel_rfl) (fun _ _ _ h => h) (by rfl) ?_ (HSW.out _ (by repeat (first | exact Nw.refl wc | refine Nw.drew ?_ | refine Nw.alloc ?_ _))) ?_
          rotate_left
          · intro u
            go_simp
            try with_reducible rfl
          try simp only [List.getElem_toArray, List.getElem_cons_succ, List.getElem_cons_zero, Act.put, List.setIfInBounds_toArray, List.set_cons_zero, List.set_cons_succ]
          refine wpAnyF_step (i := 5) (by kernel_rfl) rfl (by rfl) fun K hK => ?_
          go_simp
          refine hK _ _ (.inr ((HSW.out _ (by repeat (first | exact Nw.refl wc | refine Nw.drew ?_ | refine Nw.alloc ?_ _))))) ?_
          clear hK K
          try simp only [List.getElem_toArray, List.getElem_cons_succ, List.getElem_cons_zero, Act.put, List.setIfInBounds_toArray, List.set_cons_zero, List.set_cons_succ]
          refine wpAnyF_freeT (i := 8) (v := ?_) rfl (by kernel_rfl) (by kernel_rfl) (by kernel_rfl) (by kernel_rfl) (by kernel_rfl) (fun _ _ _ h => h) (by rfl) ?_ (HSW.out _ (by repeat (first | exact Nw.refl wc | refine Nw.drew ?_ | refine Nw.alloc ?_ _))) ?_
          rotate_left
          · intro u
            go_simp
            try with_reducible rfl
          try simp only [List.getElem_toArray, List.getElem_cons_succ, List.getElem_cons_zero, Act.put, List.setIfInBounds_toArray, List.set_cons_zero, List.set_cons_succ]
          refine wpAnyF_step (i := 9) (by kernel_rfl) rfl (by rfl) fun K hK => ?_
          refine wp_store_row 33 _ _ rfl wc.heap.size Q0 rfl rfl 33 #[.int .i64 0, .int .u32 0, .int .i64 0, .slice none 0 0, .int .i64 0, .int .i64 0, .int .i64 0, .int .i64 0, .int .i64 0, .int .i64 0, .int .u32 0, .int .i64 0, .int .i64 0, .int .i64 0, .int .i64 0, .int .i64 0, .int .i64 0] (madeK3 wc 33 #[.int .i64 0, .int .u32 0, .int .i64 0, .slice none 0 0, .int .i64 0, .int .i64 0, .int .i64 0, .int .i64 0, .int .i64 0, .int .i64 0, .int .u32 0, .int .i64 0, .int .i64 0, .int .i64 0, .int .i64 0, .int .i64 0, .int .i64 0] kb HKB.out).msg HI.out (by rw [HQ0.out.2.1]; rfl) HQ0.out.2.2.1 ?_
          refine hK _ _ (.inl rfl) ?_
          clear hK K
          try simp only [List.getElem_toArray, List.getElem_cons_succ, List.getElem_cons_zero, Act.put, List.setIfInBounds_toArray, List.set_cons_zero, List.set_cons_succ]
          refine wpAnyF_done (by kernel_rfl) ?_ _
          go_wp2_with fail
          go_meet
          exact ⟨_, _, rfl, rfl, some (wc.heap.size + 1), Lib.hid (((madeK3 wc 33 #[.int .i64 0, .int .u32 0, .int .i64 0, .slice none 0 0, .int .i64 0, .int .i64 0, .int .i64 0, .int .i64 0, .int .i64 0, .int .i64 0, .int .u32 0, .int .i64 0, .int .i64 0, .int .i64 0, .int .i64 0, .int .i64 0, .int .i64 0] kb HKB.out).row (by decide) Q0).encR HEN.out HTB.out HQ.out)⟩
    case rest =>
      obtain ⟨P, M, rfl, rfl, blk, HE⟩ := hcut
      have hsz : w.heap.size + 1 + t < wc.heap.size := HE.out.tabs.lt
      have hP := HE.out.p
      have hMP := HE.out.m
      have hne := HE.out.ne
      obtain ⟨g, hg1, hg2⟩ := HE.out.b
      have hst : WrSt (wc.alloc (.cells #[.bool false] 4)) (wc.alloc (.cells #[.bool false] 4)) P M 33 [kb] blk blk Q0 := ⟨HE.out.pen.alloc _, .inl rfl, HE.out.msg.alloc _, hne, by decide, Chg.refl _ _⟩
      have hby : BytesAt wc A q.md := HBY0.out.1.below HE.out.nw (Nat.le_refl _)
      have KO := overQ_w wc P M (w.heap.size + 1 + t) np 33 102 ps [kb] blk Q0 row hst HE.out.tabs HPS.out.2.1 (fun p hp => allQ_ent q p (HPS.out.1 p hp)) HE.out.pen.lt HE.out.msg.lt HE.out.pen.blt (by omega) (by omega) (by rw [hg1]; intro e; injection e with e; omega) (fun i => Nat.le_trans (HPS.out.2.2 i) (by omega))
        (fun p hp W out b hW hl => by
          rw [HQ0.out.2.2.2] at hW ⊢
          exact partQ_step q A c HFIT.out (wc.alloc (.cells #[.bool false] 4)) P M blk (hby.below ((Below.refl _ wc).alloc (Nat.le_refl _) _) (Nat.le_refl _)) (HBY0.out.2.imp_right fun hA a ha => by
            have h1 := hA a ha
            refine ⟨by simp only [World.size_alloc]; omega, ?_⟩
            rw [hg1]
            rintro (e | e | e)
            · omega
            · omega
            · injection e with e; omega) p (HPS.out.1 p hp) W out b hW hl)
        (by have := HNP.out; omega)
      rw [HNP.out.1] at KO
      have KOV := Lib.hid KO
      have HPM := Lib.hid (And.intro hP (And.intro hMP hne))
      have HG := Lib.hid (And.intro hg1 hg2)
      clear KO hst hsz hP hMP hne hg1 hg2 hby
      go_wp2_with fail
      refine KOV.out.mono ?_
      rintro e w6 (⟨hok, rfl, W, b2, hW, hw6⟩ | ⟨hno, rfl, W, hch, hw6⟩)
      rotate_left
      · have hn6 : Nw w w6 := by
          have h1 : Below w.heap.size w (wc.alloc (.cells #[.bool false] 4)) := Below.alloc HE.out.nw (by have := HE.out.tabs.lt; omega) _
          have h2 : Below w.heap.size w W := h1.trans (hch.below (fun i hi hq => by have := HPM.out; have := HG.out.2; rw [HG.out.1] at hq; rcases hq with q | q | q <;> first | omega | (injection q with q; omega)) (by have := HE.out.tabs.lt; simp; omega))
          rw [hw6]
          exact Nw.set (h2.alloc (by have := h2.size; have := HE.out.tabs.lt; omega) _) (by have := HE.out.tabs.lt; show w.heap.size ≤ wc.heap.size; omega) _
        have HN6 := Lib.hid hn6
        have hr : r = none := by rw [← HR.out, encR, if_neg (fun h => hno h.1)]
        subst hr
        clear hw6 hch hno hn6
        as_aux_lemma =>
          go_wp2_with fail
          go_ret2
          exact ⟨rfl, HN6.out⟩
      have hlow : w.heap.size < wc.heap.size := HE.out.own.lt
      have hch := hW.chg
      have e1 := HE.out.pen.lt
      have e2 := HE.out.msg.lt
      obtain ⟨bs, hbs⟩ : ∃ bs, kb :: (ps.map (·.add)).flatten = bs := ⟨_, rfl⟩
      have hW' : PenW W P bs b2 := by rw [← hbs]; exact hW.pen
      have hob : Blk W w.heap.size 33 Q0 := (HE.out.own.alloc _).chg hch (by have := HPM.out; rw [HG.out.1]; have := HG.out.2; rintro (q | q | q) <;> first | omega | (injection q with q; omega))
      have ho6 : Blk w6 w.heap.size 33 Q0 := by rw [hw6]; exact hob.far (p := ⟨wc.heap.size, 0, none⟩) (by show w.heap.size ≠ wc.heap.size; omega) _
      have hp6 : PenW w6 P bs b2 := by
        rw [hw6]
        refine hW'.far (p := ⟨wc.heap.size, 0, none⟩) (by show P ≠ wc.heap.size; omega) ?_ _
        rcases hW.new with q | ⟨g, q, hg⟩
        · rw [q]; intro q2; have q3 := HE.out.pen.blt _ q2; exact absurd q3 (by show ¬ wc.heap.size < wc.heap.size; omega)
        · rw [q]; intro q2; injection q2 with q2; simp at hg; have q2 : g = wc.heap.size := q2; omega
      have hn6 : Nw w w6 := by
        have h1 : Below w.heap.size w (wc.alloc (.cells #[.bool false] 4)) := Below.alloc HE.out.nw (by omega) _
        have h2 : Below w.heap.size w W := h1.trans (hch.below (fun i hi hq => by have := HPM.out; have := HG.out.2; rw [HG.out.1] at hq; rcases hq with q | q | q <;> first | omega | (injection q with q; omega)) (by simp; omega))
        rw [hw6]
        exact Nw.set h2 (by show w.heap.size ≤ wc.heap.size; omega) _
      have hbl : bs.length ≤ 80001 := by have h := HPS.out.2.2 ps.length; rw [List.take_length] at h; rw [← hbs]; simpa using Nat.le_succ_of_le h
      have HRB := Lib.hid (show r = if dec7Q bs = (q, 0) then some bs else none by
        rw [← HR.out, encR, hbs]
        by_cases h : dec7Q bs = (q, 0)
        · rw [if_pos ⟨hok, h⟩, if_pos h]
        · rw [if_neg (fun x => h x.2), if_neg h])
      clear hW hW' hw6 hch hob KOV e1 e2 hlow hok hbs HR
      obtain ⟨A1, c1, hpb, hpo⟩ := hp6
      obtain ⟨A', c', e, hrd, hcc, _⟩ := hpo.rd
      injection e with e1 _ e3
      subst e1 e3
      obtain ⟨n, hn⟩ : ∃ n, bs.length = n := ⟨_, rfl⟩
      rw [hn] at hpb hcc hbl
      have KD := Lib.hid (ourQ_any w6 A1 n c1 bs hrd hn hcc (by omega))
      have p0 : w6.cell? ⟨P, 0, none⟩ = some (.slice A1 n c1) := (hpb.cell 0).trans rfl
      have HPB := Lib.hid hpb
      have HBY := Lib.hid (show BytesAt w6 A1 bs ∧ n ≤ c1 ∧ bs.length = n from ⟨hrd, hcc, hn⟩)
      have HO6 := Lib.hid ho6
      have HN6 := Lib.hid hn6
      obtain ⟨D, hD⟩ : ∃ D, dec7Q bs = D := ⟨_, rfl⟩
      have HD := Lib.hid (show D.1.md.length ≤ 80001 by rw [← hD]; exact Nat.le_trans (dec7Q_md bs) (by omega))
      rw [hD] at HRB KD
      clear hpb hpo hrd hcc hn hbl ho6 hn6 hD
      go_upto_region 5 with (fail)
      obtain ⟨Q1, er⟩ := D
      go_wp2_with fail
      refine KD.out.mono ?_
      rintro e w7 ⟨A2, c2, rfl, hb7, n7, _⟩
      obtain ⟨q1, hq1⟩ : ∃ q1, (Q1.c A2 c2).toArray = q1 := ⟨_, rfl⟩
      simp only at hb7 hq1
      rw [hq1]
      have HQ1 := Lib.hid (show q1.size = 17 ∧ q1.all (·.oneCell') = true ∧ q1 = (Q1.c A2 c2).toArray by rw [← hq1]; exact ⟨rfl, by simp [Rq.c, Value.oneCell'], rfl⟩)
      obtain ⟨w8, hw8⟩ : ∃ w8, w7.alloc (.cells q1 33) = w8 := ⟨_, rfl⟩
      obtain ⟨B8, hB8⟩ : ∃ B8, w7.heap.size = B8 := ⟨_, rfl⟩
      have hb8 : Blk w8 B8 33 q1 := by rw [← hw8]; exact Blk.last w7 _ _ hB8
      have n78 : Nw w7 w8 := by rw [← hw8]; exact (Nw.refl w7).alloc _
      have n68 : Nw w6 w8 := Nw.trans n7 n78
      have ho8 : Blk w8 w.heap.size 33 Q0 := HO6.out.below n68 HO6.out.lt
      have hp8 : Blk w8 P 76 #[.slice A1 n c1, .bool false] := HPB.out.below n68 HPB.out.lt
      obtain ⟨d8, hd8⟩ := stRq
      have HW8 := Lib.hid (And.intro hw8 hB8)
      have HP8 := Lib.hid hp8
      have HN8 := Lib.hid (show Nw w w8 from Nw.trans HN6.out n68)
      have HBY8 := Lib.hid (show BytesAt w8 A1 bs from Rd.nw HBY.out.1 n68)
      have HD8 := Lib.hid hd8
      have HB8 := Lib.hid hb8
      have HO8 := Lib.hid ho8
      have HI8 := Lib.hid (show (Try.prog.info? 33).map (·.size) = some q1.size by rw [HQ1.out.1]; kernel_rfl)
      have HJ8 := Lib.hid (show (Try.prog.info? 33).map (·.size) = some Q0.size by rw [HQ0.out.2.1]; kernel_rfl)
      have HZ8 := Lib.hid (show (#[.int .i64 0, .int .u32 0, .int .i64 0, .slice none 0 0, .int .i64 0, .int .i64 0, .int .i64 0, .int .i64 0, .int .i64 0, .int .i64 0, .int .u32 0, .int .i64 0, .int .i64 0, .int .i64 0, .int .i64 0, .int .i64 0, .int .i64 0] : Array Value).size = q1.size by rw [HQ1.out.1]; rfl)
      have KS := Lib.hid (show Calls Try.prog 15 #[.agg q1, .agg Q0] w8 (fun e w' => e = .returned (.bool (decide (Q1 = q))) ∧ Nw w8 w') by
        rw [HQ1.out.2.2, HQ0.out.2.2.2]
        have h1 : Q1.md.length ≤ 9223372036854775807 := by have h2 := HD.out; omega
        exact sameRq_any w8 Q1 q A2 A c2 c (Rd.nw hb7 n78) (show BytesAt w8 A q.md from Rd.nw HBY0.out.1 HN8.out) h1 (by have := HFIT.out.md; omega))
      clear hw8 hB8 hb8 n78 n68 ho8 hp8 hd8 hb7 n7 hq1 p0
      go_upto_region 6 with (refine wpList_store_row rfl 33 _ _ rfl w7.heap.size q1 rfl rfl 33 _ (heap_last _ _ rfl) HI8.out HZ8.out HQ1.out.2.1 ?_; rw [setRow_last _ _ _ _ rfl])
      rw [HW8.out.1, HW8.out.2]
      by_cases her : er = 0
      rotate_left
      · have hr : r = none := by rw [HRB.out, if_neg (fun h => her (congrArg Prod.snd h))]
        subst hr
        have hb0 : (er == 0) = false := by simpa using her
        as_aux_lemma =>
          go_wp2_with fail
          go_ret2
          exact ⟨rfl, HN8.out⟩
      subst her
      by_cases heq : Q1 = q
      · have hr : r = some bs := by rw [HRB.out, heq, if_pos rfl]
        subst hr
        rw [decide_eq_true heq] at KS
        clear heq
        as_aux_lemma =>
          go_wp2_with (first | (refine wpList_load_row_g (by rfl) 33 _ rfl B8 rfl 33 q1 (0, 0) (.struct d8) HB8.out HD8.out rfl HI8.out ?_) | (refine wpList_load_row_g (by rfl) 33 _ rfl w.heap.size rfl 33 Q0 (0, 0) (.struct d8) HO8.out HD8.out rfl HJ8.out ?_))
          refine KS.out.mono ?_
          rintro e w9 ⟨rfl, n9⟩
          have p9 : w9.cell? ⟨P, 0, none⟩ = some (.slice A1 n c1) := n9.cell ((HP8.out.cell 0).trans rfl)
          have HN9 := Lib.hid (show Nw w w9 from Nw.trans HN8.out n9)
          have HB9 := Lib.hid (show BytesAt w9 A1 bs from Rd.nw HBY8.out n9)
          clear n9
          go_wp2_with fail
          go_ret2
          exact ⟨A1, c1, by rw [HBY.out.2.2]; rfl, HB9.out, by rw [HBY.out.2.2]; exact HBY.out.2.1, HN9.out⟩
      · have hr : r = none := by rw [HRB.out, if_neg (fun h => heq (congrArg Prod.fst h))]
        subst hr
        rw [decide_eq_false heq] at KS
        clear heq
        as_aux_lemma =>
          go_wp2_with (first | (refine wpList_load_row_g (by rfl) 33 _ rfl B8 rfl 33 q1 (0, 0) (.struct d8) HB8.out HD8.out rfl HI8.out ?_) | (refine wpList_load_row_g (by rfl) 33 _ rfl w.heap.size rfl 33 Q0 (0, 0) (.struct d8) HO8.out HD8.out rfl HJ8.out ?_))
          refine KS.out.mono ?_
          rintro e w9 ⟨rfl, n9⟩
          have HN9 := Lib.hid (show Nw w w9 from Nw.trans HN8.out n9)
          clear n9
          go_wp2_with fail
          go_ret2
          exact ⟨rfl, HN9.out⟩
end Go.Proofs.Ytnbcjjgilndlaaa
/- Messages: what ours encodes, of any request. Helper. -/
namespace Go.Proofs.Ytnbcjjgilndlaaa
open Go.RowKit
set_option linter.unusedVariables false
set_option linter.unusedSimpArgs false
set_option maxRecDepth 100000
set_option maxHeartbeats 6400000
theorem asks_missI (S : Nat) (k : Int) (hk : k < 1 ∨ 12 < k) : Instr.findNow (.int .i64) (.int .i64 k) (asksES S).toArray.toList 0 = some none := by
  have e : ∀ j : Nat, 1 ≤ j → j ≤ 12 → (k == (j : Int)) = false := fun j h1 h2 => by simp; omega
  have e1 : (k == 1) = false := e 1 (by omega) (by omega)
  have e2 : (k == 2) = false := e 2 (by omega) (by omega)
  have e3 : (k == 3) = false := e 3 (by omega) (by omega)
  have e4 : (k == 4) = false := e 4 (by omega) (by omega)
  have e5 : (k == 5) = false := e 5 (by omega) (by omega)
  have e6 : (k == 6) = false := e 6 (by omega) (by omega)
  have e7 : (k == 7) = false := e 7 (by omega) (by omega)
  have e8 : (k == 8) = false := e 8 (by omega) (by omega)
  have e9 : (k == 9) = false := e 9 (by omega) (by omega)
  have e10 : (k == 10) = false := e 10 (by omega) (by omega)
  have e11 : (k == 11) = false := e 11 (by omega) (by omega)
  have e12 : (k == 12) = false := e 12 (by omega) (by omega)
  simp [asksES, Instr.findNow, Instr.sameNow, e1, e2, e3, e4, e5, e6, e7, e8, e9, e10, e11, e12]
theorem encQ_bad (q : Rq) (hk : q.k < 1 ∨ 12 < q.k) (A : Option Addr) (c : Nat) (w : World) : Calls Try.prog 17 #[.agg #[.int .i64 q.k, .int .u32 q.id, .int .i64 q.ver, .slice A q.md.length c, .int .i64 q.T, .int .i64 q.O, .int .i64 q.S, .int .i64 q.tt, .int .i64 q.kd, .int .i64 q.da, .int .u32 q.nu, .int .i64 q.bp, .int .i64 q.bk, .int .i64 q.bt, .int .i64 q.pr, .int .i64 q.nm, .int .i64 q.dn]] w (EncF w none) := by
  obtain ⟨Q0, hQ0⟩ : ∃ Q0 : Array Value, #[.int .i64 q.k, .int .u32 q.id, .int .i64 q.ver, .slice A q.md.length c, .int .i64 q.T, .int .i64 q.O, .int .i64 q.S, .int .i64 q.tt, .int .i64 q.kd, .int .i64 q.da, .int .u32 q.nu, .int .i64 q.bp, .int .i64 q.bk, .int .i64 q.bt, .int .i64 q.pr, .int .i64 q.nm, .int .i64 q.dn] = Q0 := ⟨_, rfl⟩
  obtain ⟨k, hkk⟩ : ∃ k, q.k = k := ⟨_, rfl⟩
  obtain ⟨v, hv⟩ : ∃ v, IntKind.u8.wrap k = v := ⟨_, rfl⟩
  obtain ⟨kb, hkb⟩ : ∃ kb : UInt8, (kb.toNat : Int) = v := ⟨UInt8.ofNat v.toNat, by rw [IntKind.wrap_u8] at hv; simp; omega⟩
  have HQ0 := Lib.hid (show Q0[0]? = some (.int .i64 k) ∧ Q0.size = 17 ∧ Q0.all (·.oneCell') = true by rw [← hQ0, ← hkk]; exact ⟨rfl, rfl, by simp [Value.oneCell']⟩)
  rw [hQ0]
  obtain ⟨w1, hw1⟩ : ∃ w1, w.alloc (.cells Q0 33) = w1 := ⟨_, rfl⟩
  have hM : Blk w1 w.heap.size 33 Q0 := by rw [← hw1]; exact Blk.last w _ _ rfl
  have n1 : Nw w w1 := by rw [← hw1]; exact (Nw.refl w).alloc _
  have s1 : w1.heap.size = w.heap.size + 1 := by rw [← hw1]; simp
  have k0 : w1.cell? ⟨w.heap.size, 0, none⟩ = some (.int .i64 k) := (hM.cell 0).trans HQ0.out.1
  have HKB := Lib.hid hkb
  have HW1 := Lib.hid hw1
  have HM := Lib.hid hM
  have N1 := Lib.hid n1
  have S1 := Lib.hid s1
  have HX := Lib.hid (show k < 1 ∨ 12 < k by rw [← hkk]; exact hk)
  have HZZ := Lib.hid (show ∀ W, (zeroValue 69).run Try.prog W = .ok (.slice none 0 0) W from fun W => by kernel_rfl)
  have KA := Lib.hid (fun (W : World) (hs : W.heap.size = w.heap.size + 1) => by have := asks_any W; rw [hs] at this; exact this)
  clear hw1 hM n1 s1 hQ0 hkb hk hkk
  go_enter Try.func17, Try.ntmps17
  go_upto_region 1 with (fail)
  rw [HW1.out]
  go_cut [5] from 10 to 17 (fun s5 wx => s5 = .bool false ∧ Hid (Nw w1 wx))
  case first =>
   as_aux_lemma =>
    go_region_with (go_at_call 29; refine (KA.out w1.drew S1.out).mono ?_; rintro e w4 ⟨rfl, h4, b4⟩; have i4 : Nw w1 w4 := Nw.step (show Nw w1 w1.drew from (Nw.refl w1).drew) (by have hs : w1.drew.heap.size = w.heap.size + 1 := S1.out; rw [hs]; exact b4); have kk := i4.cell k0; have lk := look_none Try.underlying71 Try.underlying24 h4.tab k HZZ.out (asks_missI _ k HX.out); have I4 := Lib.hid i4; clear h4 i4 b4)
    all_goals
      go_wp2_with fail
      go_meet
      exact ⟨rfl, Lib.hid I4.out⟩
  case rest =>
    obtain ⟨rfl, HY⟩ := hcut
    clear k0
    have HQ := Lib.hid (show Blk wc w.heap.size 33 Q0 from HM.out.below HY.out HM.out.lt)
    have HEN := Lib.hid (show Nw w wc from Nw.trans N1.out HY.out)
    go_upto_region 2 with (fail)
    go_cut [6, 7] from 17 to 24 (fun s6 s7 wx => ∃ P M, s6 = .pointer (some ⟨P, 0, none⟩) ∧ s7 = .pointer (some ⟨M, 0, none⟩) ∧ ∃ blk, Hid (Made wc wx 33 Q0 kb P M blk))
    case first =>
      as_aux_lemma =>
        obtain ⟨d, hd⟩ := stRq
        have HD := Lib.hid hd
        have HI := Lib.hid (show (Try.prog.info? 33).map (·.size) = some Q0.size by rw [HQ0.out.2.1]; kernel_rfl)
        have HSW := Lib.hid (fun W (hW : Nw wc W) => (⟨hW, HQ.out.below hW HQ.out.lt⟩ : Nw wc W ∧ Blk W w.heap.size 33 Q0))
        clear hd
        refine wp_region_F (fun W => Nw wc W ∧ Blk W w.heap.size 33 Q0) [9] (by kernel_rfl) ?_
        have hS := HSW.out wc.drew (Nw.refl wc).drew
        refine wpAnyF_freeT (i := 0) (v := ?_) rfl (by kernel_rfl) (by kernel_rfl) (by kernel_rfl) (by kernel_rfl) (by kernel_rfl) (fun _ _ _ h => h) (by rfl) ?_ hS ?_
        rotate_left
        · intro u
          go_simp
          try with_reducible rfl
        try simp only [List.getElem_toArray, List.getElem_cons_succ, List.getElem_cons_zero, Act.put, List.setIfInBounds_toArray, List.set_cons_zero, List.set_cons_succ]
        refine wpAnyF_takeT (i := 1) (v := ?_) rfl (by kernel_rfl) (by kernel_rfl) (by kernel_rfl) (by kernel_rfl) (by kernel_rfl) (by kernel_rfl) (fun _ _ _ h => h) (by rfl) ?_ hS ?_
        rotate_left
        · intro u hu
          have hu1 : u.cell? ⟨w.heap.size, 0, none⟩ = some (.int .i64 k) := (hu.2.cell 0).trans HQ0.out.1
          go_simp
          try with_reducible rfl
        try simp only [List.getElem_toArray, List.getElem_cons_succ, List.getElem_cons_zero, Act.put, List.setIfInBounds_toArray, List.set_cons_zero, List.set_cons_succ]
        refine wpAnyF_freeT (i := 2) (v := ?_) rfl (by kernel_rfl) (by kernel_rfl) (by kernel_rfl) (by kernel_rfl) (by kernel_rfl) (fun _ _ _ h => h) (by rfl) ?_ hS ?_
        rotate_left
        · intro u
          go_simp
          try with_reducible rfl
        try simp only [List.getElem_toArray, List.getElem_cons_succ, List.getElem_cons_zero, Act.put, List.setIfInBounds_toArray, List.set_cons_zero, List.set_cons_succ]
        refine wpAnyF_takeT (i := 6) (v := ?_) rfl (by kernel_rfl) (by kernel_rfl) (by kernel_rfl) (by kernel_rfl) (by kernel_rfl) (by kernel_rfl) (fun _ _ _ h => h) (by rfl) ?_ hS ?_
        rotate_left
        · intro u hu
          try simp only [List.getElem_toArray, List.getElem_cons_succ, List.getElem_cons_zero]
          refine Eq.trans (exec_load_row 33 _ rfl w.heap.size rfl 33 Q0 (0, 0) (.struct d) hu.2 HD.out rfl HI.out) ?_
          with_reducible rfl
        try simp only [List.getElem_toArray, List.getElem_cons_succ, List.getElem_cons_zero, Act.put, List.setIfInBounds_toArray, List.set_cons_zero, List.set_cons_succ]
        refine wpAnyF_two (i := 3) (j := 7) (by kernel_rfl) rfl (by rfl) rfl (by rfl) (fun K hK => ?_) (fun K hK => ?_)
        · go_simp
          refine hK _ _ (.inr (HSW.out _ (by repeat (first | exact Nw.refl wc | refine Nw.drew ?_ | refine Nw.alloc ?_ _)))) ?_
          clear hK K
          try simp only [List.getElem_toArray, List.getElem_cons_succ, List.getElem_cons_zero, Act.put, List.setIfInBounds_toArray, List.set_cons_zero, List.set_cons_succ]
          refine wpAnyF_freeT (i := 4) (v := ?_) rfl (by kernel_rfl) (by kernel_rfl) (by kernel_rfl) (by kernel_rfl) (by kernel_rfl) (fun _ _ _ h => h) (by rfl) ?_ (HSW.out _ (by repeat (first | exact Nw.refl wc | refine Nw.drew ?_ | refine Nw.alloc ?_ _))) ?_
          rotate_left
          · intro u
            go_simp
            try with_reducible rfl
          try simp only [List.getElem_toArray, List.getElem_cons_succ, List.getElem_cons_zero, Act.put, List.setIfInBounds_toArray, List.set_cons_zero, List.set_cons_succ]
          refine wpAnyF_two (i := 5) (j := 7) (by kernel_rfl) rfl (by rfl) rfl (by rfl) (fun K hK => ?_) (fun K hK => ?_)
          · go_simp
            refine hK _ _ (.inr (HSW.out _ (by repeat (first | exact Nw.refl wc | refine Nw.drew ?_ | refine Nw.alloc ?_ _)))) ?_
            clear hK K
            try simp only [List.getElem_toArray, List.getElem_cons_succ, List.getElem_cons_zero, Act.put, List.setIfInBounds_toArray, List.set_cons_zero, List.set_cons_succ]
            refine wpAnyF_step (i := 7) (by kernel_rfl) rfl (by rfl) fun K hK => ?_
            go_simp
            refine hK _ _ (.inr ((HSW.out _ (by repeat (first | exact Nw.refl wc | refine Nw.drew ?_ | refine Nw.alloc ?_ _))))) ?_
            clear hK K
            try simp only [List.getElem_toArray, List.getElem_cons_succ, List.getElem_cons_zero, Act.put, List.setIfInBounds_toArray, List.set_cons_zero, List.set_cons_succ]
            refine wpAnyF_freeT (i := 8) (v := ?_) rfl (by kernel_rfl) (by kernel_rfl) (by kernel_rfl) (by kernel_rfl) (by kernel_rfl) (fun _ _ _ h => h) (by rfl) ?_ (HSW.out _ (by repeat (first | exact Nw.refl wc | refine Nw.drew ?_ | refine Nw.alloc ?_ _))) ?_
            rotate_left
            · intro u
              go_simp
              try with_reducible rfl
            try simp only [List.getElem_toArray, List.getElem_cons_succ, List.getElem_cons_zero, Act.put, List.setIfInBounds_toArray, List.set_cons_zero, List.set_cons_succ]
            refine wpAnyF_step (i := 9) (by kernel_rfl) rfl (by rfl) fun K hK => ?_
            refine wp_store_row 33 _ _ rfl (wc.heap.size + 1 + 1) Q0 rfl rfl 33 #[.int .i64 0, .int .u32 0, .int .i64 0, .slice none 0 0, .int .i64 0, .int .i64 0, .int .i64 0, .int .i64 0, .int .i64 0, .int .i64 0, .int .u32 0, .int .i64 0, .int .i64 0, .int .i64 0, .int .i64 0, .int .i64 0, .int .i64 0] (madeK1 wc 33 #[.int .i64 0, .int .u32 0, .int .i64 0, .slice none 0 0, .int .i64 0, .int .i64 0, .int .i64 0, .int .i64 0, .int .i64 0, .int .i64 0, .int .u32 0, .int .i64 0, .int .i64 0, .int .i64 0, .int .i64 0, .int .i64 0, .int .i64 0] kb HKB.out).msg HI.out (by rw [HQ0.out.2.1]; rfl) HQ0.out.2.2 ?_
            refine hK _ _ (.inl rfl) ?_
            clear hK K
            try simp only [List.getElem_toArray, List.getElem_cons_succ, List.getElem_cons_zero, Act.put, List.setIfInBounds_toArray, List.set_cons_zero, List.set_cons_succ]
            refine wpAnyF_done (by kernel_rfl) ?_ _
            go_wp2_with fail
            go_meet
            exact ⟨_, _, rfl, rfl, some wc.heap.size, Lib.hid ((madeK1 wc 33 #[.int .i64 0, .int .u32 0, .int .i64 0, .slice none 0 0, .int .i64 0, .int .i64 0, .int .i64 0, .int .i64 0, .int .i64 0, .int .i64 0, .int .u32 0, .int .i64 0, .int .i64 0, .int .i64 0, .int .i64 0, .int .i64 0, .int .i64 0] kb HKB.out).row (by decide) Q0)⟩
          · go_simp
            refine hK _ _ (.inr (HSW.out _ (by repeat (first | exact Nw.refl wc | refine Nw.drew ?_ | refine Nw.alloc ?_ _)))) ?_
            clear hK K
            try simp only [List.getElem_toArray, List.getElem_cons_succ, List.getElem_cons_zero, Act.put, List.setIfInBounds_toArray, List.set_cons_zero, List.set_cons_succ]
            refine wpAnyF_step (i := 5) (by kernel_rfl) rfl (by rfl) fun K hK => ?_
            go_simp
            refine hK _ _ (.inr ((HSW.out _ (by repeat (first | exact Nw.refl wc | refine Nw.drew ?_ | refine Nw.alloc ?_ _))))) ?_
            clear hK K
            try simp only [List.getElem_toArray, List.getElem_cons_succ, List.getElem_cons_zero, Act.put, List.setIfInBounds_toArray, List.set_cons_zero, List.set_cons_succ]
            refine wpAnyF_freeT (i := 8) (v := ?_) rfl (by kernel_rfl) (by kernel_rfl) (by kernel_rfl) (by kernel_rfl) (by kernel_rfl) (fun _ _ _ h => h) (by rfl) ?_ (HSW.out _ (by repeat (first | exact Nw.refl wc | refine Nw.drew ?_ | refine Nw.alloc ?_ _))) ?_
            rotate_left
            · intro u
              go_simp
              try with_reducible rfl
            try simp only [List.getElem_toArray, List.getElem_cons_succ, List.getElem_cons_zero, Act.put, List.setIfInBounds_toArray, List.set_cons_zero, List.set_cons_succ]
            refine wpAnyF_step (i := 9) (by kernel_rfl) rfl (by rfl) fun K hK => ?_
            refine wp_store_row 33 _ _ rfl (wc.heap.size + 1) Q0 rfl rfl 33 #[.int .i64 0, .int .u32 0, .int .i64 0, .slice none 0 0, .int .i64 0, .int .i64 0, .int .i64 0, .int .i64 0, .int .i64 0, .int .i64 0, .int .u32 0, .int .i64 0, .int .i64 0, .int .i64 0, .int .i64 0, .int .i64 0, .int .i64 0] (madeK2 wc 33 #[.int .i64 0, .int .u32 0, .int .i64 0, .slice none 0 0, .int .i64 0, .int .i64 0, .int .i64 0, .int .i64 0, .int .i64 0, .int .i64 0, .int .u32 0, .int .i64 0, .int .i64 0, .int .i64 0, .int .i64 0, .int .i64 0, .int .i64 0] kb HKB.out).msg HI.out (by rw [HQ0.out.2.1]; rfl) HQ0.out.2.2 ?_
            refine hK _ _ (.inl rfl) ?_
            clear hK K
            try simp only [List.getElem_toArray, List.getElem_cons_succ, List.getElem_cons_zero, Act.put, List.setIfInBounds_toArray, List.set_cons_zero, List.set_cons_succ]
            refine wpAnyF_done (by kernel_rfl) ?_ _
            go_wp2_with fail
            go_meet
            exact ⟨_, _, rfl, rfl, some wc.heap.size, Lib.hid ((madeK2 wc 33 #[.int .i64 0, .int .u32 0, .int .i64 0, .slice none 0 0, .int .i64 0, .int .i64 0, .int .i64 0, .int .i64 0, .int .i64 0, .int .i64 0, .int .u32 0, .int .i64 0, .int .i64 0, .int .i64 0, .int .i64 0, .int .i64 0, .int .i64 0] kb HKB.out).row (by decide) Q0)⟩
        · go_simp
          refine hK _ _ (.inr (HSW.out _ (by repeat (first | exact Nw.refl wc | refine Nw.drew ?_ | refine Nw.alloc ?_ _)))) ?_
          clear hK K
          try simp only [List.getElem_toArray, List.getElem_cons_succ, List.getElem_cons_zero, Act.put, List.setIfInBounds_toArray, List.set_cons_zero, List.set_cons_succ]
          refine wpAnyF_step (i := 3) (by kernel_rfl) rfl (by rfl) fun K hK => ?_
          go_simp
          refine hK _ _ (.inr ((HSW.out _ (by repeat (first | exact Nw.refl wc | refine Nw.drew ?_ | refine Nw.alloc ?_ _))))) ?_
          clear hK K
          try simp only [List.getElem_toArray, List.getElem_cons_succ, List.getElem_cons_zero, Act.put, List.setIfInBounds_toArray, List.set_cons_zero, List.set_cons_succ]
          refine wpAnyF_freeT (i := 4) (v := ?_) rfl (by kernel_rfl) (by kernel_rfl) (by kernel_rfl) (by kernel_rfl) (by kernel_rfl) (fun _ _ _ h => h) (by rfl) ?_ (HSW.out _ (by repeat (first | exact Nw.refl wc | refine Nw.drew ?_ | refine Nw.alloc ?_ _))) ?_
          rotate_left
          · intro u
            go_simp
            try with_reducible rfl
          try simp only [List.getElem_toArray, List.getElem_cons_succ, List.getElem_cons_zero, Act.put, List.setIfInBounds_toArray, List.set_cons_zero, List.set_cons_succ]
          refine wpAnyF_step (i := 5) (by kernel_rfl) rfl (by rfl) fun K hK => ?_
          go_simp
          refine hK _ _ (.inr ((HSW.out _ (by repeat (first | exact Nw.refl wc | refine Nw.drew ?_ | refine Nw.alloc ?_ _))))) ?_
          clear hK K
          try simp only [List.getElem_toArray, List.getElem_cons_succ, List.getElem_cons_zero, Act.put, List.setIfInBounds_toArray, List.set_cons_zero, List.set_cons_succ]
          refine wpAnyF_freeT (i := 8) (v := ?_) rfl (by kernel_rfl) (by kernel_rfl) (by kernel_rfl) (by kernel_rfl) (by kernel_rfl) (fun _ _ _ h => h) (by rfl) ?_ (HSW.out _ (by repeat (first | exact Nw.refl wc | refine Nw.drew ?_ | refine Nw.alloc ?_ _))) ?_
          rotate_left
          · intro u
            go_simp
            try with_reducible rfl
          try simp only [List.getElem_toArray, List.getElem_cons_succ, List.getElem_cons_zero, Act.put, List.setIfInBounds_toArray, List.set_cons_zero, List.set_cons_succ]
          refine wpAnyF_step (i := 9) (by kernel_rfl) rfl (by rfl) fun K hK => ?_
          refine wp_store_row 33 _ _ rfl wc.heap.size Q0 rfl rfl 33 #[.int .i64 0, .int .u32 0, .int .i64 0, .slice none 0 0, .int .i64 0, .int .i64 0, .int .i64 0, .int .i64 0, .int .i64 0, .int .i64 0, .int .u32 0, .int .i64 0, .int .i64 0, .int .i64 0, .int .i64 0, .int .i64 0, .int .i64 0] (madeK3 wc 33 #[.int .i64 0, .int .u32 0, .int .i64 0, .slice none 0 0, .int .i64 0, .int .i64 0, .int .i64 0, .int .i64 0, .int .i64 0, .int .i64 0, .int .u32 0, .int .i64 0, .int .i64 0, .int .i64 0, .int .i64 0, .int .i64 0, .int .i64 0] kb HKB.out).msg HI.out (by rw [HQ0.out.2.1]; rfl) HQ0.out.2.2 ?_
          refine hK _ _ (.inl rfl) ?_
          clear hK K
          try simp only [List.getElem_toArray, List.getElem_cons_succ, List.getElem_cons_zero, Act.put, List.setIfInBounds_toArray, List.set_cons_zero, List.set_cons_succ]
          refine wpAnyF_done (by kernel_rfl) ?_ _
          go_wp2_with fail
          go_meet
          exact ⟨_, _, rfl, rfl, some (wc.heap.size + 1), Lib.hid ((madeK3 wc 33 #[.int .i64 0, .int .u32 0, .int .i64 0, .slice none 0 0, .int .i64 0, .int .i64 0, .int .i64 0, .int .i64 0, .int .i64 0, .int .i64 0, .int .u32 0, .int .i64 0, .int .i64 0, .int .i64 0, .int .i64 0, .int .i64 0, .int .i64 0] kb HKB.out).row (by decide) Q0)⟩
    case rest =>
      obtain ⟨P, M, rfl, rfl, blk, HE⟩ := hcut
      have HF := Lib.hid (Nw.trans HEN.out HE.out.nw)
      as_aux_lemma =>
        go_wp2_with fail
        go_ret2
        exact ⟨rfl, HF.out⟩
theorem flat_take (l : List (List UInt8)) (i : Nat) : (l.take i).flatten.length ≤ l.flatten.length := by
  induction l generalizing i with
  | nil => simp
  | cons a l ih =>
    cases i with
    | zero => simp
    | succ i => have := ih i; simp only [List.take_succ_cons, List.flatten_cons, List.length_append]; omega
theorem partsQ_len (k : Nat) (q : Rq) (kb : UInt8) (hm : q.md.length ≤ 70000) (i : Nat) : ([kb] ++ (((partsQ k q).take i).map (·.add)).flatten).length ≤ 80000 := by
  have h1 : (((partsQ k q).take i).map (·.add)).flatten.length ≤ ((partsQ k q).map (·.add)).flatten.length := by rw [List.map_take]; exact flat_take _ i
  have h2 : ((partsQ k q).map (·.add)).flatten.length ≤ 70100 := by
    unfold partsQ
    repeat' split
    all_goals simp [beW_len]; try omega
  rw [List.length_append, List.length_singleton]
  omega
/-- What ours encodes. -/
noncomputable def encP (q : Rq) : Option (List UInt8) := if 1 ≤ q.k ∧ q.k ≤ 12 then encR (UInt8.ofNat q.k.toNat) q (partsQ q.k.toNat q) else none
theorem encQ_any (q : Rq) (hq : q.Fit) (hm : q.md.length ≤ 70000) (A : Option Addr) (c : Nat) (w : World) (hb : BytesAt w A q.md) (hA : q.md = [] ∨ ∀ a, A = some a → a.block < w.heap.size) : Calls Try.prog 17 #[.agg (q.c A c).toArray] w (EncF w (encP q)) := by
  by_cases hk : 1 ≤ q.k ∧ q.k ≤ 12
  rotate_left
  · rw [encP, if_neg hk]
    exact encQ_bad q (by omega) A c w
  obtain ⟨k, hkk⟩ : ∃ k : Nat, q.k = k := ⟨q.k.toNat, by omega⟩
  rw [encP, if_pos hk, hkk, Int.toNat_natCast]
  rw [hkk] at hk
  have hk2 : 1 ≤ k ∧ k ≤ 12 := by omega
  clear hk
  have : k = 1 ∨ k = 2 ∨ k = 3 ∨ k = 4 ∨ k = 5 ∨ k = 6 ∨ k = 7 ∨ k = 8 ∨ k = 9 ∨ k = 10 ∨ k = 11 ∨ k = 12 := by omega
  rcases this with rfl | rfl | rfl | rfl | rfl | rfl | rfl | rfl | rfl | rfl | rfl | rfl
  · exact encQ_of 1 hk2 q hkk hq A c _ 1 2 _ (partsQ 1 q) rfl (partsQ_sub 1 q) (UInt8.ofNat 1) rfl (fun _ => rfl) (fun _ _ h => h.p1) (fun j h => by
      have h2 : j < 2 := h
      have : j = 0 ∨ j = 1 := by omega
      rcases this with rfl | rfl <;> rfl) (partsQ_len 1 q _ hm) (by omega) w hb hA
  · exact encQ_of 2 hk2 q hkk hq A c _ 2 2 _ (partsQ 2 q) rfl (partsQ_sub 2 q) (UInt8.ofNat 2) rfl (fun _ => rfl) (fun _ _ h => h.p2) (fun j h => by
      have h2 : j < 2 := h
      have : j = 0 ∨ j = 1 := by omega
      rcases this with rfl | rfl <;> rfl) (partsQ_len 2 q _ hm) (by omega) w hb hA
  · exact encQ_of 3 hk2 q hkk hq A c _ 3 2 _ (partsQ 3 q) rfl (partsQ_sub 3 q) (UInt8.ofNat 3) rfl (fun _ => rfl) (fun _ _ h => h.p3) (fun j h => by
      have h2 : j < 2 := h
      have : j = 0 ∨ j = 1 := by omega
      rcases this with rfl | rfl <;> rfl) (partsQ_len 3 q _ hm) (by omega) w hb hA
  · exact encQ_of 4 hk2 q hkk hq A c _ 4 3 _ (partsQ 4 q) rfl (partsQ_sub 4 q) (UInt8.ofNat 4) rfl (fun _ => rfl) (fun _ _ h => h.p4) (fun j h => by
      have h2 : j < 3 := h
      have : j = 0 ∨ j = 1 ∨ j = 2 := by omega
      rcases this with rfl | rfl | rfl <;> rfl) (partsQ_len 4 q _ hm) (by omega) w hb hA
  · exact encQ_of 5 hk2 q hkk hq A c _ 5 2 _ (partsQ 5 q) rfl (partsQ_sub 5 q) (UInt8.ofNat 5) rfl (fun _ => rfl) (fun _ _ h => h.p5) (fun j h => by
      have h2 : j < 2 := h
      have : j = 0 ∨ j = 1 := by omega
      rcases this with rfl | rfl <;> rfl) (partsQ_len 5 q _ hm) (by omega) w hb hA
  · exact encQ_of 6 hk2 q hkk hq A c _ 6 2 _ (partsQ 6 q) rfl (partsQ_sub 6 q) (UInt8.ofNat 6) rfl (fun _ => rfl) (fun _ _ h => h.p6) (fun j h => by
      have h2 : j < 2 := h
      have : j = 0 ∨ j = 1 := by omega
      rcases this with rfl | rfl <;> rfl) (partsQ_len 6 q _ hm) (by omega) w hb hA
  · exact encQ_of 7 hk2 q hkk hq A c _ 7 1 _ (partsQ 7 q) rfl (partsQ_sub 7 q) (UInt8.ofNat 7) rfl (fun _ => rfl) (fun _ _ h => h.p7) (fun j h => by
      have h2 : j < 1 := h
      have : j = 0 := by omega
      rcases this with rfl <;> rfl) (partsQ_len 7 q _ hm) (by omega) w hb hA
  · exact encQ_of 8 hk2 q hkk hq A c _ 8 1 _ (partsQ 8 q) rfl (partsQ_sub 8 q) (UInt8.ofNat 8) rfl (fun _ => rfl) (fun _ _ h => h.p8) (fun j h => by
      have h2 : j < 1 := h
      have : j = 0 := by omega
      rcases this with rfl <;> rfl) (partsQ_len 8 q _ hm) (by omega) w hb hA
  · exact encQ_of 9 hk2 q hkk hq A c _ 9 1 _ (partsQ 9 q) rfl (partsQ_sub 9 q) (UInt8.ofNat 9) rfl (fun _ => rfl) (fun _ _ h => h.p9) (fun j h => by
      have h2 : j < 1 := h
      have : j = 0 := by omega
      rcases this with rfl <;> rfl) (partsQ_len 9 q _ hm) (by omega) w hb hA
  · exact encQ_of 10 hk2 q hkk hq A c _ 10 3 _ (partsQ 10 q) rfl (partsQ_sub 10 q) (UInt8.ofNat 10) rfl (fun _ => rfl) (fun _ _ h => h.p10) (fun j h => by
      have h2 : j < 3 := h
      have : j = 0 ∨ j = 1 ∨ j = 2 := by omega
      rcases this with rfl | rfl | rfl <;> rfl) (partsQ_len 10 q _ hm) (by omega) w hb hA
  · exact encQ_of 11 hk2 q hkk hq A c _ 11 1 _ (partsQ 11 q) rfl (partsQ_sub 11 q) (UInt8.ofNat 11) rfl (fun _ => rfl) (fun _ _ h => h.p11) (fun j h => by
      have h2 : j < 1 := h
      have : j = 0 := by omega
      rcases this with rfl <;> rfl) (partsQ_len 11 q _ hm) (by omega) w hb hA
  · exact encQ_of 12 hk2 q hkk hq A c _ 12 1 _ (partsQ 12 q) rfl (partsQ_sub 12 q) (UInt8.ofNat 12) rfl (fun _ => rfl) (fun _ _ h => h.p12) (fun j h => by
      have h2 : j < 1 := h
      have : j = 0 := by omega
      rcases this with rfl <;> rfl) (partsQ_len 12 q _ hm) (by omega) w hb hA
end Go.Proofs.Ytnbcjjgilndlaaa
