/- Messages: over goes over the parts of a request that is written. Helper. -/
import Derived.Test.YtnbcjjgilndlaaaRdOv
import Derived.Test.YtnbcjjgilndlaaaAkWr
import Derived.Test.YtnbcjjgilndlaaaRdPen
import Derived.Test.YtnbcjjgilndlaaaRdSm
namespace Go.Proofs.Ytnbcjjgilndlaaa
open Go.RowKit Go.Shelf
set_option linter.unusedVariables false
set_option linter.unusedSimpArgs false
set_option maxRecDepth 100000
set_option maxHeartbeats 3200000
/-- A part that is written: its function, its bytes, whether it may be. -/
structure WPart where
  f : Nat
  add : List UInt8
  ok : Prop
theorem overQ_w (wp : World) (P M fb fc : Nat) (T FT : TypeId) (ps : List WPart) (out0 : List UInt8) (blk : Option Nat) (mc row : Array Value)
    (hst : WrSt (wp.alloc (.cells #[.bool false] 4)) (wp.alloc (.cells #[.bool false] 4)) P M T out0 blk blk mc) (hF : Blk wp fb FT row) (hrow : ∀ j (h : j < ps.length), row[j]? = some (.func (.func ps[j].f) #[] #[])) (hent : ∀ p ∈ ps, ∀ args W, (callFunc p.f args).run Try.prog W = .ok (.enter p.f args) W)
    (hP : P < wp.heap.size) (hM : M < wp.heap.size) (hb : ∀ g, blk = some g → g < wp.heap.size) (hfP : fb ≠ P) (hfM : fb ≠ M) (hfb : some fb ≠ blk) (hlen : ∀ i, (out0 ++ ((ps.take i).map (·.add)).flatten).length ≤ 900000)
    (hstep : ∀ p ∈ ps, ∀ (W : World) (out : List UInt8) (b : Option Nat), WrSt (wp.alloc (.cells #[.bool false] 4)) W P M T out b blk mc → out.length ≤ 900000 → Calls Try.prog p.f #[.pointer (some ⟨P, 0, none⟩), .pointer (some ⟨M, 0, none⟩)] W (WrPost (wp.alloc (.cells #[.bool false] 4)) P M T out p.add p.ok blk mc)) (hl : ps.length ≤ 1000) :
    Calls Try.prog 30 #[.pointer (some ⟨P, 0, none⟩), .pointer (some ⟨M, 0, none⟩), .slice (some ⟨fb, 0, none⟩) ps.length fc] wp fun e w' =>
      ((∀ p ∈ ps, p.ok) ∧ e = .returned (.bool false) ∧ ∃ W b, WrSt (wp.alloc (.cells #[.bool false] 4)) W P M T (out0 ++ (ps.map (·.add)).flatten) b blk mc ∧ w' = W.setCell ⟨wp.heap.size, 0, none⟩ (.bool false)) ∨
      (¬ (∀ p ∈ ps, p.ok) ∧ e = .returned (.bool true) ∧ ∃ W, Chg (fun i => i = P ∨ i = M ∨ some i = blk) (wp.alloc (.cells #[.bool false] 4)) W ∧ w' = (W.alloc (.cells #[] 128)).setCell ⟨wp.heap.size, 0, none⟩ (.bool true)) := by
  have chgE : ∀ W, Chg (fun i => i = P ∨ i = M ∨ some i = blk) (wp.alloc (.cells #[.bool false] 4)) W → W.cell? ⟨wp.heap.size, 0, none⟩ = some (.bool false) ∧ W.frozen? ⟨wp.heap.size, 0, none⟩ = false := fun W hc => by
    have hb : Blk W wp.heap.size 4 #[.bool false] := (Blk.last wp _ _ rfl).chg hc (by rintro (q | q | q) <;> first | omega | (have := hb _ q.symm; omega))
    exact ⟨(hb.cell 0).trans rfl, hb.frozen 0⟩
  have K := overQ_gen wp P M fb 0 fc (ps.map WPart.f)
    (fun i W => (∀ p ∈ ps.take i, p.ok) ∧ ∃ b, WrSt (wp.alloc (.cells #[.bool false] 4)) W P M T (out0 ++ ((ps.take i).map (·.add)).flatten) b blk mc)
    (fun W => ¬ (∀ p ∈ ps, p.ok) ∧ Chg (fun i => i = P ∨ i = M ∨ some i = blk) (wp.alloc (.cells #[.bool false] 4)) W)
    (fun i h args W => by
      rw [List.length_map] at h
      rw [List.getElem_map]
      exact hent _ (List.getElem_mem h) args W)
    (fun i W hq j h => by
      obtain ⟨_, b, hq⟩ := hq
      rw [List.length_map] at h
      rw [List.getElem_map, Nat.zero_add]
      exact (((hF.alloc _).chg hq.chg (by rintro (q | q | q) <;> first | omega | exact hfb q)).cell j).trans (hrow j h))
    ⟨by simp, blk, by simpa using hst⟩
    (fun i W hq => by obtain ⟨_, b, hq⟩ := hq; exact chgE W hq.chg)
    (fun W hR => chgE W hR.2)
    (fun i h W hq => by
      obtain ⟨hok, b, hq⟩ := hq
      rw [List.length_map] at h
      rw [List.getElem_map]
      refine (hstep _ (List.getElem_mem h) W _ b hq (hlen i)).mono fun e w' hp => ?_
      rcases hp with ⟨ho, he, b2, hs⟩ | ⟨hno, he, hc⟩
      · refine .inl ⟨he, fun p hp => ?_, b2, ?_⟩
        · rw [List.take_succ_eq_append_getElem h] at hp
          rcases List.mem_append.1 hp with q | q
          · exact hok p q
          · rw [List.mem_singleton.1 q]; exact ho
        · rw [List.take_succ_eq_append_getElem h, List.map_append, List.flatten_append]
          simpa [List.append_assoc] using hs
      · exact .inr ⟨he, fun q => hno (q _ (List.getElem_mem h)), hc⟩)
    (fun W hq => by
      obtain ⟨_, b, hq⟩ := hq
      obtain ⟨A, c, h1, _⟩ := hq.pen
      exact ⟨A, _, c, (h1.cell 0).trans rfl, .inl ((h1.cell 1).trans rfl)⟩) (by rw [List.length_map]; exact hl)
  rw [List.length_map] at K
  refine K.mono fun e w' h => ?_
  rw [List.take_length] at h
  rcases h with ⟨h1, W, A, m, c, ⟨h2, b, h3⟩, _, _, h4⟩ | ⟨h1, W, hR, hw⟩
  · exact .inl ⟨h2, h1, W, b, h3, h4⟩
  · exact .inr ⟨hR.1, h1, W, hR.2, hw⟩
theorem overR_w (wp : World) (P M fb fc : Nat) (T FT : TypeId) (ps : List WPart) (out0 : List UInt8) (blk : Option Nat) (mc row : Array Value)
    (hst : WrSt (wp.alloc (.cells #[.bool false] 4)) (wp.alloc (.cells #[.bool false] 4)) P M T out0 blk blk mc) (hF : Blk wp fb FT row) (hrow : ∀ j (h : j < ps.length), row[j]? = some (.func (.func ps[j].f) #[] #[])) (hent : ∀ p ∈ ps, ∀ args W, (callFunc p.f args).run Try.prog W = .ok (.enter p.f args) W)
    (hP : P < wp.heap.size) (hM : M < wp.heap.size) (hb : ∀ g, blk = some g → g < wp.heap.size) (hfP : fb ≠ P) (hfM : fb ≠ M) (hfb : some fb ≠ blk) (hlen : ∀ i, (out0 ++ ((ps.take i).map (·.add)).flatten).length ≤ 900000)
    (hstep : ∀ p ∈ ps, ∀ (W : World) (out : List UInt8) (b : Option Nat), WrSt (wp.alloc (.cells #[.bool false] 4)) W P M T out b blk mc → out.length ≤ 900000 → Calls Try.prog p.f #[.pointer (some ⟨P, 0, none⟩), .pointer (some ⟨M, 0, none⟩)] W (WrPost (wp.alloc (.cells #[.bool false] 4)) P M T out p.add p.ok blk mc)) (hl : ps.length ≤ 1000) :
    Calls Try.prog 32 #[.pointer (some ⟨P, 0, none⟩), .pointer (some ⟨M, 0, none⟩), .slice (some ⟨fb, 0, none⟩) ps.length fc] wp fun e w' =>
      ((∀ p ∈ ps, p.ok) ∧ e = .returned (.bool false) ∧ ∃ W b, WrSt (wp.alloc (.cells #[.bool false] 4)) W P M T (out0 ++ (ps.map (·.add)).flatten) b blk mc ∧ w' = W.setCell ⟨wp.heap.size, 0, none⟩ (.bool false)) ∨
      (¬ (∀ p ∈ ps, p.ok) ∧ e = .returned (.bool true) ∧ ∃ W, Chg (fun i => i = P ∨ i = M ∨ some i = blk) (wp.alloc (.cells #[.bool false] 4)) W ∧ w' = (W.alloc (.cells #[] 128)).setCell ⟨wp.heap.size, 0, none⟩ (.bool true)) := by
  have chgE : ∀ W, Chg (fun i => i = P ∨ i = M ∨ some i = blk) (wp.alloc (.cells #[.bool false] 4)) W → W.cell? ⟨wp.heap.size, 0, none⟩ = some (.bool false) ∧ W.frozen? ⟨wp.heap.size, 0, none⟩ = false := fun W hc => by
    have hb : Blk W wp.heap.size 4 #[.bool false] := (Blk.last wp _ _ rfl).chg hc (by rintro (q | q | q) <;> first | omega | (have := hb _ q.symm; omega))
    exact ⟨(hb.cell 0).trans rfl, hb.frozen 0⟩
  have K := overR_gen wp P M fb 0 fc (ps.map WPart.f)
    (fun i W => (∀ p ∈ ps.take i, p.ok) ∧ ∃ b, WrSt (wp.alloc (.cells #[.bool false] 4)) W P M T (out0 ++ ((ps.take i).map (·.add)).flatten) b blk mc)
    (fun W => ¬ (∀ p ∈ ps, p.ok) ∧ Chg (fun i => i = P ∨ i = M ∨ some i = blk) (wp.alloc (.cells #[.bool false] 4)) W)
    (fun i h args W => by
      rw [List.length_map] at h
      rw [List.getElem_map]
      exact hent _ (List.getElem_mem h) args W)
    (fun i W hq j h => by
      obtain ⟨_, b, hq⟩ := hq
      rw [List.length_map] at h
      rw [List.getElem_map, Nat.zero_add]
      exact (((hF.alloc _).chg hq.chg (by rintro (q | q | q) <;> first | omega | exact hfb q)).cell j).trans (hrow j h))
    ⟨by simp, blk, by simpa using hst⟩
    (fun i W hq => by obtain ⟨_, b, hq⟩ := hq; exact chgE W hq.chg)
    (fun W hR => chgE W hR.2)
    (fun i h W hq => by
      obtain ⟨hok, b, hq⟩ := hq
      rw [List.length_map] at h
      rw [List.getElem_map]
      refine (hstep _ (List.getElem_mem h) W _ b hq (hlen i)).mono fun e w' hp => ?_
      rcases hp with ⟨ho, he, b2, hs⟩ | ⟨hno, he, hc⟩
      · refine .inl ⟨he, fun p hp => ?_, b2, ?_⟩
        · rw [List.take_succ_eq_append_getElem h] at hp
          rcases List.mem_append.1 hp with q | q
          · exact hok p q
          · rw [List.mem_singleton.1 q]; exact ho
        · rw [List.take_succ_eq_append_getElem h, List.map_append, List.flatten_append]
          simpa [List.append_assoc] using hs
      · exact .inr ⟨he, fun q => hno (q _ (List.getElem_mem h)), hc⟩)
    (fun W hq => by
      obtain ⟨_, b, hq⟩ := hq
      obtain ⟨A, c, h1, _⟩ := hq.pen
      exact ⟨A, _, c, (h1.cell 0).trans rfl, .inl ((h1.cell 1).trans rfl)⟩) (by rw [List.length_map]; exact hl)
  rw [List.length_map] at K
  refine K.mono fun e w' h => ?_
  rw [List.take_length] at h
  rcases h with ⟨h1, W, A, m, c, ⟨h2, b, h3⟩, _, _, h4⟩ | ⟨h1, W, hR, hw⟩
  · exact .inl ⟨h2, h1, W, b, h3, h4⟩
  · exact .inr ⟨hR.1, h1, W, hR.2, hw⟩
structure Rq.Fit (q : Rq) : Prop where
  id : 0 ≤ q.id ∧ q.id < 4294967296
  nu : 0 ≤ q.nu ∧ q.nu < 4294967296
  md : q.md.length ≤ 100000
  f : ∀ v ∈ [q.k, q.ver, q.T, q.O, q.S, q.tt, q.kd, q.da, q.bp, q.bk, q.bt, q.pr, q.nm, q.dn], -9223372036854775808 ≤ v ∧ v ≤ 9223372036854775807
/-- The parts that requests name. -/
def allQ (q : Rq) : List WPart := [⟨48, beW q.id 4, True⟩, ⟨50, beW q.ver 1, 0 ≤ q.ver ∧ q.ver ≤ 255⟩, ⟨52, q.md, 1 ≤ q.md.length ∧ q.md.length ≤ 4091⟩, ⟨54, beW q.T 8 ++ beW q.tt 1 ++ beW q.kd 1 ++ beW q.da 8, (q.O = 0 ∧ q.S = 0) ∧ (0 ≤ q.tt ∧ q.tt ≤ 255) ∧ (0 ≤ q.kd ∧ q.kd ≤ 255)⟩, ⟨56, beW q.nu 4, True⟩, ⟨57, beW q.bp 1 ++ beW (kindB q.bk) 1 ++ beW q.bt 8, (0 ≤ q.bp ∧ q.bp ≤ 255) ∧ (-1 ≤ q.bk ∧ q.bk ≤ 254)⟩, ⟨59, beW q.pr 1, 0 ≤ q.pr ∧ q.pr ≤ 255⟩, ⟨60, beW q.nm 8, True⟩, ⟨62, beW q.dn 8, True⟩]
/-- Those that a kind names. -/
def partsQ (k : Nat) (q : Rq) : List WPart :=
  if k = 1 then [⟨48, beW q.id 4, True⟩, ⟨50, beW q.ver 1, 0 ≤ q.ver ∧ q.ver ≤ 255⟩]
  else if k = 2 then [⟨48, beW q.id 4, True⟩, ⟨52, q.md, 1 ≤ q.md.length ∧ q.md.length ≤ 4091⟩]
  else if k = 3 then [⟨48, beW q.id 4, True⟩, ⟨54, beW q.T 8 ++ beW q.tt 1 ++ beW q.kd 1 ++ beW q.da 8, (q.O = 0 ∧ q.S = 0) ∧ (0 ≤ q.tt ∧ q.tt ≤ 255) ∧ (0 ≤ q.kd ∧ q.kd ≤ 255)⟩]
  else if k = 4 then [⟨48, beW q.id 4, True⟩, ⟨56, beW q.nu 4, True⟩, ⟨57, beW q.bp 1 ++ beW (kindB q.bk) 1 ++ beW q.bt 8, (0 ≤ q.bp ∧ q.bp ≤ 255) ∧ (-1 ≤ q.bk ∧ q.bk ≤ 254)⟩]
  else if k = 5 then [⟨48, beW q.id 4, True⟩, ⟨56, beW q.nu 4, True⟩]
  else if k = 6 then [⟨48, beW q.id 4, True⟩, ⟨59, beW q.pr 1, 0 ≤ q.pr ∧ q.pr ≤ 255⟩]
  else if k = 10 then [⟨48, beW q.id 4, True⟩, ⟨60, beW q.nm 8, True⟩, ⟨62, beW q.dn 8, True⟩]
  else [⟨48, beW q.id 4, True⟩]
theorem partsQ_sub (k : Nat) (q : Rq) : ∀ p ∈ partsQ k q, p ∈ allQ q := by
  intro p hp
  unfold partsQ at hp
  repeat' split at hp
  all_goals
    simp only [List.mem_cons, List.not_mem_nil, or_false] at hp
    simp only [allQ, List.mem_cons, List.not_mem_nil, or_false]
    first | (rcases hp with rfl | rfl | rfl <;> simp) | (rcases hp with rfl | rfl <;> simp) | (subst hp; simp)
theorem allQ_ent (q : Rq) : ∀ p ∈ allQ q, ∀ args W, (callFunc p.f args).run Try.prog W = .ok (.enter p.f args) W := by
  intro p hp args W
  simp only [allQ, List.mem_cons, List.not_mem_nil, or_false] at hp
  rcases hp with rfl | rfl | rfl | rfl | rfl | rfl | rfl | rfl | rfl
  · exact enters_of Try.func48 (by kernel_rfl) rfl args W
  · exact enters_of Try.func50 (by kernel_rfl) rfl args W
  · exact enters_of Try.func52 (by kernel_rfl) rfl args W
  · exact enters_of Try.func54 (by kernel_rfl) rfl args W
  · exact enters_of Try.func56 (by kernel_rfl) rfl args W
  · exact enters_of Try.func57 (by kernel_rfl) rfl args W
  · exact enters_of Try.func59 (by kernel_rfl) rfl args W
  · exact enters_of Try.func60 (by kernel_rfl) rfl args W
  · exact enters_of Try.func62 (by kernel_rfl) rfl args W
theorem bytes_chg {w0 W : World} {A : Option Addr} {md : List UInt8} {M : Nat → Prop} (hb : BytesAt w0 A md) (hA : md = [] ∨ ∀ a, A = some a → a.block < w0.heap.size ∧ ¬ M a.block) (hc : Chg M w0 W) : BytesAt W A md := by
  rcases hA with rfl | hA
  · exact .inl rfl
  rcases hb with h | ⟨b, off, rfl, h⟩
  · exact .inl h
  · refine .inr ⟨b, off, rfl, fun j u hu => ?_⟩
    have h1 := h j u hu
    have hb := hc.block b (hA _ rfl).1 (hA _ rfl).2
    unfold World.cell? at h1 ⊢
    rw [hb]; exact h1
theorem partQ_step (q : Rq) (A : Option Addr) (c : Nat) (hq : q.Fit) (w0 : World) (P M : Nat) (blk : Option Nat) (hb : BytesAt w0 A q.md) (hA : q.md = [] ∨ ∀ a, A = some a → a.block < w0.heap.size ∧ ¬ (a.block = P ∨ a.block = M ∨ some a.block = blk)) (p : WPart) (hp : p ∈ allQ q) (W : World) (out : List UInt8) (b : Option Nat) (h : WrSt w0 W P M 33 out b blk (q.c A c).toArray) (hl : out.length ≤ 900000) :
    Calls Try.prog p.f #[.pointer (some ⟨P, 0, none⟩), .pointer (some ⟨M, 0, none⟩)] W (WrPost w0 P M 33 out p.add p.ok blk (q.c A c).toArray) := by
  simp only [allQ, List.mem_cons, List.not_mem_nil, or_false] at hp
  have hf := hq.f
  have hby := bytes_chg hb hA h.chg
  rcases hp with rfl | rfl | rfl | rfl | rfl | rfl | rfl | rfl | rfl
  · exact asks1_of W P M _ (fun e w' h => wrPost_two h) ((word_wr w0 W P M 33 out b blk _ 1 q.id h rfl hq.id (by omega)).mono fun e w' h => .inl ⟨trivial, h.1, h.2⟩)
  · exact asks2_of W P M _ (fun e w' h => wrPost_two h) (small_w w0 W P M 33 out b blk _ 2 q.ver h rfl (hf q.ver (by simp)) (by omega))
  · exact asks3_of W P M _ (fun e w' h => wrPost_two h) (text_w w0 W P M 33 out b blk _ 3 A q.md.length c q.md h rfl hby rfl hq.md hl)
  · exact asks4_of W P M _ (fun e w' h => wrPost_two h) (asked_w w0 W P M 33 out b blk _ 4 q.T q.O q.S q.tt q.kd q.da h rfl rfl rfl rfl rfl rfl (hf q.T (by simp)) (hf q.tt (by simp)) (hf q.kd (by simp)) (hf q.da (by simp)) hl)
  · exact asks5_of W P M _ (fun e w' h => wrPost_two h) ((word_wr w0 W P M 33 out b blk _ 10 q.nu h rfl hq.nu (by omega)).mono fun e w' h => .inl ⟨trivial, h.1, h.2⟩)
  · exact asks6_of W P M _ (fun e w' h => wrPost_two h) (point_w w0 W P M 33 out b blk _ 11 q.bp q.bk q.bt h rfl rfl rfl (hf q.bp (by simp)) (hf q.bt (by simp)) hl)
  · exact asks7_of W P M _ (fun e w' h => wrPost_two h) (small_w w0 W P M 33 out b blk _ 14 q.pr h rfl (hf q.pr (by simp)) (by omega))
  · exact asks8_of W P M _ (fun e w' h => wrPost_two h) ((long_w w0 W P M 33 out b blk _ 15 q.nm h rfl (hf q.nm (by simp)) (by omega)).mono fun e w' h => .inl ⟨trivial, h.1, h.2⟩)
  · exact asks9_of W P M _ (fun e w' h => wrPost_two h) ((long_w w0 W P M 33 out b blk _ 16 q.dn h rfl (hf q.dn (by simp)) (by omega)).mono fun e w' h => .inl ⟨trivial, h.1, h.2⟩)
end Go.Proofs.Ytnbcjjgilndlaaa
