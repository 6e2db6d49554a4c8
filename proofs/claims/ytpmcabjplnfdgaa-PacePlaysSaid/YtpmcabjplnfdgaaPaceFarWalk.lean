/- PaceFar's walk: both paces side by side. -/
import Derived.Test.YtpmcabjplnfdgaaPaceKnown
import Derived.Test.YtpmcabjplnfdgaaPaceRefRate
import Derived.Test.YtpmcabjplnfdgaaPaceRefWait
namespace Go.Proofs.Ytpmcabjplnfdgaa
open Go.RowKit
set_option linter.unusedVariables false
set_option linter.unusedSimpArgs false
/-- Both paces: ours in block B, the document's in block G, all of it since base. -/
structure Two (w : World) (base B G : Nat) (p : Pc) : Prop where
  our : PCb w base B p
  ref : Blk w G 33 (rcells p)
  bg : base ≤ G
  ne : B ≠ G
theorem Two.new {w w' : World} {base B G : Nat} {p : Pc} (h : Two w base B G p) (hB : Below w.heap.size w w') : Two w' base B G p := ⟨h.our.new hB, h.ref.below hB h.ref.lt, h.bg, h.ne⟩
theorem Two.ok {w : World} {base B G : Nat} {p : Pc} (h : Two w base B G p) : p.Ok := h.our.1.2
theorem blk_ne {w : World} {g g' : Nat} {t t' : TypeId} {cs cs' : Array Value} (h : Blk w g t cs) (h' : Blk w g' t' cs') (hne : t ≠ t') : g ≠ g' := Blk.ne_ h h' hne
def refRated (p : Pc) (n d : Int) : Value := .tuple #[.agg #[.int .i64 (p.rate n d).S, .int .i64 (p.rate n d).B, .int .i64 (p.rate n d).N, .int .i64 (p.rate n d).d, .int .i64 (p.rate n d).C], .int .i64 (rateR n d)]
theorem refRate_any (p : Pc) (n d : Int) (w : World) (h : p.Ok) :
    Calls Try.prog 14 #[.agg #[.int .i64 p.S, .int .i64 p.B, .int .i64 p.N, .int .i64 p.d, .int .i64 p.C], .int .i64 n, .int .i64 d] w fun e w' => e = .returned (.tuple #[.agg #[.int .i64 (p.rate n d).S, .int .i64 (p.rate n d).B, .int .i64 (p.rate n d).N, .int .i64 (p.rate n d).d, .int .i64 (p.rate n d).C], .int .i64 (rateR n d)]) ∧ Below w.heap.size w w' := by
  by_cases hr : rateOk n d
  · have hr' := hr
    unfold rateOk at hr'
    obtain ⟨N, rfl⟩ := Int.eq_ofNat_of_zero_le hr'.2.2.1
    obtain ⟨D, rfl⟩ := Int.eq_ofNat_of_zero_le (show 0 ≤ d by omega)
    refine (refRate_ok p N D w h (by omega) (by omega) (by omega)).mono ?_
    rintro e w' ⟨rfl, h1⟩
    unfold Pc.rate rateR
    rw [if_pos hr', if_pos hr']
    have hd : (p.rated (N : Int).toNat (D : Int).toNat).d = D := by show max (D : Int).toNat 1 = D; omega
    rw [hd]
    exact ⟨rfl, h1⟩
  · have hr' : ¬ (1 ≤ d ∧ d ≤ 1048576 ∧ 0 ≤ n ∧ n ≤ 1048576) := hr
    refine (refRate_no p n d w hr).mono ?_
    rintro e w' ⟨rfl, h1⟩
    unfold Pc.rate rateR
    rw [if_neg hr', if_neg hr']
    exact ⟨rfl, h1⟩
theorem Pc.Ok.rate {p : Pc} (h : p.Ok) (n d : Int) : (p.rate n d).Ok := by
  unfold Pc.rate
  split
  · exact h.rated (by omega) (by omega)
  · exact h
theorem wait_any (base B : Nat) (p : Pc) (t : Int) (w : World) (h : PCb w base B p) :
    Calls Try.prog 15 #[.pointer (some ⟨B, 0, none⟩), .int .i64 t] w fun e w' => WaitOut p t e ∧ Below w.heap.size w w' := by
  have many : ∀ w', (∃ n, w' = w.drewN n) → Below w.heap.size w w' := fun w' ⟨n, hn⟩ => by rw [hn]; exact Below.many (Below.refl _ _) _
  by_cases h1 : 1099511627776 < t
  · exact (Wait_big B p t w h1).mono fun e w' ⟨a, b⟩ => ⟨a, by subst b; exact Below.refl _ _⟩
  · by_cases h2 : t ≤ p.hz p.C
    · exact (Wait_now B p t w h.1 (by omega) h2).mono fun e w' ⟨a, b⟩ => ⟨a, many w' b⟩
    · by_cases h3 : p.N = 0
      · exact (Wait_zero B p t w h.1 (by omega) h2 h3).mono fun e w' ⟨a, b⟩ => ⟨a, many w' b⟩
      · obtain ⟨k, rfl⟩ := Int.eq_ofNat_of_zero_le (show 0 ≤ t by omega)
        exact (Wait_on B p k w h.1 (by omega) (by omega) (by omega)).mono fun e w' ⟨a, b⟩ => ⟨a, many w' b⟩
theorem refWait_any (p : Pc) (t : Int) (w : World) (h : p.Ok) :
    Calls Try.prog 16 #[.agg #[.int .i64 p.S, .int .i64 p.B, .int .i64 p.N, .int .i64 p.d, .int .i64 p.C], .int .i64 t] w fun e w' => WaitOut p t e ∧ Below w.heap.size w w' := by
  by_cases h1 : 1099511627776 < t
  · exact refWait_big p t w h1
  · by_cases h2 : t ≤ (p.hz 9223372036854775807 : Int)
    · exact refWait_on p t w h (by omega) h2
    · exact refWait_never p t w h (by omega) (by omega)
theorem rcell {w : World} {G : Nat} {p : Pc} (h : Blk w G 33 (rcells p)) : w.cell? ⟨G, 0, none⟩ = some (.int .i64 p.S) ∧ w.cell? ⟨G, 1, none⟩ = some (.int .i64 p.B) ∧ w.cell? ⟨G, 2, none⟩ = some (.int .i64 p.N) ∧ w.cell? ⟨G, 3, none⟩ = some (.int .i64 p.d) ∧ w.cell? ⟨G, 4, none⟩ = some (.int .i64 p.C) :=
  ⟨h.cell 0, h.cell 1, h.cell 2, h.cell 3, h.cell 4⟩
/-- What the document's pace is stored as, cell by cell. -/
theorem two_set {w0 w : World} {base B G : Nat} {p q : Pc} (h : PCb w base B q) (hr : Blk w G 33 (rcells p)) (hg : base ≤ G) (hne : B ≠ G) (hB : Below base w0 w) (v0 v1 v2 v3 v4 : Value) (hq : rcells q = #[v0, v1, v2, v3, v4]) :
    Two (((((w.setCell ⟨G, 0, none⟩ v0).setCell ⟨G, 1, none⟩ v1).setCell ⟨G, 2, none⟩ v2).setCell ⟨G, 3, none⟩ v3).setCell ⟨G, 4, none⟩ v4) base B G q ∧
    Below base w0 (((((w.setCell ⟨G, 0, none⟩ v0).setCell ⟨G, 1, none⟩ v1).setCell ⟨G, 2, none⟩ v2).setCell ⟨G, 3, none⟩ v3).setCell ⟨G, 4, none⟩ v4) := by
  have hb := set5g (w := w) (B := G) (t := 33) hr v0 v1 v2 v3 v4
  have hc : Chg (fun i => i = G) w _ := chg5 (Chg.refl _ w) v0 v1 v2 v3 v4
  rw [← hq] at hb
  exact ⟨⟨h.far hc hne, hb, hg, hne⟩, below5 hB hg _ _ _ _ _⟩
set_option maxHeartbeats 800000 in
theorem Far_walk (clock num den on time : Int) (w : World) (hc : -9223372036854775808 ≤ clock ∧ clock ≤ 9223372036854775807) (ho : -9223372036854775808 ≤ on ∧ on ≤ 9223372036854775807) :
    Calls Try.prog 4 #[.int .i64 clock, .int .i64 num, .int .i64 den, .int .i64 on, .int .i64 time] w fun e w' => e = .returned (.bool true) ∧ Below w.heap.size w w' := by
  have k0 := New_s w.heap.size w (Nat.le_refl _)
  go_enter Try.func4, Try.ntmps4
  go_wp2_with fail
  refine k0.mono ?_
  rintro e w1 ⟨rfl, h1, b1, s1⟩
  clear k0
  go_wp2_with fail
  refine (refNew_any w1).mono ?_
  rintro e w2 ⟨rfl, b2⟩
  have h2 := h1.new b2
  have bb2 : Below w.heap.size w w2 := b1.trans (b2.mono (by omega))
  have hne : w.heap.size ≠ w2.heap.size := by have := b2.size; omega
  clear h1 b1 b2 s1
  go_wp2_with fail
  have h3 : Two (w2.alloc (.cells #[.int .i64 0, .int .i64 0, .int .i64 0, .int .i64 1, .int .i64 0] 33)) w.heap.size w.heap.size w2.heap.size Pc.zero :=
    ⟨h2.new ((Below.refl _ _).alloc (Nat.le_refl _) _), Blk.last w2 33 (rcells Pc.zero) rfl, by have := h2.2.2; omega, hne⟩
  have bb3 : Below w.heap.size w (w2.alloc (.cells #[.int .i64 0, .int .i64 0, .int .i64 0, .int .i64 1, .int .i64 0] 33)) := bb2.trans ((Below.refl _ _).alloc h2.2.2 _)
  clear h2 bb2 hne
  generalize w2.alloc _ = w3 at *
  generalize w2.heap.size = G at *
  generalize Pc.zero = p0 at *
  -- the reading
  refine (Tick_s _ _ _ clock w3 h3.our hc).mono ?_
  rintro e w4 ⟨rfl, h4, c4, b4⟩
  have r4 := h3.ref.chg c4 (fun e => h3.ne e.symm)
  have bb4 := bb3.trans b4
  have hok := h3.ok
  have hg := h3.bg
  have hne := h3.ne
  clear h3 c4 b4 bb3
  obtain ⟨d0, d1, d2, d3, d4⟩ := rcell r4
  go_wp2_with fail
  refine (refTick_any p0 clock w4 hok).mono ?_
  rintro e w5 ⟨rfl, b5⟩
  have h5 := h4.new b5
  have r5 := r4.below b5 r4.lt
  have bb5 := bb4.trans (b5.mono h4.2.2)
  obtain ⟨f0, f1, f2, f3, f4⟩ := rcell r5
  have z := fun i => r5.frozen i
  have hok := h5.1.2
  have hs := two_set h5 r5 hg hne bb5 (.int .i64 p0.S) (.int .i64 p0.B) (.int .i64 p0.N) (.int .i64 p0.d) (.int .i64 (p0.tick clock).C) rfl
  clear d0 d1 d2 d3 d4 h4 r4 bb4 b5 h5 bb5
  go_wp2_with fail
  obtain ⟨h6, bb6⟩ := hs
  generalize World.setCell _ _ _ = w6 at h6 bb6 ⊢
  clear f0 f1 f2 f3 f4 z r5 hok hg hne
  generalize p0.tick clock = p1 at *
  -- the rate
  refine (Rate_s _ _ _ num den w6 h6.our).mono ?_
  rintro e w7 ⟨rfl, h7, c7, b7⟩
  have r7 := h6.ref.chg c7 (fun e => h6.ne e.symm)
  have bb7 := bb6.trans b7
  have hok := h6.ok
  have hg := h6.bg
  have hne := h6.ne
  clear h6 c7 b7 bb6
  obtain ⟨d0, d1, d2, d3, d4⟩ := rcell r7
  have kr := refRate_any p1 num den w7 hok
  obtain ⟨p2, hp2⟩ : ∃ p2, p1.rate num den = p2 := ⟨_, rfl⟩
  rw [hp2] at kr h7
  have KR := Lib.hid kr
  clear kr hp2
  generalize rateR num den = er at *
  go_wp2_with fail
  refine KR.out.mono ?_
  rintro e w8 ⟨rfl, b8⟩
  have h8 := h7.new b8
  have r8 := r7.below b8 r7.lt
  have bb8 := bb7.trans (b8.mono h7.2.2)
  obtain ⟨f0, f1, f2, f3, f4⟩ := rcell r8
  have z := fun i => r8.frozen i
  have hs := two_set h8 r8 hg hne bb8 (.int .i64 p2.S) (.int .i64 p2.B) (.int .i64 p2.N) (.int .i64 p2.d) (.int .i64 p2.C) rfl
  clear d0 d1 d2 d3 d4 h7 r7 bb7 b8 h8 bb8 KR
  go_wp2_with fail
  obtain ⟨h9, bb9⟩ := hs
  generalize World.setCell _ _ _ = w9 at h9 bb9 ⊢
  clear f0 f1 f2 f3 f4 z r8 hok hg hne
  -- the second reading
  refine (Tick_s _ _ _ on w9 h9.our ho).mono ?_
  rintro e wa ⟨rfl, ha, ca, ba⟩
  have ra := h9.ref.chg ca (fun e => h9.ne e.symm)
  have bba := bb9.trans ba
  have hok := h9.ok
  have hg := h9.bg
  have hne := h9.ne
  clear h9 ca ba bb9
  obtain ⟨d0, d1, d2, d3, d4⟩ := rcell ra
  go_wp2_with fail
  refine (refTick_any p2 on wa hok).mono ?_
  rintro e wb ⟨rfl, bb_⟩
  have hb := ha.new bb_
  have rb := ra.below bb_ ra.lt
  have bbb := bba.trans (bb_.mono ha.2.2)
  obtain ⟨f0, f1, f2, f3, f4⟩ := rcell rb
  have z := fun i => rb.frozen i
  have hs := two_set hb rb hg hne bbb (.int .i64 p2.S) (.int .i64 p2.B) (.int .i64 p2.N) (.int .i64 p2.d) (.int .i64 (p2.tick on).C) rfl
  clear d0 d1 d2 d3 d4 ha ra bba bb_ hb bbb
  go_wp2_with fail
  obtain ⟨hc_, bbc⟩ := hs
  generalize World.setCell _ _ _ = wc at hc_ bbc ⊢
  clear f0 f1 f2 f3 f4 z rb hok hg hne
  generalize p2.tick on = p3 at *
  -- what is waited for
  refine (wait_any _ _ _ time wc hc_.our).mono ?_
  rintro e wd ⟨⟨n, is, rfl, hw1⟩, bd⟩
  have hd := hc_.new bd
  have bbd := bbc.trans (bd.mono hc_.our.2.2)
  clear hc_ bd bbc
  obtain ⟨d0, d1, d2, d3, d4⟩ := rcell hd.ref
  go_wp2_with fail
  refine (refWait_any p3 time wd hd.ok).mono ?_
  rintro e we ⟨⟨m, also, rfl, hw2⟩, be⟩
  obtain ⟨rfl, rfl⟩ := hw1.same hd.ok hw2
  have he := hd.new be
  have bbe := bbd.trans (be.mono hd.our.2.2)
  clear hd bbd be d0 d1 d2 d3 d4 hw1 hw2
  have hle := (Pc.hz_le he.ok p3.C).2
  have hle' : ((p3.hz p3.C : Nat) : Int) ≤ 1099511627776 := by omega
  have hzd : decide (((p3.hz p3.C : Nat) : Int) ≤ 1099511627776) = true := by simpa using hle'
  obtain ⟨d0, d1, d2, d3, d4⟩ := rcell he.ref
  have H := Lib.hid he
  have hok := he.ok
  obtain ⟨Z, hZ⟩ : ∃ Z, p3.hz p3.C = Z := ⟨_, rfl⟩
  have KH := fun W (i : Nw we W) => Horizon_s w.heap.size w.heap.size p3 Z W (he.our.new i) hZ
  have KR := fun W => refHorizon_any p3 W hok
  rw [hZ] at KR hle' hzd
  have HKH := Lib.hid KH
  have HKR := Lib.hid KR
  have HS := Lib.hid he.our.2.2
  have i0 := (Nw.refl we).drew
  clear he hle hok hZ KH KR
  go_wp2_with fail
  go_region_held3 (fun W => Nw we W ∧ W.cell? ⟨G, 0, none⟩ = some (.int .i64 p3.S) ∧ W.cell? ⟨G, 1, none⟩ = some (.int .i64 p3.B) ∧ W.cell? ⟨G, 2, none⟩ = some (.int .i64 p3.N) ∧ W.cell? ⟨G, 3, none⟩ = some (.int .i64 p3.d) ∧ W.cell? ⟨G, 4, none⟩ = some (.int .i64 p3.C)) (first | exact ⟨i0, d0, d1, d2, d3, d4⟩ | exact ⟨by assumption, Nw.cell (by assumption) d0, Nw.cell (by assumption) d1, Nw.cell (by assumption) d2, Nw.cell (by assumption) d3, Nw.cell (by assumption) d4⟩) (first
    | (go_at_call 11; refine (HKH.out _ (by assumption)).mono ?_; rintro e w' ⟨rfl, _, b'⟩; have i1 := Nw.step (by assumption) b')
    | (go_at_call 17; refine (HKR.out _).mono ?_; rintro e w' ⟨rfl, b'⟩; have i2 := Nw.step (by assumption) b')
    | (go_at_call 6; refine (known_any _).mono ?_; rintro e w' ⟨rfl, b'⟩; have i3 := Nw.step (by assumption) b'))
  all_goals go_wp2
  all_goals
    go_ret
    exact ⟨rfl, bbe.trans (Below.mono (show Nw we _ by assumption) HS.out)⟩
end Go.Proofs.Ytpmcabjplnfdgaa
