/- OrderSorts' walk. -/
import Derived.Test.YtefgpnalahijgaaOrdRefPut
import Derived.Test.YtefgpnalahijgaaOrdRiseWalk
namespace Go.Proofs.Ytefgpnalahijgaa
open Go.RowKit
set_option linter.unusedVariables false
set_option linter.unusedSimpArgs false
def evD : Ev := ⟨⟨0, 0, 0⟩, 0, 0, 0⟩
theorem seg_list (l : List Ev) : seg (fun i => l.getD i evD) l.length = l := by
  rw [seg_sg]
  symm
  refine sg_ext (by simp) fun i hi => ?_
  rw [Nat.zero_add, List.getD_eq_getElem?_getD, List.getElem?_eq_getElem hi]
  rfl
theorem infoKy : (Try.prog.info? 23).map (fun i => (i.zero, i.size, i.bytes)) = some (some (.agg #[.int .i64 0, .int .i64 0, .int .i64 0]), 3, 24) := by kernel_rfl
theorem append_zero (A : Option Addr) (c : Nat) (w : World) (ty : TypeId) : (Builtin.append_ #[33, 33] ty #[.slice none 0 0, .slice A 0 c]).run Try.prog w = .ok (.slice none 0 0) w := by
  obtain ⟨i, hi, _⟩ := info_parts infoEv
  cases A <;> simp [Builtin.append_, run_underlying Try.underlying33, sizeOf, typeInfo, hi, Builtin.lenOf, Builtin.firstCells, storeCells, loadCells, loadCellsFrom]
theorem wpList_append_zero {ops : Array Oper} {rest : List Oper} {o : Oper} {a : Act} {Q : Exit → Act → World → Prop} {w : World} (hgd : o.guard = none) (s x : Operand)
    (ho : o.op = .call { callee := .builtin .append, args := #[s, x], argTypes := #[33, 33] }) (hs : a.eval s = .slice none 0 0) (A : Option Addr) (c : Nat) (hx : a.eval x = .slice A 0 c)
    (h : wpList Try.prog ops Q rest (a.put o.dst (.slice none 0 0)) w) : wpList Try.prog ops Q (o :: rest) a w :=
  wpList_plain hgd fun _ hK => by
    unfold Oper.wp execOp
    simp only [ho, resolve, invoke, builtin, Sem.run_bind, Sem.run_pure, Result.andThen_ok, List.map_toArray, List.map_cons, List.map_nil, hs, hx, append_zero]
    exact hK _ _ h
theorem EvsAt.same {w w' : World} {g o n : Nat} {f : Nat → Ev} (h : EvsAt w g o n f) (hb : w'.heap[g]? = w.heap[g]?) : EvsAt w' g o n f :=
  ⟨fun i hi j hj => (World.cell?_of_block (a := ⟨g, o + i * 6 + j, none⟩) hb).trans (h.cell i hi j hj), fun i hi j hj => (World.frozen?_of_block (a := ⟨g, o + i * 6 + j, none⟩) hb).trans (h.froz i hi j hj)⟩
/-- An event's datum is another. -/
theorem EvsAt.data {w : World} {g o n : Nat} {f : Nat → Ev} (h : EvsAt w g o n f) {i : Nat} (hi : i < n) (D : Int) : EvsAt (w.setCell ⟨g, o + i * 6 + 5, none⟩ (.int .i64 D)) g o n (upd f i { f i with d := D }) := by
  constructor
  · intro k hk j hj
    unfold upd
    by_cases hki : k = i
    · subst hki
      rw [if_pos rfl]
      by_cases hj5 : j = 5
      · subst hj5
        exact World.cell?_setCell_same' w _ _ (by rw [h.cell k hk 5 (by decide)]; rfl)
      · refine (World.cell?_setCell_other _ _ _ _ (fun q => ?_)).trans ((h.cell k hk j hj).trans ?_)
        · injection q with _ q _; omega
        · have : j = 0 ∨ j = 1 ∨ j = 2 ∨ j = 3 ∨ j = 4 := by omega
          rcases this with rfl | rfl | rfl | rfl | rfl <;> rfl
    · rw [if_neg hki]
      refine (World.cell?_setCell_other _ _ _ _ (fun q => ?_)).trans (h.cell k hk j hj)
      injection q with _ q _; omega
  · intro k hk j hj
    rw [World.frozen?_setCell]
    exact h.froz k hk j hj
/-- Keys as cells. -/
def kc (k : Ky) : List Value := [.int .i64 k.T, .int .i64 k.O, .int .i64 k.S]
def kcs (f : Nat → Ky) (n : Nat) : List Value := (List.range n).flatMap fun i => kc (f i)
theorem kcs_succ (f : Nat → Ky) (n : Nat) : kcs f (n + 1) = kcs f n ++ kc (f n) := by simp [kcs, List.range_succ]
theorem kcs_length (f : Nat → Ky) : ∀ n, (kcs f n).length = n * 3
  | 0 => rfl
  | n + 1 => by rw [kcs_succ, List.length_append, kcs_length f n]; show n * 3 + 3 = _; omega
theorem kcs_get (f : Nat → Ky) (n i j : Nat) (hi : i < n) (hj : j < 3) : (kcs f n)[i * 3 + j]? = (kc (f i))[j]? := by
  induction n with
  | zero => omega
  | succ n ih =>
    rw [kcs_succ]
    by_cases h : i < n
    · rw [List.getElem?_append_left (by rw [kcs_length]; omega)]; exact ih h
    · obtain rfl : i = n := by omega
      rw [List.getElem?_append_right (by rw [kcs_length]; omega), kcs_length, Nat.add_sub_cancel_left]
theorem kc_one (k : Ky) : ∀ u ∈ kc k, u.oneCell' = true := by
  intro u hu
  simp [kc] at hu
  rcases hu with rfl | rfl | rfl <;> rfl
theorem kys_of {w : World} {A : Option Addr} {n : Nat} {f : Nat → Ky} (h : Rd w A (kcs f n)) : KysAt w A n f := by
  by_cases hn : n = 0
  · exact .inl hn
  · obtain ⟨b, o, e, _, hc⟩ := h.get (k := 0) (by rw [kcs_length]; omega)
    refine .inr ⟨b, o, e, fun i hi => ?_⟩
    have c : ∀ j v, j < 3 → (kc (f i))[j]? = some v → w.cell? ⟨b, o + i * 3 + j, none⟩ = some v := fun j v hj hv => by
      rw [Nat.add_assoc]
      exact hc (i * 3 + j) _ (by rw [kcs_get f n i j hi hj, hv])
    exact ⟨c 0 _ (by omega) rfl, c 1 _ (by omega) rfl, c 2 _ (by omega) rfl⟩
section
set_option maxHeartbeats 12800000
set_option maxRecDepth 100000
theorem sorts_none (A : Option Addr) (c : Nat) (w : World) :
    Calls Try.prog 5 #[.slice A 0 c] w fun e w' => e = .returned (.bool true) ∧ Nw w w' := by
  have K1 := Lib.hid (fun W => sorted_none W)
  have K2 := Lib.hid (show ∀ W, _ from fun W => refSorted_any A c [] W (.inl rfl) (by simp))
  have K3 := Lib.hid (show ∀ (B C : Option Addr) (d d' : Nat) W, Calls Try.prog 16 #[.slice B 0 d, .slice C 0 d'] W fun r w' => r = .returned (.bool true) ∧ Nw W w' from fun (B C : Option Addr) (d d' : Nat) W => refSame_yes B C d d' [] W (.inl rfl) (.inl rfl) (by simp))
  have K4 := Lib.hid (show ∀ W, Calls Try.prog 18 #[.slice none 0 0] W fun e w' => e = .returned (.bool true) ∧ Below W.heap.size W w' from fun W => rising_any none 0 (fun _ => ⟨0, 0, 0⟩) 0 W (.inl rfl) (by omega))
  have K5 := Lib.hid (fun W => known_any W)
  go_enter Try.func5, Try.ntmps5
  go_wp2_with (at_builtin; refine wpList_append_zero rfl _ _ rfl rfl A c rfl ?_)
  refine (K1.out _).mono ?_
  rintro r w1 ⟨rfl, hq⟩
  rw [hq]
  clear hq w1
  go_wp2_with fail
  refine (K2.out _).mono ?_
  rintro r w2 ⟨A3, c3, rfl, _, n2⟩
  have N2 := Lib.hid n2
  clear n2
  go_wp2_with fail
  refine (K3.out _ _ _ _ _).mono ?_
  rintro r w3 ⟨rfl, n3⟩
  have N3 := Lib.hid (N2.out.step n3)
  clear n3
  go_wp2_with fail
  refine (K3.out _ _ _ _ _).mono ?_
  rintro r w4 ⟨rfl, n4⟩
  have N4 := Lib.hid (N3.out.step n4)
  clear n4
  go_wp2_with fail
  go_loopw [5, 6, 7] (fun x y z wr => x = .slice none 0 0 ∧ y = .bool true ∧ z = .int .i64 0 ∧ Hid (Nw w wr)) (fun _ _ _ _ => 0)
  case atStart => exact ⟨rfl, rfl, rfl, N4⟩
  case round =>
    obtain ⟨rfl, rfl, rfl, HI⟩ := hrel
    go_wp2_with fail
    refine (K4.out _).mono ?_
    rintro r w5 ⟨rfl, n5⟩
    have N5 := Lib.hid (HI.out.step n5)
    clear n5
    go_wp2_with fail
    refine (K3.out _ _ _ _ _).mono ?_
    rintro r w6 ⟨rfl, n6⟩
    have N6 := Lib.hid (N5.out.step n6)
    clear n6
    go_wp2_with fail
    refine (K5.out _).mono ?_
    rintro r w7 ⟨rfl, n7⟩
    go_wp2_with fail
    go_ret
    exact ⟨rfl, N6.out.step n7⟩
theorem sorts_few (A : Option Addr) (c : Nat) (l : List Ev) (w : World) (hA : Rd w A (cs l)) (h0 : 0 < l.length) (hl : l.length ≤ 100) :
    Calls Try.prog 5 #[.slice A l.length c] w fun e w' => e = .returned (.bool true) ∧ Nw w w' := by
  obtain ⟨i0, hi0, hz0, hz1, hz2⟩ := info_parts infoEv
  have HL1 := Lib.hid hi0
  have HL2 := Lib.hid hz0
  have HL3 := Lib.hid hz1
  have HL4 := Lib.hid hz2
  obtain ⟨j0, hj0, hy0, hy1, hy2⟩ := info_parts infoKy
  have HK1 := Lib.hid hj0
  have HK2 := Lib.hid hy0
  have HK3 := Lib.hid hy1
  have HK4 := Lib.hid hy2
  clear hi0 hz0 hz1 hz2 hj0 hy0 hy1 hy2
  have HA := Lib.hid hA
  have K2 := Lib.hid (fun W (hW : Nw w W) => refSorted_any A c l W (hA.keep fun p hp => Below.cell hW hp) (by omega))
  have K3 := Lib.hid (fun (B C : Option Addr) (d d' : Nat) (L : List Ev) W h1 h2 h3 => refSame_yes B C d d' L W h1 h2 h3)
  have K5 := Lib.hid (fun W => known_any W)
  have HCL := Lib.hid (cs_length l)
  have HCO := Lib.hid (cs_oneCell l)
  have hsl := seg_list l
  obtain ⟨f, hf⟩ : ∃ f, (fun i => l.getD i evD) = f := ⟨_, rfl⟩
  rw [hf] at hsl
  obtain ⟨n, hn⟩ : ∃ n, l.length = n := ⟨_, rfl⟩
  have HN := Lib.hid hn
  rw [hn] at h0 hl hsl K2 HCL ⊢
  have hfl : cs l = flat f n := by rw [← hsl]; rfl
  have HFL := Lib.hid hfl
  have HSL := Lib.hid hsl
  have g100 : ¬ (100 : Int) < (n : Int) := by omega
  clear hA hf hn hfl hsl
  go_enter Try.func5, Try.ntmps5
  go_upto_region 4 with (at_builtin; refine wpList_append_at _ rfl _ _ _ rfl 28 i0 _ 6 48 Try.underlying33 HL1.out HL2.out HL3.out HL4.out rfl (by omega) _ 0 [] none rfl (Own.nil _ _ _) _ n c (cs l) rfl HCL.out HA.out HCO.out (by simp only [maxLen]; omega) (by omega) ?_; intro A1 c1 w1 blk1 hown hchg hat; simp only [Nat.zero_add, List.nil_append] at hown)
  rw [HFL.out] at hown
  obtain ⟨g1, o1, cc, hv, _, hE1, _, _⟩ := hown.evs h0
  injection hv with hv _ hv2
  subst hv hv2
  have n1 : Nw w w1 := hchg.below (fun i _ q => by cases q) (Nat.le_refl _)
  have K1 := Lib.hid (sorted_any g1 o1 n c1 f w1 hE1 h0 (by omega))
  have HE1 := Lib.hid hE1
  have N1 := Lib.hid n1
  clear hown hchg hat hE1 n1
  go_wp2_with fail
  refine K1.out.mono ?_
  rintro r w2 ⟨g2, o2, c2, f', rfl, hE2, hk, hr, n12, hg2⟩
  have hso := sorted_one hk hr
  rw [HSL.out] at hso
  have HSO := Lib.hid hso
  have HE2 := Lib.hid hE2
  have N12 := Lib.hid n12
  have HG2 := Lib.hid hg2
  clear hk hr hE2 n12 hso hg2 K1
  have K2' := Lib.hid (K2.out w2 (N1.out.step N12.out))
  clear K2
  go_wp2_with fail
  refine K2'.out.mono ?_
  rintro r w3 ⟨A3, c3, rfl, hrd, n23⟩
  have hlen : (sortO l).length = n := by rw [(sortO_is _ l rfl).2.2, HN.out]
  have k3 := K3.out (some ⟨g2, o2, none⟩) A3 c2 c3 (sortO l) w3 (by rw [← HSO.out]; exact (HE2.out.new n23).rd) hrd (by omega)
  rw [hlen] at k3
  have K3' := Lib.hid k3
  have N23 := Lib.hid n23
  clear hrd n23 hlen k3 K2'
  go_wp2_with fail
  refine K3'.out.mono ?_
  rintro r w4 ⟨rfl, n34⟩
  have n14 : Nw w1 w4 := (N12.out.step N23.out).step n34
  have N14 := Lib.hid n14
  have HOW := Lib.hid (show ∀ W, Nw w1 W → Calls Try.prog 16 #[.slice (some ⟨g1, o1, none⟩) n c1, .slice A n c] W fun r w' => r = .returned (.bool true) ∧ Nw W w' from fun W hW => by
    have := K3.out (some ⟨g1, o1, none⟩) A c1 c l W (by rw [HFL.out]; exact (HE1.out.new hW).rd) (HA.out.keep fun p hp => Below.cell (N1.out.step hW) hp) (by rw [HN.out]; omega)
    rwa [HN.out] at this)
  have K6 := Lib.hid (HOW.out w4 n14)
  have HE4 := Lib.hid (HE2.out.new (N23.out.step n34))
  clear n34 n14 K3'
  go_wp2_with fail
  refine K6.out.mono ?_
  rintro r w5 ⟨rfl, n45⟩
  obtain ⟨kf, hkf⟩ : ∃ kf : Nat → Ky, kf = fun i => (f' i).k := ⟨_, rfl⟩
  have HKF := Lib.hid hkf
  have H5 : Hid (Own w5 23 3 (.slice none 0 0) 0 (kcs kf 0) none ∧ EvsAt w5 g2 o2 n f' ∧ (∀ i, (f' i).k = kf i) ∧ Nw w1 w5 ∧ ∀ g, (none : Option Nat) = some g → g ≠ g2 ∧ w1.heap.size ≤ g) := Lib.hid ⟨Own.nil _ _ _, HE4.out.new n45, fun i => by rw [hkf], N14.out.step n45, fun g q => by cases q⟩
  clear n45 K6 hkf
  go_wp2_with fail
  go_loopw [5, 6, 7] (fun x y z wr => ∃ (k : Nat) (A5 : Option Addr) (c5 : Nat) (b5 : Option Nat) (f4 : Nat → Ev), k ≤ n ∧ x = .slice A5 k c5 ∧ y = .bool (riseN kf (k - 1)) ∧ z = .int .i64 k ∧
    Hid (Own wr 23 3 (.slice A5 k c5) k (kcs kf k) b5 ∧ EvsAt wr g2 o2 n f4 ∧ (∀ i, (f4 i).k = kf i) ∧ Nw w1 wr ∧ ∀ g, b5 = some g → g ≠ g2 ∧ w1.heap.size ≤ g)) (fun _ _ z _ => n - (intOf z).toNat)
  case atStart => exact ⟨0, none, 0, none, f', Nat.zero_le _, rfl, rfl, rfl, H5⟩
  case round =>
    obtain ⟨k, A5, c5, b5, f4, hk, rfl, rfl, rfl, HI⟩ := hrel
    by_cases hlt : k < n
    · have gk : (k : Int) < (n : Int) := by omega
      obtain ⟨x0, x1, x2, x3, x4, x5⟩ := HI.out.2.1.cells hlt
      rw [HI.out.2.2.1 k] at x0 x1 x2
      obtain ⟨R, hR⟩ : ∃ R, riseN kf (k - 1) = R := ⟨_, rfl⟩
      rw [hR]
      have HR := Lib.hid hR
      clear hR
      have hk9 : k ≤ 1000 := by omega
      go_upto_region 13 with (at_builtin; refine wpList_append_at _ rfl _ _ _ rfl 23 j0 _ 3 24 Try.underlying37 HK1.out HK2.out HK3.out HK4.out rfl (by omega) _ k (kcs kf k) b5 rfl (HI.out.1.kept (fun g hg => Below.heap_alloc _ _ _ (HI.out.1.lt g hg))) _ 1 1 [.int .i64 (kf k).T, .int .i64 (kf k).O, .int .i64 (kf k).S] rfl rfl (rd_last wr _ [.int .i64 (kf k).T, .int .i64 (kf k).O, .int .i64 (kf k).S]) (kc_one (kf k)) (by simp only [maxLen]; omega) (by omega) ?_; intro A6 c6 w6 b6 hown hchg hat)
      have n6a : Nw w1 (wr.alloc (.cells [.int .i64 (kf k).T, .int .i64 (kf k).O, .int .i64 (kf k).S].toArray 23)) := HI.out.2.2.2.1.alloc _
      have hg2r : g2 < wr.heap.size := HI.out.2.1.lt h0
      have n6 : Nw w1 w6 := Below.trans n6a (hchg.below (fun i _ q => (HI.out.2.2.2.2 i q.symm).2) n6a.size)
      have hE6 : EvsAt w6 g2 o2 n f4 := (HI.out.2.1.new ((Nw.refl wr).alloc _)).same (hchg.block g2 (by simp; omega) (fun q => (HI.out.2.2.2.2 g2 q.symm).1 rfl))
      have hb6 : ∀ g, b6 = some g → g ≠ g2 ∧ w1.heap.size ≤ g := fun g q => by
        rcases hat with e | e
        · exact HI.out.2.2.2.2 g (e ▸ q)
        · rw [e] at q; injection q with q; simp at q; exact ⟨by omega, by have := HI.out.2.2.2.1.size; omega⟩
      have ho6 : Own w6 23 3 (.slice A6 (k + 1) c6) (k + 1) (kcs kf (k + 1)) b6 := by rw [kcs_succ]; exact hown
      have H6 := Lib.hid (⟨ho6, hE6, HI.out.2.2.1, n6, hb6⟩ : _ ∧ _ ∧ _ ∧ _ ∧ _)
      clear n6a hg2r n6 hE6 hb6 ho6 hown hchg hat x0 x1 x2 x3 x4 x5
      obtain ⟨B, hB⟩ : ∃ B, riseN kf k = B := ⟨_, rfl⟩
      have HB := Lib.hid hB
      clear hB
      go_cut [6] (fun v wx => v = .bool B ∧ Hid (Nw w6 wx))
      case first =>
        cases R with
        | false =>
          have hBf : B = false := by
            have h1 := HR.out
            have h2 := HB.out
            cases k with
            | zero => cases h1
            | succ k' =>
              have : riseN kf (k' + 1) = (riseN kf k' && (kf k').less (kf (k' + 1))) := rfl
              rw [← h2, this, show riseN kf k' = false from h1]; rfl
          subst hBf
          go_wp2_with fail
          go_quiet (fail)
          go_wp2_with fail
          go_meet
          exact ⟨rfl, Lib.hid (Below.many (Nw.refl w6) _)⟩
        | true =>
          by_cases hk0 : k = 0
          · subst hk0
            have hBt : B = true := by rw [← HB.out]; rfl
            subst hBt
            go_wp2_with fail
            go_quiet (fail)
            go_wp2_with fail
            go_meet
            exact ⟨rfl, Lib.hid (Below.many (Nw.refl w6) _)⟩
          · obtain ⟨J, hJ⟩ : ∃ J, J = k := ⟨k, rfl⟩
            obtain ⟨q, hq⟩ : ∃ q, k = q + 1 := ⟨k - 1, by omega⟩
            have hqn : q < n := by omega
            obtain ⟨y0, y1, y2, _⟩ := H6.out.2.1.cells hqn
            obtain ⟨z0, z1, z2, _⟩ := H6.out.2.1.cells hlt
            rw [H6.out.2.2.1 q] at y0 y1 y2
            rw [H6.out.2.2.1 k] at z0 z1 z2
            have hBl : (kf q).less (kf k) = B := by
              have h1 := HR.out
              rw [← HB.out, hq]
              rw [hq] at h1
              have : riseN kf (q + 1) = (riseN kf q && (kf q).less (kf (q + 1))) := rfl
              rw [this, show riseN kf q = true from h1]; simp
            have KL := Lib.hid (fun W => refLess_any (kf q) (kf k) W)
            rw [hBl] at KL
            have wq : IntKind.i64.wrap ((k : Int) - 1) = (q : Int) := by rw [show (k : Int) - 1 = (q : Int) by omega]; exact wrap_nat (by omega)
            have gk0 : ((k : Int) == 0) = false := by simp; omega
            have gq : (q : Int) < (n : Int) := by omega
            have HQ := Lib.hid hq
            clear hBl hq hJ hk0
            go_region_held3 (fun W => Nw w6 W ∧ W.cell? ⟨g2, o2 + q * 6, none⟩ = some (.int .i64 (kf q).T) ∧ W.cell? ⟨g2, o2 + q * 6 + 1, none⟩ = some (.int .i64 (kf q).O) ∧ W.cell? ⟨g2, o2 + q * 6 + 2, none⟩ = some (.int .i64 (kf q).S) ∧ W.cell? ⟨g2, o2 + k * 6, none⟩ = some (.int .i64 (kf k).T) ∧ W.cell? ⟨g2, o2 + k * 6 + 1, none⟩ = some (.int .i64 (kf k).O) ∧ W.cell? ⟨g2, o2 + k * 6 + 2, none⟩ = some (.int .i64 (kf k).S)) ((first | exact ⟨(Nw.refl w6).drew, y0, y1, y2, z0, z1, z2⟩ | exact ⟨by assumption, Nw.cell (by assumption) y0, Nw.cell (by assumption) y1, Nw.cell (by assumption) y2, Nw.cell (by assumption) z0, Nw.cell (by assumption) z1, Nw.cell (by assumption) z2⟩)) ((go_at_call 7; refine (KL.out _).mono ?_; rintro r wz ⟨rfl, bz⟩; have iz : Nw w6 wz := Nw.step (by first | assumption | exact (Nw.refl w6).drew) bz))
            all_goals
              go_wp2_with fail
              go_meet
              exact ⟨rfl, Lib.hid iz⟩
      case rest =>
        obtain ⟨rfl, HW⟩ := hcut
        have hEc := H6.out.2.1.new HW.out
        obtain ⟨_, _, _, _, _, z5⟩ := hEc.cells hlt
        obtain ⟨_, _, _, _, _, y5⟩ := hEc.open_ hlt
        have HZ : Hid (∀ D : Int, Own (wc.setCell ⟨g2, o2 + k * 6 + 5, none⟩ (.int .i64 D)) 23 3 (.slice A6 (k + 1) c6) (k + 1) (kcs kf (k + 1)) b6 ∧ EvsAt (wc.setCell ⟨g2, o2 + k * 6 + 5, none⟩ (.int .i64 D)) g2 o2 n (upd f4 k { f4 k with d := D }) ∧ (∀ i, (upd f4 k { f4 k with d := D } i).k = kf i) ∧ Nw w1 (wc.setCell ⟨g2, o2 + k * 6 + 5, none⟩ (.int .i64 D)) ∧ ∀ g, b6 = some g → g ≠ g2 ∧ w1.heap.size ≤ g) := Lib.hid fun D =>
          ⟨H6.out.1.kept fun g hg => (Below.heap_setCell _ _ _ _ (H6.out.2.2.2.2 g hg).1).trans (HW.out.block g (H6.out.1.lt g hg)), hEc.data hlt D, fun i => by
            unfold upd
            split
            · rename_i q; subst q; exact H6.out.2.2.1 i
            · exact H6.out.2.2.1 i, (H6.out.2.2.2.1.step HW.out).set (p := ⟨g2, _, none⟩) HG2.out _, H6.out.2.2.2.2⟩
        clear hEc
        go_wp2_with fail
        go_roundw
        case rel => exact ⟨k + 1, A6, c6, b6, _, hlt, rfl, by rw [Nat.add_sub_cancel, HB.out], by go_num, Lib.hid (HZ.out _)⟩
        case measure => simp [intOf]; omega
    · have gk : ¬ (k : Int) < (n : Int) := by omega
      obtain rfl : k = n := by omega
      have K4 := Lib.hid (rising_any A5 k kf c5 wr (kys_of HI.out.1.rdAt) hl)
      obtain ⟨R, hR⟩ : ∃ R, riseN kf (k - 1) = R := ⟨_, rfl⟩
      rw [hR] at K4 ⊢
      clear hR
      have NR := Lib.hid HI.out.2.2.2.1
      go_wp2_with fail
      refine K4.out.mono ?_
      rintro r w6 ⟨rfl, n6⟩
      have N6 := Lib.hid (NR.out.step n6)
      have K6 := Lib.hid (HOW.out w6 N6.out)
      clear n6
      go_wp2_with fail
      refine K6.out.mono ?_
      rintro r w7 ⟨rfl, n7⟩
      have N7 := Lib.hid (N6.out.step n7)
      clear n7
      go_wp2_with fail
      refine (K5.out _).mono ?_
      rintro r w8 ⟨rfl, n8⟩
      go_wp2_with fail
      go_ret
      exact ⟨rfl, N1.out.step (N7.out.step n8)⟩
theorem sorts_many (A : Option Addr) (n c : Nat) (w : World) (h : 100 < n) (hm : n ≤ maxLen) :
    Calls Try.prog 5 #[.slice A n c] w fun e w' => e = .returned (.bool true) ∧ Nw w w' := by
  unfold maxLen at hm
  have g : (100 : Int) < (n : Int) := by omega
  have k := Lib.hid (fun W => known_any W)
  go_enter Try.func5, Try.ntmps5
  go_wp2_with fail
  refine (k.out _).mono ?_
  rintro e w1 ⟨rfl, b1⟩
  go_wp2_with fail
  go_ret
  exact ⟨rfl, b1⟩
theorem sorts_any (A : Option Addr) (c : Nat) (l : List Ev) (w : World) (hA : Rd w A (cs l)) (hm : l.length ≤ maxLen) :
    Calls Try.prog 5 #[.slice A l.length c] w fun e w' => e = .returned (.bool true) ∧ Nw w w' := by
  rcases Nat.eq_zero_or_pos l.length with h | h
  · rw [h]; exact sorts_none A c w
  · rcases Nat.lt_or_ge 100 l.length with h1 | h1
    · exact sorts_many A _ c w h1 hm
    · exact sorts_few A c l w hA h h1
end
end Go.Proofs.Ytefgpnalahijgaa
