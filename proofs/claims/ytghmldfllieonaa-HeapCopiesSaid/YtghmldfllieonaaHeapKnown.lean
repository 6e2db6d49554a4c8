/- The chapter's row; many items. Helper. -/
import Derived.Test.YtghmldfllieonaaHeapIn
import Derived.Lib.MinMax
namespace Go.Proofs.Ytghmldfllieonaa
open Go.RowKit
set_option linter.unusedVariables false
set_option linter.unusedSimpArgs false
/-- An item of a time, an origin, a Serial. -/
def mk (t o s : Int) : It := ⟨⟨t, o, 0⟩, 0, 0, 0, s⟩
theorem itv_eq (e : It) (b : Bool) : itv e b = .tuple #[.agg #[.int .i64 e.k.T, .int .i64 e.k.O, .int .i64 e.k.S, .int .i64 e.p, .int .i64 e.q, .int .i64 e.d, .int .i64 e.n], .bool b] := rfl
theorem itv_mk (t o s : Int) (b : Bool) : itv (mk t o s) b = .tuple #[.agg #[.int .i64 t, .int .i64 o, .int .i64 0, .int .i64 0, .int .i64 0, .int .i64 0, .int .i64 s], .bool b] := rfl
def UL (bs : List Nat) : Nat → Prop := fun k => k ∈ bs
/-- A box is laid for an item. -/
theorem HeapO.box {w W : World} {gB : Nat} {L : List It} {bs : List Nat} (h : HeapO (UL bs) w W gB L) (cs : Array Value) : HeapO (UL (W.heap.size :: bs)) w (W.alloc (.cells cs 36)) gB L := by
  have hu : ∀ k, UL bs k → k < W.heap.size := by obtain ⟨S, v, f, blk, l, hp, hh, ht, hu, hn⟩ := h; exact hu
  refine h.grow ((Below.refl _ W).alloc (Nat.le_refl _) _) (fun k hk => ?_) (fun k hk => ?_)
  · rcases List.mem_cons.1 hk with rfl | hk
    · exact .inr (Nat.le_refl _)
    · exact .inl hk
  · rcases List.mem_cons.1 hk with rfl | hk
    · simp
    · have := hu k hk; simp; omega
set_option maxRecDepth 100000
set_option maxHeartbeats 1600000
theorem item_any (t o s : Int) (W : World) : Calls Try.prog 15 #[.int .i64 t, .int .i64 o, .int .i64 s] W fun r w' => r = .returned (.agg #[.int .i64 t, .int .i64 o, .int .i64 0, .int .i64 0, .int .i64 0, .int .i64 0, .int .i64 s]) ∧ Below W.heap.size W w' := by
  go_enter Try.func15, Try.ntmps15
  go_wp2_with fail
  obtain ⟨d, hd⟩ := item_desc
  exact bodyPost_ret (results_rowA rfl _ _ W.heap.size 36 #[.int .i64 t, .int .i64 o, .int .i64 0, .int .i64 0, .int .i64 0, .int .i64 0, .int .i64 s] (0, 0) ⟨d, rfl⟩ rfl (heap_last W _ rfl) hd item_size) rfl ⟨rfl, (Below.refl _ W).alloc (Nat.le_refl _) _⟩
theorem W64_small (x : Int) (h : -9223372036854775808 ≤ x ∧ x ≤ 9223372036854775807) : W64 x := by
  unfold W64 Lit.wf
  simp [IntKind.min, IntKind.max, IntKind.bits, IntKind.signed]
  omega
theorem mk_ok (t o s : Int) (h1 : -9223372036854775808 ≤ o ∧ o ≤ 9223372036854775807) (h2 : -9223372036854775808 ≤ s ∧ s ≤ 9223372036854775807) : WOk (mk t o s) := ⟨W64_small _ h1, W64_small _ h2⟩
theorem known_any (w : World) : Calls Try.prog 7 #[] w fun e w' => e = .returned (.bool true) ∧ Nw w w' := by
  have KI := Lib.hid (fun t o s W => item_any t o s W)
  have KN := Lib.hid (new_in (UL []) w w (Nw.refl w) (fun k h => by simp [UL] at h))
  have KP1 := Lib.hid (fun W gB (h : HeapO (UL []) w W gB []) => put_in (UL []) w W gB [] (mk 7 1 4) h (mk_ok _ _ _ (by decide) (by decide)) (fun x hx => by simp at hx) (by simp))
  have KP2 := Lib.hid (fun W gB (h : HeapO (UL []) w W gB [mk 7 1 4]) => put_in (UL []) w W gB [mk 7 1 4] (mk 3 1 5) h (mk_ok _ _ _ (by decide) (by decide)) (by decide) (by simp))
  have KP3 := Lib.hid (fun W gB (h : HeapO (UL []) w W gB [mk 7 1 4, mk 3 1 5]) => put_in (UL []) w W gB [mk 7 1 4, mk 3 1 5] (mk 9 2 5) h (mk_ok _ _ _ (by decide) (by decide)) (by decide) (by simp))
  have kle := fun W gB (h : HeapO (UL []) w W gB [mk 7 1 4, mk 3 1 5, mk 9 2 5]) => least_in (UL []) w W gB [mk 7 1 4, mk 3 1 5, mk 9 2 5] (mk 3 1 5) h (by decide) (by decide) (by simp)
  have kmo := fun bs W gB (h : HeapO (UL bs) w W gB [mk 7 1 4, mk 3 1 5, mk 9 2 5]) => most_in (UL bs) w W gB [mk 7 1 4, mk 3 1 5, mk 9 2 5] (mk 9 2 5) h (by decide) (by decide) (by simp)
  have kdr := fun bs W gB (h : HeapO (UL bs) w W gB [mk 7 1 4, mk 3 1 5, mk 9 2 5]) => drop_in (UL bs) w W gB [mk 7 1 4, mk 3 1 5, mk 9 2 5] (mk 7 1 4) h (mk_ok _ _ _ (by decide) (by decide)) (by decide) (by simp)
  have kta := fun bs W gB (h : HeapO (UL bs) w W gB [mk 3 1 5, mk 9 2 5]) => take_in (UL bs) w W gB [mk 3 1 5, mk 9 2 5] (mk 3 1 5) h (by decide) (by decide) (by simp)
  have kln := fun bs W gB (h : HeapO (UL bs) w W gB [mk 9 2 5]) => len_in (UL bs) w W gB [mk 9 2 5] h
  rw [show [mk 7 1 4, mk 3 1 5, mk 9 2 5].erase (mk 7 1 4) = [mk 3 1 5, mk 9 2 5] by decide, itv_mk] at kdr
  rw [show [mk 3 1 5, mk 9 2 5].erase (mk 3 1 5) = [mk 9 2 5] by decide, itv_mk] at kta
  rw [itv_mk] at kle kmo
  have KLe := Lib.hid kle
  have KMo := Lib.hid kmo
  have KDr := Lib.hid kdr
  have KTa := Lib.hid kta
  have KLn := Lib.hid kln
  clear kle kmo kdr kta kln
  go_enter Try.func7, Try.ntmps7
  go_wp2_with fail
  refine KN.out.mono ?_
  rintro e w1 ⟨gB, rfl, _, h1, _⟩
  have H1 := Lib.hid h1
  clear h1
  go_wp2_with fail
  refine (KI.out _ _ _ _).mono ?_
  rintro e w2 ⟨rfl, b2⟩
  have H2 := Lib.hid (H1.out.step b2)
  clear b2 H1
  go_wp2_with fail
  refine (KP1.out _ _ H2.out).mono ?_
  rintro e w3 ⟨rfl, h3, _⟩
  have H3 := Lib.hid h3
  clear h3 H2
  go_wp2_with fail
  refine (KI.out _ _ _ _).mono ?_
  rintro e w4 ⟨rfl, b4⟩
  have H4 := Lib.hid (H3.out.step b4)
  clear b4 H3
  go_wp2_with fail
  refine (KP2.out _ _ H4.out).mono ?_
  rintro e w5 ⟨rfl, h5, _⟩
  have H5 := Lib.hid h5
  clear h5 H4
  go_wp2_with fail
  refine (KI.out _ _ _ _).mono ?_
  rintro e w6 ⟨rfl, b6⟩
  have H6 := Lib.hid (H5.out.step b6)
  clear b6 H5
  go_wp2_with fail
  refine (KP3.out _ _ H6.out).mono ?_
  rintro e w7 ⟨rfl, h7, _⟩
  have H7 := Lib.hid h7
  clear h7 H6
  go_wp2_with fail
  refine (KLe.out _ _ H7.out).mono ?_
  rintro e w8 ⟨rfl, h8⟩
  have H8 := Lib.hid h8
  clear h8 H7
  obtain ⟨gx, hgx⟩ : ∃ gx, w8.heap.size = gx := ⟨_, rfl⟩
  obtain ⟨w9, hw9⟩ : ∃ w9, w8.alloc (.cells #[.int .i64 3, .int .i64 1, .int .i64 0, .int .i64 0, .int .i64 0, .int .i64 0, .int .i64 5] 36) = w9 := ⟨_, rfl⟩
  have hx := H8.out.1.box #[.int .i64 3, .int .i64 1, .int .i64 0, .int .i64 0, .int .i64 0, .int .i64 0, .int .i64 5]
  have hbx : Blk w9 gx 36 #[.int .i64 3, .int .i64 1, .int .i64 0, .int .i64 0, .int .i64 0, .int .i64 0, .int .i64 5] := by rw [← hw9]; exact Blk.last _ _ _ hgx
  rw [hw9, hgx] at hx
  have HX := Lib.hid (And.intro hgx hw9)
  have H9 := Lib.hid hx
  have BX9 := Lib.hid hbx
  clear hx hbx hgx hw9
  go_upto_region 5 with (fail)
  rw [HX.out.2, HX.out.1]
  clear H8 HX
  go_wp2_with fail
  refine (KMo.out _ _ _ H9.out).mono ?_
  rintro e w10 ⟨rfl, h10⟩
  have BX10 := Lib.hid (h10.keep BX9.out (by simp [UL]))
  have H10 := Lib.hid h10
  clear h10 H9 BX9
  obtain ⟨gy, hgy⟩ : ∃ gy, w10.heap.size = gy := ⟨_, rfl⟩
  obtain ⟨w11, hw11⟩ : ∃ w11, w10.alloc (.cells #[.int .i64 9, .int .i64 2, .int .i64 0, .int .i64 0, .int .i64 0, .int .i64 0, .int .i64 5] 36) = w11 := ⟨_, rfl⟩
  have hx := H10.out.1.box #[.int .i64 9, .int .i64 2, .int .i64 0, .int .i64 0, .int .i64 0, .int .i64 0, .int .i64 5]
  have hby : Blk w11 gy 36 #[.int .i64 9, .int .i64 2, .int .i64 0, .int .i64 0, .int .i64 0, .int .i64 0, .int .i64 5] := by rw [← hw11]; exact Blk.last _ _ _ hgy
  have BX11 := Lib.hid (show Blk w11 gx _ _ by rw [← hw11]; exact BX10.out.alloc _)
  rw [hw11, hgy] at hx
  have HX := Lib.hid (And.intro hgy hw11)
  have H11 := Lib.hid hx
  have BY11 := Lib.hid hby
  clear hx hby hgy hw11
  go_upto_region 6 with (fail)
  rw [HX.out.2, HX.out.1]
  clear H10 HX BX10
  go_wp2_with fail
  refine (KDr.out _ _ _ H11.out).mono ?_
  rintro e w12 ⟨rfl, h12⟩
  have BX12 := Lib.hid (h12.keep BX11.out (by simp [UL]))
  have BY12 := Lib.hid (h12.keep BY11.out (by simp [UL]))
  have H12 := Lib.hid h12
  clear h12 H11 BX11 BY11
  obtain ⟨gz, hgz⟩ : ∃ gz, w12.heap.size = gz := ⟨_, rfl⟩
  obtain ⟨w13, hw13⟩ : ∃ w13, w12.alloc (.cells #[.int .i64 7, .int .i64 1, .int .i64 0, .int .i64 0, .int .i64 0, .int .i64 0, .int .i64 4] 36) = w13 := ⟨_, rfl⟩
  have hx := H12.out.1.box #[.int .i64 7, .int .i64 1, .int .i64 0, .int .i64 0, .int .i64 0, .int .i64 0, .int .i64 4]
  have hbz : Blk w13 gz 36 #[.int .i64 7, .int .i64 1, .int .i64 0, .int .i64 0, .int .i64 0, .int .i64 0, .int .i64 4] := by rw [← hw13]; exact Blk.last _ _ _ hgz
  have BX13 := Lib.hid (show Blk w13 gx _ _ by rw [← hw13]; exact BX12.out.alloc _)
  have BY13 := Lib.hid (show Blk w13 gy _ _ by rw [← hw13]; exact BY12.out.alloc _)
  rw [hw13, hgz] at hx
  have HX := Lib.hid (And.intro hgz hw13)
  have H13 := Lib.hid hx
  have BZ13 := Lib.hid hbz
  clear hx hbz hgz hw13
  go_upto_region 7 with (fail)
  rw [HX.out.2, HX.out.1]
  clear H12 HX BX12 BY12
  go_wp2_with fail
  refine (KTa.out _ _ _ H13.out).mono ?_
  rintro e w14 ⟨rfl, h14⟩
  have BX14 := Lib.hid (h14.keep BX13.out (by simp [UL]))
  have BY14 := Lib.hid (h14.keep BY13.out (by simp [UL]))
  have BZ14 := Lib.hid (h14.keep BZ13.out (by simp [UL]))
  have H14 := Lib.hid h14
  clear h14 H13 BX13 BY13 BZ13
  obtain ⟨gv, hgv⟩ : ∃ gv, w14.heap.size = gv := ⟨_, rfl⟩
  obtain ⟨w15, hw15⟩ : ∃ w15, w14.alloc (.cells #[.int .i64 3, .int .i64 1, .int .i64 0, .int .i64 0, .int .i64 0, .int .i64 0, .int .i64 5] 36) = w15 := ⟨_, rfl⟩
  have hx := H14.out.1.box #[.int .i64 3, .int .i64 1, .int .i64 0, .int .i64 0, .int .i64 0, .int .i64 0, .int .i64 5]
  have hbv : Blk w15 gv 36 #[.int .i64 3, .int .i64 1, .int .i64 0, .int .i64 0, .int .i64 0, .int .i64 0, .int .i64 5] := by rw [← hw15]; exact Blk.last _ _ _ hgv
  have cx : w15.cell? ⟨gx, 0, none⟩ = some (.int .i64 3) := ((show Blk w15 gx _ _ by rw [← hw15]; exact BX14.out.alloc _).cell 0).trans rfl
  have cy : w15.cell? ⟨gy, 0, none⟩ = some (.int .i64 9) := ((show Blk w15 gy _ _ by rw [← hw15]; exact BY14.out.alloc _).cell 0).trans rfl
  have cz : w15.cell? ⟨gz, 0, none⟩ = some (.int .i64 7) := ((show Blk w15 gz _ _ by rw [← hw15]; exact BZ14.out.alloc _).cell 0).trans rfl
  have cv : w15.cell? ⟨gv, 0, none⟩ = some (.int .i64 3) := (hbv.cell 0).trans rfl
  rw [hw15, hgv] at hx
  have HX := Lib.hid (And.intro hgv hw15)
  have H15 := Lib.hid hx
  clear hx hbv hgv hw15
  go_upto_region 8 with (fail)
  rw [HX.out.2, HX.out.1]
  clear H14 HX BX14 BY14 BZ14
  go_wp2_with fail
  refine (KLn.out _ _ _ H15.out).mono ?_
  rintro e w16 ⟨rfl, h16⟩
  rw [h16]
  clear h16 w16
  go_wp2_with fail
  go_ret
  exact ⟨rfl, H15.out.nw⟩
end Go.Proofs.Ytghmldfllieonaa
