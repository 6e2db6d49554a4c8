/- Frames: the document's sameness of lists of texts. Helper. -/
import Derived.Test.YtalcafaibmbgjaaDoorFrmWrong
namespace Go.Proofs.YtalcafaibmbgjaaDoor
open Go.RowKit
set_option linter.unusedVariables false
set_option linter.unusedSimpArgs false
set_option maxRecDepth 100000
set_option maxHeartbeats 6400000
theorem same02_any (w : World) (Aa : Option Addr) (ca : Nat) (es : List Tx) (Ab : Option Addr) (cb : Nat) (b off c n : Nat) (s : List UInt8) (L : List (Nat × Nat)) (base : Nat)
    (ha : Rd w Aa (es.map Tx.v)) (hx : Txs w base es) (hb : Rd w Ab (toldV b off c L)) (hs : BytesAt w (some ⟨b, off, none⟩) s) (hL : ∀ y ∈ L, y.1 + y.2 ≤ s.length) (he : es.map (fun e => e.2.2.2) = L.map fun y => (s.drop y.1).take y.2) (hn : es.length = n) (hn2 : n ≤ 1000000) :
    Calls Tryd.prog 12 #[.slice Aa n ca, .slice Ab n cb] w fun e w' => e = .returned (.bool true) ∧ Nw w w' := by
  have HA := Lib.hid ha
  have HX := Lib.hid hx
  have HB := Lib.hid hb
  have HS := Lib.hid hs
  have HL := Lib.hid hL
  have HE := Lib.hid he
  have HN := Lib.hid hn
  clear ha hx hb hs hL he hn
  go_enter Tryd.func12, Tryd.ntmps12
  go_wp2_with fail
  go_loopw [5] (fun y wr => ∃ i : Nat, i ≤ n ∧ y = .int .i64 (i : Int) ∧ Hid (Nw w wr)) (fun y _ => n - (intOf y).toNat)
  case atStart => exact ⟨0, Nat.zero_le _, rfl, Lib.hid (Nw.refl w)⟩
  case round =>
    obtain ⟨i, hi, rfl, HI⟩ := hrel
    by_cases hlt : i < n
    · have i1 : (i : Int) < (n : Int) := by omega
      have hie : i < es.length := by rw [HN.out]; exact hlt
      have hiL : i < L.length := by
        have := congrArg List.length HE.out
        rw [List.length_map, List.length_map] at this; omega
      obtain ⟨ga, oa, rfl, hca⟩ : ∃ ga oa, Aa = some ⟨ga, oa, none⟩ ∧ wr.cell? ⟨ga, oa + i, none⟩ = some (Tx.v (es[i]'hie)) := by
        rcases HA.out with h | ⟨g, o, e1, h⟩
        · have := congrArg List.length h; simp at this; rw [this] at hie; simp at hie
        · exact ⟨g, o, e1, HI.out.cell (h i _ (by simp [hie]))⟩
      obtain ⟨gb, ob, rfl, hcb⟩ : ∃ gb ob, Ab = some ⟨gb, ob, none⟩ ∧ wr.cell? ⟨gb, ob + i, none⟩ = some (.slice (some ⟨b, off + (L[i]'hiL).1, none⟩) (L[i]'hiL).2 (c - (L[i]'hiL).1)) := by
        rcases HB.out with h | ⟨g, o, e1, h⟩
        · have := congrArg List.length h; simp [toldV] at this; rw [this] at hiL; simp at hiL
        · exact ⟨g, o, e1, HI.out.cell (h i _ (by simp [toldV, hiL]))⟩
      have hel : (es[i]'hie).2.2.2 = (s.drop (L[i]'hiL).1).take (L[i]'hiL).2 := by
        have h1 : (es.map (fun e => e.2.2.2))[i]? = (L.map fun y => (s.drop y.1).take y.2)[i]? := by rw [HE.out]
        simpa [hie, hiL] using h1
      have hmx := HX.out _ (List.getElem_mem hie)
      have hly := HL.out _ (List.getElem_mem hiL)
      obtain ⟨E, hE⟩ : ∃ E, es[i]'hie = E := ⟨_, rfl⟩
      obtain ⟨Y, hY⟩ : ∃ Y, L[i]'hiL = Y := ⟨_, rfl⟩
      rw [hE] at hca hel hmx
      rw [hY] at hcb hel hly
      obtain ⟨ge, oe, ce, FB⟩ := E
      obtain ⟨py, ly⟩ := Y
      obtain ⟨N, hN⟩ : ∃ N, FB.length = N := ⟨_, rfl⟩
      have hly2 : ly = N := by
        have h2 := congrArg List.length hel
        rw [List.length_take, List.length_drop] at h2
        simp only at h2 hly
        omega
      subst hly2
      have hca2 : wr.cell? ⟨ga, oa + i, none⟩ = some (.slice (some ⟨ge, oe, none⟩) ly ce) := by rw [hca]; show some (Value.slice _ FB.length _) = _; rw [hN]
      have BT := Lib.hid (show BytesAt wr (some ⟨ge, oe, none⟩) FB ∧ BytesAt wr (some ⟨b, off + py, none⟩) FB from ⟨Rd.below hmx.1 HI.out (Nat.le_refl _), by
        have h0 := Rd.below (bytes_sub HS.out py ly (by simp only at hly; omega)) HI.out (Nat.le_refl _)
        rw [show FB = (s.drop py).take ly from hel]; exact h0⟩)
      have HLL := Lib.hid hN
      clear hE hY hel hmx hly hca hN hie hiL
      as_aux_lemma =>
        go_upto_region 6 with (fail)
        refine wp_region_F (fun W => Nw wr W) [10] (by kernel_rfl) ?_
        have hS : Nw wr wr.drew := (Nw.refl wr).drew
        refine wpAnyF_freeT (i := 0) (v := ?_) rfl (by kernel_rfl) (by kernel_rfl) (by kernel_rfl) (by kernel_rfl) (by kernel_rfl) (fun _ _ _ h => h) (by rfl) ?_ hS ?_
        rotate_left
        · intro u
          go_simp
          try with_reducible rfl
        try simp only [List.getElem_toArray, List.getElem_cons_succ, List.getElem_cons_zero, Act.put, List.setIfInBounds_toArray, List.set_cons_zero, List.set_cons_succ]
        refine wpAnyF_freeT (i := 1) (v := ?_) rfl (by kernel_rfl) (by kernel_rfl) (by kernel_rfl) (by kernel_rfl) (by kernel_rfl) (fun _ _ _ h => h) (by rfl) ?_ hS ?_
        rotate_left
        · intro u
          go_simp
          try with_reducible rfl
        try simp only [List.getElem_toArray, List.getElem_cons_succ, List.getElem_cons_zero, Act.put, List.setIfInBounds_toArray, List.set_cons_zero, List.set_cons_succ]
        refine wpAnyF_freeT (i := 2) (v := ?_) rfl (by kernel_rfl) (by kernel_rfl) (by kernel_rfl) (by kernel_rfl) (by kernel_rfl) (fun _ _ _ h => h) (by rfl) ?_ hS ?_
        rotate_left
        · intro u
          go_simp
          try with_reducible rfl
        try simp only [List.getElem_toArray, List.getElem_cons_succ, List.getElem_cons_zero, Act.put, List.setIfInBounds_toArray, List.set_cons_zero, List.set_cons_succ]
        refine wpAnyF_takeT (i := 3) (v := ?_) rfl (by kernel_rfl) (by kernel_rfl) (by kernel_rfl) (by kernel_rfl) (by kernel_rfl) (by kernel_rfl) (fun _ _ _ h => h) (by rfl) ?_ hS ?_
        rotate_left
        · intro u hu
          have c1 := Nw.cell (show Nw wr u from hu) hca2
          go_simp
          try with_reducible rfl
        try simp only [List.getElem_toArray, List.getElem_cons_succ, List.getElem_cons_zero, Act.put, List.setIfInBounds_toArray, List.set_cons_zero, List.set_cons_succ]
        refine wpAnyF_takeT (i := 4) (v := ?_) rfl (by kernel_rfl) (by kernel_rfl) (by kernel_rfl) (by kernel_rfl) (by kernel_rfl) (by kernel_rfl) (fun _ _ _ h => h) (by rfl) ?_ hS ?_
        rotate_left
        · intro u hu
          have s1 := BytesAt.str (show BytesAt u (some ⟨ge, oe, none⟩) FB from Rd.below BT.out.1 hu (Nat.le_refl _)) 22 5 9 ce Tryd.underlying22 Tryd.underlying5 Tryd.underlying9
          rw [HLL.out] at s1
          go_simp
          try with_reducible rfl
        try simp only [List.getElem_toArray, List.getElem_cons_succ, List.getElem_cons_zero, Act.put, List.setIfInBounds_toArray, List.set_cons_zero, List.set_cons_succ]
        refine wpAnyF_freeT (i := 5) (v := ?_) rfl (by kernel_rfl) (by kernel_rfl) (by kernel_rfl) (by kernel_rfl) (by kernel_rfl) (fun _ _ _ h => h) (by rfl) ?_ hS ?_
        rotate_left
        · intro u
          go_simp
          try with_reducible rfl
        try simp only [List.getElem_toArray, List.getElem_cons_succ, List.getElem_cons_zero, Act.put, List.setIfInBounds_toArray, List.set_cons_zero, List.set_cons_succ]
        refine wpAnyF_freeT (i := 6) (v := ?_) rfl (by kernel_rfl) (by kernel_rfl) (by kernel_rfl) (by kernel_rfl) (by kernel_rfl) (fun _ _ _ h => h) (by rfl) ?_ hS ?_
        rotate_left
        · intro u
          go_simp
          try with_reducible rfl
        try simp only [List.getElem_toArray, List.getElem_cons_succ, List.getElem_cons_zero, Act.put, List.setIfInBounds_toArray, List.set_cons_zero, List.set_cons_succ]
        refine wpAnyF_freeT (i := 7) (v := ?_) rfl (by kernel_rfl) (by kernel_rfl) (by kernel_rfl) (by kernel_rfl) (by kernel_rfl) (fun _ _ _ h => h) (by rfl) ?_ hS ?_
        rotate_left
        · intro u
          go_simp
          try with_reducible rfl
        try simp only [List.getElem_toArray, List.getElem_cons_succ, List.getElem_cons_zero, Act.put, List.setIfInBounds_toArray, List.set_cons_zero, List.set_cons_succ]
        refine wpAnyF_takeT (i := 8) (v := ?_) rfl (by kernel_rfl) (by kernel_rfl) (by kernel_rfl) (by kernel_rfl) (by kernel_rfl) (by kernel_rfl) (fun _ _ _ h => h) (by rfl) ?_ hS ?_
        rotate_left
        · intro u hu
          have c1 := Nw.cell (show Nw wr u from hu) hcb
          go_simp
          try with_reducible rfl
        try simp only [List.getElem_toArray, List.getElem_cons_succ, List.getElem_cons_zero, Act.put, List.setIfInBounds_toArray, List.set_cons_zero, List.set_cons_succ]
        refine wpAnyF_takeT (i := 9) (v := ?_) rfl (by kernel_rfl) (by kernel_rfl) (by kernel_rfl) (by kernel_rfl) (by kernel_rfl) (by kernel_rfl) (fun _ _ _ h => h) (by rfl) ?_ hS ?_
        rotate_left
        · intro u hu
          have s2 := BytesAt.str (show BytesAt u (some ⟨b, off + py, none⟩) FB from Rd.below BT.out.2 hu (Nat.le_refl _)) 22 5 9 (c - py) Tryd.underlying22 Tryd.underlying5 Tryd.underlying9
          rw [HLL.out] at s2
          go_simp
          try with_reducible rfl
        try simp only [List.getElem_toArray, List.getElem_cons_succ, List.getElem_cons_zero, Act.put, List.setIfInBounds_toArray, List.set_cons_zero, List.set_cons_succ]
        refine wpAnyF_step (i := 10) (by kernel_rfl) rfl (by rfl) fun K hK => ?_
        go_simp
        refine hK _ _ (.inl (by kernel_rfl)) ?_
        clear hK K
        try simp only [List.getElem_toArray, List.getElem_cons_succ, List.getElem_cons_zero, Act.put, List.setIfInBounds_toArray, List.set_cons_zero, List.set_cons_succ]
        refine wpAnyF_done (by kernel_rfl) ?_ _
        have HI2 := Lib.hid HI.out.drew
        go_wp2_with fail
        exact ⟨⟨i + 1, hlt, by push_cast; rfl, HI2⟩, by simp [intOf]; omega⟩
    · obtain rfl : i = n := by omega
      have i1 : ¬ (i : Int) < (i : Int) := by omega
      go_wp2_with fail
      go_ret
      exact ⟨rfl, HI.out⟩
end Go.Proofs.YtalcafaibmbgjaaDoor
