/- errors.As at a *api.Broken: what turns; errors.Is at the error that a *api.Broken wraps. Helper. -/
import Derived.Test.YtalcafaibmbgjaaDoorFrmErr
namespace Go.Proofs.YtalcafaibmbgjaaDoor
open Go.RowKit Go.Extern.Stop Go.Stop Go.Extern
set_option linter.unusedVariables false
set_option linter.unusedSimpArgs false
set_option maxRecDepth 100000
set_option maxHeartbeats 6400000
/-- errors.As(e, &t), e a *api.Broken: t is set to it. -/
theorem as_hit (e t : Addr) (old : Value) (w : World) (hg : ErrT w) (ht0 : w.cell? t = some old) (hf0 : w.frozen? t = false) :
    Calls Tryd.prog 20 #[.iface 54 (.pointer (some e)), .iface 57 (.pointer (some t))] w fun ev w' => ev = .returned (.bool true) ∧ Chg (fun k => k = t.block) w w' ∧ w'.cell? t = some (.pointer (some e)) ∧ w'.frozen? t = false := by
  refine (as_hitW e t old w hg ht0 hf0).mono ?_
  rintro ev w' ⟨rfl, rfl⟩
  have htl : t.block < w.heap.size := World.block_lt_of_cell? w _ ht0
  refine ⟨rfl, (((((Chg.refl (fun k => k = t.block) w).alloc _).alloc _).alloc _).alloc _).setCell (.inl rfl) _, ?_, ?_⟩
  · have hc : ((((w.alloc (.cells #[.pointer (some t)] 57)).alloc (.cells #[.pointer (some ⟨1, 57, none⟩), .pointer (some ⟨w.heap.size, 0, none⟩), .int .u64 150] 71)).alloc (.cells #[.pointer (some ⟨1, 57, none⟩), .pointer (some ⟨w.heap.size, 0, none⟩), .int .u64 150] 71)).alloc (.cells #[.pointer (some e)] 54)).cell? t = some old := by
      rw [World.cell?_alloc_lt _ _ t (by simp <;> omega), World.cell?_alloc_lt _ _ t (by simp <;> omega), World.cell?_alloc_lt _ _ t (by simp <;> omega), World.cell?_alloc_lt _ _ t htl]; exact ht0
    exact World.cell?_setCell_same' _ _ _ (by rw [hc]; rfl)
  · rw [World.frozen?_setCell, World.frozen?_alloc_old _ _ t (by simp <;> omega), World.frozen?_alloc_old _ _ t (by simp <;> omega), World.frozen?_alloc_old _ _ t (by simp <;> omega), World.frozen?_alloc_old _ _ t (Nat.ne_of_lt htl)]; exact hf0
theorem is_typeOf (v : Value) (w : World) : (ReflectliteType.typeOf #[.iface 30 v]).run Tryd.prog w = .ok (.iface 82 (.agg #[.pointer (some ⟨1, 30, none⟩)])) w := by kernel_rfl
def cmpE : Array Value → Sem Value := ReflectliteType.method fun t => do Rtype.noPackHeld "Comparable" t; pure (.bool (← typeInfo t).comparable)
theorem is_comparable (w : World) : (cmpE #[.agg #[.pointer (some ⟨1, 30, none⟩)]]).run Tryd.prog w = .ok (.bool true) w := by kernel_rfl
theorem is_mComparable (v : Value) (w : World) : (Go.method 226 82 v "Comparable").run Tryd.prog w = .ok (63, v) w := by kernel_rfl
theorem is_noIs (v : Value) (xT : TypeId) (w : World) : (Instr.typeAssert (.iface 54 v) xT 84 true).run Tryd.prog w = .ok (.tuple #[.nilIface, .bool false]) w := run_typeAssert_lacksB Tryd.underlying84 (by kernel_rfl) (by kernel_rfl) v xT w
theorem is_unwrap (v : Value) (xT : TypeId) (w : World) : (Instr.typeAssert (.iface 54 v) xT 87 true).run Tryd.prog w = .ok (.tuple #[.iface 54 v, .bool true]) w := run_typeAssert_hasB Tryd.underlying87 (by kernel_rfl) v xT w
theorem is_mUnwrap (v : Value) (w : World) : (Go.method 226 54 v "Unwrap").run Tryd.prog w = .ok (57, v) w := by kernel_rfl
theorem is_compE : (Tryd.prog.info? 30).map (·.comparable) = some true := by kernel_rfl
theorem is_eqE (n : Int) (w : World) : (binOp .eql 47 (.iface 30 (.int .i64 n)) (.iface 30 (.int .i64 n))).run Tryd.prog w = .ok (.bool true) w := by
  obtain ⟨i, hi, hcmp⟩ := Option.map_eq_some_iff.1 is_compE
  have h : ∀ d : Nat, (Op.equalIn (d + 2) 47 (.iface 30 (.int .i64 n)) (.iface 30 (.int .i64 n))).run Tryd.prog w = .ok true w := fun d => by
    simp [Op.equalIn, run_underlying Tryd.underlying47, run_underlying Tryd.underlying30, typeInfo, hi, hcmp]
  simp only [binOp]
  simp [Op.equal, Op.maxDepth, h 9998]
/-- errors.Is(e, x), e a *api.Broken that wraps x. -/
theorem is_hit (eb eo : Nat) (n : Int) (w : World) (h1 : w.cell? ⟨eb, eo + 1, none⟩ = some (.int .i64 n)) :
    Calls Tryd.prog 19 #[.iface 54 (.pointer (some ⟨eb, eo, none⟩)), .iface 30 (.int .i64 n)] w fun e w' => e = .returned (.bool true) ∧ w' = w := by
  have h8 := @run_callFunc_extern Tryd.prog 25 _ ReflectliteType.typeOf Tryd.func25 (by kernel_rfl) (by kernel_rfl) (by kernel_rfl) (by kernel_rfl)
  have h32 := @run_callFunc_extern Tryd.prog 63 _ cmpE Tryd.func63 (by kernel_rfl) (by kernel_rfl) (by kernel_rfl) (by kernel_rfl)
  have tT := is_typeOf
  have cT := is_comparable
  have mR := is_mComparable
  have nE := is_noIs
  have uW := is_unwrap
  have mU := is_mUnwrap
  have heq := is_eqE n w
  have hty := run_eql_iface_types (P := Tryd.prog) 54 30 (.pointer (some ⟨eb, eo, none⟩)) (.int .i64 n) Tryd.underlying47 (by decide) w
  go_enter Tryd.func19, Tryd.ntmps19
  go_wp2
  refine wp_loop_rounds 2 ?_
  rw [rounds_succ]
  go_wp2
  rw [rounds_succ]
  go_wp2
  go_ret
  exact ⟨rfl, rfl⟩
end Go.Proofs.YtalcafaibmbgjaaDoor
