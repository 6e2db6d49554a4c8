/- Messages: maps with numbers as keys, written out. Helper. -/
import Derived.Test.YtnbcjjgilndlaaaMsgA
import Derived.Shelf.Abstract
import Derived.MapKept
import Derived.RangeFuncRecord
namespace Go.Proofs.Ytnbcjjgilndlaaa
open Go.RowKit Go.Shelf
set_option linter.unusedVariables false
set_option linter.unusedSimpArgs false
set_option maxRecDepth 100000
theorem upd_run {t kt et : TypeId} (ht : Try.prog.underlying t = some (.map kt et)) (hk : Try.prog.underlying kt = some (.int .i64)) {W : World} {S c : Nat} {es : Array MapEntry} (h : W.heap[S]? = some (.map es c)) (k : Int) (v : Value)
    (hf : Instr.findNow (.int .i64) (.int .i64 k) es.toList 0 = some none) :
    (Instr.mapUpdate t (.map (some S)) (.int .i64 k) v).run Try.prog W = .ok () (W.putObj S (.map (es.push { key := .int .i64 k, val := v, born := c }) (c + 1))) := by
  simp only [Instr.mapUpdate, run_underlying ht, Sem.run_bind, Result.andThen, MapKept.run_getObj_map h, MapKept.run_checkKey (n := 9999) hk (show MapKept.IsKey (.int .i64) (.int .i64 k) from rfl) false, MapKept.run_findKey hk hf, MapKept.run_setObj_map _ h]
  rfl
theorem look_run {t kt et : TypeId} (ht : Try.prog.underlying t = some (.map kt et)) (hk : Try.prog.underlying kt = some (.int .i64)) {W : World} {S c : Nat} {es : Array MapEntry} (h : W.heap[S]? = some (.map es c)) (k : Int) (i : Nat) (v : Value)
    (hf : Instr.findNow (.int .i64) (.int .i64 k) es.toList 0 = some (some (i, v))) :
    (Instr.lookup t (.map (some S)) (.int .i64 k) true).run Try.prog W = .ok (.tuple #[v, .bool true]) W := by
  simp [Instr.lookup, run_underlying ht, Sem.run_bind, Result.andThen, MapKept.run_getObj_map h, MapKept.run_checkKey (n := 9999) hk (show MapKept.IsKey (.int .i64) (.int .i64 k) from rfl), MapKept.run_findKey hk hf]
end Go.Proofs.Ytnbcjjgilndlaaa
