/-
  No cell of these rows narrows 'for every input' (looked for: loops, veiled, ifaces, maps, wideKeys, modest, calm, conditions, laid).
  DERIVED. THE GIVEN ROWS OF THIS SEAT. 3 by the template 'for every input the law returns true; each argument reads behind the call as it read before'; 0 by the template 'total and deterministic' (their statements: YtgijkgngldfdiaaTotals.lean).
  GIVEN WITH THE SEED: the statements are not yours to turn. If you find one false, say at which input.
  Laid BY PROGRAM, IN A SANDBOX (cutbox-rows.mjs): the forced cells as the released guide's own fill.sh prints them over the translation c2f8e00089318bb7… (all of the seat's roots in one cut). By AI agents, Wed Nov 11 2026. No macro, syntax, notation, axiom, sorry.
-/
import Derived.Test.YtgijkgngldfdiaaChecked
import GoSem.Claim
import GoSem.ClaimJoined
import GoSem.ClaimMapViews
import Derived.JoinedTies
import Derived.KernelRfl
namespace Go.Proofs.Ytgijkgngldfdiaa
/- THE CELL 'sum', in the pinned program and in every row, IS THE sha256 OF THE DUMP (.gsa) THAT YtgijkgngldfdiaaProg.lean LOADS. Nothing in Lean hashes anything: it is a label: what it is worth is what the hold of that sum in a sandbox is worth. -/
noncomputable def Try.pinned : Pinned := { name := "ytgijkgngldfdiaa", sum := "c2f8e00089318bb7ad3f8d1fc2e6004e86a7552ca8d987f8e6d870cf2edce9e3", checked := Try.checked }
namespace Rows
def none {H : Type} : Left H := { results := [], args := [] }

/-- 'rifflelaw13.SequencePlays': WHATEVER THE INPUT: true; the input reads as it did. -/
def sequencePlaysSpec : ChangeSpec := { name := "sequencePlays", fn := fun _ => fun
  | [d1, d2] => { results := [.lit (.bool true)], args := [d1, d2] }
  | _ => none }
def sequencePlaysRow : OpenClaim := { program := "ytgijkgngldfdiaa", sum := "c2f8e00089318bb7ad3f8d1fc2e6004e86a7552ca8d987f8e6d870cf2edce9e3", func := "riffle/rifflelaw13.SequencePlays", spec := "sequencePlays", inPlace := ["slices.overlaps[riffle/api.Event]"], unfollowed := true, recurses := true, apart := false }
def SequencePlaysSaid : Prop := sequencePlaysRow.holds Try.pinned (OpenSpec.ofChange sequencePlaysSpec)

/-- ITS FALSE NEIGHBOUR: 'it returns false'. Refute it at one input. -/
def sequencePlaysWrong : ChangeSpec := { name := "sequencePlays", fn := fun _ => fun
  | [d1, d2] => { results := [.lit (.bool false)], args := [d1, d2] }
  | _ => none }
def SequencePlaysWrongFalsely : Prop := sequencePlaysRow.holds Try.pinned (OpenSpec.ofChange sequencePlaysWrong)

/-- 'rifflelaw13.SequenceTurns': WHATEVER THE INPUT: true; the input reads as it did. -/
def sequenceTurnsSpec : ChangeSpec := { name := "sequenceTurns", fn := fun _ => fun
  | [d1, d2, d3] => { results := [.lit (.bool true)], args := [d1, d2, d3] }
  | _ => none }
def sequenceTurnsRow : OpenClaim := { program := "ytgijkgngldfdiaa", sum := "c2f8e00089318bb7ad3f8d1fc2e6004e86a7552ca8d987f8e6d870cf2edce9e3", func := "riffle/rifflelaw13.SequenceTurns", spec := "sequenceTurns", inPlace := ["slices.overlaps[riffle/api.Event]"], unfollowed := true, recurses := true, apart := false }
def SequenceTurnsSaid : Prop := sequenceTurnsRow.holds Try.pinned (OpenSpec.ofChange sequenceTurnsSpec)

/-- ITS FALSE NEIGHBOUR: 'it returns false'. Refute it at one input. -/
def sequenceTurnsWrong : ChangeSpec := { name := "sequenceTurns", fn := fun _ => fun
  | [d1, d2, d3] => { results := [.lit (.bool false)], args := [d1, d2, d3] }
  | _ => none }
def SequenceTurnsWrongFalsely : Prop := sequenceTurnsRow.holds Try.pinned (OpenSpec.ofChange sequenceTurnsWrong)

/-- 'rifflelaw13.SequenceNil': WHATEVER THE INPUT: true; the input reads as it did. -/
def sequenceNilSpec : ChangeSpec := { name := "sequenceNil", fn := fun _ => fun
  | [] => { results := [.lit (.bool true)], args := [] }
  | _ => none }
def sequenceNilRow : OpenClaim := { program := "ytgijkgngldfdiaa", sum := "c2f8e00089318bb7ad3f8d1fc2e6004e86a7552ca8d987f8e6d870cf2edce9e3", func := "riffle/rifflelaw13.SequenceNil", spec := "sequenceNil", inPlace := ["slices.overlaps[riffle/api.Event]", "maps.clone"], unfollowed := true, recurses := true, apart := false }
def SequenceNilSaid : Prop := sequenceNilRow.holds Try.pinned (OpenSpec.ofChange sequenceNilSpec)

/-- ITS FALSE NEIGHBOUR: 'it returns false'. Refute it at one input. -/
def sequenceNilWrong : ChangeSpec := { name := "sequenceNil", fn := fun _ => fun
  | [] => { results := [.lit (.bool false)], args := [] }
  | _ => none }
def SequenceNilWrongFalsely : Prop := sequenceNilRow.holds Try.pinned (OpenSpec.ofChange sequenceNilWrong)

/- THE SECOND FORM. 'bulk': how many values and letters a reading holds, each counted each time it is reached (what is shared counts as often as it is met; a slice's spare places count too). A statement '..UptoSaid' is the law's where the arguments, and the package variables that the reading takes, are together of bulk at most 1048576: NARROWER than '..Said'. Prove '..Said' where nothing that the law and all that it calls make is longer than what came in: it says more and counts as full. Else prove '..UptoSaid'. A law counts once. -/
mutual
def uptoBulk {H : Type} : DataW H → Nat
  | .lit (.string bytes) => bytes.length + 1
  | .lit _ => 1
  | .nil => 1
  | .ptr d => uptoBulk d + 1
  | .slice elems spare => uptoBulkAll elems + uptoBulkAll spare + 1
  | .agg parts => uptoBulkAll parts + 1
  | .iface _ d => uptoBulk d + 1
  | .map entries => uptoBulkEntries entries + 1
  | .held _ => 1
def uptoBulkAll {H : Type} : List (DataW H) → Nat
  | [] => 0
  | d :: r => uptoBulk d + uptoBulkAll r
def uptoBulkEntries {H : Type} : List (Lit × DataW H) → Nat
  | [] => 0
  | x :: r => uptoBulkEntry x + uptoBulkEntries r
def uptoBulkEntry {H : Type} : Lit × DataW H → Nat
  | (.string bytes, d) => bytes.length + uptoBulk d + 1
  | (_, d) => uptoBulk d + 1
 end
def uptoSmall : (H : Type) → List (DataW H) → Bool := fun _ ds => decide (uptoBulkAll ds ≤ 1048576)
def OpenSpec.upto (s : _root_.Go.ChangeSpec) : _root_.Go.OpenSpec := { _root_.Go.OpenSpec.ofChange s with cond := some uptoSmall }

/-- 'rifflelaw13.SequencePlays', WHERE WHAT IT READS IS OF BULK AT MOST 1048576: true; the input reads as it did. -/
def sequencePlaysUptoRow : OpenClaim := { program := "ytgijkgngldfdiaa", sum := "c2f8e00089318bb7ad3f8d1fc2e6004e86a7552ca8d987f8e6d870cf2edce9e3", func := "riffle/rifflelaw13.SequencePlays", spec := "sequencePlays", inPlace := ["slices.overlaps[riffle/api.Event]"], unfollowed := true, recurses := true, apart := false, narrowed := true }
def SequencePlaysUptoSaid : Prop := sequencePlaysUptoRow.holds Try.pinned (OpenSpec.upto sequencePlaysSpec)

/-- 'rifflelaw13.SequenceTurns', WHERE WHAT IT READS IS OF BULK AT MOST 1048576: true; the input reads as it did. -/
def sequenceTurnsUptoRow : OpenClaim := { program := "ytgijkgngldfdiaa", sum := "c2f8e00089318bb7ad3f8d1fc2e6004e86a7552ca8d987f8e6d870cf2edce9e3", func := "riffle/rifflelaw13.SequenceTurns", spec := "sequenceTurns", inPlace := ["slices.overlaps[riffle/api.Event]"], unfollowed := true, recurses := true, apart := false, narrowed := true }
def SequenceTurnsUptoSaid : Prop := sequenceTurnsUptoRow.holds Try.pinned (OpenSpec.upto sequenceTurnsSpec)

/-- 'rifflelaw13.SequenceNil', WHERE WHAT IT READS IS OF BULK AT MOST 1048576: true; the input reads as it did. -/
def sequenceNilUptoRow : OpenClaim := { program := "ytgijkgngldfdiaa", sum := "c2f8e00089318bb7ad3f8d1fc2e6004e86a7552ca8d987f8e6d870cf2edce9e3", func := "riffle/rifflelaw13.SequenceNil", spec := "sequenceNil", inPlace := ["slices.overlaps[riffle/api.Event]", "maps.clone"], unfollowed := true, recurses := true, apart := false, narrowed := true }
def SequenceNilUptoSaid : Prop := sequenceNilUptoRow.holds Try.pinned (OpenSpec.upto sequenceNilSpec)

end Rows
end Go.Proofs.Ytgijkgngldfdiaa
