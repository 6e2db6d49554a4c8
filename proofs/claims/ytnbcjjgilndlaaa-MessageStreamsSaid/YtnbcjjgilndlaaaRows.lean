/-
  No cell of these rows narrows 'for every input' (looked for: loops, veiled, ifaces, maps, wideKeys, modest, calm, conditions, laid).
  DERIVED. THE GIVEN ROWS OF THIS SEAT. 5 by the template 'for every input the law returns true; each argument reads behind the call as it read before'; 0 by the template 'total and deterministic' (their statements: YtnbcjjgilndlaaaTotals.lean).
  GIVEN WITH THE SEED: the statements are not yours to turn. If you find one false, say at which input.
  Laid BY PROGRAM, IN A SANDBOX (cutbox-rows.mjs): the forced cells as the released guide's own fill.sh prints them over the translation 392d7f555b6718a5… (all of the seat's roots in one cut). By AI agents, Wed Nov 11 2026. No macro, syntax, notation, axiom, sorry.
-/
import Derived.Test.YtnbcjjgilndlaaaChecked
import GoSem.Claim
import GoSem.ClaimJoined
import GoSem.ClaimMapViews
import Derived.JoinedTies
import Derived.KernelRfl
namespace Go.Proofs.Ytnbcjjgilndlaaa
/- THE CELL 'sum', in the pinned program and in every row, IS THE sha256 OF THE DUMP (.gsa) THAT YtnbcjjgilndlaaaProg.lean LOADS. Nothing in Lean hashes anything: it is a label: what it is worth is what the hold of that sum in a sandbox is worth. -/
noncomputable def Try.pinned : Pinned := { name := "ytnbcjjgilndlaaa", sum := "392d7f555b6718a50c42c0b84f04c3c2dbdf3bcbe7d4d45b06dc898a6a0c3903", checked := Try.checked }
namespace Rows
def none {H : Type} : Left H := { results := [], args := [] }

/-- 'rifflelaw07.MessageReads': WHATEVER THE INPUT: true; the input reads as it did. -/
def messageReadsSpec : ChangeSpec := { name := "messageReads", fn := fun _ => fun
  | [d] => { results := [.lit (.bool true)], args := [d] }
  | _ => none }
def messageReadsRow : OpenClaim := { program := "ytnbcjjgilndlaaa", sum := "392d7f555b6718a50c42c0b84f04c3c2dbdf3bcbe7d4d45b06dc898a6a0c3903", func := "riffle/rifflelaw07.MessageReads", spec := "messageReads", unfollowed := true, recurses := true, apart := false }
def MessageReadsSaid : Prop := messageReadsRow.holds Try.pinned (OpenSpec.ofChange messageReadsSpec)

/-- ITS FALSE NEIGHBOUR: 'it returns false'. Refute it at one input. -/
def messageReadsWrong : ChangeSpec := { name := "messageReads", fn := fun _ => fun
  | [d] => { results := [.lit (.bool false)], args := [d] }
  | _ => none }
def MessageReadsWrongFalsely : Prop := messageReadsRow.holds Try.pinned (OpenSpec.ofChange messageReadsWrong)

/-- 'rifflelaw07.MessageSame': WHATEVER THE INPUT: true; the input reads as it did. -/
def messageSameSpec : ChangeSpec := { name := "messageSame", fn := fun _ => fun
  | [d1, d2, d3, d4] => { results := [.lit (.bool true)], args := [d1, d2, d3, d4] }
  | _ => none }
def messageSameRow : OpenClaim := { program := "ytnbcjjgilndlaaa", sum := "392d7f555b6718a50c42c0b84f04c3c2dbdf3bcbe7d4d45b06dc898a6a0c3903", func := "riffle/rifflelaw07.MessageSame", spec := "messageSame", unfollowed := true, recurses := true, apart := false }
def MessageSameSaid : Prop := messageSameRow.holds Try.pinned (OpenSpec.ofChange messageSameSpec)

/-- ITS FALSE NEIGHBOUR: 'it returns false'. Refute it at one input. -/
def messageSameWrong : ChangeSpec := { name := "messageSame", fn := fun _ => fun
  | [d1, d2, d3, d4] => { results := [.lit (.bool false)], args := [d1, d2, d3, d4] }
  | _ => none }
def MessageSameWrongFalsely : Prop := messageSameRow.holds Try.pinned (OpenSpec.ofChange messageSameWrong)

/-- 'rifflelaw07.MessageAsks': WHATEVER THE INPUT: true; the input reads as it did. -/
def messageAsksSpec : ChangeSpec := { name := "messageAsks", fn := fun _ => fun
  | [d] => { results := [.lit (.bool true)], args := [d] }
  | _ => none }
def messageAsksRow : OpenClaim := { program := "ytnbcjjgilndlaaa", sum := "392d7f555b6718a50c42c0b84f04c3c2dbdf3bcbe7d4d45b06dc898a6a0c3903", func := "riffle/rifflelaw07.MessageAsks", spec := "messageAsks", unfollowed := true, recurses := true, apart := false }
def MessageAsksSaid : Prop := messageAsksRow.holds Try.pinned (OpenSpec.ofChange messageAsksSpec)

/-- ITS FALSE NEIGHBOUR: 'it returns false'. Refute it at one input. -/
def messageAsksWrong : ChangeSpec := { name := "messageAsks", fn := fun _ => fun
  | [d] => { results := [.lit (.bool false)], args := [d] }
  | _ => none }
def MessageAsksWrongFalsely : Prop := messageAsksRow.holds Try.pinned (OpenSpec.ofChange messageAsksWrong)

/-- 'rifflelaw07.MessageTells': WHATEVER THE INPUT: true; the input reads as it did. -/
def messageTellsSpec : ChangeSpec := { name := "messageTells", fn := fun _ => fun
  | [d] => { results := [.lit (.bool true)], args := [d] }
  | _ => none }
def messageTellsRow : OpenClaim := { program := "ytnbcjjgilndlaaa", sum := "392d7f555b6718a50c42c0b84f04c3c2dbdf3bcbe7d4d45b06dc898a6a0c3903", func := "riffle/rifflelaw07.MessageTells", spec := "messageTells", unfollowed := true, recurses := true, apart := false }
def MessageTellsSaid : Prop := messageTellsRow.holds Try.pinned (OpenSpec.ofChange messageTellsSpec)

/-- ITS FALSE NEIGHBOUR: 'it returns false'. Refute it at one input. -/
def messageTellsWrong : ChangeSpec := { name := "messageTells", fn := fun _ => fun
  | [d] => { results := [.lit (.bool false)], args := [d] }
  | _ => none }
def MessageTellsWrongFalsely : Prop := messageTellsRow.holds Try.pinned (OpenSpec.ofChange messageTellsWrong)

/-- 'rifflelaw07.MessageStreams': WHATEVER THE INPUT: true; the input reads as it did. -/
def messageStreamsSpec : ChangeSpec := { name := "messageStreams", fn := fun _ => fun
  | [d1, d2] => { results := [.lit (.bool true)], args := [d1, d2] }
  | _ => none }
def messageStreamsRow : OpenClaim := { program := "ytnbcjjgilndlaaa", sum := "392d7f555b6718a50c42c0b84f04c3c2dbdf3bcbe7d4d45b06dc898a6a0c3903", func := "riffle/rifflelaw07.MessageStreams", spec := "messageStreams", unfollowed := true, recurses := true, apart := false }
def MessageStreamsSaid : Prop := messageStreamsRow.holds Try.pinned (OpenSpec.ofChange messageStreamsSpec)

/-- ITS FALSE NEIGHBOUR: 'it returns false'. Refute it at one input. -/
def messageStreamsWrong : ChangeSpec := { name := "messageStreams", fn := fun _ => fun
  | [d1, d2] => { results := [.lit (.bool false)], args := [d1, d2] }
  | _ => none }
def MessageStreamsWrongFalsely : Prop := messageStreamsRow.holds Try.pinned (OpenSpec.ofChange messageStreamsWrong)

/- THE SECOND FORM. 'bulk': how many values and letters a reading holds, each counted each time it is reached (what is shared counts as often as it is met; a slice's spare places count too). A statement '..UptoSaid' is the law's where the arguments, and the package variables that the reading takes, are together of bulk at most 1048576: NARROWER than '..Said'. Prove '..Said' where nothing that the law and all that it calls make is longer than what came in: it says more and counts as full. Else prove '..UptoSaid'. A law counts once. -/
mutual
def uptoBulk {H : Type} : DataW H → Nat
  | .lit (.string bytes) => bytes.length + 1
  | .lit _ => 1
  | .nil => 1
  | .ptr d => uptoBulk d + 1
  | .slice elems spare => uptoBulkAll elems + uptoBulkAll spare + 1
  | .agg parts => uptoBulkAll parts + 1
  | .iface _ d => uptoBulk d + 1
  | .map entries => uptoBulkEntries entries + 1
  | .held _ => 1
def uptoBulkAll {H : Type} : List (DataW H) → Nat
  | [] => 0
  | d :: r => uptoBulk d + uptoBulkAll r
def uptoBulkEntries {H : Type} : List (Lit × DataW H) → Nat
  | [] => 0
  | x :: r => uptoBulkEntry x + uptoBulkEntries r
def uptoBulkEntry {H : Type} : Lit × DataW H → Nat
  | (.string bytes, d) => bytes.length + uptoBulk d + 1
  | (_, d) => uptoBulk d + 1
 end
def uptoSmall : (H : Type) → List (DataW H) → Bool := fun _ ds => decide (uptoBulkAll ds ≤ 1048576)
def OpenSpec.upto (s : _root_.Go.ChangeSpec) : _root_.Go.OpenSpec := { _root_.Go.OpenSpec.ofChange s with cond := some uptoSmall }

/-- 'rifflelaw07.MessageReads', WHERE WHAT IT READS IS OF BULK AT MOST 1048576: true; the input reads as it did. -/
def messageReadsUptoRow : OpenClaim := { program := "ytnbcjjgilndlaaa", sum := "392d7f555b6718a50c42c0b84f04c3c2dbdf3bcbe7d4d45b06dc898a6a0c3903", func := "riffle/rifflelaw07.MessageReads", spec := "messageReads", unfollowed := true, recurses := true, apart := false, narrowed := true }
def MessageReadsUptoSaid : Prop := messageReadsUptoRow.holds Try.pinned (OpenSpec.upto messageReadsSpec)

/-- 'rifflelaw07.MessageSame', WHERE WHAT IT READS IS OF BULK AT MOST 1048576: true; the input reads as it did. -/
def messageSameUptoRow : OpenClaim := { program := "ytnbcjjgilndlaaa", sum := "392d7f555b6718a50c42c0b84f04c3c2dbdf3bcbe7d4d45b06dc898a6a0c3903", func := "riffle/rifflelaw07.MessageSame", spec := "messageSame", unfollowed := true, recurses := true, apart := false, narrowed := true }
def MessageSameUptoSaid : Prop := messageSameUptoRow.holds Try.pinned (OpenSpec.upto messageSameSpec)

/-- 'rifflelaw07.MessageAsks', WHERE WHAT IT READS IS OF BULK AT MOST 1048576: true; the input reads as it did. -/
def messageAsksUptoRow : OpenClaim := { program := "ytnbcjjgilndlaaa", sum := "392d7f555b6718a50c42c0b84f04c3c2dbdf3bcbe7d4d45b06dc898a6a0c3903", func := "riffle/rifflelaw07.MessageAsks", spec := "messageAsks", unfollowed := true, recurses := true, apart := false, narrowed := true }
def MessageAsksUptoSaid : Prop := messageAsksUptoRow.holds Try.pinned (OpenSpec.upto messageAsksSpec)

/-- 'rifflelaw07.MessageTells', WHERE WHAT IT READS IS OF BULK AT MOST 1048576: true; the input reads as it did. -/
def messageTellsUptoRow : OpenClaim := { program := "ytnbcjjgilndlaaa", sum := "392d7f555b6718a50c42c0b84f04c3c2dbdf3bcbe7d4d45b06dc898a6a0c3903", func := "riffle/rifflelaw07.MessageTells", spec := "messageTells", unfollowed := true, recurses := true, apart := false, narrowed := true }
def MessageTellsUptoSaid : Prop := messageTellsUptoRow.holds Try.pinned (OpenSpec.upto messageTellsSpec)

/-- 'rifflelaw07.MessageStreams', WHERE WHAT IT READS IS OF BULK AT MOST 1048576: true; the input reads as it did. -/
def messageStreamsUptoRow : OpenClaim := { program := "ytnbcjjgilndlaaa", sum := "392d7f555b6718a50c42c0b84f04c3c2dbdf3bcbe7d4d45b06dc898a6a0c3903", func := "riffle/rifflelaw07.MessageStreams", spec := "messageStreams", unfollowed := true, recurses := true, apart := false, narrowed := true }
def MessageStreamsUptoSaid : Prop := messageStreamsUptoRow.holds Try.pinned (OpenSpec.upto messageStreamsSpec)

end Rows
end Go.Proofs.Ytnbcjjgilndlaaa
