/-
  No cell of these rows narrows 'for every input' (looked for: loops, veiled, ifaces, maps, wideKeys, modest, calm, conditions, laid).
  DERIVED. THE GIVEN ROWS OF THIS SEAT. 6 by the template 'for every input the law returns true; each argument reads behind the call as it read before'; 0 by the template 'total and deterministic' (their statements: YtknodagcmachiaaTotals.lean).
  GIVEN WITH THE SEED: the statements are not yours to turn. If you find one false, say at which input.
  Laid BY PROGRAM, IN A SANDBOX (cutbox-rows.mjs): the forced cells as the released guide's own fill.sh prints them over the translation 20ec56d5256000e6… (all of the seat's roots in one cut). By AI agents, Wed Nov 11 2026. No macro, syntax, notation, axiom, sorry.
-/
import Derived.Test.YtknodagcmachiaaChecked
import GoSem.Claim
import GoSem.ClaimJoined
import GoSem.ClaimMapViews
import Derived.JoinedTies
import Derived.KernelRfl
namespace Go.Proofs.Ytknodagcmachiaa
/- THE CELL 'sum', in the pinned program and in every row, IS THE sha256 OF THE DUMP (.gsa) THAT YtknodagcmachiaaProg.lean LOADS. Nothing in Lean hashes anything: it is a label: what it is worth is what the hold of that sum in a sandbox is worth. -/
noncomputable def Try.pinned : Pinned := { name := "ytknodagcmachiaa", sum := "20ec56d5256000e6505b34ef51b116ccd340cb56dc74f2f3c579cced313e5de8", checked := Try.checked }
namespace Rows
def none {H : Type} : Left H := { results := [], args := [] }

/-- 'helmsmanlaw08.ContextWindow': WHATEVER THE INPUT: true; the input reads as it did. -/
def contextWindowSpec : ChangeSpec := { name := "contextWindow", fn := fun _ => fun
  | [d1, d2, d3, d4] => { results := [.lit (.bool true)], args := [d1, d2, d3, d4] }
  | _ => none }
def contextWindowRow : OpenClaim := { program := "ytknodagcmachiaa", sum := "20ec56d5256000e6505b34ef51b116ccd340cb56dc74f2f3c579cced313e5de8", func := "helmsman/helmsmanlaw08.ContextWindow", spec := "contextWindow", inPlace := ["math/bits.Add64"], unfollowed := true, recurses := true, apart := false }
def ContextWindowSaid : Prop := contextWindowRow.holds Try.pinned (OpenSpec.ofChange contextWindowSpec)

/-- ITS FALSE NEIGHBOUR: 'it returns false'. Refute it at one input. -/
def contextWindowWrong : ChangeSpec := { name := "contextWindow", fn := fun _ => fun
  | [d1, d2, d3, d4] => { results := [.lit (.bool false)], args := [d1, d2, d3, d4] }
  | _ => none }
def ContextWindowWrongFalsely : Prop := contextWindowRow.holds Try.pinned (OpenSpec.ofChange contextWindowWrong)

/-- 'helmsmanlaw08.ContextSums': WHATEVER THE INPUT: true; the input reads as it did. -/
def contextSumsSpec : ChangeSpec := { name := "contextSums", fn := fun _ => fun
  | [d1, d2, d3] => { results := [.lit (.bool true)], args := [d1, d2, d3] }
  | _ => none }
def contextSumsRow : OpenClaim := { program := "ytknodagcmachiaa", sum := "20ec56d5256000e6505b34ef51b116ccd340cb56dc74f2f3c579cced313e5de8", func := "helmsman/helmsmanlaw08.ContextSums", spec := "contextSums", inPlace := ["math/bits.Add64"], unfollowed := true, recurses := true, apart := false }
def ContextSumsSaid : Prop := contextSumsRow.holds Try.pinned (OpenSpec.ofChange contextSumsSpec)

/-- ITS FALSE NEIGHBOUR: 'it returns false'. Refute it at one input. -/
def contextSumsWrong : ChangeSpec := { name := "contextSums", fn := fun _ => fun
  | [d1, d2, d3] => { results := [.lit (.bool false)], args := [d1, d2, d3] }
  | _ => none }
def ContextSumsWrongFalsely : Prop := contextSumsRow.holds Try.pinned (OpenSpec.ofChange contextSumsWrong)

/-- 'helmsmanlaw08.ContextAll': WHATEVER THE INPUT: true; the input reads as it did. -/
def contextAllSpec : ChangeSpec := { name := "contextAll", fn := fun _ => fun
  | [d1, d2, d3] => { results := [.lit (.bool true)], args := [d1, d2, d3] }
  | _ => none }
def contextAllRow : OpenClaim := { program := "ytknodagcmachiaa", sum := "20ec56d5256000e6505b34ef51b116ccd340cb56dc74f2f3c579cced313e5de8", func := "helmsman/helmsmanlaw08.ContextAll", spec := "contextAll", inPlace := ["math/bits.Add64"], unfollowed := true, recurses := true, apart := false }
def ContextAllSaid : Prop := contextAllRow.holds Try.pinned (OpenSpec.ofChange contextAllSpec)

/-- ITS FALSE NEIGHBOUR: 'it returns false'. Refute it at one input. -/
def contextAllWrong : ChangeSpec := { name := "contextAll", fn := fun _ => fun
  | [d1, d2, d3] => { results := [.lit (.bool false)], args := [d1, d2, d3] }
  | _ => none }
def ContextAllWrongFalsely : Prop := contextAllRow.holds Try.pinned (OpenSpec.ofChange contextAllWrong)

/-- 'helmsmanlaw08.ContextPlays': WHATEVER THE INPUT: true; the input reads as it did. -/
def contextPlaysSpec : ChangeSpec := { name := "contextPlays", fn := fun _ => fun
  | [d1, d2, d3] => { results := [.lit (.bool true)], args := [d1, d2, d3] }
  | _ => none }
def contextPlaysRow : OpenClaim := { program := "ytknodagcmachiaa", sum := "20ec56d5256000e6505b34ef51b116ccd340cb56dc74f2f3c579cced313e5de8", func := "helmsman/helmsmanlaw08.ContextPlays", spec := "contextPlays", inPlace := ["math/bits.Add64"], unfollowed := true, recurses := true, apart := false }
def ContextPlaysSaid : Prop := contextPlaysRow.holds Try.pinned (OpenSpec.ofChange contextPlaysSpec)

/-- ITS FALSE NEIGHBOUR: 'it returns false'. Refute it at one input. -/
def contextPlaysWrong : ChangeSpec := { name := "contextPlays", fn := fun _ => fun
  | [d1, d2, d3] => { results := [.lit (.bool false)], args := [d1, d2, d3] }
  | _ => none }
def ContextPlaysWrongFalsely : Prop := contextPlaysRow.holds Try.pinned (OpenSpec.ofChange contextPlaysWrong)

/-- 'helmsmanlaw08.ContextCopies': WHATEVER THE INPUT: true; the input reads as it did. -/
def contextCopiesSpec : ChangeSpec := { name := "contextCopies", fn := fun _ => fun
  | [d1, d2, d3, d4, d5] => { results := [.lit (.bool true)], args := [d1, d2, d3, d4, d5] }
  | _ => none }
def contextCopiesRow : OpenClaim := { program := "ytknodagcmachiaa", sum := "20ec56d5256000e6505b34ef51b116ccd340cb56dc74f2f3c579cced313e5de8", func := "helmsman/helmsmanlaw08.ContextCopies", spec := "contextCopies", inPlace := ["math/bits.Add64"], unfollowed := true, recurses := true, apart := false }
def ContextCopiesSaid : Prop := contextCopiesRow.holds Try.pinned (OpenSpec.ofChange contextCopiesSpec)

/-- ITS FALSE NEIGHBOUR: 'it returns false'. Refute it at one input. -/
def contextCopiesWrong : ChangeSpec := { name := "contextCopies", fn := fun _ => fun
  | [d1, d2, d3, d4, d5] => { results := [.lit (.bool false)], args := [d1, d2, d3, d4, d5] }
  | _ => none }
def ContextCopiesWrongFalsely : Prop := contextCopiesRow.holds Try.pinned (OpenSpec.ofChange contextCopiesWrong)

/-- 'helmsmanlaw08.ContextNil': WHATEVER THE INPUT: true; the input reads as it did. -/
def contextNilSpec : ChangeSpec := { name := "contextNil", fn := fun _ => fun
  | [] => { results := [.lit (.bool true)], args := [] }
  | _ => none }
def contextNilRow : OpenClaim := { program := "ytknodagcmachiaa", sum := "20ec56d5256000e6505b34ef51b116ccd340cb56dc74f2f3c579cced313e5de8", func := "helmsman/helmsmanlaw08.ContextNil", spec := "contextNil", inPlace := ["math/bits.Add64"], unfollowed := true, recurses := true, apart := false }
def ContextNilSaid : Prop := contextNilRow.holds Try.pinned (OpenSpec.ofChange contextNilSpec)

/-- ITS FALSE NEIGHBOUR: 'it returns false'. Refute it at one input. -/
def contextNilWrong : ChangeSpec := { name := "contextNil", fn := fun _ => fun
  | [] => { results := [.lit (.bool false)], args := [] }
  | _ => none }
def ContextNilWrongFalsely : Prop := contextNilRow.holds Try.pinned (OpenSpec.ofChange contextNilWrong)

/- THE SECOND FORM. 'bulk': how many values and letters a reading holds, each counted each time it is reached (what is shared counts as often as it is met; a slice's spare places count too). A statement '..UptoSaid' is the law's where the arguments, and the package variables that the reading takes, are together of bulk at most 1048576: NARROWER than '..Said'. Prove '..Said' where nothing that the law and all that it calls make is longer than what came in: it says more and counts as full. Else prove '..UptoSaid'. A law counts once. -/
mutual
def uptoBulk {H : Type} : DataW H → Nat
  | .lit (.string bytes) => bytes.length + 1
  | .lit _ => 1
  | .nil => 1
  | .ptr d => uptoBulk d + 1
  | .slice elems spare => uptoBulkAll elems + uptoBulkAll spare + 1
  | .agg parts => uptoBulkAll parts + 1
  | .iface _ d => uptoBulk d + 1
  | .map entries => uptoBulkEntries entries + 1
  | .held _ => 1
def uptoBulkAll {H : Type} : List (DataW H) → Nat
  | [] => 0
  | d :: r => uptoBulk d + uptoBulkAll r
def uptoBulkEntries {H : Type} : List (Lit × DataW H) → Nat
  | [] => 0
  | x :: r => uptoBulkEntry x + uptoBulkEntries r
def uptoBulkEntry {H : Type} : Lit × DataW H → Nat
  | (.string bytes, d) => bytes.length + uptoBulk d + 1
  | (_, d) => uptoBulk d + 1
 end
def uptoSmall : (H : Type) → List (DataW H) → Bool := fun _ ds => decide (uptoBulkAll ds ≤ 1048576)
def OpenSpec.upto (s : _root_.Go.ChangeSpec) : _root_.Go.OpenSpec := { _root_.Go.OpenSpec.ofChange s with cond := some uptoSmall }

/-- 'helmsmanlaw08.ContextWindow', WHERE WHAT IT READS IS OF BULK AT MOST 1048576: true; the input reads as it did. -/
def contextWindowUptoRow : OpenClaim := { program := "ytknodagcmachiaa", sum := "20ec56d5256000e6505b34ef51b116ccd340cb56dc74f2f3c579cced313e5de8", func := "helmsman/helmsmanlaw08.ContextWindow", spec := "contextWindow", inPlace := ["math/bits.Add64"], unfollowed := true, recurses := true, apart := false, narrowed := true }
def ContextWindowUptoSaid : Prop := contextWindowUptoRow.holds Try.pinned (OpenSpec.upto contextWindowSpec)

/-- 'helmsmanlaw08.ContextSums', WHERE WHAT IT READS IS OF BULK AT MOST 1048576: true; the input reads as it did. -/
def contextSumsUptoRow : OpenClaim := { program := "ytknodagcmachiaa", sum := "20ec56d5256000e6505b34ef51b116ccd340cb56dc74f2f3c579cced313e5de8", func := "helmsman/helmsmanlaw08.ContextSums", spec := "contextSums", inPlace := ["math/bits.Add64"], unfollowed := true, recurses := true, apart := false, narrowed := true }
def ContextSumsUptoSaid : Prop := contextSumsUptoRow.holds Try.pinned (OpenSpec.upto contextSumsSpec)

/-- 'helmsmanlaw08.ContextAll', WHERE WHAT IT READS IS OF BULK AT MOST 1048576: true; the input reads as it did. -/
def contextAllUptoRow : OpenClaim := { program := "ytknodagcmachiaa", sum := "20ec56d5256000e6505b34ef51b116ccd340cb56dc74f2f3c579cced313e5de8", func := "helmsman/helmsmanlaw08.ContextAll", spec := "contextAll", inPlace := ["math/bits.Add64"], unfollowed := true, recurses := true, apart := false, narrowed := true }
def ContextAllUptoSaid : Prop := contextAllUptoRow.holds Try.pinned (OpenSpec.upto contextAllSpec)

/-- 'helmsmanlaw08.ContextPlays', WHERE WHAT IT READS IS OF BULK AT MOST 1048576: true; the input reads as it did. -/
def contextPlaysUptoRow : OpenClaim := { program := "ytknodagcmachiaa", sum := "20ec56d5256000e6505b34ef51b116ccd340cb56dc74f2f3c579cced313e5de8", func := "helmsman/helmsmanlaw08.ContextPlays", spec := "contextPlays", inPlace := ["math/bits.Add64"], unfollowed := true, recurses := true, apart := false, narrowed := true }
def ContextPlaysUptoSaid : Prop := contextPlaysUptoRow.holds Try.pinned (OpenSpec.upto contextPlaysSpec)

/-- 'helmsmanlaw08.ContextCopies', WHERE WHAT IT READS IS OF BULK AT MOST 1048576: true; the input reads as it did. -/
def contextCopiesUptoRow : OpenClaim := { program := "ytknodagcmachiaa", sum := "20ec56d5256000e6505b34ef51b116ccd340cb56dc74f2f3c579cced313e5de8", func := "helmsman/helmsmanlaw08.ContextCopies", spec := "contextCopies", inPlace := ["math/bits.Add64"], unfollowed := true, recurses := true, apart := false, narrowed := true }
def ContextCopiesUptoSaid : Prop := contextCopiesUptoRow.holds Try.pinned (OpenSpec.upto contextCopiesSpec)

/-- 'helmsmanlaw08.ContextNil', WHERE WHAT IT READS IS OF BULK AT MOST 1048576: true; the input reads as it did. -/
def contextNilUptoRow : OpenClaim := { program := "ytknodagcmachiaa", sum := "20ec56d5256000e6505b34ef51b116ccd340cb56dc74f2f3c579cced313e5de8", func := "helmsman/helmsmanlaw08.ContextNil", spec := "contextNil", inPlace := ["math/bits.Add64"], unfollowed := true, recurses := true, apart := false, narrowed := true }
def ContextNilUptoSaid : Prop := contextNilUptoRow.holds Try.pinned (OpenSpec.upto contextNilSpec)

end Rows
end Go.Proofs.Ytknodagcmachiaa
