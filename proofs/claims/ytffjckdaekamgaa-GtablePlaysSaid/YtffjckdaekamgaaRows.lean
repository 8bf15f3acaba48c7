/-
  No cell of these rows narrows 'for every input' (looked for: loops, veiled, ifaces, maps, wideKeys, modest, calm, conditions, laid).
  DERIVED. THE GIVEN ROWS OF THIS SEAT. 3 by the template 'for every input the law returns true; each argument reads behind the call as it read before'; 0 by the template 'total and deterministic' (their statements: YtffjckdaekamgaaTotals.lean).
  GIVEN WITH THE SEED: the statements are not yours to turn. If you find one false, say at which input.
  Laid BY PROGRAM, IN A SANDBOX (cutbox-rows.mjs): the forced cells as the released guide's own fill.sh prints them over the translation 1e6cddaab066beb8… (all of the seat's roots in one cut). By AI agents, Wed Nov 11 2026. No macro, syntax, notation, axiom, sorry.
-/
import Derived.Test.YtffjckdaekamgaaChecked
import GoSem.Claim
import GoSem.ClaimJoined
import GoSem.ClaimMapViews
import Derived.JoinedTies
import Derived.KernelRfl
namespace Go.Proofs.Ytffjckdaekamgaa
/- THE CELL 'sum', in the pinned program and in every row, IS THE sha256 OF THE DUMP (.gsa) THAT YtffjckdaekamgaaProg.lean LOADS. Nothing in Lean hashes anything: it is a label: what it is worth is what the hold of that sum in a sandbox is worth. -/
noncomputable def Try.pinned : Pinned := { name := "ytffjckdaekamgaa", sum := "1e6cddaab066beb858caa67321b12d9337ea7ecccef6b8b25cde5d18609e5b66", checked := Try.checked }
namespace Rows
def none {H : Type} : Left H := { results := [], args := [] }

/-- 'helmsmanlaw16.GtableMay': WHATEVER THE INPUT: true; the input reads as it did. -/
def gtableMaySpec : ChangeSpec := { name := "gtableMay", fn := fun _ => fun
  | [d1, d2, d3] => { results := [.lit (.bool true)], args := [d1, d2, d3] }
  | _ => none }
def gtableMayRow : OpenClaim := { program := "ytffjckdaekamgaa", sum := "1e6cddaab066beb858caa67321b12d9337ea7ecccef6b8b25cde5d18609e5b66", func := "helmsman/helmsmanlaw16.GtableMay", spec := "gtableMay", apart := false }
def GtableMaySaid : Prop := gtableMayRow.holds Try.pinned (OpenSpec.ofChange gtableMaySpec)

/-- ITS FALSE NEIGHBOUR: 'it returns false'. Refute it at one input. -/
def gtableMayWrong : ChangeSpec := { name := "gtableMay", fn := fun _ => fun
  | [d1, d2, d3] => { results := [.lit (.bool false)], args := [d1, d2, d3] }
  | _ => none }
def GtableMayWrongFalsely : Prop := gtableMayRow.holds Try.pinned (OpenSpec.ofChange gtableMayWrong)

/-- 'helmsmanlaw16.GtableFine': WHATEVER THE INPUT: true; the input reads as it did. -/
def gtableFineSpec : ChangeSpec := { name := "gtableFine", fn := fun _ => fun
  | [d1, d2] => { results := [.lit (.bool true)], args := [d1, d2] }
  | _ => none }
def gtableFineRow : OpenClaim := { program := "ytffjckdaekamgaa", sum := "1e6cddaab066beb858caa67321b12d9337ea7ecccef6b8b25cde5d18609e5b66", func := "helmsman/helmsmanlaw16.GtableFine", spec := "gtableFine", unfollowed := true, recurses := true, apart := false }
def GtableFineSaid : Prop := gtableFineRow.holds Try.pinned (OpenSpec.ofChange gtableFineSpec)

/-- ITS FALSE NEIGHBOUR: 'it returns false'. Refute it at one input. -/
def gtableFineWrong : ChangeSpec := { name := "gtableFine", fn := fun _ => fun
  | [d1, d2] => { results := [.lit (.bool false)], args := [d1, d2] }
  | _ => none }
def GtableFineWrongFalsely : Prop := gtableFineRow.holds Try.pinned (OpenSpec.ofChange gtableFineWrong)

/-- 'helmsmanlaw16.GtablePlays': WHATEVER THE INPUT: true; the input reads as it did. -/
def gtablePlaysSpec : ChangeSpec := { name := "gtablePlays", fn := fun _ => fun
  | [d1, d2] => { results := [.lit (.bool true)], args := [d1, d2] }
  | _ => none }
def gtablePlaysRow : OpenClaim := { program := "ytffjckdaekamgaa", sum := "1e6cddaab066beb858caa67321b12d9337ea7ecccef6b8b25cde5d18609e5b66", func := "helmsman/helmsmanlaw16.GtablePlays", spec := "gtablePlays", unfollowed := true, recurses := true, apart := false }
def GtablePlaysSaid : Prop := gtablePlaysRow.holds Try.pinned (OpenSpec.ofChange gtablePlaysSpec)

/-- ITS FALSE NEIGHBOUR: 'it returns false'. Refute it at one input. -/
def gtablePlaysWrong : ChangeSpec := { name := "gtablePlays", fn := fun _ => fun
  | [d1, d2] => { results := [.lit (.bool false)], args := [d1, d2] }
  | _ => none }
def GtablePlaysWrongFalsely : Prop := gtablePlaysRow.holds Try.pinned (OpenSpec.ofChange gtablePlaysWrong)

/- THE SECOND FORM. 'bulk': how many values and letters a reading holds, each counted each time it is reached (what is shared counts as often as it is met; a slice's spare places count too). A statement '..UptoSaid' is the law's where the arguments, and the package variables that the reading takes, are together of bulk at most 1048576: NARROWER than '..Said'. Prove '..Said' where nothing that the law and all that it calls make is longer than what came in: it says more and counts as full. Else prove '..UptoSaid'. A law counts once. -/
mutual
def uptoBulk {H : Type} : DataW H → Nat
  | .lit (.string bytes) => bytes.length + 1
  | .lit _ => 1
  | .nil => 1
  | .ptr d => uptoBulk d + 1
  | .slice elems spare => uptoBulkAll elems + uptoBulkAll spare + 1
  | .agg parts => uptoBulkAll parts + 1
  | .iface _ d => uptoBulk d + 1
  | .map entries => uptoBulkEntries entries + 1
  | .held _ => 1
def uptoBulkAll {H : Type} : List (DataW H) → Nat
  | [] => 0
  | d :: r => uptoBulk d + uptoBulkAll r
def uptoBulkEntries {H : Type} : List (Lit × DataW H) → Nat
  | [] => 0
  | x :: r => uptoBulkEntry x + uptoBulkEntries r
def uptoBulkEntry {H : Type} : Lit × DataW H → Nat
  | (.string bytes, d) => bytes.length + uptoBulk d + 1
  | (_, d) => uptoBulk d + 1
 end
def uptoSmall : (H : Type) → List (DataW H) → Bool := fun _ ds => decide (uptoBulkAll ds ≤ 1048576)
def OpenSpec.upto (s : _root_.Go.ChangeSpec) : _root_.Go.OpenSpec := { _root_.Go.OpenSpec.ofChange s with cond := some uptoSmall }

/-- 'helmsmanlaw16.GtableMay', WHERE WHAT IT READS IS OF BULK AT MOST 1048576: true; the input reads as it did. -/
def gtableMayUptoRow : OpenClaim := { program := "ytffjckdaekamgaa", sum := "1e6cddaab066beb858caa67321b12d9337ea7ecccef6b8b25cde5d18609e5b66", func := "helmsman/helmsmanlaw16.GtableMay", spec := "gtableMay", apart := false, narrowed := true }
def GtableMayUptoSaid : Prop := gtableMayUptoRow.holds Try.pinned (OpenSpec.upto gtableMaySpec)

/-- 'helmsmanlaw16.GtableFine', WHERE WHAT IT READS IS OF BULK AT MOST 1048576: true; the input reads as it did. -/
def gtableFineUptoRow : OpenClaim := { program := "ytffjckdaekamgaa", sum := "1e6cddaab066beb858caa67321b12d9337ea7ecccef6b8b25cde5d18609e5b66", func := "helmsman/helmsmanlaw16.GtableFine", spec := "gtableFine", unfollowed := true, recurses := true, apart := false, narrowed := true }
def GtableFineUptoSaid : Prop := gtableFineUptoRow.holds Try.pinned (OpenSpec.upto gtableFineSpec)

/-- 'helmsmanlaw16.GtablePlays', WHERE WHAT IT READS IS OF BULK AT MOST 1048576: true; the input reads as it did. -/
def gtablePlaysUptoRow : OpenClaim := { program := "ytffjckdaekamgaa", sum := "1e6cddaab066beb858caa67321b12d9337ea7ecccef6b8b25cde5d18609e5b66", func := "helmsman/helmsmanlaw16.GtablePlays", spec := "gtablePlays", unfollowed := true, recurses := true, apart := false, narrowed := true }
def GtablePlaysUptoSaid : Prop := gtablePlaysUptoRow.holds Try.pinned (OpenSpec.upto gtablePlaysSpec)

end Rows
end Go.Proofs.Ytffjckdaekamgaa
