/-
  No cell of these rows narrows 'for every input' (looked for: loops, veiled, ifaces, maps, wideKeys, modest, calm, conditions, laid).
  DERIVED. THE GIVEN ROWS OF THIS SEAT. 5 by the template 'for every input the law returns true; each argument reads behind the call as it read before'; 0 by the template 'total and deterministic' (their statements: YtpkondemkpogoaaTotals.lean).
  GIVEN WITH THE SEED: the statements are not yours to turn. If you find one false, say at which input.
  Laid BY PROGRAM, IN A SANDBOX (cutbox-rows.mjs): the forced cells as the released guide's own fill.sh prints them over the translation 0b50dcc2bc8f8a00… (all of the seat's roots in one cut). By AI agents, Wed Nov 11 2026. No macro, syntax, notation, axiom, sorry.
-/
import Derived.Test.YtpkondemkpogoaaChecked
import GoSem.Claim
import GoSem.ClaimJoined
import GoSem.ClaimMapViews
import Derived.JoinedTies
import Derived.KernelRfl
namespace Go.Proofs.Ytpkondemkpogoaa
/- THE CELL 'sum', in the pinned program and in every row, IS THE sha256 OF THE DUMP (.gsa) THAT YtpkondemkpogoaaProg.lean LOADS. Nothing in Lean hashes anything: it is a label: what it is worth is what the hold of that sum in a sandbox is worth. -/
noncomputable def Try.pinned : Pinned := { name := "ytpkondemkpogoaa", sum := "0b50dcc2bc8f8a001cfe9640b7411e7bc5cea5c989146b03b6e4742f64c8a323", checked := Try.checked }
namespace Rows
def none {H : Type} : Left H := { results := [], args := [] }

/-- 'colonnadelaw10.QuiltFirst': WHATEVER THE INPUT: true; the input reads as it did. -/
def quiltFirstSpec : ChangeSpec := { name := "quiltFirst", fn := fun _ => fun
  | [d1, d2, d3] => { results := [.lit (.bool true)], args := [d1, d2, d3] }
  | _ => none }
def quiltFirstRow : OpenClaim := { program := "ytpkondemkpogoaa", sum := "0b50dcc2bc8f8a001cfe9640b7411e7bc5cea5c989146b03b6e4742f64c8a323", func := "colonnade/colonnadelaw10.QuiltFirst", spec := "quiltFirst", unfollowed := true, recurses := true, apart := false }
def QuiltFirstSaid : Prop := quiltFirstRow.holds Try.pinned (OpenSpec.ofChange quiltFirstSpec)

/-- ITS FALSE NEIGHBOUR: 'it returns false'. Refute it at one input. -/
def quiltFirstWrong : ChangeSpec := { name := "quiltFirst", fn := fun _ => fun
  | [d1, d2, d3] => { results := [.lit (.bool false)], args := [d1, d2, d3] }
  | _ => none }
def QuiltFirstWrongFalsely : Prop := quiltFirstRow.holds Try.pinned (OpenSpec.ofChange quiltFirstWrong)

/-- 'colonnadelaw10.QuiltWhole': WHATEVER THE INPUT: true; the input reads as it did. -/
def quiltWholeSpec : ChangeSpec := { name := "quiltWhole", fn := fun _ => fun
  | [d1, d2, d3, d4] => { results := [.lit (.bool true)], args := [d1, d2, d3, d4] }
  | _ => none }
def quiltWholeRow : OpenClaim := { program := "ytpkondemkpogoaa", sum := "0b50dcc2bc8f8a001cfe9640b7411e7bc5cea5c989146b03b6e4742f64c8a323", func := "colonnade/colonnadelaw10.QuiltWhole", spec := "quiltWhole", unfollowed := true, recurses := true, apart := false }
def QuiltWholeSaid : Prop := quiltWholeRow.holds Try.pinned (OpenSpec.ofChange quiltWholeSpec)

/-- ITS FALSE NEIGHBOUR: 'it returns false'. Refute it at one input. -/
def quiltWholeWrong : ChangeSpec := { name := "quiltWhole", fn := fun _ => fun
  | [d1, d2, d3, d4] => { results := [.lit (.bool false)], args := [d1, d2, d3, d4] }
  | _ => none }
def QuiltWholeWrongFalsely : Prop := quiltWholeRow.holds Try.pinned (OpenSpec.ofChange quiltWholeWrong)

/-- 'colonnadelaw10.QuiltSums': WHATEVER THE INPUT: true; the input reads as it did. -/
def quiltSumsSpec : ChangeSpec := { name := "quiltSums", fn := fun _ => fun
  | [d] => { results := [.lit (.bool true)], args := [d] }
  | _ => none }
def quiltSumsRow : OpenClaim := { program := "ytpkondemkpogoaa", sum := "0b50dcc2bc8f8a001cfe9640b7411e7bc5cea5c989146b03b6e4742f64c8a323", func := "colonnade/colonnadelaw10.QuiltSums", spec := "quiltSums", unfollowed := true, recurses := true, apart := false }
def QuiltSumsSaid : Prop := quiltSumsRow.holds Try.pinned (OpenSpec.ofChange quiltSumsSpec)

/-- ITS FALSE NEIGHBOUR: 'it returns false'. Refute it at one input. -/
def quiltSumsWrong : ChangeSpec := { name := "quiltSums", fn := fun _ => fun
  | [d] => { results := [.lit (.bool false)], args := [d] }
  | _ => none }
def QuiltSumsWrongFalsely : Prop := quiltSumsRow.holds Try.pinned (OpenSpec.ofChange quiltSumsWrong)

/-- 'colonnadelaw10.QuiltEnds': WHATEVER THE INPUT: true; the input reads as it did. -/
def quiltEndsSpec : ChangeSpec := { name := "quiltEnds", fn := fun _ => fun
  | [d1, d2, d3, d4] => { results := [.lit (.bool true)], args := [d1, d2, d3, d4] }
  | _ => none }
def quiltEndsRow : OpenClaim := { program := "ytpkondemkpogoaa", sum := "0b50dcc2bc8f8a001cfe9640b7411e7bc5cea5c989146b03b6e4742f64c8a323", func := "colonnade/colonnadelaw10.QuiltEnds", spec := "quiltEnds", unfollowed := true, recurses := true, apart := false }
def QuiltEndsSaid : Prop := quiltEndsRow.holds Try.pinned (OpenSpec.ofChange quiltEndsSpec)

/-- ITS FALSE NEIGHBOUR: 'it returns false'. Refute it at one input. -/
def quiltEndsWrong : ChangeSpec := { name := "quiltEnds", fn := fun _ => fun
  | [d1, d2, d3, d4] => { results := [.lit (.bool false)], args := [d1, d2, d3, d4] }
  | _ => none }
def QuiltEndsWrongFalsely : Prop := quiltEndsRow.holds Try.pinned (OpenSpec.ofChange quiltEndsWrong)

/-- 'colonnadelaw10.QuiltPlays': WHATEVER THE INPUT: true; the input reads as it did. -/
def quiltPlaysSpec : ChangeSpec := { name := "quiltPlays", fn := fun _ => fun
  | [d1, d2] => { results := [.lit (.bool true)], args := [d1, d2] }
  | _ => none }
def quiltPlaysRow : OpenClaim := { program := "ytpkondemkpogoaa", sum := "0b50dcc2bc8f8a001cfe9640b7411e7bc5cea5c989146b03b6e4742f64c8a323", func := "colonnade/colonnadelaw10.QuiltPlays", spec := "quiltPlays", unfollowed := true, recurses := true, apart := false }
def QuiltPlaysSaid : Prop := quiltPlaysRow.holds Try.pinned (OpenSpec.ofChange quiltPlaysSpec)

/-- ITS FALSE NEIGHBOUR: 'it returns false'. Refute it at one input. -/
def quiltPlaysWrong : ChangeSpec := { name := "quiltPlays", fn := fun _ => fun
  | [d1, d2] => { results := [.lit (.bool false)], args := [d1, d2] }
  | _ => none }
def QuiltPlaysWrongFalsely : Prop := quiltPlaysRow.holds Try.pinned (OpenSpec.ofChange quiltPlaysWrong)

/- THE SECOND FORM. 'bulk': how many values and letters a reading holds, each counted each time it is reached (what is shared counts as often as it is met; a slice's spare places count too). A statement '..UptoSaid' is the law's where the arguments, and the package variables that the reading takes, are together of bulk at most 1048576: NARROWER than '..Said'. Prove '..Said' where nothing that the law and all that it calls make is longer than what came in: it says more and counts as full. Else prove '..UptoSaid'. A law counts once. -/
mutual
def uptoBulk {H : Type} : DataW H → Nat
  | .lit (.string bytes) => bytes.length + 1
  | .lit _ => 1
  | .nil => 1
  | .ptr d => uptoBulk d + 1
  | .slice elems spare => uptoBulkAll elems + uptoBulkAll spare + 1
  | .agg parts => uptoBulkAll parts + 1
  | .iface _ d => uptoBulk d + 1
  | .map entries => uptoBulkEntries entries + 1
  | .held _ => 1
def uptoBulkAll {H : Type} : List (DataW H) → Nat
  | [] => 0
  | d :: r => uptoBulk d + uptoBulkAll r
def uptoBulkEntries {H : Type} : List (Lit × DataW H) → Nat
  | [] => 0
  | x :: r => uptoBulkEntry x + uptoBulkEntries r
def uptoBulkEntry {H : Type} : Lit × DataW H → Nat
  | (.string bytes, d) => bytes.length + uptoBulk d + 1
  | (_, d) => uptoBulk d + 1
 end
def uptoSmall : (H : Type) → List (DataW H) → Bool := fun _ ds => decide (uptoBulkAll ds ≤ 1048576)
def OpenSpec.upto (s : _root_.Go.ChangeSpec) : _root_.Go.OpenSpec := { _root_.Go.OpenSpec.ofChange s with cond := some uptoSmall }

/-- 'colonnadelaw10.QuiltFirst', WHERE WHAT IT READS IS OF BULK AT MOST 1048576: true; the input reads as it did. -/
def quiltFirstUptoRow : OpenClaim := { program := "ytpkondemkpogoaa", sum := "0b50dcc2bc8f8a001cfe9640b7411e7bc5cea5c989146b03b6e4742f64c8a323", func := "colonnade/colonnadelaw10.QuiltFirst", spec := "quiltFirst", unfollowed := true, recurses := true, apart := false, narrowed := true }
def QuiltFirstUptoSaid : Prop := quiltFirstUptoRow.holds Try.pinned (OpenSpec.upto quiltFirstSpec)

/-- 'colonnadelaw10.QuiltWhole', WHERE WHAT IT READS IS OF BULK AT MOST 1048576: true; the input reads as it did. -/
def quiltWholeUptoRow : OpenClaim := { program := "ytpkondemkpogoaa", sum := "0b50dcc2bc8f8a001cfe9640b7411e7bc5cea5c989146b03b6e4742f64c8a323", func := "colonnade/colonnadelaw10.QuiltWhole", spec := "quiltWhole", unfollowed := true, recurses := true, apart := false, narrowed := true }
def QuiltWholeUptoSaid : Prop := quiltWholeUptoRow.holds Try.pinned (OpenSpec.upto quiltWholeSpec)

/-- 'colonnadelaw10.QuiltSums', WHERE WHAT IT READS IS OF BULK AT MOST 1048576: true; the input reads as it did. -/
def quiltSumsUptoRow : OpenClaim := { program := "ytpkondemkpogoaa", sum := "0b50dcc2bc8f8a001cfe9640b7411e7bc5cea5c989146b03b6e4742f64c8a323", func := "colonnade/colonnadelaw10.QuiltSums", spec := "quiltSums", unfollowed := true, recurses := true, apart := false, narrowed := true }
def QuiltSumsUptoSaid : Prop := quiltSumsUptoRow.holds Try.pinned (OpenSpec.upto quiltSumsSpec)

/-- 'colonnadelaw10.QuiltEnds', WHERE WHAT IT READS IS OF BULK AT MOST 1048576: true; the input reads as it did. -/
def quiltEndsUptoRow : OpenClaim := { program := "ytpkondemkpogoaa", sum := "0b50dcc2bc8f8a001cfe9640b7411e7bc5cea5c989146b03b6e4742f64c8a323", func := "colonnade/colonnadelaw10.QuiltEnds", spec := "quiltEnds", unfollowed := true, recurses := true, apart := false, narrowed := true }
def QuiltEndsUptoSaid : Prop := quiltEndsUptoRow.holds Try.pinned (OpenSpec.upto quiltEndsSpec)

/-- 'colonnadelaw10.QuiltPlays', WHERE WHAT IT READS IS OF BULK AT MOST 1048576: true; the input reads as it did. -/
def quiltPlaysUptoRow : OpenClaim := { program := "ytpkondemkpogoaa", sum := "0b50dcc2bc8f8a001cfe9640b7411e7bc5cea5c989146b03b6e4742f64c8a323", func := "colonnade/colonnadelaw10.QuiltPlays", spec := "quiltPlays", unfollowed := true, recurses := true, apart := false, narrowed := true }
def QuiltPlaysUptoSaid : Prop := quiltPlaysUptoRow.holds Try.pinned (OpenSpec.upto quiltPlaysSpec)

end Rows
end Go.Proofs.Ytpkondemkpogoaa
