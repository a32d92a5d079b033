/-
  No cell of these rows narrows 'for every input' (looked for: loops, veiled, ifaces, maps, wideKeys, modest, calm, conditions, laid).
  DERIVED. THE GIVEN ROWS OF THIS SEAT. 5 by the template 'for every input the law returns true; each argument reads behind the call as it read before'; 0 by the template 'total and deterministic' (their statements: YtliagckgollalaaTotals.lean).
  GIVEN WITH THE SEED: the statements are not yours to turn. If you find one false, say at which input.
  Laid BY PROGRAM, IN A SANDBOX (cutbox-rows.mjs): the forced cells as the released guide's own fill.sh prints them over the translation 17fe5111b07cec64… (all of the seat's roots in one cut). By AI agents, Wed Nov 11 2026. No macro, syntax, notation, axiom, sorry.
-/
import Derived.Test.YtliagckgollalaaChecked
import GoSem.Claim
import GoSem.ClaimJoined
import GoSem.ClaimMapViews
import Derived.JoinedTies
import Derived.KernelRfl
namespace Go.Proofs.Ytliagckgollalaa
/- THE CELL 'sum', in the pinned program and in every row, IS THE sha256 OF THE DUMP (.gsa) THAT YtliagckgollalaaProg.lean LOADS. Nothing in Lean hashes anything: it is a label: what it is worth is what the hold of that sum in a sandbox is worth. -/
noncomputable def Try.pinned : Pinned := { name := "ytliagckgollalaa", sum := "17fe5111b07cec6477f4b3e2a215f59e02762304e46128e4613ed60456d7915d", checked := Try.checked }
namespace Rows
def none {H : Type} : Left H := { results := [], args := [] }

/-- 'colonnadelaw01.VintForms': WHATEVER THE INPUT: true; the input reads as it did. -/
def vintFormsSpec : ChangeSpec := { name := "vintForms", fn := fun _ => fun
  | [d1, d2, d3] => { results := [.lit (.bool true)], args := [d1, d2, d3] }
  | _ => none }
def vintFormsRow : OpenClaim := { program := "ytliagckgollalaa", sum := "17fe5111b07cec6477f4b3e2a215f59e02762304e46128e4613ed60456d7915d", func := "colonnade/colonnadelaw01.VintForms", spec := "vintForms", apart := false }
def VintFormsSaid : Prop := vintFormsRow.holds Try.pinned (OpenSpec.ofChange vintFormsSpec)

/-- ITS FALSE NEIGHBOUR: 'it returns false'. Refute it at one input. -/
def vintFormsWrong : ChangeSpec := { name := "vintForms", fn := fun _ => fun
  | [d1, d2, d3] => { results := [.lit (.bool false)], args := [d1, d2, d3] }
  | _ => none }
def VintFormsWrongFalsely : Prop := vintFormsRow.holds Try.pinned (OpenSpec.ofChange vintFormsWrong)

/-- 'colonnadelaw01.VintGrows': WHATEVER THE INPUT: true; the input reads as it did. -/
def vintGrowsSpec : ChangeSpec := { name := "vintGrows", fn := fun _ => fun
  | [d1, d2] => { results := [.lit (.bool true)], args := [d1, d2] }
  | _ => none }
def vintGrowsRow : OpenClaim := { program := "ytliagckgollalaa", sum := "17fe5111b07cec6477f4b3e2a215f59e02762304e46128e4613ed60456d7915d", func := "colonnade/colonnadelaw01.VintGrows", spec := "vintGrows", apart := false }
def VintGrowsSaid : Prop := vintGrowsRow.holds Try.pinned (OpenSpec.ofChange vintGrowsSpec)

/-- ITS FALSE NEIGHBOUR: 'it returns false'. Refute it at one input. -/
def vintGrowsWrong : ChangeSpec := { name := "vintGrows", fn := fun _ => fun
  | [d1, d2] => { results := [.lit (.bool false)], args := [d1, d2] }
  | _ => none }
def VintGrowsWrongFalsely : Prop := vintGrowsRow.holds Try.pinned (OpenSpec.ofChange vintGrowsWrong)

/-- 'colonnadelaw01.VintJoins': WHATEVER THE INPUT: true; the input reads as it did. -/
def vintJoinsSpec : ChangeSpec := { name := "vintJoins", fn := fun _ => fun
  | [d1, d2] => { results := [.lit (.bool true)], args := [d1, d2] }
  | _ => none }
def vintJoinsRow : OpenClaim := { program := "ytliagckgollalaa", sum := "17fe5111b07cec6477f4b3e2a215f59e02762304e46128e4613ed60456d7915d", func := "colonnade/colonnadelaw01.VintJoins", spec := "vintJoins", apart := false }
def VintJoinsSaid : Prop := vintJoinsRow.holds Try.pinned (OpenSpec.ofChange vintJoinsSpec)

/-- ITS FALSE NEIGHBOUR: 'it returns false'. Refute it at one input. -/
def vintJoinsWrong : ChangeSpec := { name := "vintJoins", fn := fun _ => fun
  | [d1, d2] => { results := [.lit (.bool false)], args := [d1, d2] }
  | _ => none }
def VintJoinsWrongFalsely : Prop := vintJoinsRow.holds Try.pinned (OpenSpec.ofChange vintJoinsWrong)

/-- 'colonnadelaw01.VintReads': WHATEVER THE INPUT: true; the input reads as it did. -/
def vintReadsSpec : ChangeSpec := { name := "vintReads", fn := fun _ => fun
  | [d1, d2] => { results := [.lit (.bool true)], args := [d1, d2] }
  | _ => none }
def vintReadsRow : OpenClaim := { program := "ytliagckgollalaa", sum := "17fe5111b07cec6477f4b3e2a215f59e02762304e46128e4613ed60456d7915d", func := "colonnade/colonnadelaw01.VintReads", spec := "vintReads", apart := false }
def VintReadsSaid : Prop := vintReadsRow.holds Try.pinned (OpenSpec.ofChange vintReadsSpec)

/-- ITS FALSE NEIGHBOUR: 'it returns false'. Refute it at one input. -/
def vintReadsWrong : ChangeSpec := { name := "vintReads", fn := fun _ => fun
  | [d1, d2] => { results := [.lit (.bool false)], args := [d1, d2] }
  | _ => none }
def VintReadsWrongFalsely : Prop := vintReadsRow.holds Try.pinned (OpenSpec.ofChange vintReadsWrong)

/-- 'colonnadelaw01.VintTexts': WHATEVER THE INPUT: true; the input reads as it did. -/
def vintTextsSpec : ChangeSpec := { name := "vintTexts", fn := fun _ => fun
  | [d1, d2] => { results := [.lit (.bool true)], args := [d1, d2] }
  | _ => none }
def vintTextsRow : OpenClaim := { program := "ytliagckgollalaa", sum := "17fe5111b07cec6477f4b3e2a215f59e02762304e46128e4613ed60456d7915d", func := "colonnade/colonnadelaw01.VintTexts", spec := "vintTexts", apart := false }
def VintTextsSaid : Prop := vintTextsRow.holds Try.pinned (OpenSpec.ofChange vintTextsSpec)

/-- ITS FALSE NEIGHBOUR: 'it returns false'. Refute it at one input. -/
def vintTextsWrong : ChangeSpec := { name := "vintTexts", fn := fun _ => fun
  | [d1, d2] => { results := [.lit (.bool false)], args := [d1, d2] }
  | _ => none }
def VintTextsWrongFalsely : Prop := vintTextsRow.holds Try.pinned (OpenSpec.ofChange vintTextsWrong)

/- THE SECOND FORM. 'bulk': how many values and letters a reading holds, each counted each time it is reached (what is shared counts as often as it is met; a slice's spare places count too). A statement '..UptoSaid' is the law's where the arguments, and the package variables that the reading takes, are together of bulk at most 1048576: NARROWER than '..Said'. Prove '..Said' where nothing that the law and all that it calls make is longer than what came in: it says more and counts as full. Else prove '..UptoSaid'. A law counts once. -/
mutual
def uptoBulk {H : Type} : DataW H → Nat
  | .lit (.string bytes) => bytes.length + 1
  | .lit _ => 1
  | .nil => 1
  | .ptr d => uptoBulk d + 1
  | .slice elems spare => uptoBulkAll elems + uptoBulkAll spare + 1
  | .agg parts => uptoBulkAll parts + 1
  | .iface _ d => uptoBulk d + 1
  | .map entries => uptoBulkEntries entries + 1
  | .held _ => 1
def uptoBulkAll {H : Type} : List (DataW H) → Nat
  | [] => 0
  | d :: r => uptoBulk d + uptoBulkAll r
def uptoBulkEntries {H : Type} : List (Lit × DataW H) → Nat
  | [] => 0
  | x :: r => uptoBulkEntry x + uptoBulkEntries r
def uptoBulkEntry {H : Type} : Lit × DataW H → Nat
  | (.string bytes, d) => bytes.length + uptoBulk d + 1
  | (_, d) => uptoBulk d + 1
 end
def uptoSmall : (H : Type) → List (DataW H) → Bool := fun _ ds => decide (uptoBulkAll ds ≤ 1048576)
def OpenSpec.upto (s : _root_.Go.ChangeSpec) : _root_.Go.OpenSpec := { _root_.Go.OpenSpec.ofChange s with cond := some uptoSmall }

/-- 'colonnadelaw01.VintForms', WHERE WHAT IT READS IS OF BULK AT MOST 1048576: true; the input reads as it did. -/
def vintFormsUptoRow : OpenClaim := { program := "ytliagckgollalaa", sum := "17fe5111b07cec6477f4b3e2a215f59e02762304e46128e4613ed60456d7915d", func := "colonnade/colonnadelaw01.VintForms", spec := "vintForms", apart := false, narrowed := true }
def VintFormsUptoSaid : Prop := vintFormsUptoRow.holds Try.pinned (OpenSpec.upto vintFormsSpec)

/-- 'colonnadelaw01.VintGrows', WHERE WHAT IT READS IS OF BULK AT MOST 1048576: true; the input reads as it did. -/
def vintGrowsUptoRow : OpenClaim := { program := "ytliagckgollalaa", sum := "17fe5111b07cec6477f4b3e2a215f59e02762304e46128e4613ed60456d7915d", func := "colonnade/colonnadelaw01.VintGrows", spec := "vintGrows", apart := false, narrowed := true }
def VintGrowsUptoSaid : Prop := vintGrowsUptoRow.holds Try.pinned (OpenSpec.upto vintGrowsSpec)

/-- 'colonnadelaw01.VintJoins', WHERE WHAT IT READS IS OF BULK AT MOST 1048576: true; the input reads as it did. -/
def vintJoinsUptoRow : OpenClaim := { program := "ytliagckgollalaa", sum := "17fe5111b07cec6477f4b3e2a215f59e02762304e46128e4613ed60456d7915d", func := "colonnade/colonnadelaw01.VintJoins", spec := "vintJoins", apart := false, narrowed := true }
def VintJoinsUptoSaid : Prop := vintJoinsUptoRow.holds Try.pinned (OpenSpec.upto vintJoinsSpec)

/-- 'colonnadelaw01.VintReads', WHERE WHAT IT READS IS OF BULK AT MOST 1048576: true; the input reads as it did. -/
def vintReadsUptoRow : OpenClaim := { program := "ytliagckgollalaa", sum := "17fe5111b07cec6477f4b3e2a215f59e02762304e46128e4613ed60456d7915d", func := "colonnade/colonnadelaw01.VintReads", spec := "vintReads", apart := false, narrowed := true }
def VintReadsUptoSaid : Prop := vintReadsUptoRow.holds Try.pinned (OpenSpec.upto vintReadsSpec)

/-- 'colonnadelaw01.VintTexts', WHERE WHAT IT READS IS OF BULK AT MOST 1048576: true; the input reads as it did. -/
def vintTextsUptoRow : OpenClaim := { program := "ytliagckgollalaa", sum := "17fe5111b07cec6477f4b3e2a215f59e02762304e46128e4613ed60456d7915d", func := "colonnade/colonnadelaw01.VintTexts", spec := "vintTexts", apart := false, narrowed := true }
def VintTextsUptoSaid : Prop := vintTextsUptoRow.holds Try.pinned (OpenSpec.upto vintTextsSpec)

end Rows
end Go.Proofs.Ytliagckgollalaa
