/-
  No cell of these rows narrows 'for every input' (looked for: loops, veiled, ifaces, maps, wideKeys, modest, calm, conditions, laid).
  DERIVED. THE GIVEN ROWS OF THIS SEAT. 5 by the template 'for every input the law returns true; each argument reads behind the call as it read before'; 0 by the template 'total and deterministic' (their statements: YtljddpgefbcfmaaTotals.lean).
  GIVEN WITH THE SEED: the statements are not yours to turn. If you find one false, say at which input.
  Laid BY PROGRAM, IN A SANDBOX (cutbox-rows.mjs): the forced cells as the released guide's own fill.sh prints them over the translation 0f48f737baaf428f… (all of the seat's roots in one cut). By AI agents, Wed Nov 11 2026. No macro, syntax, notation, axiom, sorry.
-/
import Derived.Test.YtljddpgefbcfmaaChecked
import GoSem.Claim
import GoSem.ClaimJoined
import GoSem.ClaimMapViews
import Derived.JoinedTies
import Derived.KernelRfl
namespace Go.Proofs.Ytljddpgefbcfmaa
/- THE CELL 'sum', in the pinned program and in every row, IS THE sha256 OF THE DUMP (.gsa) THAT YtljddpgefbcfmaaProg.lean LOADS. Nothing in Lean hashes anything: it is a label: what it is worth is what the hold of that sum in a sandbox is worth. -/
noncomputable def Try.pinned : Pinned := { name := "ytljddpgefbcfmaa", sum := "0f48f737baaf428f2ec489ce9aaf8e496c48dfcf8af4634ffa507b3421fc8472", checked := Try.checked }
namespace Rows
def none {H : Type} : Left H := { results := [], args := [] }

/-- 'colonnadelaw11.CreditTills': WHATEVER THE INPUT: true; the input reads as it did. -/
def creditTillsSpec : ChangeSpec := { name := "creditTills", fn := fun _ => fun
  | [d1, d2, d3] => { results := [.lit (.bool true)], args := [d1, d2, d3] }
  | _ => none }
def creditTillsRow : OpenClaim := { program := "ytljddpgefbcfmaa", sum := "0f48f737baaf428f2ec489ce9aaf8e496c48dfcf8af4634ffa507b3421fc8472", func := "colonnade/colonnadelaw11.CreditTills", spec := "creditTills", apart := false }
def CreditTillsSaid : Prop := creditTillsRow.holds Try.pinned (OpenSpec.ofChange creditTillsSpec)

/-- ITS FALSE NEIGHBOUR: 'it returns false'. Refute it at one input. -/
def creditTillsWrong : ChangeSpec := { name := "creditTills", fn := fun _ => fun
  | [d1, d2, d3] => { results := [.lit (.bool false)], args := [d1, d2, d3] }
  | _ => none }
def CreditTillsWrongFalsely : Prop := creditTillsRow.holds Try.pinned (OpenSpec.ofChange creditTillsWrong)

/-- 'colonnadelaw11.CreditNews': WHATEVER THE INPUT: true; the input reads as it did. -/
def creditNewsSpec : ChangeSpec := { name := "creditNews", fn := fun _ => fun
  | [d1, d2] => { results := [.lit (.bool true)], args := [d1, d2] }
  | _ => none }
def creditNewsRow : OpenClaim := { program := "ytljddpgefbcfmaa", sum := "0f48f737baaf428f2ec489ce9aaf8e496c48dfcf8af4634ffa507b3421fc8472", func := "colonnade/colonnadelaw11.CreditNews", spec := "creditNews", apart := false }
def CreditNewsSaid : Prop := creditNewsRow.holds Try.pinned (OpenSpec.ofChange creditNewsSpec)

/-- ITS FALSE NEIGHBOUR: 'it returns false'. Refute it at one input. -/
def creditNewsWrong : ChangeSpec := { name := "creditNews", fn := fun _ => fun
  | [d1, d2] => { results := [.lit (.bool false)], args := [d1, d2] }
  | _ => none }
def CreditNewsWrongFalsely : Prop := creditNewsRow.holds Try.pinned (OpenSpec.ofChange creditNewsWrong)

/-- 'colonnadelaw11.CreditNever': WHATEVER THE INPUT: true; the input reads as it did. -/
def creditNeverSpec : ChangeSpec := { name := "creditNever", fn := fun _ => fun
  | [d1, d2] => { results := [.lit (.bool true)], args := [d1, d2] }
  | _ => none }
def creditNeverRow : OpenClaim := { program := "ytljddpgefbcfmaa", sum := "0f48f737baaf428f2ec489ce9aaf8e496c48dfcf8af4634ffa507b3421fc8472", func := "colonnade/colonnadelaw11.CreditNever", spec := "creditNever", apart := false }
def CreditNeverSaid : Prop := creditNeverRow.holds Try.pinned (OpenSpec.ofChange creditNeverSpec)

/-- ITS FALSE NEIGHBOUR: 'it returns false'. Refute it at one input. -/
def creditNeverWrong : ChangeSpec := { name := "creditNever", fn := fun _ => fun
  | [d1, d2] => { results := [.lit (.bool false)], args := [d1, d2] }
  | _ => none }
def CreditNeverWrongFalsely : Prop := creditNeverRow.holds Try.pinned (OpenSpec.ofChange creditNeverWrong)

/-- 'colonnadelaw11.CreditPurses': WHATEVER THE INPUT: true; the input reads as it did. -/
def creditPursesSpec : ChangeSpec := { name := "creditPurses", fn := fun _ => fun
  | [d1, d2, d3] => { results := [.lit (.bool true)], args := [d1, d2, d3] }
  | _ => none }
def creditPursesRow : OpenClaim := { program := "ytljddpgefbcfmaa", sum := "0f48f737baaf428f2ec489ce9aaf8e496c48dfcf8af4634ffa507b3421fc8472", func := "colonnade/colonnadelaw11.CreditPurses", spec := "creditPurses", apart := false }
def CreditPursesSaid : Prop := creditPursesRow.holds Try.pinned (OpenSpec.ofChange creditPursesSpec)

/-- ITS FALSE NEIGHBOUR: 'it returns false'. Refute it at one input. -/
def creditPursesWrong : ChangeSpec := { name := "creditPurses", fn := fun _ => fun
  | [d1, d2, d3] => { results := [.lit (.bool false)], args := [d1, d2, d3] }
  | _ => none }
def CreditPursesWrongFalsely : Prop := creditPursesRow.holds Try.pinned (OpenSpec.ofChange creditPursesWrong)

/-- 'colonnadelaw11.CreditAgrees': WHATEVER THE INPUT: true; the input reads as it did. -/
def creditAgreesSpec : ChangeSpec := { name := "creditAgrees", fn := fun _ => fun
  | [d1, d2] => { results := [.lit (.bool true)], args := [d1, d2] }
  | _ => none }
def creditAgreesRow : OpenClaim := { program := "ytljddpgefbcfmaa", sum := "0f48f737baaf428f2ec489ce9aaf8e496c48dfcf8af4634ffa507b3421fc8472", func := "colonnade/colonnadelaw11.CreditAgrees", spec := "creditAgrees", apart := false }
def CreditAgreesSaid : Prop := creditAgreesRow.holds Try.pinned (OpenSpec.ofChange creditAgreesSpec)

/-- ITS FALSE NEIGHBOUR: 'it returns false'. Refute it at one input. -/
def creditAgreesWrong : ChangeSpec := { name := "creditAgrees", fn := fun _ => fun
  | [d1, d2] => { results := [.lit (.bool false)], args := [d1, d2] }
  | _ => none }
def CreditAgreesWrongFalsely : Prop := creditAgreesRow.holds Try.pinned (OpenSpec.ofChange creditAgreesWrong)

/- THE SECOND FORM. 'bulk': how many values and letters a reading holds, each counted each time it is reached (what is shared counts as often as it is met; a slice's spare places count too). A statement '..UptoSaid' is the law's where the arguments, and the package variables that the reading takes, are together of bulk at most 1048576: NARROWER than '..Said'. Prove '..Said' where nothing that the law and all that it calls make is longer than what came in: it says more and counts as full. Else prove '..UptoSaid'. A law counts once. -/
mutual
def uptoBulk {H : Type} : DataW H → Nat
  | .lit (.string bytes) => bytes.length + 1
  | .lit _ => 1
  | .nil => 1
  | .ptr d => uptoBulk d + 1
  | .slice elems spare => uptoBulkAll elems + uptoBulkAll spare + 1
  | .agg parts => uptoBulkAll parts + 1
  | .iface _ d => uptoBulk d + 1
  | .map entries => uptoBulkEntries entries + 1
  | .held _ => 1
def uptoBulkAll {H : Type} : List (DataW H) → Nat
  | [] => 0
  | d :: r => uptoBulk d + uptoBulkAll r
def uptoBulkEntries {H : Type} : List (Lit × DataW H) → Nat
  | [] => 0
  | x :: r => uptoBulkEntry x + uptoBulkEntries r
def uptoBulkEntry {H : Type} : Lit × DataW H → Nat
  | (.string bytes, d) => bytes.length + uptoBulk d + 1
  | (_, d) => uptoBulk d + 1
 end
def uptoSmall : (H : Type) → List (DataW H) → Bool := fun _ ds => decide (uptoBulkAll ds ≤ 1048576)
def OpenSpec.upto (s : _root_.Go.ChangeSpec) : _root_.Go.OpenSpec := { _root_.Go.OpenSpec.ofChange s with cond := some uptoSmall }

/-- 'colonnadelaw11.CreditTills', WHERE WHAT IT READS IS OF BULK AT MOST 1048576: true; the input reads as it did. -/
def creditTillsUptoRow : OpenClaim := { program := "ytljddpgefbcfmaa", sum := "0f48f737baaf428f2ec489ce9aaf8e496c48dfcf8af4634ffa507b3421fc8472", func := "colonnade/colonnadelaw11.CreditTills", spec := "creditTills", apart := false, narrowed := true }
def CreditTillsUptoSaid : Prop := creditTillsUptoRow.holds Try.pinned (OpenSpec.upto creditTillsSpec)

/-- 'colonnadelaw11.CreditNews', WHERE WHAT IT READS IS OF BULK AT MOST 1048576: true; the input reads as it did. -/
def creditNewsUptoRow : OpenClaim := { program := "ytljddpgefbcfmaa", sum := "0f48f737baaf428f2ec489ce9aaf8e496c48dfcf8af4634ffa507b3421fc8472", func := "colonnade/colonnadelaw11.CreditNews", spec := "creditNews", apart := false, narrowed := true }
def CreditNewsUptoSaid : Prop := creditNewsUptoRow.holds Try.pinned (OpenSpec.upto creditNewsSpec)

/-- 'colonnadelaw11.CreditNever', WHERE WHAT IT READS IS OF BULK AT MOST 1048576: true; the input reads as it did. -/
def creditNeverUptoRow : OpenClaim := { program := "ytljddpgefbcfmaa", sum := "0f48f737baaf428f2ec489ce9aaf8e496c48dfcf8af4634ffa507b3421fc8472", func := "colonnade/colonnadelaw11.CreditNever", spec := "creditNever", apart := false, narrowed := true }
def CreditNeverUptoSaid : Prop := creditNeverUptoRow.holds Try.pinned (OpenSpec.upto creditNeverSpec)

/-- 'colonnadelaw11.CreditPurses', WHERE WHAT IT READS IS OF BULK AT MOST 1048576: true; the input reads as it did. -/
def creditPursesUptoRow : OpenClaim := { program := "ytljddpgefbcfmaa", sum := "0f48f737baaf428f2ec489ce9aaf8e496c48dfcf8af4634ffa507b3421fc8472", func := "colonnade/colonnadelaw11.CreditPurses", spec := "creditPurses", apart := false, narrowed := true }
def CreditPursesUptoSaid : Prop := creditPursesUptoRow.holds Try.pinned (OpenSpec.upto creditPursesSpec)

/-- 'colonnadelaw11.CreditAgrees', WHERE WHAT IT READS IS OF BULK AT MOST 1048576: true; the input reads as it did. -/
def creditAgreesUptoRow : OpenClaim := { program := "ytljddpgefbcfmaa", sum := "0f48f737baaf428f2ec489ce9aaf8e496c48dfcf8af4634ffa507b3421fc8472", func := "colonnade/colonnadelaw11.CreditAgrees", spec := "creditAgrees", apart := false, narrowed := true }
def CreditAgreesUptoSaid : Prop := creditAgreesUptoRow.holds Try.pinned (OpenSpec.upto creditAgreesSpec)

end Rows
end Go.Proofs.Ytljddpgefbcfmaa
