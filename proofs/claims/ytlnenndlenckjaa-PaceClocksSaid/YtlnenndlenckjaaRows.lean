/-
  No cell of these rows narrows 'for every input' (looked for: loops, veiled, ifaces, maps, wideKeys, modest, calm, conditions, laid).
  DERIVED. THE GIVEN ROWS OF THIS SEAT. 5 by the template 'for every input the law returns true; each argument reads behind the call as it read before'; 0 by the template 'total and deterministic' (their statements: YtlnenndlenckjaaTotals.lean).
  GIVEN WITH THE SEED: the statements are not yours to turn. If you find one false, say at which input.
  Laid BY PROGRAM, IN A SANDBOX (cutbox-rows.mjs): the forced cells as the released guide's own fill.sh prints them over the translation d84506ae3868e63e… (all of the seat's roots in one cut). By AI agents, Wed Nov 11 2026. No macro, syntax, notation, axiom, sorry.
-/
import Derived.Test.YtlnenndlenckjaaChecked
import GoSem.Claim
import GoSem.ClaimJoined
import GoSem.ClaimMapViews
import Derived.JoinedTies
import Derived.KernelRfl
namespace Go.Proofs.Ytlnenndlenckjaa
/- THE CELL 'sum', in the pinned program and in every row, IS THE sha256 OF THE DUMP (.gsa) THAT YtlnenndlenckjaaProg.lean LOADS. Nothing in Lean hashes anything: it is a label: what it is worth is what the hold of that sum in a sandbox is worth. -/
noncomputable def Try.pinned : Pinned := { name := "ytlnenndlenckjaa", sum := "d84506ae3868e63e85347e77d1daddc5aa626902b3863da190d7aefcc4769fbe", checked := Try.checked }
namespace Rows
def none {H : Type} : Left H := { results := [], args := [] }

/-- 'colonnadelaw08.PaceClocks': WHATEVER THE INPUT: true; the input reads as it did. -/
def paceClocksSpec : ChangeSpec := { name := "paceClocks", fn := fun _ => fun
  | [d1, d2] => { results := [.lit (.bool true)], args := [d1, d2] }
  | _ => none }
def paceClocksRow : OpenClaim := { program := "ytlnenndlenckjaa", sum := "d84506ae3868e63e85347e77d1daddc5aa626902b3863da190d7aefcc4769fbe", func := "colonnade/colonnadelaw08.PaceClocks", spec := "paceClocks", apart := false }
def PaceClocksSaid : Prop := paceClocksRow.holds Try.pinned (OpenSpec.ofChange paceClocksSpec)

/-- ITS FALSE NEIGHBOUR: 'it returns false'. Refute it at one input. -/
def paceClocksWrong : ChangeSpec := { name := "paceClocks", fn := fun _ => fun
  | [d1, d2] => { results := [.lit (.bool false)], args := [d1, d2] }
  | _ => none }
def PaceClocksWrongFalsely : Prop := paceClocksRow.holds Try.pinned (OpenSpec.ofChange paceClocksWrong)

/-- 'colonnadelaw08.PaceBacks': WHATEVER THE INPUT: true; the input reads as it did. -/
def paceBacksSpec : ChangeSpec := { name := "paceBacks", fn := fun _ => fun
  | [d1, d2] => { results := [.lit (.bool true)], args := [d1, d2] }
  | _ => none }
def paceBacksRow : OpenClaim := { program := "ytlnenndlenckjaa", sum := "d84506ae3868e63e85347e77d1daddc5aa626902b3863da190d7aefcc4769fbe", func := "colonnade/colonnadelaw08.PaceBacks", spec := "paceBacks", apart := false }
def PaceBacksSaid : Prop := paceBacksRow.holds Try.pinned (OpenSpec.ofChange paceBacksSpec)

/-- ITS FALSE NEIGHBOUR: 'it returns false'. Refute it at one input. -/
def paceBacksWrong : ChangeSpec := { name := "paceBacks", fn := fun _ => fun
  | [d1, d2] => { results := [.lit (.bool false)], args := [d1, d2] }
  | _ => none }
def PaceBacksWrongFalsely : Prop := paceBacksRow.holds Try.pinned (OpenSpec.ofChange paceBacksWrong)

/-- 'colonnadelaw08.PaceGrows': WHATEVER THE INPUT: true; the input reads as it did. -/
def paceGrowsSpec : ChangeSpec := { name := "paceGrows", fn := fun _ => fun
  | [d] => { results := [.lit (.bool true)], args := [d] }
  | _ => none }
def paceGrowsRow : OpenClaim := { program := "ytlnenndlenckjaa", sum := "d84506ae3868e63e85347e77d1daddc5aa626902b3863da190d7aefcc4769fbe", func := "colonnade/colonnadelaw08.PaceGrows", spec := "paceGrows", apart := false }
def PaceGrowsSaid : Prop := paceGrowsRow.holds Try.pinned (OpenSpec.ofChange paceGrowsSpec)

/-- ITS FALSE NEIGHBOUR: 'it returns false'. Refute it at one input. -/
def paceGrowsWrong : ChangeSpec := { name := "paceGrows", fn := fun _ => fun
  | [d] => { results := [.lit (.bool false)], args := [d] }
  | _ => none }
def PaceGrowsWrongFalsely : Prop := paceGrowsRow.holds Try.pinned (OpenSpec.ofChange paceGrowsWrong)

/-- 'colonnadelaw08.PaceMeters': WHATEVER THE INPUT: true; the input reads as it did. -/
def paceMetersSpec : ChangeSpec := { name := "paceMeters", fn := fun _ => fun
  | [d1, d2] => { results := [.lit (.bool true)], args := [d1, d2] }
  | _ => none }
def paceMetersRow : OpenClaim := { program := "ytlnenndlenckjaa", sum := "d84506ae3868e63e85347e77d1daddc5aa626902b3863da190d7aefcc4769fbe", func := "colonnade/colonnadelaw08.PaceMeters", spec := "paceMeters", apart := false }
def PaceMetersSaid : Prop := paceMetersRow.holds Try.pinned (OpenSpec.ofChange paceMetersSpec)

/-- ITS FALSE NEIGHBOUR: 'it returns false'. Refute it at one input. -/
def paceMetersWrong : ChangeSpec := { name := "paceMeters", fn := fun _ => fun
  | [d1, d2] => { results := [.lit (.bool false)], args := [d1, d2] }
  | _ => none }
def PaceMetersWrongFalsely : Prop := paceMetersRow.holds Try.pinned (OpenSpec.ofChange paceMetersWrong)

/-- 'colonnadelaw08.PaceBounds': WHATEVER THE INPUT: true; the input reads as it did. -/
def paceBoundsSpec : ChangeSpec := { name := "paceBounds", fn := fun _ => fun
  | [d] => { results := [.lit (.bool true)], args := [d] }
  | _ => none }
def paceBoundsRow : OpenClaim := { program := "ytlnenndlenckjaa", sum := "d84506ae3868e63e85347e77d1daddc5aa626902b3863da190d7aefcc4769fbe", func := "colonnade/colonnadelaw08.PaceBounds", spec := "paceBounds", apart := false }
def PaceBoundsSaid : Prop := paceBoundsRow.holds Try.pinned (OpenSpec.ofChange paceBoundsSpec)

/-- ITS FALSE NEIGHBOUR: 'it returns false'. Refute it at one input. -/
def paceBoundsWrong : ChangeSpec := { name := "paceBounds", fn := fun _ => fun
  | [d] => { results := [.lit (.bool false)], args := [d] }
  | _ => none }
def PaceBoundsWrongFalsely : Prop := paceBoundsRow.holds Try.pinned (OpenSpec.ofChange paceBoundsWrong)

/- THE SECOND FORM. 'bulk': how many values and letters a reading holds, each counted each time it is reached (what is shared counts as often as it is met; a slice's spare places count too). A statement '..UptoSaid' is the law's where the arguments, and the package variables that the reading takes, are together of bulk at most 1048576: NARROWER than '..Said'. Prove '..Said' where nothing that the law and all that it calls make is longer than what came in: it says more and counts as full. Else prove '..UptoSaid'. A law counts once. -/
mutual
def uptoBulk {H : Type} : DataW H → Nat
  | .lit (.string bytes) => bytes.length + 1
  | .lit _ => 1
  | .nil => 1
  | .ptr d => uptoBulk d + 1
  | .slice elems spare => uptoBulkAll elems + uptoBulkAll spare + 1
  | .agg parts => uptoBulkAll parts + 1
  | .iface _ d => uptoBulk d + 1
  | .map entries => uptoBulkEntries entries + 1
  | .held _ => 1
def uptoBulkAll {H : Type} : List (DataW H) → Nat
  | [] => 0
  | d :: r => uptoBulk d + uptoBulkAll r
def uptoBulkEntries {H : Type} : List (Lit × DataW H) → Nat
  | [] => 0
  | x :: r => uptoBulkEntry x + uptoBulkEntries r
def uptoBulkEntry {H : Type} : Lit × DataW H → Nat
  | (.string bytes, d) => bytes.length + uptoBulk d + 1
  | (_, d) => uptoBulk d + 1
 end
def uptoSmall : (H : Type) → List (DataW H) → Bool := fun _ ds => decide (uptoBulkAll ds ≤ 1048576)
def OpenSpec.upto (s : _root_.Go.ChangeSpec) : _root_.Go.OpenSpec := { _root_.Go.OpenSpec.ofChange s with cond := some uptoSmall }

/-- 'colonnadelaw08.PaceClocks', WHERE WHAT IT READS IS OF BULK AT MOST 1048576: true; the input reads as it did. -/
def paceClocksUptoRow : OpenClaim := { program := "ytlnenndlenckjaa", sum := "d84506ae3868e63e85347e77d1daddc5aa626902b3863da190d7aefcc4769fbe", func := "colonnade/colonnadelaw08.PaceClocks", spec := "paceClocks", apart := false, narrowed := true }
def PaceClocksUptoSaid : Prop := paceClocksUptoRow.holds Try.pinned (OpenSpec.upto paceClocksSpec)

/-- 'colonnadelaw08.PaceBacks', WHERE WHAT IT READS IS OF BULK AT MOST 1048576: true; the input reads as it did. -/
def paceBacksUptoRow : OpenClaim := { program := "ytlnenndlenckjaa", sum := "d84506ae3868e63e85347e77d1daddc5aa626902b3863da190d7aefcc4769fbe", func := "colonnade/colonnadelaw08.PaceBacks", spec := "paceBacks", apart := false, narrowed := true }
def PaceBacksUptoSaid : Prop := paceBacksUptoRow.holds Try.pinned (OpenSpec.upto paceBacksSpec)

/-- 'colonnadelaw08.PaceGrows', WHERE WHAT IT READS IS OF BULK AT MOST 1048576: true; the input reads as it did. -/
def paceGrowsUptoRow : OpenClaim := { program := "ytlnenndlenckjaa", sum := "d84506ae3868e63e85347e77d1daddc5aa626902b3863da190d7aefcc4769fbe", func := "colonnade/colonnadelaw08.PaceGrows", spec := "paceGrows", apart := false, narrowed := true }
def PaceGrowsUptoSaid : Prop := paceGrowsUptoRow.holds Try.pinned (OpenSpec.upto paceGrowsSpec)

/-- 'colonnadelaw08.PaceMeters', WHERE WHAT IT READS IS OF BULK AT MOST 1048576: true; the input reads as it did. -/
def paceMetersUptoRow : OpenClaim := { program := "ytlnenndlenckjaa", sum := "d84506ae3868e63e85347e77d1daddc5aa626902b3863da190d7aefcc4769fbe", func := "colonnade/colonnadelaw08.PaceMeters", spec := "paceMeters", apart := false, narrowed := true }
def PaceMetersUptoSaid : Prop := paceMetersUptoRow.holds Try.pinned (OpenSpec.upto paceMetersSpec)

/-- 'colonnadelaw08.PaceBounds', WHERE WHAT IT READS IS OF BULK AT MOST 1048576: true; the input reads as it did. -/
def paceBoundsUptoRow : OpenClaim := { program := "ytlnenndlenckjaa", sum := "d84506ae3868e63e85347e77d1daddc5aa626902b3863da190d7aefcc4769fbe", func := "colonnade/colonnadelaw08.PaceBounds", spec := "paceBounds", apart := false, narrowed := true }
def PaceBoundsUptoSaid : Prop := paceBoundsUptoRow.holds Try.pinned (OpenSpec.upto paceBoundsSpec)

end Rows
end Go.Proofs.Ytlnenndlenckjaa
