/-
  No cell of these rows narrows 'for every input' (looked for: loops, veiled, ifaces, maps, wideKeys, modest, calm, conditions, laid).
  DERIVED. THE GIVEN ROWS OF THIS SEAT. 4 by the template 'for every input the law returns true; each argument reads behind the call as it read before'; 0 by the template 'total and deterministic' (their statements: YtddgakjcigefoaaTotals.lean).
  GIVEN WITH THE SEED: the statements are not yours to turn. If you find one false, say at which input.
  Laid BY PROGRAM, IN A SANDBOX (cutbox-rows.mjs): the forced cells as the released guide's own fill.sh prints them over the translation e2cc05b5fa400634… (all of the seat's roots in one cut). By AI agents, Wed Nov 11 2026. No macro, syntax, notation, axiom, sorry.
-/
import Derived.Test.YtddgakjcigefoaaChecked
import GoSem.Claim
import GoSem.ClaimJoined
import GoSem.ClaimMapViews
import Derived.JoinedTies
import Derived.KernelRfl
namespace Go.Proofs.Ytddgakjcigefoaa
/- THE CELL 'sum', in the pinned program and in every row, IS THE sha256 OF THE DUMP (.gsa) THAT YtddgakjcigefoaaProg.lean LOADS. Nothing in Lean hashes anything: it is a label: what it is worth is what the hold of that sum in a sandbox is worth. -/
noncomputable def Try.pinned : Pinned := { name := "ytddgakjcigefoaa", sum := "e2cc05b5fa400634d3f442049d1779b2b10f69828dcd7ae7d7e6c099719dc761", checked := Try.checked }
namespace Rows
def none {H : Type} : Left H := { results := [], args := [] }

/-- 'colonnadelaw19.TurnLate': WHATEVER THE INPUT: true; the input reads as it did. -/
def turnLateSpec : ChangeSpec := { name := "turnLate", fn := fun _ => fun
  | [d1, d2, d3, d4, d5] => { results := [.lit (.bool true)], args := [d1, d2, d3, d4, d5] }
  | _ => none }
def turnLateRow : OpenClaim := { program := "ytddgakjcigefoaa", sum := "e2cc05b5fa400634d3f442049d1779b2b10f69828dcd7ae7d7e6c099719dc761", func := "colonnade/colonnadelaw19.TurnLate", spec := "turnLate", apart := false }
def TurnLateSaid : Prop := turnLateRow.holds Try.pinned (OpenSpec.ofChange turnLateSpec)

/-- ITS FALSE NEIGHBOUR: 'it returns false'. Refute it at one input. -/
def turnLateWrong : ChangeSpec := { name := "turnLate", fn := fun _ => fun
  | [d1, d2, d3, d4, d5] => { results := [.lit (.bool false)], args := [d1, d2, d3, d4, d5] }
  | _ => none }
def TurnLateWrongFalsely : Prop := turnLateRow.holds Try.pinned (OpenSpec.ofChange turnLateWrong)

/-- 'colonnadelaw19.TurnRanks': WHATEVER THE INPUT: true; the input reads as it did. -/
def turnRanksSpec : ChangeSpec := { name := "turnRanks", fn := fun _ => fun
  | [d1, d2, d3, d4] => { results := [.lit (.bool true)], args := [d1, d2, d3, d4] }
  | _ => none }
def turnRanksRow : OpenClaim := { program := "ytddgakjcigefoaa", sum := "e2cc05b5fa400634d3f442049d1779b2b10f69828dcd7ae7d7e6c099719dc761", func := "colonnade/colonnadelaw19.TurnRanks", spec := "turnRanks", apart := false }
def TurnRanksSaid : Prop := turnRanksRow.holds Try.pinned (OpenSpec.ofChange turnRanksSpec)

/-- ITS FALSE NEIGHBOUR: 'it returns false'. Refute it at one input. -/
def turnRanksWrong : ChangeSpec := { name := "turnRanks", fn := fun _ => fun
  | [d1, d2, d3, d4] => { results := [.lit (.bool false)], args := [d1, d2, d3, d4] }
  | _ => none }
def TurnRanksWrongFalsely : Prop := turnRanksRow.holds Try.pinned (OpenSpec.ofChange turnRanksWrong)

/-- 'colonnadelaw19.TurnOrders': WHATEVER THE INPUT: true; the input reads as it did. -/
def turnOrdersSpec : ChangeSpec := { name := "turnOrders", fn := fun _ => fun
  | [d1, d2, d3, d4] => { results := [.lit (.bool true)], args := [d1, d2, d3, d4] }
  | _ => none }
def turnOrdersRow : OpenClaim := { program := "ytddgakjcigefoaa", sum := "e2cc05b5fa400634d3f442049d1779b2b10f69828dcd7ae7d7e6c099719dc761", func := "colonnade/colonnadelaw19.TurnOrders", spec := "turnOrders", apart := false }
def TurnOrdersSaid : Prop := turnOrdersRow.holds Try.pinned (OpenSpec.ofChange turnOrdersSpec)

/-- ITS FALSE NEIGHBOUR: 'it returns false'. Refute it at one input. -/
def turnOrdersWrong : ChangeSpec := { name := "turnOrders", fn := fun _ => fun
  | [d1, d2, d3, d4] => { results := [.lit (.bool false)], args := [d1, d2, d3, d4] }
  | _ => none }
def TurnOrdersWrongFalsely : Prop := turnOrdersRow.holds Try.pinned (OpenSpec.ofChange turnOrdersWrong)

/-- 'colonnadelaw19.TurnSorts': WHATEVER THE INPUT: true; the input reads as it did. -/
def turnSortsSpec : ChangeSpec := { name := "turnSorts", fn := fun _ => fun
  | [d] => { results := [.lit (.bool true)], args := [d] }
  | _ => none }
def turnSortsRow : OpenClaim := { program := "ytddgakjcigefoaa", sum := "e2cc05b5fa400634d3f442049d1779b2b10f69828dcd7ae7d7e6c099719dc761", func := "colonnade/colonnadelaw19.TurnSorts", spec := "turnSorts", unfollowed := true, recurses := true, apart := false }
def TurnSortsSaid : Prop := turnSortsRow.holds Try.pinned (OpenSpec.ofChange turnSortsSpec)

/-- ITS FALSE NEIGHBOUR: 'it returns false'. Refute it at one input. -/
def turnSortsWrong : ChangeSpec := { name := "turnSorts", fn := fun _ => fun
  | [d] => { results := [.lit (.bool false)], args := [d] }
  | _ => none }
def TurnSortsWrongFalsely : Prop := turnSortsRow.holds Try.pinned (OpenSpec.ofChange turnSortsWrong)

/- THE SECOND FORM. 'bulk': how many values and letters a reading holds, each counted each time it is reached (what is shared counts as often as it is met; a slice's spare places count too). A statement '..UptoSaid' is the law's where the arguments, and the package variables that the reading takes, are together of bulk at most 1048576: NARROWER than '..Said'. Prove '..Said' where nothing that the law and all that it calls make is longer than what came in: it says more and counts as full. Else prove '..UptoSaid'. A law counts once. -/
mutual
def uptoBulk {H : Type} : DataW H → Nat
  | .lit (.string bytes) => bytes.length + 1
  | .lit _ => 1
  | .nil => 1
  | .ptr d => uptoBulk d + 1
  | .slice elems spare => uptoBulkAll elems + uptoBulkAll spare + 1
  | .agg parts => uptoBulkAll parts + 1
  | .iface _ d => uptoBulk d + 1
  | .map entries => uptoBulkEntries entries + 1
  | .held _ => 1
def uptoBulkAll {H : Type} : List (DataW H) → Nat
  | [] => 0
  | d :: r => uptoBulk d + uptoBulkAll r
def uptoBulkEntries {H : Type} : List (Lit × DataW H) → Nat
  | [] => 0
  | x :: r => uptoBulkEntry x + uptoBulkEntries r
def uptoBulkEntry {H : Type} : Lit × DataW H → Nat
  | (.string bytes, d) => bytes.length + uptoBulk d + 1
  | (_, d) => uptoBulk d + 1
 end
def uptoSmall : (H : Type) → List (DataW H) → Bool := fun _ ds => decide (uptoBulkAll ds ≤ 1048576)
def OpenSpec.upto (s : _root_.Go.ChangeSpec) : _root_.Go.OpenSpec := { _root_.Go.OpenSpec.ofChange s with cond := some uptoSmall }

/-- 'colonnadelaw19.TurnLate', WHERE WHAT IT READS IS OF BULK AT MOST 1048576: true; the input reads as it did. -/
def turnLateUptoRow : OpenClaim := { program := "ytddgakjcigefoaa", sum := "e2cc05b5fa400634d3f442049d1779b2b10f69828dcd7ae7d7e6c099719dc761", func := "colonnade/colonnadelaw19.TurnLate", spec := "turnLate", apart := false, narrowed := true }
def TurnLateUptoSaid : Prop := turnLateUptoRow.holds Try.pinned (OpenSpec.upto turnLateSpec)

/-- 'colonnadelaw19.TurnRanks', WHERE WHAT IT READS IS OF BULK AT MOST 1048576: true; the input reads as it did. -/
def turnRanksUptoRow : OpenClaim := { program := "ytddgakjcigefoaa", sum := "e2cc05b5fa400634d3f442049d1779b2b10f69828dcd7ae7d7e6c099719dc761", func := "colonnade/colonnadelaw19.TurnRanks", spec := "turnRanks", apart := false, narrowed := true }
def TurnRanksUptoSaid : Prop := turnRanksUptoRow.holds Try.pinned (OpenSpec.upto turnRanksSpec)

/-- 'colonnadelaw19.TurnOrders', WHERE WHAT IT READS IS OF BULK AT MOST 1048576: true; the input reads as it did. -/
def turnOrdersUptoRow : OpenClaim := { program := "ytddgakjcigefoaa", sum := "e2cc05b5fa400634d3f442049d1779b2b10f69828dcd7ae7d7e6c099719dc761", func := "colonnade/colonnadelaw19.TurnOrders", spec := "turnOrders", apart := false, narrowed := true }
def TurnOrdersUptoSaid : Prop := turnOrdersUptoRow.holds Try.pinned (OpenSpec.upto turnOrdersSpec)

/-- 'colonnadelaw19.TurnSorts', WHERE WHAT IT READS IS OF BULK AT MOST 1048576: true; the input reads as it did. -/
def turnSortsUptoRow : OpenClaim := { program := "ytddgakjcigefoaa", sum := "e2cc05b5fa400634d3f442049d1779b2b10f69828dcd7ae7d7e6c099719dc761", func := "colonnade/colonnadelaw19.TurnSorts", spec := "turnSorts", unfollowed := true, recurses := true, apart := false, narrowed := true }
def TurnSortsUptoSaid : Prop := turnSortsUptoRow.holds Try.pinned (OpenSpec.upto turnSortsSpec)

end Rows
end Go.Proofs.Ytddgakjcigefoaa
