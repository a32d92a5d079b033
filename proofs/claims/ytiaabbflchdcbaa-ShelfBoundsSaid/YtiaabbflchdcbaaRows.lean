/-
  No cell of these rows narrows 'for every input' (looked for: loops, veiled, ifaces, maps, wideKeys, modest, calm, conditions, laid).
  DERIVED. THE GIVEN ROWS OF THIS SEAT. 5 by the template 'for every input the law returns true; each argument reads behind the call as it read before'; 0 by the template 'total and deterministic' (their statements: YtiaabbflchdcbaaTotals.lean).
  GIVEN WITH THE SEED: the statements are not yours to turn. If you find one false, say at which input.
  Laid BY PROGRAM, IN A SANDBOX (cutbox-rows.mjs): the forced cells as the released guide's own fill.sh prints them over the translation 5bed683283a47d7b… (all of the seat's roots in one cut). By AI agents, Wed Nov 11 2026. No macro, syntax, notation, axiom, sorry.
-/
import Derived.Test.YtiaabbflchdcbaaChecked
import GoSem.Claim
import GoSem.ClaimJoined
import GoSem.ClaimMapViews
import Derived.JoinedTies
import Derived.KernelRfl
namespace Go.Proofs.Ytiaabbflchdcbaa
/- THE CELL 'sum', in the pinned program and in every row, IS THE sha256 OF THE DUMP (.gsa) THAT YtiaabbflchdcbaaProg.lean LOADS. Nothing in Lean hashes anything: it is a label: what it is worth is what the hold of that sum in a sandbox is worth. -/
noncomputable def Try.pinned : Pinned := { name := "ytiaabbflchdcbaa", sum := "5bed683283a47d7baea92f8ac5e2b1d11a0c6145128152ddfafc28f496295cbd", checked := Try.checked }
namespace Rows
def none {H : Type} : Left H := { results := [], args := [] }

/-- 'colonnadelaw18.ShelfBounds': WHATEVER THE INPUT: true; the input reads as it did. -/
def shelfBoundsSpec : ChangeSpec := { name := "shelfBounds", fn := fun _ => fun
  | [d1, d2] => { results := [.lit (.bool true)], args := [d1, d2] }
  | _ => none }
def shelfBoundsRow : OpenClaim := { program := "ytiaabbflchdcbaa", sum := "5bed683283a47d7baea92f8ac5e2b1d11a0c6145128152ddfafc28f496295cbd", func := "colonnade/colonnadelaw18.ShelfBounds", spec := "shelfBounds", unfollowed := true, recurses := true, plainKeys := false, apart := false }
def ShelfBoundsSaid : Prop := shelfBoundsRow.holds Try.pinned (OpenSpec.ofChange shelfBoundsSpec)

/-- ITS FALSE NEIGHBOUR: 'it returns false'. Refute it at one input. -/
def shelfBoundsWrong : ChangeSpec := { name := "shelfBounds", fn := fun _ => fun
  | [d1, d2] => { results := [.lit (.bool false)], args := [d1, d2] }
  | _ => none }
def ShelfBoundsWrongFalsely : Prop := shelfBoundsRow.holds Try.pinned (OpenSpec.ofChange shelfBoundsWrong)

/-- 'colonnadelaw18.ShelfOldest': WHATEVER THE INPUT: true; the input reads as it did. -/
def shelfOldestSpec : ChangeSpec := { name := "shelfOldest", fn := fun _ => fun
  | [d1, d2] => { results := [.lit (.bool true)], args := [d1, d2] }
  | _ => none }
def shelfOldestRow : OpenClaim := { program := "ytiaabbflchdcbaa", sum := "5bed683283a47d7baea92f8ac5e2b1d11a0c6145128152ddfafc28f496295cbd", func := "colonnade/colonnadelaw18.ShelfOldest", spec := "shelfOldest", unfollowed := true, recurses := true, plainKeys := false, apart := false }
def ShelfOldestSaid : Prop := shelfOldestRow.holds Try.pinned (OpenSpec.ofChange shelfOldestSpec)

/-- ITS FALSE NEIGHBOUR: 'it returns false'. Refute it at one input. -/
def shelfOldestWrong : ChangeSpec := { name := "shelfOldest", fn := fun _ => fun
  | [d1, d2] => { results := [.lit (.bool false)], args := [d1, d2] }
  | _ => none }
def ShelfOldestWrongFalsely : Prop := shelfOldestRow.holds Try.pinned (OpenSpec.ofChange shelfOldestWrong)

/-- 'colonnadelaw18.ShelfRuns': WHATEVER THE INPUT: true; the input reads as it did. -/
def shelfRunsSpec : ChangeSpec := { name := "shelfRuns", fn := fun _ => fun
  | [d1, d2, d3, d4] => { results := [.lit (.bool true)], args := [d1, d2, d3, d4] }
  | _ => none }
def shelfRunsRow : OpenClaim := { program := "ytiaabbflchdcbaa", sum := "5bed683283a47d7baea92f8ac5e2b1d11a0c6145128152ddfafc28f496295cbd", func := "colonnade/colonnadelaw18.ShelfRuns", spec := "shelfRuns", unfollowed := true, recurses := true, plainKeys := false, apart := false }
def ShelfRunsSaid : Prop := shelfRunsRow.holds Try.pinned (OpenSpec.ofChange shelfRunsSpec)

/-- ITS FALSE NEIGHBOUR: 'it returns false'. Refute it at one input. -/
def shelfRunsWrong : ChangeSpec := { name := "shelfRuns", fn := fun _ => fun
  | [d1, d2, d3, d4] => { results := [.lit (.bool false)], args := [d1, d2, d3, d4] }
  | _ => none }
def ShelfRunsWrongFalsely : Prop := shelfRunsRow.holds Try.pinned (OpenSpec.ofChange shelfRunsWrong)

/-- 'colonnadelaw18.ShelfDrops': WHATEVER THE INPUT: true; the input reads as it did. -/
def shelfDropsSpec : ChangeSpec := { name := "shelfDrops", fn := fun _ => fun
  | [d1, d2] => { results := [.lit (.bool true)], args := [d1, d2] }
  | _ => none }
def shelfDropsRow : OpenClaim := { program := "ytiaabbflchdcbaa", sum := "5bed683283a47d7baea92f8ac5e2b1d11a0c6145128152ddfafc28f496295cbd", func := "colonnade/colonnadelaw18.ShelfDrops", spec := "shelfDrops", unfollowed := true, recurses := true, plainKeys := false, apart := false }
def ShelfDropsSaid : Prop := shelfDropsRow.holds Try.pinned (OpenSpec.ofChange shelfDropsSpec)

/-- ITS FALSE NEIGHBOUR: 'it returns false'. Refute it at one input. -/
def shelfDropsWrong : ChangeSpec := { name := "shelfDrops", fn := fun _ => fun
  | [d1, d2] => { results := [.lit (.bool false)], args := [d1, d2] }
  | _ => none }
def ShelfDropsWrongFalsely : Prop := shelfDropsRow.holds Try.pinned (OpenSpec.ofChange shelfDropsWrong)

/-- 'colonnadelaw18.ShelfPlays': WHATEVER THE INPUT: true; the input reads as it did. -/
def shelfPlaysSpec : ChangeSpec := { name := "shelfPlays", fn := fun _ => fun
  | [d1, d2] => { results := [.lit (.bool true)], args := [d1, d2] }
  | _ => none }
def shelfPlaysRow : OpenClaim := { program := "ytiaabbflchdcbaa", sum := "5bed683283a47d7baea92f8ac5e2b1d11a0c6145128152ddfafc28f496295cbd", func := "colonnade/colonnadelaw18.ShelfPlays", spec := "shelfPlays", unfollowed := true, recurses := true, plainKeys := false, apart := false }
def ShelfPlaysSaid : Prop := shelfPlaysRow.holds Try.pinned (OpenSpec.ofChange shelfPlaysSpec)

/-- ITS FALSE NEIGHBOUR: 'it returns false'. Refute it at one input. -/
def shelfPlaysWrong : ChangeSpec := { name := "shelfPlays", fn := fun _ => fun
  | [d1, d2] => { results := [.lit (.bool false)], args := [d1, d2] }
  | _ => none }
def ShelfPlaysWrongFalsely : Prop := shelfPlaysRow.holds Try.pinned (OpenSpec.ofChange shelfPlaysWrong)

/- THE SECOND FORM. 'bulk': how many values and letters a reading holds, each counted each time it is reached (what is shared counts as often as it is met; a slice's spare places count too). A statement '..UptoSaid' is the law's where the arguments, and the package variables that the reading takes, are together of bulk at most 1048576: NARROWER than '..Said'. Prove '..Said' where nothing that the law and all that it calls make is longer than what came in: it says more and counts as full. Else prove '..UptoSaid'. A law counts once. -/
mutual
def uptoBulk {H : Type} : DataW H → Nat
  | .lit (.string bytes) => bytes.length + 1
  | .lit _ => 1
  | .nil => 1
  | .ptr d => uptoBulk d + 1
  | .slice elems spare => uptoBulkAll elems + uptoBulkAll spare + 1
  | .agg parts => uptoBulkAll parts + 1
  | .iface _ d => uptoBulk d + 1
  | .map entries => uptoBulkEntries entries + 1
  | .held _ => 1
def uptoBulkAll {H : Type} : List (DataW H) → Nat
  | [] => 0
  | d :: r => uptoBulk d + uptoBulkAll r
def uptoBulkEntries {H : Type} : List (Lit × DataW H) → Nat
  | [] => 0
  | x :: r => uptoBulkEntry x + uptoBulkEntries r
def uptoBulkEntry {H : Type} : Lit × DataW H → Nat
  | (.string bytes, d) => bytes.length + uptoBulk d + 1
  | (_, d) => uptoBulk d + 1
 end
def uptoSmall : (H : Type) → List (DataW H) → Bool := fun _ ds => decide (uptoBulkAll ds ≤ 1048576)
def OpenSpec.upto (s : _root_.Go.ChangeSpec) : _root_.Go.OpenSpec := { _root_.Go.OpenSpec.ofChange s with cond := some uptoSmall }

/-- 'colonnadelaw18.ShelfBounds', WHERE WHAT IT READS IS OF BULK AT MOST 1048576: true; the input reads as it did. -/
def shelfBoundsUptoRow : OpenClaim := { program := "ytiaabbflchdcbaa", sum := "5bed683283a47d7baea92f8ac5e2b1d11a0c6145128152ddfafc28f496295cbd", func := "colonnade/colonnadelaw18.ShelfBounds", spec := "shelfBounds", unfollowed := true, recurses := true, plainKeys := false, apart := false, narrowed := true }
def ShelfBoundsUptoSaid : Prop := shelfBoundsUptoRow.holds Try.pinned (OpenSpec.upto shelfBoundsSpec)

/-- 'colonnadelaw18.ShelfOldest', WHERE WHAT IT READS IS OF BULK AT MOST 1048576: true; the input reads as it did. -/
def shelfOldestUptoRow : OpenClaim := { program := "ytiaabbflchdcbaa", sum := "5bed683283a47d7baea92f8ac5e2b1d11a0c6145128152ddfafc28f496295cbd", func := "colonnade/colonnadelaw18.ShelfOldest", spec := "shelfOldest", unfollowed := true, recurses := true, plainKeys := false, apart := false, narrowed := true }
def ShelfOldestUptoSaid : Prop := shelfOldestUptoRow.holds Try.pinned (OpenSpec.upto shelfOldestSpec)

/-- 'colonnadelaw18.ShelfRuns', WHERE WHAT IT READS IS OF BULK AT MOST 1048576: true; the input reads as it did. -/
def shelfRunsUptoRow : OpenClaim := { program := "ytiaabbflchdcbaa", sum := "5bed683283a47d7baea92f8ac5e2b1d11a0c6145128152ddfafc28f496295cbd", func := "colonnade/colonnadelaw18.ShelfRuns", spec := "shelfRuns", unfollowed := true, recurses := true, plainKeys := false, apart := false, narrowed := true }
def ShelfRunsUptoSaid : Prop := shelfRunsUptoRow.holds Try.pinned (OpenSpec.upto shelfRunsSpec)

/-- 'colonnadelaw18.ShelfDrops', WHERE WHAT IT READS IS OF BULK AT MOST 1048576: true; the input reads as it did. -/
def shelfDropsUptoRow : OpenClaim := { program := "ytiaabbflchdcbaa", sum := "5bed683283a47d7baea92f8ac5e2b1d11a0c6145128152ddfafc28f496295cbd", func := "colonnade/colonnadelaw18.ShelfDrops", spec := "shelfDrops", unfollowed := true, recurses := true, plainKeys := false, apart := false, narrowed := true }
def ShelfDropsUptoSaid : Prop := shelfDropsUptoRow.holds Try.pinned (OpenSpec.upto shelfDropsSpec)

/-- 'colonnadelaw18.ShelfPlays', WHERE WHAT IT READS IS OF BULK AT MOST 1048576: true; the input reads as it did. -/
def shelfPlaysUptoRow : OpenClaim := { program := "ytiaabbflchdcbaa", sum := "5bed683283a47d7baea92f8ac5e2b1d11a0c6145128152ddfafc28f496295cbd", func := "colonnade/colonnadelaw18.ShelfPlays", spec := "shelfPlays", unfollowed := true, recurses := true, plainKeys := false, apart := false, narrowed := true }
def ShelfPlaysUptoSaid : Prop := shelfPlaysUptoRow.holds Try.pinned (OpenSpec.upto shelfPlaysSpec)

end Rows
end Go.Proofs.Ytiaabbflchdcbaa
