/-
  No cell of these rows narrows 'for every input' (looked for: loops, veiled, ifaces, maps, wideKeys, modest, calm, conditions, laid).
  DERIVED. THE GIVEN ROWS OF THIS SEAT. 6 by the template 'for every input the law returns true; each argument reads behind the call as it read before'; 0 by the template 'total and deterministic' (their statements: YthmdbkefbbjfmaaTotals.lean).
  GIVEN WITH THE SEED: the statements are not yours to turn. If you find one false, say at which input.
  Laid BY PROGRAM, IN A SANDBOX (cutbox-rows.mjs): the forced cells as the released guide's own fill.sh prints them over the translation 4ee6113257829c18… (all of the seat's roots in one cut). By AI agents, Wed Nov 11 2026. No macro, syntax, notation, axiom, sorry.
-/
import Derived.Test.YthmdbkefbbjfmaaChecked
import GoSem.Claim
import GoSem.ClaimJoined
import GoSem.ClaimMapViews
import Derived.JoinedTies
import Derived.KernelRfl
namespace Go.Proofs.Ythmdbkefbbjfmaa
/- THE CELL 'sum', in the pinned program and in every row, IS THE sha256 OF THE DUMP (.gsa) THAT YthmdbkefbbjfmaaProg.lean LOADS. Nothing in Lean hashes anything: it is a label: what it is worth is what the hold of that sum in a sandbox is worth. -/
noncomputable def Try.pinned : Pinned := { name := "ythmdbkefbbjfmaa", sum := "4ee6113257829c18078b0d632f237fee0850bca590347b6d8dff0f58da4aecb9", checked := Try.checked }
namespace Rows
def none {H : Type} : Left H := { results := [], args := [] }

/-- 'colonnadelaw16.ItemBytes': WHATEVER THE INPUT: true; the input reads as it did. -/
def itemBytesSpec : ChangeSpec := { name := "itemBytes", fn := fun _ => fun
  | [d1, d2, d3] => { results := [.lit (.bool true)], args := [d1, d2, d3] }
  | _ => none }
def itemBytesRow : OpenClaim := { program := "ythmdbkefbbjfmaa", sum := "4ee6113257829c18078b0d632f237fee0850bca590347b6d8dff0f58da4aecb9", func := "colonnade/colonnadelaw16.ItemBytes", spec := "itemBytes", apart := false }
def ItemBytesSaid : Prop := itemBytesRow.holds Try.pinned (OpenSpec.ofChange itemBytesSpec)

/-- ITS FALSE NEIGHBOUR: 'it returns false'. Refute it at one input. -/
def itemBytesWrong : ChangeSpec := { name := "itemBytes", fn := fun _ => fun
  | [d1, d2, d3] => { results := [.lit (.bool false)], args := [d1, d2, d3] }
  | _ => none }
def ItemBytesWrongFalsely : Prop := itemBytesRow.holds Try.pinned (OpenSpec.ofChange itemBytesWrong)

/-- 'colonnadelaw16.ItemGrams': WHATEVER THE INPUT: true; the input reads as it did. -/
def itemGramsSpec : ChangeSpec := { name := "itemGrams", fn := fun _ => fun
  | [d1, d2, d3] => { results := [.lit (.bool true)], args := [d1, d2, d3] }
  | _ => none }
def itemGramsRow : OpenClaim := { program := "ythmdbkefbbjfmaa", sum := "4ee6113257829c18078b0d632f237fee0850bca590347b6d8dff0f58da4aecb9", func := "colonnade/colonnadelaw16.ItemGrams", spec := "itemGrams", apart := false }
def ItemGramsSaid : Prop := itemGramsRow.holds Try.pinned (OpenSpec.ofChange itemGramsSpec)

/-- ITS FALSE NEIGHBOUR: 'it returns false'. Refute it at one input. -/
def itemGramsWrong : ChangeSpec := { name := "itemGrams", fn := fun _ => fun
  | [d1, d2, d3] => { results := [.lit (.bool false)], args := [d1, d2, d3] }
  | _ => none }
def ItemGramsWrongFalsely : Prop := itemGramsRow.holds Try.pinned (OpenSpec.ofChange itemGramsWrong)

/-- 'colonnadelaw16.ItemFalls': WHATEVER THE INPUT: true; the input reads as it did. -/
def itemFallsSpec : ChangeSpec := { name := "itemFalls", fn := fun _ => fun
  | [d1, d2, d3] => { results := [.lit (.bool true)], args := [d1, d2, d3] }
  | _ => none }
def itemFallsRow : OpenClaim := { program := "ythmdbkefbbjfmaa", sum := "4ee6113257829c18078b0d632f237fee0850bca590347b6d8dff0f58da4aecb9", func := "colonnade/colonnadelaw16.ItemFalls", spec := "itemFalls", apart := false }
def ItemFallsSaid : Prop := itemFallsRow.holds Try.pinned (OpenSpec.ofChange itemFallsSpec)

/-- ITS FALSE NEIGHBOUR: 'it returns false'. Refute it at one input. -/
def itemFallsWrong : ChangeSpec := { name := "itemFalls", fn := fun _ => fun
  | [d1, d2, d3] => { results := [.lit (.bool false)], args := [d1, d2, d3] }
  | _ => none }
def ItemFallsWrongFalsely : Prop := itemFallsRow.holds Try.pinned (OpenSpec.ofChange itemFallsWrong)

/-- 'colonnadelaw16.ItemEnds': WHATEVER THE INPUT: true; the input reads as it did. -/
def itemEndsSpec : ChangeSpec := { name := "itemEnds", fn := fun _ => fun
  | [d1, d2, d3] => { results := [.lit (.bool true)], args := [d1, d2, d3] }
  | _ => none }
def itemEndsRow : OpenClaim := { program := "ythmdbkefbbjfmaa", sum := "4ee6113257829c18078b0d632f237fee0850bca590347b6d8dff0f58da4aecb9", func := "colonnade/colonnadelaw16.ItemEnds", spec := "itemEnds", apart := false }
def ItemEndsSaid : Prop := itemEndsRow.holds Try.pinned (OpenSpec.ofChange itemEndsSpec)

/-- ITS FALSE NEIGHBOUR: 'it returns false'. Refute it at one input. -/
def itemEndsWrong : ChangeSpec := { name := "itemEnds", fn := fun _ => fun
  | [d1, d2, d3] => { results := [.lit (.bool false)], args := [d1, d2, d3] }
  | _ => none }
def ItemEndsWrongFalsely : Prop := itemEndsRow.holds Try.pinned (OpenSpec.ofChange itemEndsWrong)

/-- 'colonnadelaw16.ItemStreams': WHATEVER THE INPUT: true; the input reads as it did. -/
def itemStreamsSpec : ChangeSpec := { name := "itemStreams", fn := fun _ => fun
  | [d1, d2] => { results := [.lit (.bool true)], args := [d1, d2] }
  | _ => none }
def itemStreamsRow : OpenClaim := { program := "ythmdbkefbbjfmaa", sum := "4ee6113257829c18078b0d632f237fee0850bca590347b6d8dff0f58da4aecb9", func := "colonnade/colonnadelaw16.ItemStreams", spec := "itemStreams", apart := false }
def ItemStreamsSaid : Prop := itemStreamsRow.holds Try.pinned (OpenSpec.ofChange itemStreamsSpec)

/-- ITS FALSE NEIGHBOUR: 'it returns false'. Refute it at one input. -/
def itemStreamsWrong : ChangeSpec := { name := "itemStreams", fn := fun _ => fun
  | [d1, d2] => { results := [.lit (.bool false)], args := [d1, d2] }
  | _ => none }
def ItemStreamsWrongFalsely : Prop := itemStreamsRow.holds Try.pinned (OpenSpec.ofChange itemStreamsWrong)

/-- 'colonnadelaw16.ItemBack': WHATEVER THE INPUT: true; the input reads as it did. -/
def itemBackSpec : ChangeSpec := { name := "itemBack", fn := fun _ => fun
  | [d1, d2, d3] => { results := [.lit (.bool true)], args := [d1, d2, d3] }
  | _ => none }
def itemBackRow : OpenClaim := { program := "ythmdbkefbbjfmaa", sum := "4ee6113257829c18078b0d632f237fee0850bca590347b6d8dff0f58da4aecb9", func := "colonnade/colonnadelaw16.ItemBack", spec := "itemBack", apart := false }
def ItemBackSaid : Prop := itemBackRow.holds Try.pinned (OpenSpec.ofChange itemBackSpec)

/-- ITS FALSE NEIGHBOUR: 'it returns false'. Refute it at one input. -/
def itemBackWrong : ChangeSpec := { name := "itemBack", fn := fun _ => fun
  | [d1, d2, d3] => { results := [.lit (.bool false)], args := [d1, d2, d3] }
  | _ => none }
def ItemBackWrongFalsely : Prop := itemBackRow.holds Try.pinned (OpenSpec.ofChange itemBackWrong)

/- THE SECOND FORM. 'bulk': how many values and letters a reading holds, each counted each time it is reached (what is shared counts as often as it is met; a slice's spare places count too). A statement '..UptoSaid' is the law's where the arguments, and the package variables that the reading takes, are together of bulk at most 1048576: NARROWER than '..Said'. Prove '..Said' where nothing that the law and all that it calls make is longer than what came in: it says more and counts as full. Else prove '..UptoSaid'. A law counts once. -/
mutual
def uptoBulk {H : Type} : DataW H → Nat
  | .lit (.string bytes) => bytes.length + 1
  | .lit _ => 1
  | .nil => 1
  | .ptr d => uptoBulk d + 1
  | .slice elems spare => uptoBulkAll elems + uptoBulkAll spare + 1
  | .agg parts => uptoBulkAll parts + 1
  | .iface _ d => uptoBulk d + 1
  | .map entries => uptoBulkEntries entries + 1
  | .held _ => 1
def uptoBulkAll {H : Type} : List (DataW H) → Nat
  | [] => 0
  | d :: r => uptoBulk d + uptoBulkAll r
def uptoBulkEntries {H : Type} : List (Lit × DataW H) → Nat
  | [] => 0
  | x :: r => uptoBulkEntry x + uptoBulkEntries r
def uptoBulkEntry {H : Type} : Lit × DataW H → Nat
  | (.string bytes, d) => bytes.length + uptoBulk d + 1
  | (_, d) => uptoBulk d + 1
 end
def uptoSmall : (H : Type) → List (DataW H) → Bool := fun _ ds => decide (uptoBulkAll ds ≤ 1048576)
def OpenSpec.upto (s : _root_.Go.ChangeSpec) : _root_.Go.OpenSpec := { _root_.Go.OpenSpec.ofChange s with cond := some uptoSmall }

/-- 'colonnadelaw16.ItemBytes', WHERE WHAT IT READS IS OF BULK AT MOST 1048576: true; the input reads as it did. -/
def itemBytesUptoRow : OpenClaim := { program := "ythmdbkefbbjfmaa", sum := "4ee6113257829c18078b0d632f237fee0850bca590347b6d8dff0f58da4aecb9", func := "colonnade/colonnadelaw16.ItemBytes", spec := "itemBytes", apart := false, narrowed := true }
def ItemBytesUptoSaid : Prop := itemBytesUptoRow.holds Try.pinned (OpenSpec.upto itemBytesSpec)

/-- 'colonnadelaw16.ItemGrams', WHERE WHAT IT READS IS OF BULK AT MOST 1048576: true; the input reads as it did. -/
def itemGramsUptoRow : OpenClaim := { program := "ythmdbkefbbjfmaa", sum := "4ee6113257829c18078b0d632f237fee0850bca590347b6d8dff0f58da4aecb9", func := "colonnade/colonnadelaw16.ItemGrams", spec := "itemGrams", apart := false, narrowed := true }
def ItemGramsUptoSaid : Prop := itemGramsUptoRow.holds Try.pinned (OpenSpec.upto itemGramsSpec)

/-- 'colonnadelaw16.ItemFalls', WHERE WHAT IT READS IS OF BULK AT MOST 1048576: true; the input reads as it did. -/
def itemFallsUptoRow : OpenClaim := { program := "ythmdbkefbbjfmaa", sum := "4ee6113257829c18078b0d632f237fee0850bca590347b6d8dff0f58da4aecb9", func := "colonnade/colonnadelaw16.ItemFalls", spec := "itemFalls", apart := false, narrowed := true }
def ItemFallsUptoSaid : Prop := itemFallsUptoRow.holds Try.pinned (OpenSpec.upto itemFallsSpec)

/-- 'colonnadelaw16.ItemEnds', WHERE WHAT IT READS IS OF BULK AT MOST 1048576: true; the input reads as it did. -/
def itemEndsUptoRow : OpenClaim := { program := "ythmdbkefbbjfmaa", sum := "4ee6113257829c18078b0d632f237fee0850bca590347b6d8dff0f58da4aecb9", func := "colonnade/colonnadelaw16.ItemEnds", spec := "itemEnds", apart := false, narrowed := true }
def ItemEndsUptoSaid : Prop := itemEndsUptoRow.holds Try.pinned (OpenSpec.upto itemEndsSpec)

/-- 'colonnadelaw16.ItemStreams', WHERE WHAT IT READS IS OF BULK AT MOST 1048576: true; the input reads as it did. -/
def itemStreamsUptoRow : OpenClaim := { program := "ythmdbkefbbjfmaa", sum := "4ee6113257829c18078b0d632f237fee0850bca590347b6d8dff0f58da4aecb9", func := "colonnade/colonnadelaw16.ItemStreams", spec := "itemStreams", apart := false, narrowed := true }
def ItemStreamsUptoSaid : Prop := itemStreamsUptoRow.holds Try.pinned (OpenSpec.upto itemStreamsSpec)

/-- 'colonnadelaw16.ItemBack', WHERE WHAT IT READS IS OF BULK AT MOST 1048576: true; the input reads as it did. -/
def itemBackUptoRow : OpenClaim := { program := "ythmdbkefbbjfmaa", sum := "4ee6113257829c18078b0d632f237fee0850bca590347b6d8dff0f58da4aecb9", func := "colonnade/colonnadelaw16.ItemBack", spec := "itemBack", apart := false, narrowed := true }
def ItemBackUptoSaid : Prop := itemBackUptoRow.holds Try.pinned (OpenSpec.upto itemBackSpec)

end Rows
end Go.Proofs.Ythmdbkefbbjfmaa
