/-
  No cell of these rows narrows 'for every input' (looked for: loops, veiled, ifaces, maps, wideKeys, modest, calm, conditions, laid).
  DERIVED. THE GIVEN ROWS OF THIS SEAT. 6 by the template 'for every input the law returns true; each argument reads behind the call as it read before'; 0 by the template 'total and deterministic' (their statements: YtcmkegkljappfaaTotals.lean).
  GIVEN WITH THE SEED: the statements are not yours to turn. If you find one false, say at which input.
  Laid BY PROGRAM, IN A SANDBOX (cutbox-rows.mjs): the forced cells as the released guide's own fill.sh prints them over the translation f6a748abc856a9a4… (all of the seat's roots in one cut). By AI agents, Wed Nov 11 2026. No macro, syntax, notation, axiom, sorry.
-/
import Derived.Test.YtcmkegkljappfaaChecked
import GoSem.Claim
import GoSem.ClaimJoined
import GoSem.ClaimMapViews
import Derived.JoinedTies
import Derived.KernelRfl
namespace Go.Proofs.Ytcmkegkljappfaa
/- THE CELL 'sum', in the pinned program and in every row, IS THE sha256 OF THE DUMP (.gsa) THAT YtcmkegkljappfaaProg.lean LOADS. Nothing in Lean hashes anything: it is a label: what it is worth is what the hold of that sum in a sandbox is worth. -/
noncomputable def Try.pinned : Pinned := { name := "ytcmkegkljappfaa", sum := "f6a748abc856a9a4f38c9e1d3bf6c6a939b1803e9d39e5b16e41c3a7d4dcd7c0", checked := Try.checked }
namespace Rows
def none {H : Type} : Left H := { results := [], args := [] }

/-- 'colonnadelaw07.SpanOrder': WHATEVER THE INPUT: true; the input reads as it did. -/
def spanOrderSpec : ChangeSpec := { name := "spanOrder", fn := fun _ => fun
  | [d] => { results := [.lit (.bool true)], args := [d] }
  | _ => none }
def spanOrderRow : OpenClaim := { program := "ytcmkegkljappfaa", sum := "f6a748abc856a9a4f38c9e1d3bf6c6a939b1803e9d39e5b16e41c3a7d4dcd7c0", func := "colonnade/colonnadelaw07.SpanOrder", spec := "spanOrder", inPlace := ["slices.overlaps[colonnade/api.Range]"], unfollowed := true, recurses := true, apart := false }
def SpanOrderSaid : Prop := spanOrderRow.holds Try.pinned (OpenSpec.ofChange spanOrderSpec)

/-- ITS FALSE NEIGHBOUR: 'it returns false'. Refute it at one input. -/
def spanOrderWrong : ChangeSpec := { name := "spanOrder", fn := fun _ => fun
  | [d] => { results := [.lit (.bool false)], args := [d] }
  | _ => none }
def SpanOrderWrongFalsely : Prop := spanOrderRow.holds Try.pinned (OpenSpec.ofChange spanOrderWrong)

/-- 'colonnadelaw07.SpanApart': WHATEVER THE INPUT: true; the input reads as it did. -/
def spanApartSpec : ChangeSpec := { name := "spanApart", fn := fun _ => fun
  | [d] => { results := [.lit (.bool true)], args := [d] }
  | _ => none }
def spanApartRow : OpenClaim := { program := "ytcmkegkljappfaa", sum := "f6a748abc856a9a4f38c9e1d3bf6c6a939b1803e9d39e5b16e41c3a7d4dcd7c0", func := "colonnade/colonnadelaw07.SpanApart", spec := "spanApart", inPlace := ["slices.overlaps[colonnade/api.Range]"], unfollowed := true, recurses := true, apart := false }
def SpanApartSaid : Prop := spanApartRow.holds Try.pinned (OpenSpec.ofChange spanApartSpec)

/-- ITS FALSE NEIGHBOUR: 'it returns false'. Refute it at one input. -/
def spanApartWrong : ChangeSpec := { name := "spanApart", fn := fun _ => fun
  | [d] => { results := [.lit (.bool false)], args := [d] }
  | _ => none }
def SpanApartWrongFalsely : Prop := spanApartRow.holds Try.pinned (OpenSpec.ofChange spanApartWrong)

/-- 'colonnadelaw07.SpanTrims': WHATEVER THE INPUT: true; the input reads as it did. -/
def spanTrimsSpec : ChangeSpec := { name := "spanTrims", fn := fun _ => fun
  | [d1, d2] => { results := [.lit (.bool true)], args := [d1, d2] }
  | _ => none }
def spanTrimsRow : OpenClaim := { program := "ytcmkegkljappfaa", sum := "f6a748abc856a9a4f38c9e1d3bf6c6a939b1803e9d39e5b16e41c3a7d4dcd7c0", func := "colonnade/colonnadelaw07.SpanTrims", spec := "spanTrims", inPlace := ["slices.overlaps[colonnade/api.Range]"], unfollowed := true, recurses := true, apart := false }
def SpanTrimsSaid : Prop := spanTrimsRow.holds Try.pinned (OpenSpec.ofChange spanTrimsSpec)

/-- ITS FALSE NEIGHBOUR: 'it returns false'. Refute it at one input. -/
def spanTrimsWrong : ChangeSpec := { name := "spanTrims", fn := fun _ => fun
  | [d1, d2] => { results := [.lit (.bool false)], args := [d1, d2] }
  | _ => none }
def SpanTrimsWrongFalsely : Prop := spanTrimsRow.holds Try.pinned (OpenSpec.ofChange spanTrimsWrong)

/-- 'colonnadelaw07.SpanHoles': WHATEVER THE INPUT: true; the input reads as it did. -/
def spanHolesSpec : ChangeSpec := { name := "spanHoles", fn := fun _ => fun
  | [d] => { results := [.lit (.bool true)], args := [d] }
  | _ => none }
def spanHolesRow : OpenClaim := { program := "ytcmkegkljappfaa", sum := "f6a748abc856a9a4f38c9e1d3bf6c6a939b1803e9d39e5b16e41c3a7d4dcd7c0", func := "colonnade/colonnadelaw07.SpanHoles", spec := "spanHoles", inPlace := ["slices.overlaps[colonnade/api.Range]"], unfollowed := true, recurses := true, apart := false }
def SpanHolesSaid : Prop := spanHolesRow.holds Try.pinned (OpenSpec.ofChange spanHolesSpec)

/-- ITS FALSE NEIGHBOUR: 'it returns false'. Refute it at one input. -/
def spanHolesWrong : ChangeSpec := { name := "spanHoles", fn := fun _ => fun
  | [d] => { results := [.lit (.bool false)], args := [d] }
  | _ => none }
def SpanHolesWrongFalsely : Prop := spanHolesRow.holds Try.pinned (OpenSpec.ofChange spanHolesWrong)

/-- 'colonnadelaw07.SpanCuts': WHATEVER THE INPUT: true; the input reads as it did. -/
def spanCutsSpec : ChangeSpec := { name := "spanCuts", fn := fun _ => fun
  | [d1, d2, d3, d4] => { results := [.lit (.bool true)], args := [d1, d2, d3, d4] }
  | _ => none }
def spanCutsRow : OpenClaim := { program := "ytcmkegkljappfaa", sum := "f6a748abc856a9a4f38c9e1d3bf6c6a939b1803e9d39e5b16e41c3a7d4dcd7c0", func := "colonnade/colonnadelaw07.SpanCuts", spec := "spanCuts", inPlace := ["slices.overlaps[colonnade/api.Range]"], unfollowed := true, recurses := true, apart := false }
def SpanCutsSaid : Prop := spanCutsRow.holds Try.pinned (OpenSpec.ofChange spanCutsSpec)

/-- ITS FALSE NEIGHBOUR: 'it returns false'. Refute it at one input. -/
def spanCutsWrong : ChangeSpec := { name := "spanCuts", fn := fun _ => fun
  | [d1, d2, d3, d4] => { results := [.lit (.bool false)], args := [d1, d2, d3, d4] }
  | _ => none }
def SpanCutsWrongFalsely : Prop := spanCutsRow.holds Try.pinned (OpenSpec.ofChange spanCutsWrong)

/-- 'colonnadelaw07.SpanPlays': WHATEVER THE INPUT: true; the input reads as it did. -/
def spanPlaysSpec : ChangeSpec := { name := "spanPlays", fn := fun _ => fun
  | [d1, d2, d3, d4] => { results := [.lit (.bool true)], args := [d1, d2, d3, d4] }
  | _ => none }
def spanPlaysRow : OpenClaim := { program := "ytcmkegkljappfaa", sum := "f6a748abc856a9a4f38c9e1d3bf6c6a939b1803e9d39e5b16e41c3a7d4dcd7c0", func := "colonnade/colonnadelaw07.SpanPlays", spec := "spanPlays", inPlace := ["slices.overlaps[colonnade/api.Range]"], unfollowed := true, recurses := true, apart := false }
def SpanPlaysSaid : Prop := spanPlaysRow.holds Try.pinned (OpenSpec.ofChange spanPlaysSpec)

/-- ITS FALSE NEIGHBOUR: 'it returns false'. Refute it at one input. -/
def spanPlaysWrong : ChangeSpec := { name := "spanPlays", fn := fun _ => fun
  | [d1, d2, d3, d4] => { results := [.lit (.bool false)], args := [d1, d2, d3, d4] }
  | _ => none }
def SpanPlaysWrongFalsely : Prop := spanPlaysRow.holds Try.pinned (OpenSpec.ofChange spanPlaysWrong)

/- THE SECOND FORM. 'bulk': how many values and letters a reading holds, each counted each time it is reached (what is shared counts as often as it is met; a slice's spare places count too). A statement '..UptoSaid' is the law's where the arguments, and the package variables that the reading takes, are together of bulk at most 1048576: NARROWER than '..Said'. Prove '..Said' where nothing that the law and all that it calls make is longer than what came in: it says more and counts as full. Else prove '..UptoSaid'. A law counts once. -/
mutual
def uptoBulk {H : Type} : DataW H → Nat
  | .lit (.string bytes) => bytes.length + 1
  | .lit _ => 1
  | .nil => 1
  | .ptr d => uptoBulk d + 1
  | .slice elems spare => uptoBulkAll elems + uptoBulkAll spare + 1
  | .agg parts => uptoBulkAll parts + 1
  | .iface _ d => uptoBulk d + 1
  | .map entries => uptoBulkEntries entries + 1
  | .held _ => 1
def uptoBulkAll {H : Type} : List (DataW H) → Nat
  | [] => 0
  | d :: r => uptoBulk d + uptoBulkAll r
def uptoBulkEntries {H : Type} : List (Lit × DataW H) → Nat
  | [] => 0
  | x :: r => uptoBulkEntry x + uptoBulkEntries r
def uptoBulkEntry {H : Type} : Lit × DataW H → Nat
  | (.string bytes, d) => bytes.length + uptoBulk d + 1
  | (_, d) => uptoBulk d + 1
 end
def uptoSmall : (H : Type) → List (DataW H) → Bool := fun _ ds => decide (uptoBulkAll ds ≤ 1048576)
def OpenSpec.upto (s : _root_.Go.ChangeSpec) : _root_.Go.OpenSpec := { _root_.Go.OpenSpec.ofChange s with cond := some uptoSmall }

/-- 'colonnadelaw07.SpanOrder', WHERE WHAT IT READS IS OF BULK AT MOST 1048576: true; the input reads as it did. -/
def spanOrderUptoRow : OpenClaim := { program := "ytcmkegkljappfaa", sum := "f6a748abc856a9a4f38c9e1d3bf6c6a939b1803e9d39e5b16e41c3a7d4dcd7c0", func := "colonnade/colonnadelaw07.SpanOrder", spec := "spanOrder", inPlace := ["slices.overlaps[colonnade/api.Range]"], unfollowed := true, recurses := true, apart := false, narrowed := true }
def SpanOrderUptoSaid : Prop := spanOrderUptoRow.holds Try.pinned (OpenSpec.upto spanOrderSpec)

/-- 'colonnadelaw07.SpanApart', WHERE WHAT IT READS IS OF BULK AT MOST 1048576: true; the input reads as it did. -/
def spanApartUptoRow : OpenClaim := { program := "ytcmkegkljappfaa", sum := "f6a748abc856a9a4f38c9e1d3bf6c6a939b1803e9d39e5b16e41c3a7d4dcd7c0", func := "colonnade/colonnadelaw07.SpanApart", spec := "spanApart", inPlace := ["slices.overlaps[colonnade/api.Range]"], unfollowed := true, recurses := true, apart := false, narrowed := true }
def SpanApartUptoSaid : Prop := spanApartUptoRow.holds Try.pinned (OpenSpec.upto spanApartSpec)

/-- 'colonnadelaw07.SpanTrims', WHERE WHAT IT READS IS OF BULK AT MOST 1048576: true; the input reads as it did. -/
def spanTrimsUptoRow : OpenClaim := { program := "ytcmkegkljappfaa", sum := "f6a748abc856a9a4f38c9e1d3bf6c6a939b1803e9d39e5b16e41c3a7d4dcd7c0", func := "colonnade/colonnadelaw07.SpanTrims", spec := "spanTrims", inPlace := ["slices.overlaps[colonnade/api.Range]"], unfollowed := true, recurses := true, apart := false, narrowed := true }
def SpanTrimsUptoSaid : Prop := spanTrimsUptoRow.holds Try.pinned (OpenSpec.upto spanTrimsSpec)

/-- 'colonnadelaw07.SpanHoles', WHERE WHAT IT READS IS OF BULK AT MOST 1048576: true; the input reads as it did. -/
def spanHolesUptoRow : OpenClaim := { program := "ytcmkegkljappfaa", sum := "f6a748abc856a9a4f38c9e1d3bf6c6a939b1803e9d39e5b16e41c3a7d4dcd7c0", func := "colonnade/colonnadelaw07.SpanHoles", spec := "spanHoles", inPlace := ["slices.overlaps[colonnade/api.Range]"], unfollowed := true, recurses := true, apart := false, narrowed := true }
def SpanHolesUptoSaid : Prop := spanHolesUptoRow.holds Try.pinned (OpenSpec.upto spanHolesSpec)

/-- 'colonnadelaw07.SpanCuts', WHERE WHAT IT READS IS OF BULK AT MOST 1048576: true; the input reads as it did. -/
def spanCutsUptoRow : OpenClaim := { program := "ytcmkegkljappfaa", sum := "f6a748abc856a9a4f38c9e1d3bf6c6a939b1803e9d39e5b16e41c3a7d4dcd7c0", func := "colonnade/colonnadelaw07.SpanCuts", spec := "spanCuts", inPlace := ["slices.overlaps[colonnade/api.Range]"], unfollowed := true, recurses := true, apart := false, narrowed := true }
def SpanCutsUptoSaid : Prop := spanCutsUptoRow.holds Try.pinned (OpenSpec.upto spanCutsSpec)

/-- 'colonnadelaw07.SpanPlays', WHERE WHAT IT READS IS OF BULK AT MOST 1048576: true; the input reads as it did. -/
def spanPlaysUptoRow : OpenClaim := { program := "ytcmkegkljappfaa", sum := "f6a748abc856a9a4f38c9e1d3bf6c6a939b1803e9d39e5b16e41c3a7d4dcd7c0", func := "colonnade/colonnadelaw07.SpanPlays", spec := "spanPlays", inPlace := ["slices.overlaps[colonnade/api.Range]"], unfollowed := true, recurses := true, apart := false, narrowed := true }
def SpanPlaysUptoSaid : Prop := spanPlaysUptoRow.holds Try.pinned (OpenSpec.upto spanPlaysSpec)

end Rows
end Go.Proofs.Ytcmkegkljappfaa
