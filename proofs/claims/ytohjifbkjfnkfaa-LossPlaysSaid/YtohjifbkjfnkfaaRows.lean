/-
  No cell of these rows narrows 'for every input' (looked for: loops, veiled, ifaces, maps, wideKeys, modest, calm, conditions, laid).
  DERIVED. THE GIVEN ROWS OF THIS SEAT. 5 by the template 'for every input the law returns true; each argument reads behind the call as it read before'; 0 by the template 'total and deterministic' (their statements: YtohjifbkjfnkfaaTotals.lean).
  GIVEN WITH THE SEED: the statements are not yours to turn. If you find one false, say at which input.
  Laid BY PROGRAM, IN A SANDBOX (cutbox-rows.mjs): the forced cells as the released guide's own fill.sh prints them over the translation 172b6d5aa7490aae… (all of the seat's roots in one cut). By AI agents, Wed Nov 11 2026. No macro, syntax, notation, axiom, sorry.
-/
import Derived.Test.YtohjifbkjfnkfaaChecked
import GoSem.Claim
import GoSem.ClaimJoined
import GoSem.ClaimMapViews
import Derived.JoinedTies
import Derived.KernelRfl
namespace Go.Proofs.Ytohjifbkjfnkfaa
/- THE CELL 'sum', in the pinned program and in every row, IS THE sha256 OF THE DUMP (.gsa) THAT YtohjifbkjfnkfaaProg.lean LOADS. Nothing in Lean hashes anything: it is a label: what it is worth is what the hold of that sum in a sandbox is worth. -/
noncomputable def Try.pinned : Pinned := { name := "ytohjifbkjfnkfaa", sum := "172b6d5aa7490aae24bcd86471c1b39fb7f540dac54fd378e1bd9b2206977a3a", checked := Try.checked }
namespace Rows
def none {H : Type} : Left H := { results := [], args := [] }

/-- 'colonnadelaw09.LossThree': WHATEVER THE INPUT: true; the input reads as it did. -/
def lossThreeSpec : ChangeSpec := { name := "lossThree", fn := fun _ => fun
  | [d1, d2, d3] => { results := [.lit (.bool true)], args := [d1, d2, d3] }
  | _ => none }
def lossThreeRow : OpenClaim := { program := "ytohjifbkjfnkfaa", sum := "172b6d5aa7490aae24bcd86471c1b39fb7f540dac54fd378e1bd9b2206977a3a", func := "colonnade/colonnadelaw09.LossThree", spec := "lossThree", unfollowed := true, recurses := true, apart := false }
def LossThreeSaid : Prop := lossThreeRow.holds Try.pinned (OpenSpec.ofChange lossThreeSpec)

/-- ITS FALSE NEIGHBOUR: 'it returns false'. Refute it at one input. -/
def lossThreeWrong : ChangeSpec := { name := "lossThree", fn := fun _ => fun
  | [d1, d2, d3] => { results := [.lit (.bool false)], args := [d1, d2, d3] }
  | _ => none }
def LossThreeWrongFalsely : Prop := lossThreeRow.holds Try.pinned (OpenSpec.ofChange lossThreeWrong)

/-- 'colonnadelaw09.LossTime': WHATEVER THE INPUT: true; the input reads as it did. -/
def lossTimeSpec : ChangeSpec := { name := "lossTime", fn := fun _ => fun
  | [d1, d2] => { results := [.lit (.bool true)], args := [d1, d2] }
  | _ => none }
def lossTimeRow : OpenClaim := { program := "ytohjifbkjfnkfaa", sum := "172b6d5aa7490aae24bcd86471c1b39fb7f540dac54fd378e1bd9b2206977a3a", func := "colonnade/colonnadelaw09.LossTime", spec := "lossTime", unfollowed := true, recurses := true, apart := false }
def LossTimeSaid : Prop := lossTimeRow.holds Try.pinned (OpenSpec.ofChange lossTimeSpec)

/-- ITS FALSE NEIGHBOUR: 'it returns false'. Refute it at one input. -/
def lossTimeWrong : ChangeSpec := { name := "lossTime", fn := fun _ => fun
  | [d1, d2] => { results := [.lit (.bool false)], args := [d1, d2] }
  | _ => none }
def LossTimeWrongFalsely : Prop := lossTimeRow.holds Try.pinned (OpenSpec.ofChange lossTimeWrong)

/-- 'colonnadelaw09.LossGives': WHATEVER THE INPUT: true; the input reads as it did. -/
def lossGivesSpec : ChangeSpec := { name := "lossGives", fn := fun _ => fun
  | [d1, d2] => { results := [.lit (.bool true)], args := [d1, d2] }
  | _ => none }
def lossGivesRow : OpenClaim := { program := "ytohjifbkjfnkfaa", sum := "172b6d5aa7490aae24bcd86471c1b39fb7f540dac54fd378e1bd9b2206977a3a", func := "colonnade/colonnadelaw09.LossGives", spec := "lossGives", unfollowed := true, recurses := true, apart := false }
def LossGivesSaid : Prop := lossGivesRow.holds Try.pinned (OpenSpec.ofChange lossGivesSpec)

/-- ITS FALSE NEIGHBOUR: 'it returns false'. Refute it at one input. -/
def lossGivesWrong : ChangeSpec := { name := "lossGives", fn := fun _ => fun
  | [d1, d2] => { results := [.lit (.bool false)], args := [d1, d2] }
  | _ => none }
def LossGivesWrongFalsely : Prop := lossGivesRow.holds Try.pinned (OpenSpec.ofChange lossGivesWrong)

/-- 'colonnadelaw09.LossOnce': WHATEVER THE INPUT: true; the input reads as it did. -/
def lossOnceSpec : ChangeSpec := { name := "lossOnce", fn := fun _ => fun
  | [d] => { results := [.lit (.bool true)], args := [d] }
  | _ => none }
def lossOnceRow : OpenClaim := { program := "ytohjifbkjfnkfaa", sum := "172b6d5aa7490aae24bcd86471c1b39fb7f540dac54fd378e1bd9b2206977a3a", func := "colonnade/colonnadelaw09.LossOnce", spec := "lossOnce", unfollowed := true, recurses := true, apart := false }
def LossOnceSaid : Prop := lossOnceRow.holds Try.pinned (OpenSpec.ofChange lossOnceSpec)

/-- ITS FALSE NEIGHBOUR: 'it returns false'. Refute it at one input. -/
def lossOnceWrong : ChangeSpec := { name := "lossOnce", fn := fun _ => fun
  | [d] => { results := [.lit (.bool false)], args := [d] }
  | _ => none }
def LossOnceWrongFalsely : Prop := lossOnceRow.holds Try.pinned (OpenSpec.ofChange lossOnceWrong)

/-- 'colonnadelaw09.LossPlays': WHATEVER THE INPUT: true; the input reads as it did. -/
def lossPlaysSpec : ChangeSpec := { name := "lossPlays", fn := fun _ => fun
  | [d1, d2] => { results := [.lit (.bool true)], args := [d1, d2] }
  | _ => none }
def lossPlaysRow : OpenClaim := { program := "ytohjifbkjfnkfaa", sum := "172b6d5aa7490aae24bcd86471c1b39fb7f540dac54fd378e1bd9b2206977a3a", func := "colonnade/colonnadelaw09.LossPlays", spec := "lossPlays", unfollowed := true, recurses := true, apart := false }
def LossPlaysSaid : Prop := lossPlaysRow.holds Try.pinned (OpenSpec.ofChange lossPlaysSpec)

/-- ITS FALSE NEIGHBOUR: 'it returns false'. Refute it at one input. -/
def lossPlaysWrong : ChangeSpec := { name := "lossPlays", fn := fun _ => fun
  | [d1, d2] => { results := [.lit (.bool false)], args := [d1, d2] }
  | _ => none }
def LossPlaysWrongFalsely : Prop := lossPlaysRow.holds Try.pinned (OpenSpec.ofChange lossPlaysWrong)

/- THE SECOND FORM. 'bulk': how many values and letters a reading holds, each counted each time it is reached (what is shared counts as often as it is met; a slice's spare places count too). A statement '..UptoSaid' is the law's where the arguments, and the package variables that the reading takes, are together of bulk at most 1048576: NARROWER than '..Said'. Prove '..Said' where nothing that the law and all that it calls make is longer than what came in: it says more and counts as full. Else prove '..UptoSaid'. A law counts once. -/
mutual
def uptoBulk {H : Type} : DataW H → Nat
  | .lit (.string bytes) => bytes.length + 1
  | .lit _ => 1
  | .nil => 1
  | .ptr d => uptoBulk d + 1
  | .slice elems spare => uptoBulkAll elems + uptoBulkAll spare + 1
  | .agg parts => uptoBulkAll parts + 1
  | .iface _ d => uptoBulk d + 1
  | .map entries => uptoBulkEntries entries + 1
  | .held _ => 1
def uptoBulkAll {H : Type} : List (DataW H) → Nat
  | [] => 0
  | d :: r => uptoBulk d + uptoBulkAll r
def uptoBulkEntries {H : Type} : List (Lit × DataW H) → Nat
  | [] => 0
  | x :: r => uptoBulkEntry x + uptoBulkEntries r
def uptoBulkEntry {H : Type} : Lit × DataW H → Nat
  | (.string bytes, d) => bytes.length + uptoBulk d + 1
  | (_, d) => uptoBulk d + 1
 end
def uptoSmall : (H : Type) → List (DataW H) → Bool := fun _ ds => decide (uptoBulkAll ds ≤ 1048576)
def OpenSpec.upto (s : _root_.Go.ChangeSpec) : _root_.Go.OpenSpec := { _root_.Go.OpenSpec.ofChange s with cond := some uptoSmall }

/-- 'colonnadelaw09.LossThree', WHERE WHAT IT READS IS OF BULK AT MOST 1048576: true; the input reads as it did. -/
def lossThreeUptoRow : OpenClaim := { program := "ytohjifbkjfnkfaa", sum := "172b6d5aa7490aae24bcd86471c1b39fb7f540dac54fd378e1bd9b2206977a3a", func := "colonnade/colonnadelaw09.LossThree", spec := "lossThree", unfollowed := true, recurses := true, apart := false, narrowed := true }
def LossThreeUptoSaid : Prop := lossThreeUptoRow.holds Try.pinned (OpenSpec.upto lossThreeSpec)

/-- 'colonnadelaw09.LossTime', WHERE WHAT IT READS IS OF BULK AT MOST 1048576: true; the input reads as it did. -/
def lossTimeUptoRow : OpenClaim := { program := "ytohjifbkjfnkfaa", sum := "172b6d5aa7490aae24bcd86471c1b39fb7f540dac54fd378e1bd9b2206977a3a", func := "colonnade/colonnadelaw09.LossTime", spec := "lossTime", unfollowed := true, recurses := true, apart := false, narrowed := true }
def LossTimeUptoSaid : Prop := lossTimeUptoRow.holds Try.pinned (OpenSpec.upto lossTimeSpec)

/-- 'colonnadelaw09.LossGives', WHERE WHAT IT READS IS OF BULK AT MOST 1048576: true; the input reads as it did. -/
def lossGivesUptoRow : OpenClaim := { program := "ytohjifbkjfnkfaa", sum := "172b6d5aa7490aae24bcd86471c1b39fb7f540dac54fd378e1bd9b2206977a3a", func := "colonnade/colonnadelaw09.LossGives", spec := "lossGives", unfollowed := true, recurses := true, apart := false, narrowed := true }
def LossGivesUptoSaid : Prop := lossGivesUptoRow.holds Try.pinned (OpenSpec.upto lossGivesSpec)

/-- 'colonnadelaw09.LossOnce', WHERE WHAT IT READS IS OF BULK AT MOST 1048576: true; the input reads as it did. -/
def lossOnceUptoRow : OpenClaim := { program := "ytohjifbkjfnkfaa", sum := "172b6d5aa7490aae24bcd86471c1b39fb7f540dac54fd378e1bd9b2206977a3a", func := "colonnade/colonnadelaw09.LossOnce", spec := "lossOnce", unfollowed := true, recurses := true, apart := false, narrowed := true }
def LossOnceUptoSaid : Prop := lossOnceUptoRow.holds Try.pinned (OpenSpec.upto lossOnceSpec)

/-- 'colonnadelaw09.LossPlays', WHERE WHAT IT READS IS OF BULK AT MOST 1048576: true; the input reads as it did. -/
def lossPlaysUptoRow : OpenClaim := { program := "ytohjifbkjfnkfaa", sum := "172b6d5aa7490aae24bcd86471c1b39fb7f540dac54fd378e1bd9b2206977a3a", func := "colonnade/colonnadelaw09.LossPlays", spec := "lossPlays", unfollowed := true, recurses := true, apart := false, narrowed := true }
def LossPlaysUptoSaid : Prop := lossPlaysUptoRow.holds Try.pinned (OpenSpec.upto lossPlaysSpec)

end Rows
end Go.Proofs.Ytohjifbkjfnkfaa
