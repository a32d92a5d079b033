/-
  NARROWER THAN 'FOR EVERY INPUT', by the rows' own cells (each row's printed sentence says how): WordBytes: laid · WordReads: laid · WordCuts: laid · WordJoins: laid · WordLoose: laid · WordAsks: laid.
  DERIVED. THE GIVEN ROWS OF THIS SEAT. 6 by the template 'for every input the law returns true; each argument reads behind the call as it read before'; 0 by the template 'total and deterministic' (their statements: YtjijmbpgfabgcaaDoorTotals.lean).
  GIVEN WITH THE SEED: the statements are not yours to turn. If you find one false, say at which input.
  Laid BY PROGRAM, IN A SANDBOX (cutbox-rows.mjs): the forced cells as the released guide's own fill.sh prints them over the translation 551cc885c482e3cc… (all of the seat's roots in one cut). By AI agents, Wed Nov 11 2026. No macro, syntax, notation, axiom, sorry.
-/
import Derived.Test.YtjijmbpgfabgcaaDoorChecked
import GoSem.Claim
import GoSem.ClaimJoined
import GoSem.ClaimMapViews
import Derived.JoinedTies
import Derived.KernelRfl
namespace Go.Proofs.YtjijmbpgfabgcaaDoor
/- THE CELL 'sum', in the pinned program and in every row, IS THE sha256 OF THE DUMP (.gsa) THAT YtjijmbpgfabgcaaDoorProg.lean LOADS. Nothing in Lean hashes anything: it is a label: what it is worth is what the hold of that sum in a sandbox is worth. -/
noncomputable def Tryd.pinned : Pinned := { name := "ytjijmbpgfabgcaadoor", sum := "551cc885c482e3cc0ea1fa8dda6935ccb6c8411addf9c104d5a7959c0dccc896", checked := Tryd.checked }
namespace Rows
def none {H : Type} : Left H := { results := [], args := [] }

/- WHAT THE LISTED PACKAGE-LEVEL VARIABLES READ AS WHEN THE CALL BEGINS. Each datum BY PROGRAM (the guide's laid-datum.mjs) off the statement by which the dump's own 'gosem.cut.vars' lays the variable. In a bare row this is a premise. The card (YtjijmbpgfabgcaaDoorCards.lean) ties it to the program's text. -/
def laid_colonnade_word_all {H : Type} : DataW H := .agg [.agg [.lit (.int .u64 3), .lit (.int .i64 191)], .agg [.lit (.int .u64 4), .lit (.int .i64 289)], .agg [.lit (.int .u64 5), .lit (.int .i64 1537)], .agg [.lit (.int .u64 6), .lit (.int .i64 5)], .agg [.lit (.int .u64 7), .lit (.int .i64 1)], .agg [.lit (.int .u64 8), .lit (.int .i64 1537)], .agg [.lit (.int .u64 9), .lit (.int .i64 4)], .agg [.lit (.int .u64 10), .lit (.int .i64 1)], .agg [.lit (.int .u64 11), .lit (.int .i64 1537)], .agg [.lit (.int .u64 16), .lit (.int .i64 0)], .agg [.lit (.int .u64 21), .lit (.int .i64 2048)], .agg [.lit (.int .u64 22), .lit (.int .i64 109)], .agg [.lit (.int .u64 23), .lit (.int .i64 1)], .agg [.lit (.int .u64 24), .lit (.int .i64 1)], .agg [.lit (.int .u64 25), .lit (.int .i64 1537)], .agg [.lit (.int .u64 32), .lit (.int .i64 10240)], .agg [.lit (.int .u64 33), .lit (.int .i64 6144)]]

/-- 'colonnadelaw15.WordBytes': WHATEVER THE INPUT: true; the input reads as it did. -/
def wordBytesSpec : ChangeSpec := { name := "wordBytes", fn := fun _ => fun
  | [d1, d2] => { results := [.lit (.bool true)], args := [d1, d2] }
  | _ => none }
def wordBytesRow : OpenClaim := { program := "ytjijmbpgfabgcaadoor", sum := "551cc885c482e3cc0ea1fa8dda6935ccb6c8411addf9c104d5a7959c0dccc896", func := "colonnade/colonnadelaw15.WordBytes", spec := "wordBytes", inPlace := ["internal/bytealg.MakeNoZero"], unfollowed := true, recurses := true, named := ["colonnade/word.all"], apart := false, laid := [("colonnade/word.all", laid_colonnade_word_all)] }
def WordBytesSaid : Prop := wordBytesRow.holds Tryd.pinned (OpenSpec.ofChange wordBytesSpec)

/-- ITS FALSE NEIGHBOUR: 'it returns false'. Refute it at one input. -/
def wordBytesWrong : ChangeSpec := { name := "wordBytes", fn := fun _ => fun
  | [d1, d2] => { results := [.lit (.bool false)], args := [d1, d2] }
  | _ => none }
def WordBytesWrongFalsely : Prop := wordBytesRow.holds Tryd.pinned (OpenSpec.ofChange wordBytesWrong)

/-- 'colonnadelaw15.WordReads': WHATEVER THE INPUT: true; the input reads as it did. -/
def wordReadsSpec : ChangeSpec := { name := "wordReads", fn := fun _ => fun
  | [d] => { results := [.lit (.bool true)], args := [d] }
  | _ => none }
def wordReadsRow : OpenClaim := { program := "ytjijmbpgfabgcaadoor", sum := "551cc885c482e3cc0ea1fa8dda6935ccb6c8411addf9c104d5a7959c0dccc896", func := "colonnade/colonnadelaw15.WordReads", spec := "wordReads", inPlace := ["internal/bytealg.MakeNoZero"], unfollowed := true, recurses := true, named := ["colonnade/word.all"], apart := false, laid := [("colonnade/word.all", laid_colonnade_word_all)] }
def WordReadsSaid : Prop := wordReadsRow.holds Tryd.pinned (OpenSpec.ofChange wordReadsSpec)

/-- ITS FALSE NEIGHBOUR: 'it returns false'. Refute it at one input. -/
def wordReadsWrong : ChangeSpec := { name := "wordReads", fn := fun _ => fun
  | [d] => { results := [.lit (.bool false)], args := [d] }
  | _ => none }
def WordReadsWrongFalsely : Prop := wordReadsRow.holds Tryd.pinned (OpenSpec.ofChange wordReadsWrong)

/-- 'colonnadelaw15.WordCuts': WHATEVER THE INPUT: true; the input reads as it did. -/
def wordCutsSpec : ChangeSpec := { name := "wordCuts", fn := fun _ => fun
  | [d1, d2] => { results := [.lit (.bool true)], args := [d1, d2] }
  | _ => none }
def wordCutsRow : OpenClaim := { program := "ytjijmbpgfabgcaadoor", sum := "551cc885c482e3cc0ea1fa8dda6935ccb6c8411addf9c104d5a7959c0dccc896", func := "colonnade/colonnadelaw15.WordCuts", spec := "wordCuts", inPlace := ["internal/bytealg.MakeNoZero"], unfollowed := true, recurses := true, named := ["colonnade/word.all"], apart := false, laid := [("colonnade/word.all", laid_colonnade_word_all)] }
def WordCutsSaid : Prop := wordCutsRow.holds Tryd.pinned (OpenSpec.ofChange wordCutsSpec)

/-- ITS FALSE NEIGHBOUR: 'it returns false'. Refute it at one input. -/
def wordCutsWrong : ChangeSpec := { name := "wordCuts", fn := fun _ => fun
  | [d1, d2] => { results := [.lit (.bool false)], args := [d1, d2] }
  | _ => none }
def WordCutsWrongFalsely : Prop := wordCutsRow.holds Tryd.pinned (OpenSpec.ofChange wordCutsWrong)

/-- 'colonnadelaw15.WordJoins': WHATEVER THE INPUT: true; the input reads as it did. -/
def wordJoinsSpec : ChangeSpec := { name := "wordJoins", fn := fun _ => fun
  | [d] => { results := [.lit (.bool true)], args := [d] }
  | _ => none }
def wordJoinsRow : OpenClaim := { program := "ytjijmbpgfabgcaadoor", sum := "551cc885c482e3cc0ea1fa8dda6935ccb6c8411addf9c104d5a7959c0dccc896", func := "colonnade/colonnadelaw15.WordJoins", spec := "wordJoins", inPlace := ["internal/bytealg.MakeNoZero"], unfollowed := true, recurses := true, named := ["colonnade/word.all"], apart := false, laid := [("colonnade/word.all", laid_colonnade_word_all)] }
def WordJoinsSaid : Prop := wordJoinsRow.holds Tryd.pinned (OpenSpec.ofChange wordJoinsSpec)

/-- ITS FALSE NEIGHBOUR: 'it returns false'. Refute it at one input. -/
def wordJoinsWrong : ChangeSpec := { name := "wordJoins", fn := fun _ => fun
  | [d] => { results := [.lit (.bool false)], args := [d] }
  | _ => none }
def WordJoinsWrongFalsely : Prop := wordJoinsRow.holds Tryd.pinned (OpenSpec.ofChange wordJoinsWrong)

/-- 'colonnadelaw15.WordLoose': WHATEVER THE INPUT: true; the input reads as it did. -/
def wordLooseSpec : ChangeSpec := { name := "wordLoose", fn := fun _ => fun
  | [d1, d2, d3] => { results := [.lit (.bool true)], args := [d1, d2, d3] }
  | _ => none }
def wordLooseRow : OpenClaim := { program := "ytjijmbpgfabgcaadoor", sum := "551cc885c482e3cc0ea1fa8dda6935ccb6c8411addf9c104d5a7959c0dccc896", func := "colonnade/colonnadelaw15.WordLoose", spec := "wordLoose", inPlace := ["internal/bytealg.MakeNoZero"], unfollowed := true, recurses := true, named := ["colonnade/word.all"], apart := false, laid := [("colonnade/word.all", laid_colonnade_word_all)] }
def WordLooseSaid : Prop := wordLooseRow.holds Tryd.pinned (OpenSpec.ofChange wordLooseSpec)

/-- ITS FALSE NEIGHBOUR: 'it returns false'. Refute it at one input. -/
def wordLooseWrong : ChangeSpec := { name := "wordLoose", fn := fun _ => fun
  | [d1, d2, d3] => { results := [.lit (.bool false)], args := [d1, d2, d3] }
  | _ => none }
def WordLooseWrongFalsely : Prop := wordLooseRow.holds Tryd.pinned (OpenSpec.ofChange wordLooseWrong)

/-- 'colonnadelaw15.WordAsks': WHATEVER THE INPUT: true; the input reads as it did. -/
def wordAsksSpec : ChangeSpec := { name := "wordAsks", fn := fun _ => fun
  | [d1, d2, d3] => { results := [.lit (.bool true)], args := [d1, d2, d3] }
  | _ => none }
def wordAsksRow : OpenClaim := { program := "ytjijmbpgfabgcaadoor", sum := "551cc885c482e3cc0ea1fa8dda6935ccb6c8411addf9c104d5a7959c0dccc896", func := "colonnade/colonnadelaw15.WordAsks", spec := "wordAsks", inPlace := ["internal/bytealg.MakeNoZero"], unfollowed := true, recurses := true, named := ["colonnade/word.all"], apart := false, laid := [("colonnade/word.all", laid_colonnade_word_all)] }
def WordAsksSaid : Prop := wordAsksRow.holds Tryd.pinned (OpenSpec.ofChange wordAsksSpec)

/-- ITS FALSE NEIGHBOUR: 'it returns false'. Refute it at one input. -/
def wordAsksWrong : ChangeSpec := { name := "wordAsks", fn := fun _ => fun
  | [d1, d2, d3] => { results := [.lit (.bool false)], args := [d1, d2, d3] }
  | _ => none }
def WordAsksWrongFalsely : Prop := wordAsksRow.holds Tryd.pinned (OpenSpec.ofChange wordAsksWrong)

/- THE SECOND FORM. 'bulk': how many values and letters a reading holds, each counted each time it is reached (what is shared counts as often as it is met; a slice's spare places count too). A statement '..UptoSaid' is the law's where the arguments, and the package variables that the reading takes, are together of bulk at most 1048576: NARROWER than '..Said'. Prove '..Said' where nothing that the law and all that it calls make is longer than what came in: it says more and counts as full. Else prove '..UptoSaid'. A law counts once. -/
mutual
def uptoBulk {H : Type} : DataW H → Nat
  | .lit (.string bytes) => bytes.length + 1
  | .lit _ => 1
  | .nil => 1
  | .ptr d => uptoBulk d + 1
  | .slice elems spare => uptoBulkAll elems + uptoBulkAll spare + 1
  | .agg parts => uptoBulkAll parts + 1
  | .iface _ d => uptoBulk d + 1
  | .map entries => uptoBulkEntries entries + 1
  | .held _ => 1
def uptoBulkAll {H : Type} : List (DataW H) → Nat
  | [] => 0
  | d :: r => uptoBulk d + uptoBulkAll r
def uptoBulkEntries {H : Type} : List (Lit × DataW H) → Nat
  | [] => 0
  | x :: r => uptoBulkEntry x + uptoBulkEntries r
def uptoBulkEntry {H : Type} : Lit × DataW H → Nat
  | (.string bytes, d) => bytes.length + uptoBulk d + 1
  | (_, d) => uptoBulk d + 1
 end
def uptoSmall : (H : Type) → List (DataW H) → Bool := fun _ ds => decide (uptoBulkAll ds ≤ 1048576)
def OpenSpec.upto (s : _root_.Go.ChangeSpec) : _root_.Go.OpenSpec := { _root_.Go.OpenSpec.ofChange s with cond := some uptoSmall }

/-- 'colonnadelaw15.WordBytes', WHERE WHAT IT READS IS OF BULK AT MOST 1048576: true; the input reads as it did. -/
def wordBytesUptoRow : OpenClaim := { program := "ytjijmbpgfabgcaadoor", sum := "551cc885c482e3cc0ea1fa8dda6935ccb6c8411addf9c104d5a7959c0dccc896", func := "colonnade/colonnadelaw15.WordBytes", spec := "wordBytes", inPlace := ["internal/bytealg.MakeNoZero"], unfollowed := true, recurses := true, named := ["colonnade/word.all"], apart := false, laid := [("colonnade/word.all", laid_colonnade_word_all)], narrowed := true }
def WordBytesUptoSaid : Prop := wordBytesUptoRow.holds Tryd.pinned (OpenSpec.upto wordBytesSpec)

/-- 'colonnadelaw15.WordReads', WHERE WHAT IT READS IS OF BULK AT MOST 1048576: true; the input reads as it did. -/
def wordReadsUptoRow : OpenClaim := { program := "ytjijmbpgfabgcaadoor", sum := "551cc885c482e3cc0ea1fa8dda6935ccb6c8411addf9c104d5a7959c0dccc896", func := "colonnade/colonnadelaw15.WordReads", spec := "wordReads", inPlace := ["internal/bytealg.MakeNoZero"], unfollowed := true, recurses := true, named := ["colonnade/word.all"], apart := false, laid := [("colonnade/word.all", laid_colonnade_word_all)], narrowed := true }
def WordReadsUptoSaid : Prop := wordReadsUptoRow.holds Tryd.pinned (OpenSpec.upto wordReadsSpec)

/-- 'colonnadelaw15.WordCuts', WHERE WHAT IT READS IS OF BULK AT MOST 1048576: true; the input reads as it did. -/
def wordCutsUptoRow : OpenClaim := { program := "ytjijmbpgfabgcaadoor", sum := "551cc885c482e3cc0ea1fa8dda6935ccb6c8411addf9c104d5a7959c0dccc896", func := "colonnade/colonnadelaw15.WordCuts", spec := "wordCuts", inPlace := ["internal/bytealg.MakeNoZero"], unfollowed := true, recurses := true, named := ["colonnade/word.all"], apart := false, laid := [("colonnade/word.all", laid_colonnade_word_all)], narrowed := true }
def WordCutsUptoSaid : Prop := wordCutsUptoRow.holds Tryd.pinned (OpenSpec.upto wordCutsSpec)

/-- 'colonnadelaw15.WordJoins', WHERE WHAT IT READS IS OF BULK AT MOST 1048576: true; the input reads as it did. -/
def wordJoinsUptoRow : OpenClaim := { program := "ytjijmbpgfabgcaadoor", sum := "551cc885c482e3cc0ea1fa8dda6935ccb6c8411addf9c104d5a7959c0dccc896", func := "colonnade/colonnadelaw15.WordJoins", spec := "wordJoins", inPlace := ["internal/bytealg.MakeNoZero"], unfollowed := true, recurses := true, named := ["colonnade/word.all"], apart := false, laid := [("colonnade/word.all", laid_colonnade_word_all)], narrowed := true }
def WordJoinsUptoSaid : Prop := wordJoinsUptoRow.holds Tryd.pinned (OpenSpec.upto wordJoinsSpec)

/-- 'colonnadelaw15.WordLoose', WHERE WHAT IT READS IS OF BULK AT MOST 1048576: true; the input reads as it did. -/
def wordLooseUptoRow : OpenClaim := { program := "ytjijmbpgfabgcaadoor", sum := "551cc885c482e3cc0ea1fa8dda6935ccb6c8411addf9c104d5a7959c0dccc896", func := "colonnade/colonnadelaw15.WordLoose", spec := "wordLoose", inPlace := ["internal/bytealg.MakeNoZero"], unfollowed := true, recurses := true, named := ["colonnade/word.all"], apart := false, laid := [("colonnade/word.all", laid_colonnade_word_all)], narrowed := true }
def WordLooseUptoSaid : Prop := wordLooseUptoRow.holds Tryd.pinned (OpenSpec.upto wordLooseSpec)

/-- 'colonnadelaw15.WordAsks', WHERE WHAT IT READS IS OF BULK AT MOST 1048576: true; the input reads as it did. -/
def wordAsksUptoRow : OpenClaim := { program := "ytjijmbpgfabgcaadoor", sum := "551cc885c482e3cc0ea1fa8dda6935ccb6c8411addf9c104d5a7959c0dccc896", func := "colonnade/colonnadelaw15.WordAsks", spec := "wordAsks", inPlace := ["internal/bytealg.MakeNoZero"], unfollowed := true, recurses := true, named := ["colonnade/word.all"], apart := false, laid := [("colonnade/word.all", laid_colonnade_word_all)], narrowed := true }
def WordAsksUptoSaid : Prop := wordAsksUptoRow.holds Tryd.pinned (OpenSpec.upto wordAsksSpec)

end Rows
end Go.Proofs.YtjijmbpgfabgcaaDoor
