/-
  Front of a reader, all cases in one.
-/
import Derived.Test.YthmdbkefbbjfmaaIfront5
import Derived.Test.YthmdbkefbbjfmaaItextt
namespace Go.Proofs.Ythmdbkefbbjfmaa
open Go.RowKit
set_option linter.unusedVariables false
set_option linter.unusedSimpArgs false


/-- A reader's block. -/
def rdrV (V : Value) (h : Bool × Int × Int × Int) (bg sm : Bool) (lg lo : Int) (ov : Bool) : Array Value := #[V, .bool h.1, .int .u64 h.2.1, .int .u64 h.2.2.1, .int .u8 h.2.2.2, .bool bg, .bool sm, .int .u64 lg, .int .u64 lo, .bool ov]
theorem front_any (rg cg : Nat) (V : Value) (h : Bool × Int × Int × Int) (bg sm : Bool) (lg lo : Int) (ov : Bool) (s : List Int × Int) (w : World) (hb : Blk w rg 81 (rdrV V h bg sm lg lo ov)) (hc : CutT w cg s.1 s.2) (hs : StOk s) :
    Calls Try.prog 36 #[.pointer (some ⟨rg, 0, none⟩), .pointer (some ⟨cg, 0, none⟩)] w fun e w' => e = .returned (.bool ((frontS s).2.2 == 0)) ∧ Blk w' rg 81 (rdrV V ((frontS s).1.getD h) bg sm lg lo ov) ∧ CutT w' cg (frontS s).2.1 (frontS s).2.2 ∧ Keep2 rg cg w w' := by
  obtain ⟨f, id, hg, hp⟩ := h
  by_cases h0 : (numS s).2.2 = 0
  · by_cases h5 : (numS s).1 = 5
    · have hF : frontS s = (some (true, (numS (numS s).2).1, 0, 0), (numS (numS s).2).2) := by unfold frontS; rw [if_neg (by simpa using h0), if_pos h5]
      rw [hF]
      exact front_5 rg cg V f id hg hp bg sm lg lo ov s w hb hc hs h0 h5
    · by_cases h16 : (numS s).1 = 16
      · have hF : frontS s = (some (false, (numS (numS s).2).1, (numS (numS (numS s).2).2).1, (oneS (numS (numS (numS s).2).2).2).1), (oneS (numS (numS (numS s).2).2).2).2) := by unfold frontS; rw [if_neg (by simpa using h0), if_neg h5, if_pos h16]
        rw [hF]
        exact front_16 rg cg V f id hg hp bg sm lg lo ov s w hb hc hs h0 h16
      · have hF : frontS s = (none, ((numS s).2.1, 4)) := by unfold frontS; rw [if_neg (by simpa using h0), if_neg h5, if_neg h16]
        rw [hF]
        exact front_formT rg cg V f id hg hp bg sm lg lo ov s w hb hc hs h0 ⟨h5, h16⟩
  · have hF : frontS s = (none, (numS s).2) := by unfold frontS; rw [if_pos h0]
    rw [hF]
    refine (front_badT rg cg V f id hg hp bg sm lg lo ov s w hb hc hs h0).mono ?_
    rintro e w' ⟨rfl, h1, h2, h3⟩
    exact ⟨by rw [show ((numS s).2.2 == 0) = false by simpa using h0], h1, h2, h3⟩

end Go.Proofs.Ythmdbkefbbjfmaa
