/-
  The document's examples of layer 1: awake answers true.
-/
import Derived.Test.YtliagckgollalaaVuse
namespace Go.Proofs.Ytliagckgollalaa
open Go.RowKit
set_option linter.unusedVariables false
set_option linter.unusedSimpArgs false


theorem rd_lit (W : World) (l : List Int) (k : Nat) (hk : l.length = k) (hm : k ≤ 1000) : Rd (W.alloc (.cells (l.map (Value.int .u8)).toArray 5)) .u8 (.slice (some ⟨W.heap.size, 0, none⟩) k k) l := by
  have h := World.ownsRow_lit (size := 1) (e := 5) W (l.map (Value.int .u8)).toArray k (Nat.le_refl _) (by unfold maxLen; omega) (by simp [hk])
  exact rd_of_own (by simpa using h)

theorem awake_any (w : World) : Calls Try.prog 8 #[] w fun e w' => e = .returned (.bool true) ∧ Below w.heap.size w w' := by
  have z1 : vsz 15293 ≠ 0 := by decide
  have e1 : vform 15293 (vsz 15293) = [123, 189] := by decide
  have z2 : vsz 37 ≠ 0 := by decide
  have z2' : vsz 37 ≤ 2 := by decide
  have e2 : vform 37 2 = [64, 37] := by decide
  have e3 : vtake [64, 37] = some (37, []) := by decide
  have e4 : (false : Bool) = decide (([64, 37] : List Int).length = ([] : List Int).length + vsz 37) := by decide
  have ok : BytesOk [64, 37] := by intro x hx; simp at hx; omega
  have H : Hid (vform 15293 (vsz 15293) = [123, 189] ∧ vform 37 2 = [64, 37] ∧ vtake [64, 37] = some (37, []) ∧ (false : Bool) = decide (([64, 37] : List Int).length = ([] : List Int).length + vsz 37)) := ⟨e1, e2, e3, e4⟩
  clear e1 e2 e3 e4
  go_enter Try.func8, Try.ntmps8
  go_wp2_with fail
  refine (num_any 15293 _ (by omega) (by omega) z1).mono ?_
  rintro e w1 ⟨v1, rfl, ho1, hb1⟩
  rw [H.out.1] at ho1
  have r1 := rd_of_own ho1
  clear ho1
  go_wp2_with fail
  refine (show Calls Try.prog 12 #[.int .u64 37, .int .i64 2] w1 _ from wide_any 37 2 w1 (by omega) (by simp) z2 z2').mono ?_
  rintro e w2 ⟨v2, rfl, ho2, hb2⟩
  rw [H.out.2.1] at ho2
  have r2 := rd_of_own ho2
  have r1 := r1.below hb2
  have hB := hb1.trans (hb2.mono hb1.size)
  clear ho2 hb1 hb2
  have hl3 := rd_lit w2 [64, 37] 2 rfl (by omega)
  have r1 := r1.alloc (.cells #[.int .u8 64, .int .u8 37] 5)
  have r2 := r2.alloc (.cells #[.int .u8 64, .int .u8 37] 5)
  have hB := hB.alloc hB.size (.cells #[.int .u8 64, .int .u8 37] 5)
  go_wp2_with fail
  refine (take_some _ [64, 37] 37 [] _ hl3 ok (by decide) H.out.2.2.1).mono ?_
  rintro e w3 ⟨v3, rfl, ho3, hb3⟩
  have r1 := (r1.below hb3).alloc (.cells #[.int .u8 123, .int .u8 189] 5)
  have r2 := (r2.below hb3).alloc (.cells #[.int .u8 123, .int .u8 189] 5)
  have hB := hB.trans (hb3.mono hB.size)
  have hB := hB.alloc hB.size (.cells #[.int .u8 123, .int .u8 189] 5)
  have hl4 := rd_lit w3 [123, 189] 2 rfl (by omega)
  clear ho3 hb3 hl3
  go_wp2_with fail
  refine (same_yes _ _ [123, 189] _ r1 hl4).mono ?_
  rintro e w4 ⟨rfl, rfl⟩
  have r2 := r2.alloc (.cells #[.int .u8 64, .int .u8 37] 5)
  have hB := hB.alloc hB.size (.cells #[.int .u8 64, .int .u8 37] 5)
  have hl5 := rd_lit (w3.alloc (.cells #[.int .u8 123, .int .u8 189] 5)) [64, 37] 2 rfl (by omega)
  simp only [World.size_alloc] at hl5
  go_wp2_with fail
  refine (same_yes _ _ [64, 37] _ r2 hl5).mono ?_
  rintro e w5 ⟨rfl, rfl⟩
  have hB := hB.alloc hB.size (.cells #[.int .u8 64, .int .u8 37] 5)
  have hl6 := rd_lit ((w3.alloc (.cells #[.int .u8 123, .int .u8 189] 5)).alloc (.cells #[.int .u8 64, .int .u8 37] 5)) [64, 37] 2 rfl (by omega)
  simp only [World.size_alloc] at hl6
  go_wp2_with fail
  refine (least_any _ [64, 37] 37 [] false _ hl6 ok (by decide) H.out.2.2.1 H.out.2.2.2).mono ?_
  rintro e w6 ⟨rfl, hb6⟩
  go_wp2_with fail
  go_ret
  exact ⟨by simp, hB.trans (hb6.mono hB.size)⟩

end Go.Proofs.Ytliagckgollalaa
