/-
  Keys with a string: a name and a group. No condition.
-/
import Derived.Test.YtiaabbflchdcbaaSdrw
namespace Go.Proofs.Ytiaabbflchdcbaa
open Go.RowKit
set_option linter.unusedVariables false
set_option linter.unusedSimpArgs false

open Go.Maps (Keyed)
def nkC (s : ByteArray) (g : Int) : Array Value := #[.string s, .int .u64 g]
theorem cells46 : Try.prog.cellsOf 46 = 2 := by kernel_rfl
theorem cells9 : Try.prog.cellsOf 9 = 1 := by kernel_rfl
theorem lits9 (d : Nat) (s : ByteArray) (hs : s.size ≤ maxLen) : (Try.prog.keyLits (d + 1) 9 [.string s]).isSome = true := by simp [Program.keyLits, Try.underlying9, Lit.wf, hs]
theorem lits_nk (d : Nat) (s : ByteArray) (hs : s.size ≤ maxLen) {g : Int} (hg : U64 g) : (Try.prog.keyLits (d + 3) 46 (nkC s g).toList).isSome = true := by
  unfold Program.keyLits
  simp only [Try.underlying46]
  rw [if_pos (by rw [cells46]; exact ⟨rfl, by simp⟩), Option.isSome_map]
  refine mapM_isSome _ (fun f hf => ?_)
  simp only [List.mem_cons, List.not_mem_nil, or_false] at hf
  rcases hf with rfl | rfl
  · exact lits9 (d + 1) s hs
  · exact lits64 (d + 1) hg
theorem ok_nk (s : ByteArray) (hs : s.size ≤ maxLen) {g : Int} (hg : U64 g) : KeyOk Try.prog 46 (.agg (nkC s g)) := by
  obtain ⟨d, hd⟩ := depth3
  obtain ⟨l, hl⟩ := Option.isSome_iff_exists.1 (lits_nk d s hs hg)
  have hk : Try.prog.keyType 46 = true := by kernel_rfl
  have hf : (Value.agg (nkC s g)).formed Try.prog 46 = true := by simp [Value.formed, Try.underlying46, cells46, nkC]
  refine ⟨.string (keyBytes l), ?_⟩
  unfold keyOf
  simp only [Try.underlying46]
  rw [hd, hk, hf]
  simp [Value.cells, hl]
theorem law46 : Keyed Try.prog 46 := Keyed.of_law (deep_law_laid laidOutS (m := 3) (by omega) (of_decide_eq_true (by kernel_rfl)) (by kernel_rfl) (by rw [Try.underlying46]))
theorem nk_inj {s s' : ByteArray} {g g' : Int} (h : nkC s g = nkC s' g') : s = s' ∧ g = g' := by
  simp [nkC] at h
  exact h
theorem slice_zero (w : World) : (zeroValue 44).run Try.prog w = .ok (.slice none 0 0) w := by kernel_rfl

end Go.Proofs.Ytiaabbflchdcbaa
