/-
  The scripts of the laws on purses and tills: slices of structs of a byte and a number; how they are read.
-/
import Derived.Test.YtljddpgefbcfmaaTill
namespace Go.Proofs.Ytljddpgefbcfmaa
open Go.RowKit
set_option linter.unusedVariables false
set_option linter.unusedSimpArgs false

/-- A script that came in: where there is an element its cells are known. -/
structure Script (w : World) (A : Option Addr) (len : Nat) (d n : Nat → Int) : Prop where
  cells : ∀ k, k < len → ∃ b off, A = some ⟨b, off, none⟩ ∧ b < w.heap.size ∧ w.cell? ⟨b, off + k * 2, none⟩ = some (.int .u8 (d k)) ∧ w.cell? ⟨b, off + k * 2 + 1, none⟩ = some (.int .u64 (n k))
  dom : ∀ k, k < len → 0 ≤ d k ∧ d k ≤ 255
  num : ∀ k, k < len → 0 ≤ n k ∧ n k ≤ 18446744073709551615


theorem own : ownKnob Try.prog.godebug = none := by kernel_rfl
theorem laidOut : laidOutB Try.prog = true := by kernel_rfl

open Go.ChangeShapes Go.WideShapes Go.ChangeAt in
theorem script_of {H : Type} {enc : TypeId × Value → H} {W : World} {A : Option Addr} {len cap : Nat} {d1 : DataW H} {p1 : List MemPlace}
    (h : DataW.Trod enc Try.prog W 0 (fun _ => true) true 23 (.slice A len cap) d1 p1) : len ≤ 9223372036854775807 ∧ ∃ d n, Script W A len d n := by
  obtain ⟨fuel, hf⟩ := h
  obtain ⟨hlc, hcm, F, hF, hR⟩ := open_structs (A := A) (n := len) (c := cap) Try.underlying23 Try.underlying32 (by kernel_rfl) (by kernel_rfl) (by decide) (by simpa [Value.cells] using hf)
  have hm : len ≤ 9223372036854775807 := by unfold maxLen at hcm; omega
  have f0 : ∀ k, k < len → ∃ x : Int, F k 0 = .int .u8 x ∧ (Lit.int .u8 x).wf = true := fun k hk => by
    obtain ⟨m, y, hy⟩ := hR k hk 0 _ rfl
    obtain ⟨x, e, _, hw⟩ := DataW.trod_int Try.underlying5 hy
    exact ⟨x, by simpa using e, hw⟩
  have f1 : ∀ k, k < len → ∃ x : Int, F k 1 = .int .u64 x ∧ (Lit.int .u64 x).wf = true := fun k hk => by
    obtain ⟨m, y, hy⟩ := hR k hk 1 _ rfl
    obtain ⟨x, e, _, hw⟩ := DataW.trod_int Try.underlying22 hy
    exact ⟨x, by simpa using e, hw⟩
  refine ⟨hm, fun k => intOf (F k 0), fun k => intOf (F k 1), ⟨fun k hk => ?_, fun k hk => ?_, fun k hk => ?_⟩⟩
  · obtain ⟨b, off, e, hb, hc⟩ := hF k hk
    obtain ⟨x, ex, _⟩ := f0 k hk
    obtain ⟨y, ey, _⟩ := f1 k hk
    have c0 := hc 0 (by decide)
    have c1 := hc 1 (by decide)
    rw [ex] at c0
    rw [ey] at c1
    refine ⟨b, off, e, hb, ?_, ?_⟩
    · rw [ex]; exact c0
    · rw [ey]; exact c1
  · obtain ⟨x, ex, hw⟩ := f0 k hk
    rw [ex]; exact bounds_u8 hw
  · obtain ⟨x, ex, hw⟩ := f1 k hk
    rw [ex]; exact bounds_u64 hw

end Go.Proofs.Ytljddpgefbcfmaa
