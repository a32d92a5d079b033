/-
  The document's examples.
-/
import Derived.Test.YthmdbkefbbjfmaaIfew
import Derived.Lib.SlBytesConst
namespace Go.Proofs.Ythmdbkefbbjfmaa
open Go.RowKit
set_option linter.unusedVariables false
set_option linter.unusedSimpArgs false


theorem rd_bytes {w : World} {n : Nat} {fr : Nat × Nat} (hn : n = w.heap.size) (l : List Int) (hl : l.length ≤ 100) : Rd (w.alloc (.cells (l.map (Value.int .u8)).toArray 5 fr)) .u8 (.slice (some ⟨n, 0, none⟩) l.length l.length) l := by
  subst hn
  exact ⟨_, l.length, rfl, Nat.le_refl _, by unfold maxLen; omega, fun h => (by cases h), fun i hi => ⟨w.heap.size, 0, rfl, by simp, fun j hj => by
    obtain rfl : j = 0 := by omega
    simp [List.getD, hi, World.cell?_alloc_mark]⟩⟩
theorem beginA : beginR false 1 2 7 = ([16, 1, 2, 7], 0) := by decide
theorem nextA : nextR false 2 7 2 0 7 false [97, 98] = ([0, 2, 97, 98], 0) := by decide
set_option maxHeartbeats 1000000 in
set_option maxRecDepth 100000 in
theorem awake_any (w : World) : Calls Try.prog 9 #[] w fun e w' => e = .returned (.bool true) ∧ Below w.heap.size w w' := by
  have kc := fun (w : World) (C : Array Value) (n c : Nat) => Lib.run_convert_bytes_const (P := Try.prog) w 27 5 C n c Try.underlying27 Try.underlying5
  have HA := Lib.hid beginA
  have HN := Lib.hid nextA
  have hH := Blk.new w 35 #[.bool false, .int .u64 1, .int .u64 2, .int .u8 7]
  have hB0 := (Below.refl w.heap.size w).alloc (Nat.le_refl _) (.cells #[.bool false, .int .u64 1, .int .u64 2, .int .u8 7] 35)
  go_enter Try.func9, Try.ntmps9
  go_wp2_with fail
  refine (begin_any false 1 2 7 _ (by omega) (by omega) (by omega)).mono ?_
  rintro e w1 ⟨v1, rfl, ho, hb1⟩
  rw [HA.out] at ho ⊢
  have hH1 := hH.same hb1
  have hB1 := hB0.trans (hb1.mono hB0.size)
  have r1 := rd_of_own (k := .u8) (l := [16, 1, 2, 7]) ho
  obtain ⟨A1, k1, rfl⟩ := r1.form
  have d0 : w1.cell? ⟨w.heap.size, 0, none⟩ = some (.bool false) := hH1.cell 0
  have d1 : w1.cell? ⟨w.heap.size, 1, none⟩ = some (.int .u64 1) := hH1.cell 1
  have d2 : w1.cell? ⟨w.heap.size, 2, none⟩ = some (.int .u64 2) := hH1.cell 2
  have d3 : w1.cell? ⟨w.heap.size, 3, none⟩ = some (.int .u8 7) := hH1.cell 3
  clear hH hB0 ho hb1
  have hv := show Rd (w1.alloc (.cells #[.int .u8 97, .int .u8 98] 5 (2, 3))) .u8 (.slice (some ⟨w1.heap.size, 0, none⟩) 2 2) [97, 98] from rd_bytes rfl [97, 98] (by decide)
  have hB2 := hB1.alloc hB1.size (.cells #[.int .u8 97, .int .u8 98] 5 (2, 3))
  have r2 := r1.alloc (.cells #[.int .u8 97, .int .u8 98] 5 (2, 3))
  clear hB1 r1 hH1
  go_wp2_with fail
  refine (next_f 1 2 7 2 0 7 false _ [97, 98] ([0, 2, 97, 98], 0) _ hv (by decide) ⟨by omega, by omega, by omega⟩ (by decide) HN.out).mono ?_
  rintro e w2 ⟨v2, rfl, ho, hb2⟩
  have r2 := r2.below hb2
  have hB3 := hB2.trans (hb2.mono hB2.size)
  have r3 := rd_of_own (k := .u8) (l := [0, 2, 97, 98]) ho
  obtain ⟨A2, k2, rfl⟩ := r3.form
  clear hB2 hv ho hb2 d0 d1 d2 d3 kc
  have q1 := show Rd (w2.alloc (.cells #[.int .u8 16, .int .u8 1, .int .u8 2, .int .u8 7] 5)) .u8 (.slice (some ⟨w2.heap.size, 0, none⟩) 4 4) [16, 1, 2, 7] from rd_bytes rfl [16, 1, 2, 7] (by decide)
  have r2 := r2.alloc (.cells #[.int .u8 16, .int .u8 1, .int .u8 2, .int .u8 7] 5)
  have r3 := r3.alloc (.cells #[.int .u8 16, .int .u8 1, .int .u8 2, .int .u8 7] 5)
  have hB4 := hB3.alloc hB3.size (.cells #[.int .u8 16, .int .u8 1, .int .u8 2, .int .u8 7] 5)
  have q2 := show Rd ((w2.alloc (.cells #[.int .u8 16, .int .u8 1, .int .u8 2, .int .u8 7] 5)).alloc (.cells #[.int .u8 0, .int .u8 2, .int .u8 97, .int .u8 98] 5)) .u8 (.slice (some ⟨w2.heap.size + 1, 0, none⟩) 4 4) [0, 2, 97, 98] from rd_bytes (by simp) [0, 2, 97, 98] (by decide)
  have r4 := r3.alloc (.cells #[.int .u8 0, .int .u8 2, .int .u8 97, .int .u8 98] 5)
  have hB5 := hB4.alloc hB4.size (.cells #[.int .u8 0, .int .u8 2, .int .u8 97, .int .u8 98] 5)
  go_wp2_with fail
  refine (same_yes _ _ _ _ r2 q1).mono ?_
  rintro e w3 ⟨rfl, rfl⟩
  go_wp2_with fail
  refine (same_yes _ _ _ _ r4 q2).mono ?_
  rintro e w3 ⟨rfl, rfl⟩
  go_wp2_with fail
  go_ret
  exact ⟨by simp, hB5⟩

end Go.Proofs.Ythmdbkefbbjfmaa
